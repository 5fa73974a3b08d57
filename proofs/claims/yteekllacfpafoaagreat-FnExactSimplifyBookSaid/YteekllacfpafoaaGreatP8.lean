/- Texts Cor44 .. Cor79: the abstract machine, its laws and contracts of functions: lemmas for the statement. No condition. -/
import Derived.Test.YteekllacfpafoaaGreatP7
set_option linter.unusedSimpArgs false
set_option linter.unusedVariables false
namespace Go.Ab
open Go
set_option maxRecDepth 10000
set_option maxHeartbeats 2000000
theorem qiS {h:List qC} {id n:Nat} {xs:List Int} {a b:Int} {K:AV→List qC→Prop} (hid:id<h.length) (hn:xs.length=n) (hl:n≤4194304) (hab:0≤a∧a<b∧b≤n)
    (hK:∀(ys:List Int) (r:Bool),ys.Perm xs→K (.bool r) (RW h id ys)):SCall Gm 1344 [.slice 1 id 0 n false,.int .i64 a,.int .i64 b] (RW h id xs) K:=by
  refine SCall.run [] [] qc4 (by kernel_rfl) rfl ?_;simp only [Xc,qL,go_sem];simp (config:={maxSteps:=2000000}) (disch:=omega) only [go_sem,qQ,qT,qU,Int.reduceEq];refine j9 (fun q:Int×Int×List Int=>0≤q.1∧q.1≤5∧a+1≤q.2.1∧q.2.1≤b∧q.2.2.Perm xs) (fun q=>(⟨[(0,.slice 1 id 0 n false),(1,.int .i64 a),(2,.int .i64 b),(7,.int .i64 q.2.1),(8,.int .i64 q.1)],[],RW h id q.2.2⟩:VSt)) (fun q=>(5-q.1).toNat) (0,a+1,xs)
    (fun ys:List Int=>ys.Perm xs) (fun ys=>(⟨[],[],RW h id ys⟩:VSt)) (by kernel_rfl) ⟨(by first | omega | (simp only;omega)),(by first | omega | (simp only;omega)),(by first | omega | (simp only;omega)),(by first | omega | (simp only;omega)),.refl _⟩ (Can.sub (by simp [go_sem]) (by simp [go_sem])) ?_ ?_
  · rintro ⟨r,i,ys⟩ ⟨h1,h2,h3,h4,h5⟩;simp only at h1 h2 h3 h4 h5⊢;have hyl:=h5.length_eq;simp only [go_sem];refine qD ?_ ?_<;>intro hc<;>simp only [hc,go_sem]
    · have hr5:=odT hc;refine j9 (fun i':Int=>a+1≤i'∧i'≤b) (fun i'=>(⟨[(0,.slice 1 id 0 n false),(1,.int .i64 a),(2,.int .i64 b),(7,.int .i64 i'),(8,.int .i64 r)],[],RW h id ys⟩:VSt)) (fun i'=>(b-i').toNat) i
        (fun i':Int=>a+1≤i'∧i'≤b) (fun i'=>(⟨[(0,.slice 1 id 0 n false),(1,.int .i64 a),(2,.int .i64 b),(7,.int .i64 i'),(8,.int .i64 r)],[],RW h id ys⟩:VSt)) (by kernel_rfl) ⟨(by first | omega | (simp only;omega)),(by first | omega | (simp only;omega))⟩ (Can.sub (by simp [go_sem]) (by simp [go_sem])) ?_ ?_
      · rintro i' ⟨k1,k2⟩;simp only [go_sem];refine qY ?_ ?_<;>intro hc<;>simp only [hc,go_sem]
        · have hle:=odT hc;simp (config:={maxSteps:=2000000}) (disch:=omega) only [go_sem,qQ,qT,qU,Int.reduceEq];refine qH (jd _ _) ?_;simp only [go_sem];refine qD ?_ ?_<;>intro hc<;>simp only [hc,go_sem]
          · simp (config:={maxSteps:=2000000}) (disch:=omega) only [go_sem,qQ,qT,qU,Int.reduceEq];exact jO (i'+1) ⟨(by first | omega | (simp only;omega)),(by first | omega | (simp only;omega))⟩ (by first | omega | (simp only;omega)) (Can.sub (by simp [go_sem]) (by simp [go_sem]))
          · exact zx i' ⟨by omega,by omega⟩ (Can.sub (by simp [go_sem]) (by simp [go_sem]))
        · exact zx i' ⟨by omega,by omega⟩ (Can.sub (by simp [go_sem]) (by simp [go_sem]))
      rintro i' ⟨k1,k2⟩;simp only [go_sem];refine qD ?_ ?_<;>intro hc<;>simp only [hc,go_sem]
      · exact hK _ _ h5
      have hib:=odF hc;simp (config:={maxSteps:=2000000}) (disch:=omega) only [go_sem,qQ,qT,qU,Int.reduceEq];refine qD ?_ ?_<;>intro hc<;>simp only [hc,go_sem]
      · exact hK _ _ h5
      have hib50:=odF hc;simp (config:={maxSteps:=2000000}) (disch:=omega) only [go_sem,qQ,qT,qU,Int.reduceEq];refine zI hid (by omega) (by omega) ?_;simp (config:={maxSteps:=2000000}) (disch:=omega) only [go_sem,qQ,qT,qU,Int.reduceEq];refine zI hid (by omega) (by rw [List.length_set];omega) ?_;simp (maxSteps:=2000000) (disch:=omega) only [go_sem,qQ,qT,qU,Int.reduceEq];have hp2:(swI ys i' (i'-1)).Perm xs:=(jZ (by omega) (by omega) (by omega) (by omega)).trans h5;refine qD ?_ ?_<;>intro hc<;>simp only [hc,go_sem]
      · simp (config:={maxSteps:=2000000}) (disch:=omega) only [go_sem,qQ,qT,qU,Int.reduceEq];have hib2:=odT hc;refine j9 (fun q:Int×List Int=>0≤q.1∧q.1≤i'-1∧q.2.Perm xs) (fun q=>(⟨[(0,.slice 1 id 0 n false),(1,.int .i64 a),(2,.int .i64 b),(7,.int .i64 i'),(8,.int .i64 r),(9,.int .i64 q.1)],[],RW h id q.2⟩:VSt)) (fun q=>q.1.toNat) (i'-1,swI ys i' (i'-1))
          (fun zs:List Int=>zs.Perm xs) (fun zs=>(⟨[(0,.slice 1 id 0 n false),(1,.int .i64 a),(2,.int .i64 b),(7,.int .i64 i'),(8,.int .i64 r)],[],RW h id zs⟩:VSt)) (by kernel_rfl) ⟨(by first | omega | (simp only;omega)),(by first | omega | (simp only;omega)),hp2⟩ (Can.sub (by simp [go_sem]) (by simp [go_sem])) ?_ ?_
        · rintro ⟨j,zs⟩ ⟨m1,m2,m3⟩;simp only at m1 m2 m3⊢;have hzl:=m3.length_eq;simp only [go_sem];refine qD ?_ ?_<;>intro hc<;>simp only [hc,go_sem]
          · have hj1:=odT hc;simp (config:={maxSteps:=2000000}) (disch:=omega) only [go_sem,qQ,qT,qU,Int.reduceEq];refine qH (jd _ _) ?_;simp only [go_sem];refine qD ?_ ?_<;>intro hc<;>simp only [hc,go_sem]
            · exact zx zs m3 (Can.sub (by simp [go_sem]) (by simp [go_sem]))
            · simp (config:={maxSteps:=2000000}) (disch:=omega) only [go_sem,qQ,qT,qU,Int.reduceEq];refine zI hid (by omega) (by omega) ?_;simp (config:={maxSteps:=2000000}) (disch:=omega) only [go_sem,qQ,qT,qU,Int.reduceEq];refine zI hid (by omega) (by rw [List.length_set];omega) ?_;simp (maxSteps:=2000000) (disch:=omega) only [go_sem,qQ,qT,qU,Int.reduceEq];exact jO (j-1,swI zs j (j-1)) ⟨(by first | omega | (simp only;omega)),(by first | omega | (simp only;omega)),(jZ (by omega) (by omega) (by omega) (by omega)).trans m3⟩ (by first | omega | (simp only;omega)) (Can.sub (by simp [go_sem]) (by simp [go_sem]))
          · exact zx zs m3 (Can.sub (by simp [go_sem]) (by simp [go_sem]))
        · intro zs hz;have hzl:=hz.length_eq;simp (config:={maxSteps:=2000000}) (disch:=omega) only [go_sem,qQ,qT,qU,Int.reduceEq];refine qD ?_ ?_<;>intro hc<;>simp only [hc,go_sem]
          · simp (config:={maxSteps:=2000000}) (disch:=omega) only [go_sem,qQ,qT,qU,Int.reduceEq];have hib3:=odT hc;refine Sem.loop (fun q:Int×List Int=>i'+1≤q.1∧q.1≤b∧q.2.Perm xs) (fun q=>(⟨[(0,.slice 1 id 0 n false),(1,.int .i64 a),(2,.int .i64 b),(7,.int .i64 i'),(8,.int .i64 r),(10,.int .i64 q.1)],[],RW h id q.2⟩:VSt)) (fun q=>(b-q.1).toNat) (i'+1,zs) (by kernel_rfl) ⟨(by first | omega | (simp only;omega)),(by first | omega | (simp only;omega)),hz⟩ (Can.sub (by simp [go_sem]) (by simp [go_sem])) ?_;rintro ⟨j,us⟩ ⟨m1,m2,m3⟩;simp only at m1 m2 m3⊢;have hul:=m3.length_eq;simp only [go_sem];refine qD ?_ ?_<;>intro hc<;>simp only [hc,go_sem]
            · have hj1:=odT hc;simp (config:={maxSteps:=2000000}) (disch:=omega) only [go_sem,qQ,qT,qU,Int.reduceEq];refine qH (jd _ _) ?_;simp only [go_sem];refine qD ?_ ?_<;>intro hc<;>simp only [hc,go_sem]
              · simp (config:={maxSteps:=2000000}) (disch:=omega) only [go_sem,qQ,qT,qU,Int.reduceEq];exact jO (r+1,i',us) ⟨(by first | omega | (simp only;omega)),(by first | omega | (simp only;omega)),(by first | omega | (simp only;omega)),(by first | omega | (simp only;omega)),m3⟩ (by first | omega | (simp only;omega)) (Can.sub (by simp [go_sem]) (by simp [go_sem]))
              · simp (config:={maxSteps:=2000000}) (disch:=omega) only [go_sem,qQ,qT,qU,Int.reduceEq];refine zI hid (by omega) (by omega) ?_;simp (config:={maxSteps:=2000000}) (disch:=omega) only [go_sem,qQ,qT,qU,Int.reduceEq];refine zI hid (by omega) (by rw [List.length_set];omega) ?_;simp (maxSteps:=2000000) (disch:=omega) only [go_sem,qQ,qT,qU,Int.reduceEq];exact qZ (j+1,swI us j (j-1)) ⟨(by first | omega | (simp only;omega)),(by first | omega | (simp only;omega)),(jZ (by omega) (by omega) (by omega) (by omega)).trans m3⟩ (by first | omega | (simp only;omega)) (Can.sub (by simp [go_sem]) (by simp [go_sem]))
            · simp (config:={maxSteps:=2000000}) (disch:=omega) only [go_sem,qQ,qT,qU,Int.reduceEq];exact jO (r+1,i',us) ⟨(by first | omega | (simp only;omega)),(by first | omega | (simp only;omega)),(by first | omega | (simp only;omega)),(by first | omega | (simp only;omega)),m3⟩ (by first | omega | (simp only;omega)) (Can.sub (by simp [go_sem]) (by simp [go_sem]))
          · simp (config:={maxSteps:=2000000}) (disch:=omega) only [go_sem,qQ,qT,qU,Int.reduceEq];exact jO (r+1,i',zs) ⟨(by first | omega | (simp only;omega)),(by first | omega | (simp only;omega)),(by first | omega | (simp only;omega)),(by first | omega | (simp only;omega)),hz⟩ (by first | omega | (simp only;omega)) (Can.sub (by simp [go_sem]) (by simp [go_sem]))
      · simp (config:={maxSteps:=2000000}) (disch:=omega) only [go_sem,qQ,qT,qU,Int.reduceEq];refine qD ?_ ?_<;>intro hc<;>simp only [hc,go_sem]
        · simp (config:={maxSteps:=2000000}) (disch:=omega) only [go_sem,qQ,qT,qU,Int.reduceEq];have hib3:=odT hc;refine Sem.loop (fun q:Int×List Int=>i'+1≤q.1∧q.1≤b∧q.2.Perm xs) (fun q=>(⟨[(0,.slice 1 id 0 n false),(1,.int .i64 a),(2,.int .i64 b),(7,.int .i64 i'),(8,.int .i64 r),(10,.int .i64 q.1)],[],RW h id q.2⟩:VSt)) (fun q=>(b-q.1).toNat) (i'+1,swI ys i' (i'-1)) (by kernel_rfl) ⟨(by first | omega | (simp only;omega)),(by first | omega | (simp only;omega)),hp2⟩ (Can.sub (by simp [go_sem]) (by simp [go_sem])) ?_;rintro ⟨j,us⟩ ⟨m1,m2,m3⟩;simp only at m1 m2 m3⊢;have hul:=m3.length_eq;simp only [go_sem];refine qD ?_ ?_<;>intro hc<;>simp only [hc,go_sem]
          · have hj1:=odT hc;simp (config:={maxSteps:=2000000}) (disch:=omega) only [go_sem,qQ,qT,qU,Int.reduceEq];refine qH (jd _ _) ?_;simp only [go_sem];refine qD ?_ ?_<;>intro hc<;>simp only [hc,go_sem]
            · simp (config:={maxSteps:=2000000}) (disch:=omega) only [go_sem,qQ,qT,qU,Int.reduceEq];exact jO (r+1,i',us) ⟨(by first | omega | (simp only;omega)),(by first | omega | (simp only;omega)),(by first | omega | (simp only;omega)),(by first | omega | (simp only;omega)),m3⟩ (by first | omega | (simp only;omega)) (Can.sub (by simp [go_sem]) (by simp [go_sem]))
            · simp (config:={maxSteps:=2000000}) (disch:=omega) only [go_sem,qQ,qT,qU,Int.reduceEq];refine zI hid (by omega) (by omega) ?_;simp (config:={maxSteps:=2000000}) (disch:=omega) only [go_sem,qQ,qT,qU,Int.reduceEq];refine zI hid (by omega) (by rw [List.length_set];omega) ?_;simp (maxSteps:=2000000) (disch:=omega) only [go_sem,qQ,qT,qU,Int.reduceEq];exact qZ (j+1,swI us j (j-1)) ⟨(by first | omega | (simp only;omega)),(by first | omega | (simp only;omega)),(jZ (by omega) (by omega) (by omega) (by omega)).trans m3⟩ (by first | omega | (simp only;omega)) (Can.sub (by simp [go_sem]) (by simp [go_sem]))
          · simp (config:={maxSteps:=2000000}) (disch:=omega) only [go_sem,qQ,qT,qU,Int.reduceEq];exact jO (r+1,i',us) ⟨(by first | omega | (simp only;omega)),(by first | omega | (simp only;omega)),(by first | omega | (simp only;omega)),(by first | omega | (simp only;omega)),m3⟩ (by first | omega | (simp only;omega)) (Can.sub (by simp [go_sem]) (by simp [go_sem]))
        · simp (config:={maxSteps:=2000000}) (disch:=omega) only [go_sem,qQ,qT,qU,Int.reduceEq];exact jO (r+1,i',swI ys i' (i'-1)) ⟨(by first | omega | (simp only;omega)),(by first | omega | (simp only;omega)),(by first | omega | (simp only;omega)),(by first | omega | (simp only;omega)),hp2⟩ (by first | omega | (simp only;omega)) (Can.sub (by simp [go_sem]) (by simp [go_sem]))
    · exact zx ys h5 (Can.sub (by simp [go_sem]) (by simp [go_sem]))
  · intro ys hy;simp only [go_sem];exact hK _ _ hy
end Go.Ab
namespace Go.Ab
open Go
set_option maxRecDepth 10000
set_option maxHeartbeats 2000000
def PS (id n:Nat) (s:qg) (a b lim:Int) (wb wp:Bool):Prop:=get s 0=some (.slice 1 id 0 n false)∧get s 1=some (.int .i64 a)∧get s 2=some (.int .i64 b)∧get s 3=some (.int .i64 lim)∧get s 8=some (.bool wb)∧get s 9=some (.bool wp)
def PQ (h:List qC) (id n:Nat) (xs:List Int) (a b:Int) (Q:qb→VSt→Prop):Prop:=∀(s:qg) (a' b' lim:Int) (wb wp:Bool) (ys:List Int) (ex:List qC),PS id n s a' b' lim wb wp→a≤a'→a'≤b'→b'≤b→b'-a'<b-a→ys.Perm xs→Q .nrm ⟨s,[],RW (h++ex) id ys⟩
def PR (h:List qC) (id n:Nat) (a b:Int):Prop:=∀(ex:List qC) (ys:List Int) (a' b' lim:Int) (K:AV→List qC→Prop),ys.length=n→0≤a'→a'≤b'→b'≤n→b'-a'<b-a→
  (∀(zs:List Int) (ex':List qC),zs.Perm ys→K (.tup []) (RW (h++(ex++ex')) id zs))→SCall Gm 1053 [.slice 1 id 0 n false,.int .i64 a',.int .i64 b',.int .i64 lim] (RW (h++ex) id ys) K
section
variable {bb id n:Nat} {h ex:List qC} {xs ys:List Int} {s:qg} {a b lim:Int} {wb wp:Bool} {Q:qb→VSt→Prop}
theorem PR.mono {a' b':Int} (hr:PR h id n a b) (hl:b'-a'≤b-a):PR h id n a' b':=fun ex ys a2 b2 lim K h1 h2 h3 h4 h5 h6=>hr ex ys a2 b2 lim K h1 h2 h3 h4 (by omega) h6
theorem pd18 {m:Int} (hp:PS id n s a b lim wb wp) (h10:get s 10=some (.int .i64 (b-a))) (h14:get s 14=some (.int .i64 m)) (hl:n≤4194304) (hab:0≤a∧a≤m∧m<b∧b≤n) (hy:ys.Perm xs) (hyl:ys.length=n)
    (hr:PR h id n a b) (hq:PQ h id n xs a b Q):R ⟨Gm,bb,[],[]⟩ [.code Qf,.blk 1] ⟨s,[],RW (h++ex) id ys⟩ Q:=by
  obtain ⟨p0,p1,p2,p3,p8,p9⟩:=hp;simp (disch:=omega) only [go_sem,qQ,Int.reduceEq,p0,p1,p2,p3,p8,p9,h10,h14];have ht:(b-a).tdiv 8=(b-a)/8:=Int.tdiv_eq_ediv_of_nonneg (by omega);simp (disch:=omega) only [ht,go_sem,qQ,Int.reduceEq,p0,p1,p2,p3,p8,p9,h10,h14];refine qD ?_ ?_<;>intro hc<;>simp only [hc,go_sem]
  · simp (disch:=omega) only [go_sem,qQ,Int.reduceEq,p0,p1,p2,p3,p8,p9,h10,h14];refine zK (hr ex ys a m lim _ hyl (by omega) (by omega) (by omega) (by omega) fun zs ex' hz=> ?_);simp (disch:=omega) only [go_sem,qQ,Int.reduceEq,p0,p1,p2,p3,p8,p9,h10,h14];exact hq _ (m+1) b lim (decide ((b-a)/8≤m-a)) wp zs _ (by simp [PS,go_sem,p0,p1,p2,p3,p8,p9]) (by omega) (by omega) (by omega) (by omega) (hz.trans hy)
  · simp (disch:=omega) only [go_sem,qQ,Int.reduceEq,p0,p1,p2,p3,p8,p9,h10,h14];refine zK (hr ex ys (m+1) b lim _ hyl (by omega) (by omega) (by omega) (by omega) fun zs ex' hz=> ?_);simp (disch:=omega) only [go_sem,qQ,Int.reduceEq,p0,p1,p2,p3,p8,p9,h10,h14];exact hq _ a m lim (decide ((b-a)/8≤b-m)) wp zs _ (by simp [PS,go_sem,p0,p1,p2,p3,p8,p9]) (by omega) (by omega) (by omega) (by omega) (hz.trans hy)
theorem pd19 {p:Int} (hid:id<h.length) (hp:PS id n s a b lim wb wp) (h10:get s 10=some (.int .i64 (b-a))) (h11:get s 11=some (.int .i64 p)) (hl:n≤4194304) (hab:0≤a∧a≤p∧p<b∧b≤n) (hy:ys.Perm xs) (hyl:ys.length=n)
    (hr:PR h id n a b) (hq:PQ h id n xs a b Q):R ⟨Gm,bb,[],[]⟩ [.code Qg,.blk 1] ⟨s,[],RW (h++ex) id ys⟩ Q:=by
  obtain ⟨p0,p1,p2,p3,p8,p9⟩:=hp;have hid':id<(h++ex).length:=by rw [lAp];omega
  have h18:∀(s':qg) (m:Int) (r:Bool) (zs:List Int),PS id n s' a b lim wb r→get s' 10=some (.int .i64 (b-a))→get s' 14=some (.int .i64 m)→a≤m→m<b→zs.Perm ys→R ⟨Gm,bb,[],[]⟩ [.code Qf,.blk 1] ⟨s',[],RW (h++ex) id zs⟩ Q:=
    fun s' m r zs k1 k2 k3 k4 k5 k6=>pd18 k1 k2 k3 hl (by omega) (k6.trans hy) (by rw [k6.length_eq,hyl]) hr hq
  rw [qYC];revert h18;generalize Qf=k18;intro h18;have fin:∀s',get s' 0=some (.slice 1 id 0 n false)→get s' 1=some (.int .i64 a)→get s' 2=some (.int .i64 b)→get s' 3=some (.int .i64 lim)→get s' 8=some (.bool wb)→get s' 10=some (.int .i64 (b-a))→get s' 11=some (.int .i64 p)→
      R ⟨Gm,bb,[],[]⟩ (.ops Zj::.code (.seq (.reg true [.mk 0 (some 102) none (.mov (.t 15)) [],.mk 1 (some 9) none (.mov (.t 102)) []]) k18)::[.blk 1]) ⟨s',[],RW (h++ex) id ys⟩ Q:=by
    intro s' q0 q1 q2 q3 q8 q10 q11;rw [qYE];simp (disch:=omega) only [go_sem,q0,q1,q2,q11];refine zK (qiU (xs:=ys) hid' hyl hl (by omega) fun zs m r hz m1 m2=> ?_);simp (disch:=omega) only [go_sem];exact h18 _ m r zs (by simp [PS,go_sem,q0,q1,q2,q3,q8]) (by simp [go_sem,q10]) (by simp [go_sem]) m1 m2 hz
  revert fin;generalize h11r:Zj=r11;intro fin;simp (disch:=omega) only [go_sem,qQ,Int.reduceEq,p0,p1,p2,p3,p8,p9,h10,h11];refine qY ?_ ?_<;>intro hc<;>simp only [hc,go_sem]
  · have ha:=odT hc;simp (disch:=omega) only [go_sem,qQ,qT,qU,p0,p1,p2,p3,p8,p9,h10,h11];refine qH (jd _ _) ?_;simp only [go_sem];refine qD ?_ ?_<;>intro hc<;>simp only [hc,go_sem]
    · simp (disch:=omega) only [go_sem,p0,p1,p2,p3,p8,p9,h10,h11];refine zK (qiT (xs:=ys) hid' hyl hl (by omega) fun zs m hz m1 m2=> ?_);simp only [go_sem];exact hq _ m b lim wb wp zs _ (by simp [PS,go_sem,p0,p1,p2,p3,p8,p9]) (by omega) (by omega) (by omega) (by omega) (hz.trans hy)
    · refine fin _ ?_ ?_ ?_ ?_ ?_ ?_ ?_<;>simp [go_sem,p0,p1,p2,p3,p8,h10,h11]
  · refine fin _ ?_ ?_ ?_ ?_ ?_ ?_ ?_<;>simp [go_sem,p0,p1,p2,p3,p8,h10,h11]
theorem pd20 {p t:Int} (hid:id<h.length) (hp:PS id n s a b lim wb wp) (h10:get s 10=some (.int .i64 (b-a))) (h11:get s 11=some (.int .i64 p)) (h12:get s 12=some (.int .i64 t)) (hl:n≤4194304) (hab:0≤a∧a≤p∧p<b∧b≤n) (hy:ys.Perm xs) (hyl:ys.length=n)
    (hr:PR h id n a b) (hq:PQ h id n xs a b Q) (hret:∀(s':qg) (zs:List Int) (ex':List qC),zs.Perm xs→Q .ret ⟨s',[],RW (h++ex') id zs⟩):R ⟨Gm,bb,[],[]⟩ [.code QA,.blk 1] ⟨s,[],RW (h++ex) id ys⟩ Q:=by
  obtain ⟨p0,p1,p2,p3,p8,p9⟩:=hp;have hid':id<(h++ex).length:=by rw [lAp];omega
  have h19:∀(s':qg) (q:Int) (zs:List Int),PS id n s' a b lim wb wp→get s' 10=some (.int .i64 (b-a))→get s' 11=some (.int .i64 q)→a≤q→q<b→zs.Perm xs→R ⟨Gm,bb,[],[]⟩ [.code Qg,.blk 1] ⟨s',[],RW (h++ex) id zs⟩ Q:=
    fun s' q zs k1 k2 k3 k4 k5 k6=>pd19 hid k1 k2 k3 hl (by omega) k6 (by rw [k6.length_eq,←hy.length_eq,hyl]) hr hq
  rw [qYD];revert h19;generalize Qg=k19;intro h19;have fin:∀s' q t' zs,zs.Perm xs→get s' 0=some (.slice 1 id 0 n false)→get s' 1=some (.int .i64 a)→get s' 2=some (.int .i64 b)→get s' 3=some (.int .i64 lim)→get s' 8=some (.bool wb)→get s' 9=some (.bool wp)→get s' 10=some (.int .i64 (b-a))→get s' 11=some (.int .i64 q)→get s' 12=some (.int .i64 t')→a≤q→q<b→
      R ⟨Gm,bb,[],[]⟩ (.ops Zl::.code (.cond (.t 68) (.seq (.reg true W4) (.cond (.t 72) (.ret) (.skip))) (.skip))::.code k19::[.blk 1]) ⟨s',[],RW (h++ex) id zs⟩ Q:=by
    intro s' q t' zs hz q0 q1 q2 q3 q8 q9 q10 q11 q12 q13 q14;have hzl:zs.length=n:=by rw [hz.length_eq,←hy.length_eq,hyl]
    have go:∀s2:qg,(∀k,k≤12→get s2 k=get s' k)→R ⟨Gm,bb,[],[]⟩ [.code k19,.blk 1] ⟨s2,[],RW (h++ex) id zs⟩ Q:=fun s2 hs=>h19 _ q zs (by simp [PS,hs,q0,q1,q2,q3,q8,q9]) (by rw [hs _ (by omega),q10]) (by rw [hs _ (by omega),q11]) q13 q14 hz;have gk:∀(s2:qg) (j:Nat) (v:AV),12<j→(∀k,k≤12→get s2 k=get s' k)→∀k,k≤12→get ((j,v)::s2) k=get s' k:=fun s2 j v hj hs k hk=>by
      simp only [get];rw [if_neg (by omega)];exact hs k hk
    rw [qYG];simp (disch:=omega) only [go_sem,q0,q1,q2,q8,q9,q11,q12];have g0:∀k,k≤12→get s' k=get s' k:=fun _ _=>rfl;cases wb
    · simp (disch:=omega) only [go_sem,q0,q1,q2,q8,q9,q11,q12];refine go _ ?_
      repeat' (first | exact g0 | refine gk _ _ _ (by omega) ?_)
    · cases wp
      · simp (disch:=omega) only [go_sem,q0,q1,q2,q8,q9,q11,q12];refine go _ ?_
        repeat' (first | exact g0 | refine gk _ _ _ (by omega) ?_)
      · simp (disch:=omega) only [go_sem,q0,q1,q2,q8,q9,q11,q12];refine qD ?_ ?_<;>intro hc<;>simp only [hc,go_sem]
        · simp (disch:=omega) only [go_sem,q0,q1,q2,q8,q9,q11,q12];refine zK (qiS (xs:=zs) hid' hzl hl (by omega) fun us r hu=> ?_);simp only [go_sem];refine qD ?_ ?_<;>intro hc<;>simp only [hc,go_sem]
          · exact hret _ _ _ (hu.trans hz)
          · refine h19 _ q us ?_ ?_ ?_ q13 q14 (hu.trans hz)
            · simp [PS,go_sem,q0,q1,q2,q3,q8,q9]
            · simp [go_sem,q10]
            · simp [go_sem,q11]
        · refine go _ ?_
          repeat' (first | exact g0 | refine gk _ _ _ (by omega) ?_)
  revert fin;generalize Zl=r7;intro fin;simp (disch:=omega) only [go_sem,qQ,Int.reduceEq,p0,p1,p2,p3,p8,p9,h10,h11,h12];refine qD ?_ ?_<;>intro hc<;>simp only [hc,go_sem]
  · simp (disch:=omega) only [go_sem,p0,p1,p2,p3,p8,p9,h10,h11,h12];refine zK (qiR (xs:=ys) hid' hyl hl (by omega) fun zs hz=> ?_);simp (disch:=omega) only [go_sem,qQ,p0,p1,p2,p3,p8,p9,h10,h11,h12];refine fin _ (b-1-(p-a)) 1 zs (hz.trans hy) ?_ ?_ ?_ ?_ ?_ ?_ ?_ ?_ ?_ (by omega) (by omega)<;>simp [go_sem,p0,p1,p2,p3,p8,p9,h10,h11,h12]
  · refine fin _ p t ys hy ?_ ?_ ?_ ?_ ?_ ?_ ?_ ?_ ?_ (by omega) (by omega)<;>simp [go_sem,p0,p1,p2,p3,p8,p9,h10,h11,h12]
end
end Go.Ab
namespace Go.Ab
open Go
set_option maxRecDepth 10000
set_option maxHeartbeats 2000000
theorem qiM (N:Nat):∀{h:List qC} {id n:Nat} {xs:List Int} {a b lim:Int} {K:AV→List qC→Prop},id<h.length→xs.length=n→n≤4194304→0≤a→a≤b→b≤n→(b-a).toNat=N→
    (∀(ys:List Int) (ex:List qC),ys.Perm xs→K (.tup []) (RW (h++ex) id ys))→SCall Gm 1053 [.slice 1 id 0 n false,.int .i64 a,.int .i64 b,.int .i64 lim] (RW h id xs) K:=by
  induction N using Nat.strongRecOn with
  | _ N ih=>
  intro h id n xs a b lim K hid hn hl ha hab hb hN hK;have hr:PR h id n a b:=fun ex ys a' b' lim' K' h1 h2 h3 h4 h5 h6=>
    ih (b'-a').toNat (by omega) (by rw [lAp];omega) h1 hl h2 h3 h4 rfl fun zs ex' hz=>by rw [List.append_assoc];exact h6 zs ex' hz
  refine SCall.run [] [] qb6 (by kernel_rfl) rfl ?_;simp only [W3,qL,go_sem];refine Sem.loop (fun q:Int×Int×Int×Bool×Bool×List Int×List qC=>a≤q.1∧q.1≤q.2.1∧q.2.1≤b∧q.2.2.2.2.2.1.Perm xs)
    (fun q=>(⟨[(0,.slice 1 id 0 n false),(1,.int .i64 q.1),(2,.int .i64 q.2.1),(3,.int .i64 q.2.2.1),(8,.bool q.2.2.2.1),(9,.bool q.2.2.2.2.1)],[],RW (h++q.2.2.2.2.2.2) id q.2.2.2.2.2.1⟩:VSt)) (fun q=>(q.2.1-q.1).toNat) (a,b,lim,true,true,xs,[]) (by kernel_rfl) ⟨(by first | omega | (simp only;omega)),(by first | omega | (simp only;omega)),(by first | omega | (simp only;omega)),.refl _⟩ (by simp only [List.append_nil];exact Can.sub (by simp [go_sem]) (by simp [go_sem])) ?_
  rintro ⟨a',b',lim',wb,wp,ys,ex⟩ ⟨h1,h2,h3,h4⟩;simp only at h1 h2 h3 h4⊢;have hyl:ys.length=n:=by rw [h4.length_eq,hn]
  have hid':id<(h++ex).length:=by rw [lAp];omega
  have hr':PR h id n a' b':=hr.mono (by omega);generalize hQ:Jq _ _ _ _ _ _ _=Q;have hq:PQ h id n xs a' b' Q:=by
    intro s a2 b2 lim2 wb2 wp2 zs ex2 hp g1 g2 g3 g4 g5;subst hQ;obtain ⟨p0,p1,p2,p3,p8,p9⟩:=hp;exact qZ (a2,b2,lim2,wb2,wp2,zs,ex2) ⟨by first | omega | (simp only;omega),by first | omega | (simp only;omega),by first | omega | (simp only;omega),g5⟩ (by first | omega | (simp only;omega)) (Can.sub (by simp [go_sem,p0,p1,p2,p3,p8,p9]) (by simp [go_sem]))
  have hret:∀(s':qg) (zs:List Int) (ex':List qC),zs.Perm xs→Q .ret ⟨s',[],RW (h++ex') id zs⟩:=by
    intro s' zs ex' hz;subst hQ;simp only [go_sem];exact hK _ _ hz
  clear hQ;have h20:∀(s':qg) (p t l2:Int) (zs:List Int) (ex':List qC),PS id n s' a' b' l2 wb wp→get s' 10=some (.int .i64 (b'-a'))→get s' 11=some (.int .i64 p)→get s' 12=some (.int .i64 t)→a'≤p→p<b'→zs.Perm xs→
      R ⟨Gm,(RW h id xs).length,[],[]⟩ [.code QA,.blk 1] ⟨s',[],RW (h++ex') id zs⟩ Q:=
    fun s' p t l2 zs ex' k1 k2 k3 k4 k5 k6 k7=>pd20 hid k1 k2 k3 k4 hl (by omega) k7 (by rw [k7.length_eq,hn]) hr' hq hret
  simp (config:={maxSteps:=2000000}) (disch:=omega) only [go_sem,qQ,qT,qU,Int.reduceEq];refine qD ?_ ?_<;>intro hc<;>simp only [hc,go_sem]
  · refine zK (qiN (xs:=ys) hid' hyl hl (by omega) fun zs hz=> ?_);simp only [go_sem];exact hret _ _ _ (hz.trans h4)
  have h12:=odF hc;refine qD ?_ ?_<;>intro hc<;>simp only [hc,go_sem]
  · refine zK (qiO (xs:=ys) hid' hyl hl (by omega) fun zs hz=> ?_);simp only [go_sem];exact hret _ _ _ (hz.trans h4)
  have call:∀(s':qg) (l2:Int) (zs:List Int) (ex':List qC),PS id n s' a' b' l2 wb wp→get s' 10=some (.int .i64 (b'-a'))→zs.Perm xs→
      R ⟨Gm,(RW h id xs).length,[],[]⟩ [.ops Zk,.code QA,.blk 1] ⟨s',[],RW (h++ex') id zs⟩ Q:=by
    intro s' l2 zs ex' ⟨p0,p1,p2,p3,p8,p9⟩ k2 k3;have hid2:id<(h++ex').length:=by rw [lAp];omega
    rw [qYF];revert h20;generalize QA=k20;intro h20;simp (disch:=omega) only [go_sem,p0,p1,p2,p3,p8,p9];refine zK (qiQ (xs:=zs) hid2 (by rw [k3.length_eq,hn]) hl (by omega) fun p t y hp=> ?_);simp only [go_sem];rw [List.append_assoc];refine h20 _ p t l2 zs _ ?_ ?_ ?_ ?_ hp.1 hp.2 k3<;>simp [PS,go_sem,p0,p1,p2,p3,p8,p9,k2]
  revert call;generalize Zk=r4;intro call;cases wb
  · simp only [go_sem];refine zK (qiP (xs:=ys) hid' hyl hl (by omega) fun zs y hz=> ?_);simp only [go_sem];rw [List.append_assoc];refine call _ (IntKind.i64.wrap (lim'-1)) zs _ ?_ ?_ (hz.trans h4)<;>simp [PS,go_sem]
  · simp only [go_sem];refine call _ lim' ys _ ?_ ?_ h4<;>simp [PS,go_sem]
theorem s678 {h:List qC} {id n:Nat} {xs:List Int} {K:AV→List qC→Prop} (ho:h[id]?=some (.row 1 (xs.map qE) true)) (hn:xs.length=n) (hl:n≤4194304)
    (hK:∀(ys:List Int) (ex:List qC),ys.Perm xs→K (.tup []) (h.set id (.row 1 (ys.map qE) true)++ex)):SCall Gm 678 [.slice 1 id 0 n false] h K:=by
  have hid:id<h.length:=(List.getElem?_eq_some_iff.1 ho).1;refine SCall.run [] [] g678 (by kernel_rfl) rfl ?_;simp only [YU,qL,go_sem];simp (disch:=omega) only [Zg,go_sem];refine qH (qS2 (by omega)) ?_;simp only [go_sem];rw [←qPJ ho];refine zK (qiM _ hid hn hl (by omega) (by omega) (by omega) rfl fun ys ex hy=> ?_);simp only [go_sem];rw [←Qk hid];exact hK ys ex hy
end Go.Ab
namespace Go.Ab
open Go
set_option maxRecDepth 10000
set_option maxHeartbeats 2000000
attribute [local simp] qr qa zW
def qA.nm:qA→List Int:=qA.fold fun x rs=>(if x.Kind=11 then [x.Value] else [])++(x.Data++rs.flatten)
theorem qA.nm_eq (x:qA):x.nm=(if x.Kind=11 then [x.Value] else [])++(x.Data++(x.Kids.map qA.nm).flatten):=by
  unfold qA.nm;rw [qA.fold_eq]
theorem qA.nm_len:∀x:qA,x.nm.length≤x.sz+1:=qA.ind fun x ih=>by
  rw [x.nm_eq,x.sz_eq];have h:∀ks:List qA,(∀y∈ks,y.nm.length≤y.sz+1)→(ks.map qA.nm).flatten.length≤ks.length+qG qA.sz ks:=by
    intro ks
    induction ks with
    | nil=>intro _;simp
    | cons a ks ih=>intro h;simp only [List.map_cons,List.flatten_cons,lAp,List.length_cons,qG];have:=h a (by simp);have:=ih (fun y hy=>h y (by simp [hy]));omega
  have:=h _ ih;simp only [lAp];split<;>simp only [List.length_cons,List.length_nil]<;>omega
theorem qWH:∀(ds out:List Int) (k:Int),k∈ds.foldl zN out↔k∈out∨k∈ds
  |[],out,k=>by simp
  | d::ds,out,k=>by
    rw [List.foldl_cons,qWH ds,qRH,List.mem_cons];constructor
    · rintro ((h | h) | h)<;>simp_all
    · rintro (h | h | h)<;>simp_all
theorem qA.names_mem:∀(x:qA) (out:List Int) (k:Int),k∈x.names out↔k∈out∨k∈x.nm:=qA.ind fun x ih out k=>by
  have h:∀ks:List qA,(∀y∈ks,∀(o:List Int) (k:Int),k∈y.names o↔k∈o∨k∈y.nm)→∀o:List Int,k∈ks.foldl (fun o y=>y.names o) o↔k∈o∨k∈(ks.map qA.nm).flatten:=by
    intro ks
    induction ks with
    | nil=>intro _ o;simp
    | cons a ks ih=>
      intro h o;rw [List.foldl_cons,ih (fun y hy=>h y (by simp [hy])),h a (by simp),List.map_cons,List.flatten_cons,List.mem_append];constructor
      · rintro ((h | h) | h)<;>simp_all
      · rintro (h | h | h)<;>simp_all
  rw [x.names_eq,x.nm_eq,h _ ih,qWH,List.mem_append,List.mem_append];by_cases h11:x.Kind=11
  · rw [if_pos h11,if_pos h11,qRH,List.mem_singleton];constructor
    · rintro (((h | h) | h) | h)<;>simp_all
    · rintro (h | h | h | h)<;>simp_all
  · rw [if_neg h11,if_neg h11];constructor
    · rintro ((h | h) | h)<;>simp_all
    · rintro (h | h | h | h)<;>simp_all
theorem qgN {x:qA} {i:Nat} (h:i<x.Kids.length):((x.Kids.take (i+1)).map qA.nm).flatten=((x.Kids.take i).map qA.nm).flatten++x.Kids[i].nm:=by
  rw [List.take_succ_eq_append_getElem h,List.map_append,List.flatten_append];simp
theorem qgM (x:qA) (i:Nat):(x.Data++((x.Kids.take i).map qA.nm).flatten).length≤x.sz+1:=by
  have h:∀(ks:List qA) (i:Nat),((ks.take i).map qA.nm).flatten.length≤ks.length+qG qA.sz ks:=by
    intro ks
    induction ks with
    | nil=>intro i;simp
    | cons a ks ih=>
      intro i;cases i with
      | zero=>simp
      | succ i=>simp only [List.take_succ_cons,List.map_cons,List.flatten_cons,lAp,List.length_cons,qG];have:=a.nm_len;have:=ih i;omega
  have:=h x.Kids i;rw [lAp,x.sz_eq];omega
theorem qYN (x:qA):∀(xs:List Int) (_:x.sz≤1048576) (_:xs.length+x.sz≤2097152),Acc Gm 1041 [x.enc] 1 (xs.map qE) ((xs++x.nm).map qE):=by
  induction x using qA.ind with
  | _ x ih=>
  intro xs hz hx h id K ho hK;have hL:=x.len_sz;have hid:id<h.length:=(List.getElem?_eq_some_iff.1 ho).1;refine SCall.run [] [] qb2 (by kernel_rfl) rfl ?_;simp only [List.cons_append,List.nil_append,Wz,qL,go_sem];refine qc qA.ln ?_;simp only [go_sem];obtain ⟨pre,hpre⟩:∃p:List Int,p=if x.Kind=11 then [x.Value] else []:=⟨_,rfl⟩;have hpl:pre.length≤1:=by rw [hpre];split<;>simp
  rw [x.nm_eq,←hpre] at hK;have rest:∀(h1:List qC) (id1:Nat),zJ h id 1 ((xs++pre).map qE) h1 id1→zJ h id 1 ((xs++pre++x.Data).map qE) (h1.set id1 .dead++[.row 1 ((xs++pre).map qE++x.Data.map qE) true]) h1.length:=by
    intro h1 id1 hG;have:=hG.trans (zJ.app (zs:=(xs++pre).map qE++x.Data.map qE) hG.at');rw [List.map_append (l₁:=xs++pre)];exact this
  have body:∀(i:Nat) (hlt:i<x.Kids.length) (h':List qC) (id':Nat),zJ h id 1 ((xs++pre++x.Data++((x.Kids.take i).map qA.nm).flatten).map qE) h' id'→Acc Gm 1041 [x.Kids[i].enc] 1 ((xs++pre++x.Data++((x.Kids.take i).map qA.nm).flatten).map qE) ((xs++pre++x.Data++((x.Kids.take (i+1)).map qA.nm).flatten).map qE):=by
    intro i hlt h' id' _;have hm:=gMm hlt;have hk:=qA.kid_sz hm;have hl:=qgM x i;rw [qgN hlt,←List.append_assoc];refine ih _ hm _ (by omega) ?_;have h2:∀(ks:List qA) (i:Nat) (h:i<ks.length),((ks.take i).map qA.nm).flatten.length+ks[i].sz+1≤ks.length+qG qA.sz ks:=by
      intro ks
      induction ks with
      | nil=>intro i h;simp at h
      | cons a ks ih=>
        intro i h;cases i with
        | zero=>simp [qG];omega
        | succ i=>
          simp only [List.take_succ_cons,List.map_cons,List.flatten_cons,lAp,List.length_cons,qG,List.getElem_cons_succ];have:=a.nm_len;have:=ih i (by simpa using h);omega
    have:=h2 x.Kids i hlt;have h3:=x.sz_eq;simp only [lAp] at hl⊢;omega
  refine qD ?_ ?_<;>intro hc<;>simp only [hc,go_sem]
  · have h11:=odT hc;rw [if_pos h11] at hpre;refine jM (el:=xs.map qE) ja (by rw [List.getElem?_append_left hid];exact ho) (by simp) (by omega) ?_;have hG:zJ h id 1 ((xs++pre).map qE) ((h++[qC.row 1 [AV.int .i64 x.Value] true]).set id .dead++[.row 1 (xs.map qE++[AV.int .i64 x.Value]) true]) (h++[qC.row 1 [AV.int .i64 x.Value] true]).length:=by
      have:=zJ.ofApp (X:=[.row 1 [.int .i64 x.Value] true]) (zJ.app (zs:=xs.map qE++[AV.int .i64 x.Value]) (by rw [List.getElem?_append_left hid];exact ho)) hid;rw [hpre];simpa [qE] using this
    generalize hh:((h++[qC.row 1 [AV.int .i64 x.Value] true]).set id .dead++[qC.row 1 (xs.map qE++[AV.int .i64 x.Value]) true])=h1 at hG⊢;generalize hi:(h++[qC.row 1 [AV.int .i64 x.Value] true]).length=id1 at hG⊢;simp only [go_sem];refine qPP (el:=(xs++pre).map qE) Els.lst hG.at' (by simp [hpre]) (by simp;omega) ?_;replace hG:=rest _ _ hG;generalize hh2:(h1.set id1 .dead++[qC.row 1 ((xs++pre).map qE++x.Data.map qE) true])=h2 at hG⊢;simp only [go_sem];refine Sem.loop (fun a:Nat×List qC×Nat=>a.1≤x.Kids.length∧zJ h id 1 ((xs++pre++x.Data++((x.Kids.take a.1).map qA.nm).flatten).map qE) a.2.1 a.2.2)
      (fun a=>(⟨[(1,.slice 1 a.2.2 0 (xs++pre++x.Data++((x.Kids.take a.1).map qA.nm).flatten).length false),(20,.lst 4 (x.Kids.map qA.enc) false),(21,.int .i64 (x.Kids.length:Nat)),(22,.int .i64 (a.1:Nat))],[(2,x.enc)],a.2.1⟩:VSt)) (fun a=>x.Kids.length-a.1) (0,h2,h1.length) (by kernel_rfl) ⟨Nat.zero_le _,by simpa using hG⟩
      (Can.sub (by simp [go_sem,hpre];omega) (by simp [go_sem])) ?_
    rintro ⟨i,h',id'⟩ ⟨hi',hG'⟩;simp only at hi' hG';simp only [go_sem];refine qD ?_ ?_<;>intro hc<;>simp only [hc,go_sem]
    · have hlt:i<x.Kids.length:=by have:=odT hc;omega
      simp only [List.getElem?_map,gEg hlt,Option.map_some,go_sem];refine qK (k:=4) (by rfl) (by simp [go_sem]) (qA.isAgg _) (by decide) ?_;simp only [go_sem];refine Z3 (body i hlt h' id' hG') hG'.at' (List.length_map _) rfl ?_;intro h3 id3 hG3;simp only [go_sem];simp only [qe (show i<4611686018427387904 by omega)];exact qZ (i+1,h3,id3) ⟨by omega,hG'.trans hG3⟩ (by simp only;omega) (Can.sub (by simp [go_sem,-List.length_flatten,-List.length_append,-List.map_append]) (by simp [go_sem]))
    · have e:i=x.Kids.length:=by have:=odF hc;omega
      subst e;rw [List.take_length] at hG'⊢;have e2:xs++pre++x.Data++(x.Kids.map qA.nm).flatten=xs++(pre++(x.Data++(x.Kids.map qA.nm).flatten)):=by simp
      rw [e2] at hG'⊢;have:=hK _ _ hG';simpa only [List.length_map] using this
  · have h11:=odF hc;rw [if_neg h11] at hpre;subst hpre;refine qPP (el:=(xs++[]).map qE) Els.lst (by rw [List.append_nil];exact ho) (by simp) (by simp;omega) ?_;have hG:=rest h id (by rw [List.append_nil];exact zJ.refl ho);generalize hh2:(h.set id .dead++[qC.row 1 ((xs++[]).map qE++x.Data.map qE) true])=h2 at hG⊢;simp only [go_sem];refine Sem.loop (fun a:Nat×List qC×Nat=>a.1≤x.Kids.length∧zJ h id 1 ((xs++[]++x.Data++((x.Kids.take a.1).map qA.nm).flatten).map qE) a.2.1 a.2.2)
      (fun a=>(⟨[(1,.slice 1 a.2.2 0 (xs++[]++x.Data++((x.Kids.take a.1).map qA.nm).flatten).length false),(20,.lst 4 (x.Kids.map qA.enc) false),(21,.int .i64 (x.Kids.length:Nat)),(22,.int .i64 (a.1:Nat))],[(2,x.enc)],a.2.1⟩:VSt)) (fun a=>x.Kids.length-a.1) (0,h2,h.length) (by kernel_rfl) ⟨Nat.zero_le _,by simpa using hG⟩
      (Can.sub (by simp [go_sem]) (by simp [go_sem])) ?_
    rintro ⟨i,h',id'⟩ ⟨hi',hG'⟩;simp only at hi' hG';simp only [go_sem];refine qD ?_ ?_<;>intro hc<;>simp only [hc,go_sem]
    · have hlt:i<x.Kids.length:=by have:=odT hc;omega
      simp only [List.getElem?_map,gEg hlt,Option.map_some,go_sem];refine qK (k:=4) (by rfl) (by simp [go_sem]) (qA.isAgg _) (by decide) ?_;simp only [go_sem];refine Z3 (body i hlt h' id' hG') hG'.at' (List.length_map _) rfl ?_;intro h3 id3 hG3;simp only [go_sem];simp only [qe (show i<4611686018427387904 by omega)];exact qZ (i+1,h3,id3) ⟨by omega,hG'.trans hG3⟩ (by simp only;omega) (Can.sub (by simp [go_sem,-List.length_flatten,-List.length_append,-List.map_append]) (by simp [go_sem]))
    · have e:i=x.Kids.length:=by have:=odF hc;omega
      subst e;rw [List.take_length] at hG'⊢;have e2:xs++[]++x.Data++(x.Kids.map qA.nm).flatten=xs++([]++(x.Data++(x.Kids.map qA.nm).flatten)):=by simp
      rw [e2] at hG'⊢;have:=hK _ _ hG';simpa only [List.length_map] using this
end Go.Ab
namespace Go.Ab
open Go
set_option maxRecDepth 10000
set_option maxHeartbeats 2000000
attribute [local simp] qr qa zW
theorem qP3:∀(xs:List Int) (s:List Int×Option Int),(∀y,s.2=some y→y∈s.1)→(∀k,k∈(xs.foldl za s).1↔k∈s.1∨k∈xs)∧(xs.foldl za s).1.length≤s.1.length+xs.length
  |[],s,_=>by simp
  | x::xs,s,h=>by
    rw [List.foldl_cons];have hx:x∈(za s x).1:=by
      unfold za;by_cases e:s.2=some x
      · simp only [if_pos e];exact h x e
      · simp only [if_neg e];simp
    have ih:=qP3 xs (za s x) (fun y hy=>by
      have:y=x:=by simpa [za] using hy.symm
      subst this;exact hx)
    have hm:∀k,k∈(za s x).1↔k∈s.1∨k=x:=by
      intro k;unfold za;by_cases e:s.2=some x
      · simp only [if_pos e];constructor
        · exact .inl
        · rintro (q | rfl)
          · exact q
          · exact h _ e
      · simp only [if_neg e];simp
    have hl:(za s x).1.length≤s.1.length+1:=by
      unfold za;by_cases e:s.2=some x
      · simp only [if_pos e];omega
      · simp only [if_neg e];simp
    refine ⟨fun k=> ?_,by rw [List.length_cons];omega⟩;rw [ih.1,hm,List.mem_cons,or_assoc]
theorem qTJ (xs:List Int) (k:Int):k∈comp xs↔k∈xs:=by
  have:=(qP3 xs ([],none) (fun y hy=>by cases hy)).1 k;simpa [comp] using this
theorem qTI (xs:List Int):(comp xs).length≤xs.length:=by
  have:=(qP3 xs ([],none) (fun y hy=>by cases hy)).2;simpa [comp] using this
def SetV (P:Int→Prop) (n:Nat) (v:AV):Prop:=∃ys:List Int,v=.lst 1 (ys.map qE) false∧(∀k,k∈ys↔P k)∧ys.length≤n
theorem SetV.tree {P:Int→Prop} {n:Nat}:∀v,SetV P n v→v.tree=true:=by
  rintro v ⟨ys,rfl,_⟩;simp [AV.tree]
theorem r664 {b:qF} {n:Nat} (hbz:b.sz≤1048576) (hn:n<b.Defs.length):PureR Gm 664 [b.enc,.int .i64 (n:Int)] (SetV (fun k=>k∈b.Defs[n].nm) 1048577):=by
  refine PureR.intro [] [] g664 (by kernel_rfl) rfl (by simp [AV.trees,AV.tree,go_sem]) SetV.tree ?_;simp only [YS,qL,go_sem];have hz':b.Defs.length+qG qA.sz b.Defs≤1048576:=hbz;have hs:=zV (f:=qA.sz) (gMm hn);have hl:=qA.nm_len b.Defs[n];refine qc rfl ?_;simp only [go_sem];simp only [List.getElem?_map,gEg hn,Option.map_some,go_sem];refine JM (as:=[b.Defs[n].enc]) (qYN b.Defs[n] [] (by omega) (by simp;omega)) rfl ?_;intro h' id' hG;simp only [List.nil_append] at hG;simp only [go_sem];refine zK (s678 hG.at' rfl (by simp;omega) fun ys ex hy=> ?_);simp only [go_sem];have hid:id'<h'.length:=hG.lt;have ho:(h'.set id' (qC.row 1 (ys.map qE) true)++ex)[id']?=some (.row 1 (ys.map qE) true):=by
    rw [List.getElem?_append_left (by simpa using hid)];simp [hid]
  rw [show (([]:List Int)++b.Defs[n].nm).length=ys.length by rw [hy.length_eq];rfl];refine zK (qRS ho (by rw [hy.length_eq];omega) ?_);simp only [go_sem];have hid2:id'<(h'.set id' (qC.row 1 (ys.map qE) true)++ex).length:=by simp;omega
  refine qT0 (v:=.lst 1 ((comp ys).map qE) false) ⟨comp ys,rfl,fun k=>by rw [qTJ,hy.mem_iff],by have:=qTI ys;rw [hy.length_eq] at this;omega⟩ ?_;exact Cv.row (by rw [List.getElem?_set_self hid2]) (by simp) (qa _) (by decide)
theorem qX4 {b:qF} {a k:Int}:Ed (zD b) a k↔∃x,b.Defs[a.toNat]?=some x∧k∈x.nm:=by
  unfold Ed zD;rw [List.getD_eq_getElem?_getD,List.getElem?_map];cases h:b.Defs[a.toNat]? with
  | none=>simp
  | some x=>simp [qA.names_mem]
structure jm (U:List (List Int)) (d:Int) (i:Nat) (seen:List Int):Prop where
  nd:seen.Nodup
  rng:∀s∈seen,0≤s∧s<U.length
  rch:∀s∈seen,s=d∨Relation.TransGen (Ed U) d s
  beg:d∈seen
  cls:∀j,j<i→∀s,seen[j]?=some s→∀k,Ed U s k→k∈seen
theorem jm.len {U:List (List Int)} {d:Int} {i:Nat} {seen:List Int} (h:jm U d i seen):seen.length≤U.length:=V8 _ _ h.nd h.rng
theorem jm.start {U:List (List Int)} {d:Int} (hd:0≤d∧d<U.length):jm U d 0 [d]:=
  ⟨by simp,fun s hs=>by rw [List.mem_singleton] at hs;subst hs;exact hd,fun s hs=>.inl (by simpa using hs),by simp,fun j hj=>by omega⟩
theorem jm.done {U:List (List Int)} {d:Int} {seen:List Int} (h:jm U d seen.length seen) (k:Int):k∈seen↔k=d∨Relation.TransGen (Ed U) d k:=by
  constructor
  · exact h.rch k
  · have cl:∀{a c:Int},a∈seen→Ed U a c→c∈seen:=fun {a c} ha hc=>by
      obtain ⟨j,hj,e⟩:=List.getElem_of_mem ha;exact h.cls j hj _ (by rw [gEg hj,e]) _ hc
    rintro (rfl | hr)
    · exact h.beg
    · induction hr with
      | single h1=>exact cl h.beg h1
      | tail _ h2 ih=>exact cl ih h2
theorem jm.next {U:List (List Int)} {d:Int} {i:Nat} {seen':List Int} {e:Int} (h:jm U d i seen') (hp:seen'[i]?=some e) (he:∀k,Ed U e k→k∈seen'):jm U d (i+1) seen':=
  ⟨h.nd,h.rng,h.rch,h.beg,fun j hj s hs k hk=>by
    rcases Nat.lt_succ_iff_lt_or_eq.1 hj with hj | rfl
    · exact h.cls j hj s hs k hk
    · rw [hp] at hs;cases hs;exact he k hk⟩
theorem jm.push {U:List (List Int)} (hU:Zu U) {d:Int} {i:Nat} {seen:List Int} {e k:Int} (h:jm U d i seen) (hi:i≤seen.length) (he:e∈seen) (hk:Ed U e k) (hn:k∉seen):jm U d i (seen++[k]) where
  nd:=by
    rw [List.nodup_append];refine ⟨h.nd,by simp, ?_⟩;intro a ha b hb;simp at hb;rintro rfl;subst hb;exact hn ha
  rng:=by
    intro s hs;rcases List.mem_append.1 hs with hs | hs
    · exact h.rng s hs
    · rw [List.mem_singleton] at hs;subst hs;unfold Ed at hk;rw [List.getD_eq_getElem?_getD] at hk;cases q:U[e.toNat]? with
      | none=>rw [q] at hk;simp at hk
      | some ys=>rw [q] at hk;exact hU ys (List.mem_of_getElem? q) _ hk
  rch:=by
    intro s hs;rcases List.mem_append.1 hs with hs | hs
    · exact h.rch s hs
    · rw [List.mem_singleton] at hs;subst hs;rcases h.rch e he with rfl | hr
      · exact .inr (.single hk)
      · exact .inr (hr.tail hk)
  beg:=by simp [h.beg]
  cls:=fun j hj s hs k' hk'=>by
    rw [List.getElem?_append_left (by omega)] at hs;exact List.mem_append_left _ (h.cls j hj s hs k' hk')
theorem qg7 {h:List qC} {id p:Nat} {xs:List Int} (ho:h[id]?=some (.row 1 (xs.map qE) true)) (hp:p<xs.length):wC none 0 p h[id]?=some (.int .i64 xs[p]):=qRC ho hp
theorem qhN {b:qF} {d:Int} (hb:b.ok=true) (hbz:b.sz≤1048576) (hd:0≤d∧d<(b.Defs.length:Nat)):PureR Gm 1039 [b.enc,.lst 1 ([d].map qE) false] (SetV (fun k=>k=d∨Relation.TransGen (Ed (zD b)) d k) 24):=by
  refine PureR.intro [] [] qb0 (by kernel_rfl) rfl (by simp [AV.trees,AV.tree,qE,go_sem]) SetV.tree ?_;simp only [Wx,qL,go_sem];have hz':b.Defs.length+qG qA.sz b.Defs≤1048576:=hbz;have hU:=qR4 hb;have hul:(zD b).length=b.Defs.length:=by simp [zD]
  have h24:=(QD hb).2;refine qc rfl ?_;simp only [go_sem];refine wg (n401 [d] (by simp)) ?_;simp only [qQT,qQU,List.nil_append,List.length_nil,go_sem];refine j9 (fun a:Nat×List Int×List qC×Nat=>a.1≤a.2.1.length∧jm (zD b) d a.1 a.2.1∧a.2.2.1[a.2.2.2]?=some (.row 1 (a.2.1.map qE) true)) (fun a=>(⟨[(5,.slice 1 a.2.2.2 0 a.2.1.length false),(6,.int .i64 (a.1:Nat))],[(2,b.enc)],a.2.2.1⟩:VSt)) (fun a=>b.Defs.length-a.1) (0,[d],[.row 1 ([d].map qE) true],0)
    (fun a:List Int×List qC×Nat=>jm (zD b) d a.1.length a.1∧a.2.1[a.2.2]?=some (.row 1 (a.1.map qE) true)) (fun a=>(⟨[(5,.slice 1 a.2.2 0 a.1.length false)],[],a.2.1⟩:VSt)) (by kernel_rfl) ⟨Nat.zero_le _,jm.start (by omega),rfl⟩ (Can.sub (by simp [go_sem]) (by simp [go_sem])) ?_ ?_
  · rintro ⟨i,sn,h',id'⟩ ⟨hi,hS,ho⟩;simp only at hi hS ho⊢;have hsl:=hS.len;simp only [go_sem];refine qD ?_ ?_<;>intro hc<;>simp only [hc,go_sem]
    · have hlt:i<sn.length:=by have:=odT hc;omega
      have hrg:=hS.rng _ (gMm hlt);obtain ⟨e,he⟩:∃e:Nat,sn[i]=(e:Int):=⟨sn[i].toNat,by omega⟩;have hel:e<b.Defs.length:=by omega
      rw [z5 hlt];simp only [Nat.zero_add,go_sem];rw [qg7 ho hlt,he];simp only [go_sem];refine qS9 (r664 hbz hel) ?_;rintro v ⟨us,rfl,hus,hul2⟩;simp only [go_sem];have hEd:∀k,Ed (zD b) (e:Int) k↔k∈us:=fun k=>by
        rw [qX4,Int.toNat_natCast,gEg hel,hus];simp
      refine Sem.loop (fun a:Nat×List Int×List qC×Nat=>a.1≤us.length∧i<a.2.1.length∧a.2.1[i]?=some (e:Int)∧jm (zD b) d i a.2.1∧(∀k∈us.take a.1,k∈a.2.1)∧a.2.2.1[a.2.2.2]?=some (.row 1 (a.2.1.map qE) true))
        (fun a=>(⟨[(5,.slice 1 a.2.2.2 0 a.2.1.length false),(6,.int .i64 (i:Nat)),(22,.lst 1 (us.map qE) false),(23,.int .i64 (us.length:Nat)),(24,.int .i64 (a.1:Nat))],[(2,b.enc)],a.2.2.1⟩:VSt)) (fun a=>us.length-a.1) (0,sn,h',id') (by kernel_rfl) ⟨Nat.zero_le _,hlt,by simp only;rw [gEg hlt,he],hS,by simp,ho⟩ (Can.sub (by simp [go_sem]) (by simp [go_sem])) ?_
      rintro ⟨j,sn2,h2,id2⟩ ⟨hj,hi2,hse,hS2,htk,ho2⟩;simp only at hj hi2 hse hS2 htk ho2⊢;have hsl2:=hS2.len;simp only [go_sem];refine qD ?_ ?_<;>intro hc<;>simp only [hc,go_sem]
      · have hjl:j<us.length:=by have:=odT hc;omega
        simp only [List.getElem?_map,gEg hjl,Option.map_some,qE,go_sem];refine z4 (vs':=[.lst 1 (sn2.map qE) false,.int .i64 us[j]]) (Cvs.cons (Cv.row ho2 (by simp) (qa _) (by decide)) (Cvs.cons (.refl rfl) Cvs.nil)) (c647 (by omega)) rfl ?_;simp only [go_sem];have htk2:∀zs:List Int,(∀y∈sn2,y∈zs)→us[j]∈zs→∀k∈us.take (j+1),k∈zs:=by
          intro zs h1 h2 k hk;rw [List.take_succ_eq_append_getElem hjl,List.mem_append,List.mem_singleton] at hk;rcases hk with hk | rfl
          · exact h1 _ (htk _ hk)
          · exact h2
        refine qD ?_ ?_<;>intro hc<;>simp only [hc,go_sem]
        · have hnm:us[j]∉sn2:=by
            intro hm;simp only [Bool.not_eq_true',List.any_eq_false] at hc;exact hc _ hm (by simp)
          refine jM (el:=sn2.map qE) ja (by rw [List.getElem?_append_left (List.getElem?_eq_some_iff.1 ho2).1];exact ho2) (by simp) (by omega) ?_;simp only [go_sem];simp only [qe (show j<4611686018427387904 by omega)];refine qZ (j+1,sn2++[us[j]],_,(h2++[qC.row 1 [AV.int .i64 us[j]] true]).length) ⟨by simp only;omega,by simp;omega,by simp only;rw [List.getElem?_append_left hi2];exact hse,hS2.push hU (by omega) (List.mem_of_getElem? hse) ((hEd _).2 (gMm hjl)) hnm,htk2 _ (fun y hy=>by simp [hy]) (by simp), ?_⟩ (by simp only;omega) (Can.sub (by simp [go_sem]) (by simp [go_sem]));simp only [];rw [List.getElem?_append_right (by simp)];simp [qE]
        · have hmm:us[j]∈sn2:=by
            simp only [Bool.not_eq_false',List.any_eq_true,decide_eq_true_eq] at hc;obtain ⟨y,hy,e⟩:=hc;rw [e];exact hy
          simp only [qe (show j<4611686018427387904 by omega)];exact qZ (j+1,sn2,h2,id2) ⟨by simp only;omega,hi2,hse,hS2,htk2 _ (fun y hy=>hy) hmm,ho2⟩ (by simp only;omega) (Can.sub (by simp [go_sem]) (by simp [go_sem]))
      · have hje:j=us.length:=by have:=odF hc;omega
        subst hje;rw [List.take_length] at htk;simp only [qe (show i<4611686018427387904 by omega)];exact jO (i+1,sn2,h2,id2) ⟨by simp only;omega,hS2.next hse fun k hk=>htk _ ((hEd k).1 hk),ho2⟩ (by simp only;omega) (Can.sub (by simp [go_sem]) (by simp [go_sem]))
    · have e:i=sn.length:=by have:=odF hc;omega
      subst e;exact zx (sn,h',id') ⟨hS,ho⟩ (Can.sub (by simp [go_sem]) (by simp [go_sem]))
  · rintro ⟨sn,h',id'⟩ ⟨hS,ho⟩;simp only at hS ho⊢;have hsl:=hS.len;simp only [go_sem];refine zK (s678 ho rfl (by omega) fun ys ex hy=> ?_);simp only [go_sem];have hid:id'<h'.length:=(List.getElem?_eq_some_iff.1 ho).1;have ho2:(h'.set id' (qC.row 1 (ys.map qE) true)++ex)[id']?=some (.row 1 (ys.map qE) true):=by
      rw [List.getElem?_append_left (by simpa using hid)];simp [hid]
    rw [←hy.length_eq];refine zK (qRS ho2 (by rw [hy.length_eq];omega) ?_);simp only [go_sem];have hid2:id'<(h'.set id' (qC.row 1 (ys.map qE) true)++ex).length:=by simp;omega
    refine qT0 (v:=.lst 1 ((comp ys).map qE) false) ⟨comp ys,rfl,fun k=>by rw [qTJ,hy.mem_iff,hS.done],by have:=qTI ys;rw [hy.length_eq] at this;omega⟩ ?_;exact Cv.row (by rw [List.getElem?_set_self hid2]) (by simp) (qa _) (by decide)
theorem qZC {b:qF} {n:Nat} {d:Int} (hbz:b.sz≤1048576) (hn:n<b.Defs.length):Pure Gm 1040 [.int .i64 (n:Int),.ept b.enc 0,.ept (.int .i64 d) 0] (.bool (decide (d∈b.Defs[n].nm))):=by
  refine Pure.intro [] [] qb1 (by kernel_rfl) rfl (by simp [AV.trees,AV.tree,go_sem]) rfl ?_;simp only [Wy,qL,go_sem];refine qS9 (r664 hbz hn) ?_;rintro v ⟨us,rfl,hus,hul2⟩;simp only [go_sem];refine qH (c647 (by omega)) ?_;simp only [go_sem];refine qM rfl ?_;rw [AV.bool.injEq,Bool.eq_iff_iff];simp [←hus d]
theorem qhY {b:qF} {d:Int} {ys:List Int} (hy:∀k,k∈ys↔k=d∨Relation.TransGen (Ed (zD b)) d k):(ys.any fun e=>decide (d∈(b.Defs.getD e.toNat qV).nm))=wj (zD b) d:=by
  unfold wj;have hz:qV.nm=[]:=by rw [qA.nm_eq];rfl
  have hE:∀e,Ed (zD b) e d↔d∈(b.Defs.getD e.toNat qV).nm:=fun e=>by
    rw [qX4,List.getD_eq_getElem?_getD];cases h:b.Defs[e.toNat]? with
    | none=>simp [hz]
    | some x=>simp
  rw [Bool.eq_iff_iff];simp only [List.any_eq_true,decide_eq_true_eq];constructor
  · rintro ⟨e,he,hd⟩;rcases (hy e).1 he with rfl | hr
    · exact .single ((hE _).2 hd)
    · exact hr.tail ((hE _).2 hd)
  · intro hr;cases hr with
    | single h1=>exact ⟨d,(hy d).2 (.inl rfl),(hE _).1 h1⟩
    | tail h1 h2=>exact ⟨_,(hy _).2 (.inr h1),(hE _).1 h2⟩
theorem qgO {b:qF} (hb:b.ok=true) {d k:Int} (h:k=d∨Relation.TransGen (Ed (zD b)) d k) (hd:0≤d∧d<(b.Defs.length:Nat)):0≤k∧k<(b.Defs.length:Nat):=by
  have hul:(zD b).length=b.Defs.length:=by simp [zD]
  rcases h with rfl | hr
  · exact hd
  · have:∀{a c:Int},Ed (zD b) a c→0≤c∧c<(b.Defs.length:Nat):=fun {a c} h=>by
      unfold Ed at h;rw [List.getD_eq_getElem?_getD] at h;cases q:(zD b)[a.toNat]? with
      | none=>rw [q] at h;simp at h
      | some ys=>rw [q] at h;have:=qR4 hb ys (List.mem_of_getElem? q) _ h;omega
    cases hr with
    | single h1=>exact this h1
    | tail _ h2=>exact this h2
theorem c663 {b:qF} {d:Int} (hb:b.ok=true) (hbz:b.sz≤1048576) (hd:0≤d∧d<(b.Defs.length:Nat)):Pure Gm 663 [b.enc,.int .i64 d] (.bool (wj (zD b) d)):=by
  refine Pure.intro [2,3] [] g663 (by kernel_rfl) rfl (by simp [AV.trees,AV.tree,go_sem]) rfl ?_;simp only [YR,qL,go_sem];refine wL rfl ?_;simp only [go_sem];refine wL rfl ?_;simp only [go_sem];simp only [go_sem,List.nil_append,List.cons_append,List.set_cons_zero,List.set_cons_succ];refine qaB [2] (vs':=[b.enc,.lst 1 ([d].map qE) false]) (Cvs.cons (.refl (by simp [go_sem])) (Cvs.cons (Cv.row rfl rfl rfl (by decide)) Cvs.nil)) (qhN hb hbz hd) ?_;rintro v ⟨ys,rfl,hys,hyl⟩;simp only [go_sem];refine qH (Z2 (f:=.fn 1040 [.ept b.enc 0,.ept (.int .i64 d) 0]) (fun e=>decide (d∈(b.Defs.getD e.toNat qV).nm)) (by simp [AV.tree,AV.trees,go_sem]) ys ?_ (by omega)) ?_
  · intro e he;have hr:=qgO hb ((hys e).1 he) hd;obtain ⟨n,rfl⟩:=Int.eq_ofNat_of_zero_le hr.1;have hn:n<b.Defs.length:=by omega
    refine ⟨1040,_,rfl, ?_⟩;have:=qZC (d:=d) hbz hn;rw [List.getD_eq_getElem?_getD,Int.toNat_natCast,gEg hn];exact this
  · simp only [go_sem];exact qM rfl (by rw [qhY hys])
end Go.Ab
namespace Go.Ab
open Go
set_option maxRecDepth 10000
set_option maxHeartbeats 2000000
attribute [local simp] qr qa zW
def JU (b:qF) (lim:Int) (i:Nat):Prop:=(b.Defs.getD i qV).Kind=4∧((b.Defs.getD i qV).size:Int)≤lim∧wj (zD b) i=false
open Classical in
noncomputable def qy (b:qF) (lim:Int) (n:Nat):List Bool:=(List.range n).map fun i=>decide (JU b lim i)
theorem qQQ {b:qF} {lim:Int} {n:Nat}:(qy b lim n).length=n:=by simp [qy]
theorem qdV {b:qF} {lim:Int} {n:Nat} {v:Bool} (h:v=true↔JU b lim n):qy b lim (n+1)=qy b lim n++[v]:=by
  classical
  unfold qy;rw [List.range_succ,List.map_append,List.map_cons,List.map_nil];congr 2;rw [Bool.eq_iff_iff,h];simp
def InlH (b:qF) (lim:Int) (i:Nat) (X:AV) (h:List qC):Prop:=
  h[0]?=some (.row 3 [.agg [.lst 4 (b.Defs.map qA.enc) false,.int .i64 lim,X]] true)∧
    ((i=0∧X=.nils)∨∃id,id≠0∧X=.slice 1 id 0 i false∧h[id]?=some (.row 1 ((qy b lim i).map w6) true))
section
variable {E:Ev} {l:List qB} {ks:List Fr1} {s m:qg} {h:List qC} {Q:qb→VSt→Prop} {b:qF} {lim:Int} {i k:Nat} {X:AV} {v:Bool}
theorem qdW (hH:InlH b lim i X h) (hi:i≤24) (hv:v=true↔JU b lim i) (hr:∀id h2,id≠0→h2[0]?=h[0]?→h2[id]?=some (.row 1 ((qy b lim (i+1)).map w6) true)→R E (.ops l::ks) ⟨(k,.slice 1 id 0 (i+1) false)::s,m,h2⟩ Q):
    wc E 1 (some k) (some X) (some (.slice 1 h.length 0 1 false)) l ks ⟨s,m,h++[.row 1 [.bool v] true]⟩ Q:=by
  obtain ⟨h0,hX⟩:=hH;have hl:0<h.length:=(List.getElem?_eq_some_iff.1 h0).1;have hs:=qdV hv;rcases hX with ⟨rfl,rfl⟩ | ⟨id,hid,rfl,ho⟩
  · refine qSK (ys:=[.bool v]) (Els.row ja rfl) (by simp) ?_;refine hr _ _ (by simp) ?_ ?_
    · rw [List.getElem?_append_left (by simp),List.getElem?_append_left hl]
    · rw [ja,hs];rfl
  · have hil:id<h.length:=(List.getElem?_eq_some_iff.1 ho).1;refine jM (el:=(qy b lim i).map w6) ja (by rw [List.getElem?_append_left hil];exact ho) (by simp [qQQ]) (by omega) ?_;refine hr _ _ (by simp) ?_ ?_
    · rw [List.getElem?_append_left (by simp),List.getElem?_set_ne hid,List.getElem?_append_left hl]
    · rw [List.getElem?_append_right (by simp),hs];simp [w6]
end
theorem c849 {b:qF} {lim:Int} (hb:b.ok=true) (hbz:b.sz≤1048576):Pure Gm 849 [b.enc,.int .i64 lim] (.ept (j3 b lim (qy b lim b.Defs.length)) 0):=by
  refine Pure.intro [] [] g849 (by kernel_rfl) rfl (by simp [AV.trees,AV.tree,go_sem]) (by simp [AV.tree,AV.trees,go_sem]) ?_;simp only [Yl,qL,go_sem];have hz':b.Defs.length+qG qA.sz b.Defs≤1048576:=hbz;have h24:=QD hb;refine qc rfl ?_;simp only [go_sem];refine wL rfl ?_;simp only [go_sem];refine Sem.loop (fun a:Nat×AV×List qC=>a.1≤b.Defs.length∧InlH b lim a.1 a.2.1 a.2.2) (fun a=>(⟨[(1,.int .i64 lim),(5,.ptr 0 0 0),(15,.lst 4 (b.Defs.map qA.enc) false),(16,.int .i64 (b.Defs.length:Nat)),(17,.int .i64 (a.1:Nat))],[(2,b.enc)],a.2.2⟩:VSt)) (fun a=>b.Defs.length-a.1) (0,.nils,[.row 3 [.agg [.lst 4 (b.Defs.map qA.enc) false,.int .i64 lim,.nils]] true]) (by kernel_rfl) ⟨Nat.zero_le _,rfl,.inl ⟨rfl,rfl⟩⟩ (Can.sub (by simp [go_sem]) (by simp [go_sem])) ?_;rintro ⟨i,X,h⟩ ⟨hi,h0,hX⟩;simp only at hi h0 hX⊢;simp only [go_sem];refine qD ?_ ?_<;>intro hc<;>simp only [hc,go_sem]
  · have hlt:i<b.Defs.length:=by have:=odT hc;omega
    simp only [List.getElem?_map,gEg hlt,Option.map_some,go_sem];have hm:=gMm hlt;have hv:=Qw (Jj hb hm).1;have hs:=zV (f:=qA.sz) hm;refine qK (k:=4) (by rfl) (by simp [go_sem]) (qA.isAgg _) (by decide) ?_;simp only [go_sem];refine qH (c665 b.Defs[i] (by omega) (by omega) (by omega)) ?_;simp only [go_sem];simp only [h0,go_sem];have hg:b.Defs.getD i qV=b.Defs[i]:=by rw [List.getD_eq_getElem?_getD,gEg hlt];rfl
    have tail:∀(v:Bool) (s':qg) (m':qg) (Q':qb→VSt→Prop) (ks':List Fr1),(v=true↔JU b lim i)→get s' 27=some (.ptr 0 0 0)→
        (∀id h2 p,id≠0→h2[0]?=some (.row 3 [.agg [.lst 4 (b.Defs.map qA.enc) false,.int .i64 lim,.slice 1 id 0 (i+1) false]] true)→h2[id]?=some (.row 1 ((qy b lim (i+1)).map w6) true)→(∀k,k≤31→get p k=get s' k)→R ⟨Gm,0,[],[]⟩ ks' ⟨p,m',h2⟩ Q')→
        wc ⟨Gm,0,[],[]⟩ 1 (some 47) (some X) (some (AV.slice 1 h.length 0 1 false)) [qB.mk 21 (some 48) none (AOp.nilchk (Ao.t 27)) [],qB.mk 22 (some 49) none (AOp.faddr 2 (Ao.t 48)) [],
      qB.mk 23 none none (AOp.store 1 (Ao.t 49) (Ao.t 47)) []] ks' ⟨s',m',h++[qC.row 1 [AV.bool v] true]⟩ Q':=by
      intro v s' m' Q' ks' hv e27 hr;refine qdW ⟨h0,hX⟩ (by omega) hv ?_;intro id h2 hid e0 eid;simp only [go_sem,e27];refine z7 (by rfl) (e0.trans h0) (by rfl) (by rfl) ?_;rw [qhO];have hl:0<h2.length:=(List.getElem?_eq_some_iff.1 (e0.trans h0)).1;refine hr id _ _ hid ?_ ?_ ?_
      · rw [List.getElem?_set_self hl];rfl
      · rw [List.getElem?_set_ne (Ne.symm hid)];exact eid
      · intro k hk;simp only [get];rw [if_neg (by omega),if_neg (by omega),if_neg (by omega)]
    refine qY ?_ ?_<;>intro hc<;>simp only [hc,go_sem]
    · have h4:=odT hc;refine qY ?_ ?_<;>intro hc<;>simp only [hc,go_sem]
      · have hle:=odT hc;refine qH (c663 hb hbz (by omega)) ?_;simp only [go_sem];refine tail (!wj (zD b) i) _ _ _ _ ?_ ?_ ?_
        · unfold JU;rw [hg];simp [h4,hle]
        · simp [go_sem]
        · intro id h2 p hid g1 g2 gp;simp only [go_sem,gp 17 (by omega)];simp only [qe (show i<4611686018427387904 by omega)];exact qZ (i+1,.slice 1 id 0 (i+1) false,h2) ⟨by simp only;omega,g1,.inr ⟨id,hid,rfl,g2⟩⟩ (by simp only;omega) (Can.sub (by simp [go_sem,gp]) (by simp [go_sem]))
      · have hle:¬((b.Defs[i].size:Int)≤lim):=by simpa using hc
        refine tail false _ _ _ _ ?_ ?_ ?_
        · unfold JU;rw [hg];simp [hle]
        · simp [go_sem]
        · intro id h2 p hid g1 g2 gp;simp only [go_sem,gp 17 (by omega)];simp only [qe (show i<4611686018427387904 by omega)];exact qZ (i+1,.slice 1 id 0 (i+1) false,h2) ⟨by simp only;omega,g1,.inr ⟨id,hid,rfl,g2⟩⟩ (by simp only;omega) (Can.sub (by simp [go_sem,gp]) (by simp [go_sem]))
    · have h4:¬b.Defs[i].Kind=4:=by simpa using hc
      refine tail false _ _ _ _ ?_ ?_ ?_
      · unfold JU;rw [hg];simp [h4]
      · simp [go_sem]
      · intro id h2 p hid g1 g2 gp;simp only [go_sem,gp 17 (by omega)];simp only [qe (show i<4611686018427387904 by omega)];exact qZ (i+1,.slice 1 id 0 (i+1) false,h2) ⟨by simp only;omega,g1,.inr ⟨id,hid,rfl,g2⟩⟩ (by simp only;omega) (Can.sub (by simp [go_sem,gp]) (by simp [go_sem]))
  · obtain rfl:i=b.Defs.length:=by have:=odF hc;omega
    rcases hX with ⟨e,_⟩ | ⟨id,hid,rfl,ho⟩
    · omega
    refine zH ?_;refine .ptr h0 (by decide) rfl ?_;refine .agg rfl ?_;simp only [List.zip_cons_cons,List.zip_nil_left,List.mem_cons,List.not_mem_nil,or_false];rintro p (rfl | rfl | rfl)
    · exact .refl (by simp [AV.tree])
    · exact .refl rfl
    · exact Cv.row ho (by simp [qQQ]) (by simp) (by decide)
end Go.Ab
namespace Go.Ab
open Go
set_option maxRecDepth 10000
set_option maxHeartbeats 2000000
attribute [local simp] qr qa zW
noncomputable def J1 (b:qF) (c:qA) (lim budget:Int):AV:=if jF b c lim budget=0 then .ept (j3 b lim (qy b lim b.Defs.length)) 0 else .nilp
theorem qjI {b:qF} {c:qA} {lim budget:Int}:(J1 b c lim budget).tree=true:=by
  unfold J1;split<;>simp [AV.tree,go_sem]
theorem qUO {n m:Int}:([n].all fun k=>inI k 0 m)=inI n 0 m:=by simp
theorem qaL {b:qF} (hb:b.ok=true):(b.Defs.all fun x=>x.closed&&x.strat 0)=b.Defs.all fun x=>x.strat 0:=by
  rw [Bool.eq_iff_iff];simp only [List.all_eq_true,bAt];exact ⟨fun h x hx=>(h x hx).2,fun h x hx=>⟨(Jj hb hx).1,h x hx⟩⟩
theorem c493 {b:qF} {c:qA} {lim budget:Int} (hbz:b.sz≤1048576) (hcz:c.sz≤1048576):Pure Gm 493 [b.enc,c.enc,.int .i64 lim,.int .i64 budget] (.tup [J1 b c lim budget,.int .i64 (jF b c lim budget)]):=by
  refine Pure.intro [] [] g493 (by kernel_rfl) rfl (by simp [AV.trees,AV.tree,go_sem]) (by simp [AV.tree,AV.trees,qjI]) ?_;simp only [X9,qL,go_sem];have hds:=c.dep_size;have hss:=c.size_sz;have bad:∀{h:List qC} {k:Int},jF b c lim budget=k→k≠0→Fin (some [.nilp,.int .i64 k]) h (.tup [J1 b c lim budget,.int .i64 (jF b c lim budget)]):=fun e hk=>by
    unfold J1;rw [e,if_neg hk];exact je rfl rfl
  refine qc rfl ?_;simp only [go_sem];refine qc qA.ln ?_;simp only [go_sem];refine qH (c498 hbz) ?_;simp only [go_sem];refine qY ?_ ?_<;>intro hc<;>simp only [hc,go_sem];rotate_left
  · exact bad (by unfold jF;simp at hc;simp [hc]) (by decide)
  have h1:b.ok=true:=by simpa using hc
  refine qH (c521 hcz (by omega) (by omega)) ?_;simp only [go_sem];refine qY ?_ ?_<;>intro hc<;>simp only [hc,go_sem];rotate_left
  · exact bad (by unfold jF;simp at hc;simp [hc]) (by decide)
  have h2:c.closed=true:=by simpa using hc
  refine qH (c847 hcz) ?_;simp only [go_sem];refine qD ?_ ?_<;>intro hc<;>simp only [hc,go_sem]
  · exact bad (by unfold jF;simp at hc;simp [hc]) (by decide)
  have h3:c.refs b.Defs.length=true:=by simpa using hc
  refine qH (c522 hcz (by omega)) ?_;simp only [go_sem];refine qY ?_ ?_<;>intro hc<;>simp only [hc,go_sem];rotate_left
  · exact bad (by unfold jF;simp [h2] at hc;simp [h1,h2,h3,hc]) (by decide)
  have h4:c.strat 0=true:=by rw [h2] at hc;simpa using hc
  refine qH (c848 hbz) ?_;rw [qaL h1];simp only [go_sem];refine qD ?_ ?_<;>intro hc<;>simp only [hc,go_sem]
  · exact bad (by unfold jF zr;rw [h1,h2,h3,h4];have:(b.Defs.all fun x=>x.strat 0)=false:=(by simpa using hc);rw [this];simp) (by decide)
  have h5:(b.Defs.all fun x=>x.strat 0)=true:=nf hc;have h6:zr b=0:=by unfold zr;rw [h1,h5];rfl
  have hs:jF b c lim budget=if inI lim 0 40&&inI budget 0 2000 then 0 else 2:=by unfold jF;rw [h1,h2,h3,h4,h6];rfl
  refine z4 (vs':=[.int .i64 40,.lst 1 ([lim].map qE) false]) (Cvs.cons (.refl rfl) (Cvs.cons (Cv.row rfl rfl rfl (by decide)) Cvs.nil)) (c436 (by simp)) rfl ?_;rw [qUO];simp only [go_sem];refine qY ?_ ?_<;>intro hc<;>simp only [hc,go_sem];rotate_left
  · exact bad (by rw [hs];have:inI lim 0 40=false:=(by simpa using hc);rw [this];rfl) (by decide)
  have h7:inI lim 0 40=true:=by simpa using hc
  refine z4 (vs':=[.int .i64 2000,.lst 1 ([budget].map qE) false]) (Cvs.cons (.refl rfl) (Cvs.cons (Cv.row rfl rfl rfl (by decide)) Cvs.nil)) (c436 (by simp)) rfl ?_;rw [qUO];simp only [go_sem];refine qD ?_ ?_<;>intro hc<;>simp only [hc,go_sem]
  · exact bad (by rw [hs,h7];have:inI budget 0 2000=false:=(by simpa using hc);rw [this];rfl) (by decide)
  have h8:inI budget 0 2000=true:=nf hc;refine qH (c849 h1 hbz) ?_;simp only [go_sem];have h0:jF b c lim budget=0:=by rw [hs,h7,h8];rfl
  unfold J1;rw [h0,if_pos rfl];exact je (by simp [AV.tree,AV.trees,go_sem]) rfl
theorem qV9 {x y:qA} (hx:x.ok=true) (hxs:x.size≤400) (hy:y.ok=true) (hys:y.size≤400):(qA.put y x 0).sz≤802000:=by
  have h1:=UK y x 0 hx;have h2:=qA.sz_d4 _ (qRI (QN y hy) x 0 (QN x hx));have h3:=x.count_size 0;have h4:(x.count 0:Int)*((y.size:Int)-1)≤400*399:=by
    have h5:(1:Int)≤y.size:=by have:=y.size_eq;omega
    exact Int.mul_le_mul (by omega) (by omega) (by omega) (by omega)
  omega
theorem qYZ {b:qF} {I:List Bool} {x:qA} {l:Int} (hb:b.ok=true) (hx:x.valid=true):(atC b I x l).1.sz≤802000:=by
  obtain ⟨ho,hd,hs,hz,hv⟩:=zZ hx;have hz0:=Ug;cases hK:x.Kids with
  | nil=>unfold atC;rw [hK];show qV.sz≤_;omega
  | cons a ys=>
  rw [Jh hK];have ham:a∈x.Kids:=by rw [hK];simp
  have haz:=qA.kid_sz ham;have hys:(ys.headD qV).sz≤x.sz:=by
    match ys,hK with
    |[],_=>show qV.sz≤_;omega
    | c::_,hK=>exact qA.kid_sz (by rw [hK];simp)
  unfold at1;split
  · show qA.sz (.mk 2 _ [] [])≤_;rw [qA.sz_eq];simp [qG,go_sem]
  split
  · have:=qQH a.Kids (.mk 11 (zj x) [] []);have h1:=a.sz_eq;have h2:(qA.mk 11 (zj x) [] []).sz=0:=by rw [qA.sz_eq];simp [qG,go_sem]
    show (wH _ _).sz≤_;unfold wH;omega
  split
  · rename_i h1;rcases qRO ho with h0 | ⟨_,h5,a',c,k,hK',h4,hk⟩ | ⟨h2,_⟩ | ⟨h3,_⟩ | ⟨h4,_⟩<;>try omega
    rw [hK'] at hK;cases hK;have hk0:zA a=k:=by unfold zA;rw [hk];rfl
    have hcv:=zZ (zd hx (show c∈x.Kids by rw [hK'];simp));have hkv:=zZ (zd (zd hx ham) (show k∈a.Kids by rw [hk];simp));show (qA.put c (zA a) 0).sz≤_;rw [hk0];exact qV9 hkv.1 hkv.2.2.1 hcv.1 hcv.2.2.1
  split
  · show (zP _ _).sz≤_;rw [qPO];have:(b.Defs.getD a.Value.toNat qV).sz≤2000:=by
      rw [List.getD_eq_getElem?_getD];rcases h:b.Defs[a.Value.toNat]? with _ | d
      · show qV.sz≤_;omega
      · exact (zZ ((Qe hb).2 d (List.mem_of_getElem? h)).1).2.2.2.1
    omega
  split
  · rename_i h7;obtain ⟨a',c,hK'⟩:=ze ((qu ho).1 (by omega));rw [hK'] at hK;cases hK;have h72:=h7.2;show (jC x c l).1.sz≤_;unfold jC at h72⊢;simp only [List.headD_cons] at h72;split at h72
    · rename_i h0;rw [if_pos h0];have e:zB x l=qn a (c.levels 0 l) l:=by unfold zB;rw [hK']
      have hv2:=Vy (zd hx ham) (by rw [←e];exact h0);rw [←e] at hv2;have hv3:=zZ hv2;have hcv:=zZ (zd hx (show c∈x.Kids by rw [hK'];simp));exact qV9 hcv.1 hcv.2.2.1 hv3.1 hv3.2.2.1
    · cases h72
  · show qV.sz≤_;omega
theorem qT2 {x:qA} {f:qA→Int→qA×Int} {l:Int} (hf:∀y∈x.Kids,(f y l).1.sz≤y.sz+802000):∀(n i:Nat),i+n=x.Kids.length→(jf x ((x.Kids.drop i).map f) i l).1.sz≤x.sz+802000
  | 0,i,h=>by
    rw [show x.Kids.drop i=[] from List.drop_eq_nil_of_le (by omega)];show qV.sz≤_;rw [Ug];omega
  | n+1,i,h=>by
    have hlt:i<x.Kids.length:=by omega
    rw [Vc hlt];split
    · exact qT2 hf n (i+1) (by omega)
    · show qA.sz (.mk _ _ _ _)≤_;have h1:=qR3 (f:=qA.sz) (y:=(f x.Kids[i] l).1) hlt;have h2:=hf _ (gMm hlt);have h3:=x.sz_eq;have h4:=zV (f:=qA.sz) (gMm hlt);rw [qA.sz_eq,qA.mk_data,qA.mk_kids,List.length_set];omega
theorem qjT {b:qF} {I:List Bool} (hb:b.ok=true):∀(x:qA) (l:Int),x.valid=true→(zU b I x l).1.sz≤x.sz+802000:=qA.ind fun x ih l hx=>by
  rw [Za];split
  · exact qT2 (fun y hy=>ih y hy _ (zd hx hy)) x.Kids.length 0 (by omega)
  · have:=qYZ (I:=I) (l:=l) hb hx;omega
theorem qhZ {U:List (List Int)} {n:Nat} {v:Int} (h:0≤v∧v<(n:Nat)):((jE U n).any fun k=>decide (k=v))=wj U v:=by
  rw [Bool.eq_iff_iff];simp only [List.any_eq_true,decide_eq_true_eq];unfold jE;constructor
  · rintro ⟨k,hk,rfl⟩;exact (List.mem_filter.1 hk).2
  · intro hr;refine ⟨v,List.mem_filter.2 ⟨?_,hr⟩,rfl⟩;exact List.mem_map.2 ⟨v.toNat,List.mem_range.2 (by omega),by omega⟩
theorem qPQ {b:qF} {lim:Int} {x:qA} {l:Int} (ho:x.ok=true) (hf:x.refs b.Defs.length=true):
    (atC b (qy b lim b.Defs.length) x l).2=(zF b (zp b) lim x l).2.1:=by
  classical
  cases hK:x.Kids with
  | nil=>unfold atC zF;rw [hK]
  | cons a ys=>
  rw [Jh hK];unfold at1 zF;rw [hK];simp only [];have ham:a∈x.Kids:=by rw [hK];simp
  by_cases h3:x.Kind=3
  · rw [if_pos h3];obtain ⟨a',c,hK'⟩:=ze ((qu ho).1 (by omega));rw [hK'] at hK;cases hK;have hr:qX x=if a.Kind=11 then 4 else if a.Kind=2 then (if c.Kind=2 then 2 else if c.Kind=11 then 4 else 0) else 0:=by unfold qX;rw [hK'];simp only [];rw [if_neg (by omega),if_pos h3]
    by_cases h2:a.Kind=2
    · by_cases c2:c.Kind=2
      · rw [if_pos (by rw [hr,if_neg (by omega),if_pos h2,if_pos c2]),if_pos (show a.Kind=2∧([c].headD qV).Kind=2 from ⟨h2,c2⟩)]
      · have:qX x=if c.Kind=11 then 4 else 0:=by rw [hr,if_neg (by omega),if_pos h2,if_neg c2]
        rw [if_neg (by rw [this];split<;>omega),if_neg (by rw [this];split<;>omega),if_neg (by rw [this];split<;>omega),if_neg (by omega),if_neg (by omega),if_neg (show ¬(a.Kind=2∧([c].headD qV).Kind=2) from fun h=>c2 h.2)]
    · have:qX x=if a.Kind=11 then 4 else 0:=by
        rw [hr];by_cases e:a.Kind=11
        · rw [if_pos e,if_pos e]
        · rw [if_neg e,if_neg e,if_neg h2]
      rw [if_neg (by rw [this];split<;>omega),if_neg (by rw [this];split<;>omega),if_neg (by rw [this];split<;>omega),if_neg (by omega),if_neg (by omega),if_neg (show ¬(a.Kind=2∧([c].headD qV).Kind=2) from fun h=>h2 h.1)]
  rw [if_neg h3];by_cases h9:x.Kind=10∨x.Kind=9
  · rw [if_pos h9];have hn:¬qX x=2∧¬qX x=1:=by
      unfold qX;rw [hK];simp only [];rw [if_neg (by omega),if_neg h3];split
      · split
        · omega
        · split<;>omega
      · split
        · split
          · omega
          · split<;>omega
        · omega
    rw [if_neg hn.1];by_cases r3:qX x=3
    · rw [if_pos r3,if_pos r3]
    · rw [if_neg r3,if_neg r3,if_neg hn.2,if_neg (by omega),if_neg (by omega)]
  rw [if_neg h9];by_cases h5:x.Kind=5
  · rw [if_pos h5];have hr:qX x=if a.Kind=4 then 1 else if a.Kind=11 then 4 else 0:=by unfold qX;rw [hK];simp only [];rw [if_pos h5]
    by_cases h4:a.Kind=4
    · rw [if_pos h4] at hr;rw [if_neg (by omega),if_neg (by omega),if_pos hr,if_pos h4]
    rw [if_neg h4] at hr;have hr2:¬qX x=2∧¬qX x=3∧¬qX x=1:=by rw [hr];split<;>omega
    rw [if_neg hr2.1,if_neg hr2.2.1,if_neg hr2.2.2,if_neg h4];by_cases h11:a.Kind=11
    · have hv:=ZV (qv ho ham) (jy hf ham) h11;obtain ⟨n,hV⟩:∃n:Nat,a.Value=n:=⟨a.Value.toNat,by omega⟩;have hlt:n<b.Defs.length:=by omega
      have hI:(qy b lim b.Defs.length).getD a.Value.toNat false=decide (JU b lim n):=by
        unfold qy;rw [hV,Int.toNat_natCast,List.getD_eq_getElem?_getD,List.getElem?_map,List.getElem?_range hlt];rfl
      rw [qUQ hK h11 hV hlt];have hR:((zp b).any fun k=>decide (k=a.Value))=wj (zD b) n:=by rw [hV];exact qhZ (by omega)
      rw [hR,hI];have hg:b.Defs.getD n qV=b.Defs[n]:=by rw [List.getD_eq_getElem?_getD,gEg hlt];rfl
      have hg2:b.Defs.getD a.Value.toNat qV=b.Defs[n]:=by rw [hV,Int.toNat_natCast];exact hg
      rw [hg2];unfold JU;rw [hg];by_cases hin:(b.Defs[n].Kind=4∧(b.Defs[n].size:Int)≤lim∧wj (zD b) n=false)∧l+b.Defs[n].boxes≤8
      · rw [if_pos ⟨h5,h11,by simpa using hin.1,hin.2⟩,if_pos (by simp [hin.1.1,hin.1.2.1,hin.1.2.2,hin.2])]
      · rw [if_neg (fun h=>hin ⟨by simpa using h.2.2.1,h.2.2.2⟩),if_neg (by omega),if_neg (fun h=>hin (by simp at h;exact ⟨⟨h.1.1.1,h.1.2,h.1.1.2⟩,h.2⟩))]
    · rw [if_neg (fun h=>h11 h.2.1),if_neg (by omega)];have:wT b (zp b) lim x l=false:=by unfold wT;rw [hK];simp [h11]
      rw [this];rfl
  rw [if_neg h5];have hr:qX x=0:=ZU h5 h3 (fun h=>h9 (.inr h)) (fun h=>h9 (.inl h));rw [if_neg (by omega),if_neg (by omega),if_neg (by omega),if_neg (fun h=>h5 h.1)];by_cases h7:x.Kind=7
  · rw [if_pos h7];unfold jC;by_cases h0:(zB x l).2=0
    · rw [if_pos h0,if_pos ⟨h7,rfl⟩,if_pos h0]
    · rw [if_neg h0,if_neg (fun h=>by cases h.2),if_neg h0]
  · rw [if_neg h7,if_neg (fun h=>h7 h.1)]
theorem qT5 {x:qA} {f:qA→Int→qA×Int} {g:qA→Int→j5} {l:Int}:∀(ks:List qA) (i:Nat),(∀y∈ks,(f y l).2=(g y l).2.1)→(jf x (ks.map f) i l).2=(wK x (ks.map g) i l).2.1
  |[],_,_=>rfl
  | y::ks,i,h=>by
    simp only [List.map_cons,jf,wK];have e:=h y (by simp);by_cases h0:(g y l).2.1=0
    · rw [if_pos h0,if_pos (by omega)];exact qT5 ks (i+1) fun z hz=>h z (by simp [hz])
    · rw [if_neg h0,if_neg (by omega)];exact e
theorem qXL {b:qF} {lim:Int}:∀(x:qA) (l:Int),x.ok=true→x.refs b.Defs.length=true→(zU b (qy b lim b.Defs.length) x l).2=(jT b (zp b) lim x l).2.1:=qA.ind fun x ih l ho hf=>by
  rw [Za,WJ];have e:=qPQ (lim:=lim) (l:=l) ho hf;by_cases h0:(zF b (zp b) lim x l).2.1=0
  · rw [if_pos h0,if_pos (by omega)];exact qT5 _ _ fun y hy=>ih y hy _ (qv ho hy) (jy hf hy)
  · rw [if_neg h0,if_neg (by omega)];exact e
end Go.Ab
namespace Go.Ab
open Go
set_option maxRecDepth 10000
set_option maxHeartbeats 2000000
attribute [local simp] qr qa zW
theorem qjL {b:qF} {c:qA} {limit budget:Int} (h:jF b c limit budget=0):c.strat 0=true:=by
  unfold jF at h;split at h
  · split at h
    · rename_i h1;exact h1
    · cases h
  · cases h
end Go.Ab
namespace Go.Ab
open Go
set_option maxRecDepth 10000
set_option maxHeartbeats 2000000
theorem qV5 {α:Type} {enc:α→AV}:∀{xs:List α},(∀x∈xs,(enc x).pl=true)→AV.pls (xs.map enc)=true
  |[],_=>rfl
  | x::xs,h=>by simp only [List.map_cons,AV.pls,h x (by simp),qV5 (xs:=xs) (fun y hy=>h y (by simp [hy])),Bool.and_self]
theorem qTF {α:Type} {enc:α→AV}:∀{xs:List α},(∀x∈xs,(enc x).cn=true)→AV.cns (xs.map enc)=true
  |[],_=>rfl
  | x::xs,h=>by simp only [List.map_cons,AV.cns,h x (by simp),qTF (xs:=xs) (fun y hy=>h y (by simp [hy])),Bool.and_self]
theorem qWU {α:Type} {enc:α→AV} {f:α→Int→α} {c:α→Nat}:∀{xs:List α} (k:Int),(∀x∈xs,∀k,(enc (f x k)).rows=(enc x).rows)→AV.rowss ((mkL f c xs k).map enc)=AV.rowss (xs.map enc)
  |[],_,_=>rfl
  | x::xs,k,h=>by simp only [mkL,List.map_cons,AV.rowss,h x (by simp),qWU (xs:=xs) _ fun y hy=>h y (by simp [hy])]
theorem qA.plx:∀x:qA,x.enc.pl=true:=qA.ind fun x ih=>by
  rw [qA.enc_eq];simp [AV.pl,AV.pls,jL (enc:=qE) (fun _=>rfl),qV5 ih]
theorem qA.cnx:∀x:qA,x.enc.cn=true:=qA.ind fun x ih=>by
  rw [qA.enc_eq];simp [AV.cn,AV.cns,VK (enc:=qE) (fun _=>rfl),qTF ih]
theorem qA.layE (x:qA) (n:Nat):lay x.enc n=(.agg [.int .i64 x.Kind,.int .i64 x.Value,.slice 1 (n) 0 x.Data.length false,.slice 4 (n+AV.rows (.lst 1 (x.Data.map qE) false)) 0 x.Kids.length false],(lay (.lst 1 (x.Data.map qE) false) (n)).2++((lay (.lst 4 (x.Kids.map qA.enc) false) (n+AV.rows (.lst 1 (x.Data.map qE) false))).2++[])):=by
  rw [qA.enc_eq];simp [lay,qP,jK,AV.rows,Nat.add_assoc,Nat.add_comm,Nat.add_left_comm]
theorem qA.rowsE (x:qA):x.enc.rows=AV.rows (.lst 1 (x.Data.map qE) false)+AV.rows (.lst 4 (x.Kids.map qA.enc) false):=by rw [qA.enc_eq];simp [AV.rows,AV.rowss,Nat.add_assoc]
mutual
def qA.ct:qA→Nat
  |.mk _ _ d ks=>1+1+qG ctI d+qA.cts ks
def qA.cts:List qA→Nat
  |[]=>0
  | x::xs=>x.ct+qA.cts xs
end
theorem qA.cts_eq:∀xs,qA.cts xs=qG qA.ct xs
  |[]=>by simp [qA.cts,qG]
  | x::xs=>by simp [qA.cts,qG,qA.cts_eq xs]
theorem qA.ct_eq (x:qA):x.ct=1+1+qG ctI x.Data+qG qA.ct x.Kids:=by cases x;simp [qA.ct,qA.cts_eq,qA.Data,qA.Kids]
mutual
def qA.mrk:qA→Int→qA
  |.mk _ _ d ks,k=>.mk k (k+1) (mkL mkI ctI d (k+1+1)) (qA.mrks ks (k+1+1+((qG ctI d:Nat):Int)))
def qA.mrks:List qA→Int→List qA
  |[],_=>[]
  | x::xs,k=>x.mrk k::qA.mrks xs (k+x.ct)
end
theorem qA.mrks_eq:∀xs k,qA.mrks xs k=mkL qA.mrk qA.ct xs k
  |[],k=>by simp [qA.mrks,mkL]
  | x::xs,k=>by simp [qA.mrks,mkL,qA.mrks_eq xs]
theorem qA.mrk_eq (x:qA) (k:Int):x.mrk k=.mk k (k+1) (mkL mkI ctI x.Data (k+1+1)) (mkL qA.mrk qA.ct x.Kids (k+1+1+((qG ctI x.Data:Nat):Int))):=by
  cases x;simp [qA.mrk,qA.mrks_eq,qA.Data,qA.Kids]
theorem qA.mrkK (x:qA) (k:Int):(x.mrk k).Kind=k:=by rw [qA.mrk_eq];rfl
theorem qA.mrkV (x:qA) (k:Int):(x.mrk k).Value=k+1:=by rw [qA.mrk_eq];rfl
theorem qA.mrkD (x:qA) (k:Int):(x.mrk k).Data=mkL mkI ctI x.Data (k+1+1):=by rw [qA.mrk_eq];rfl
theorem qA.mrkC (x:qA) (k:Int):(x.mrk k).Kids=mkL qA.mrk qA.ct x.Kids (k+1+1+((qG ctI x.Data:Nat):Int)):=by rw [qA.mrk_eq];rfl
theorem qA.rowsM:∀(x:qA) (k:Int),(x.mrk k).enc.rows=x.enc.rows:=qA.ind fun x ih k=>by
  rw [qA.rowsE,qA.rowsE,qA.mrkD,qA.mrkC];simp only [AV.rows,qWU _ ih,jh mkI ctI (enc:=qE) (fun _ _=>rfl)]
def qA.mkV (x:qA) (k:Int):qA:=.mk x.Kind x.Value (mkL mkI ctI x.Data (k)) (mkL qA.mrk qA.ct x.Kids (k+((qG ctI x.Data:Nat):Int)))
def qA.ctV (x:qA):Nat:=qG ctI x.Data+qG qA.ct x.Kids
theorem qA.mkVD (x:qA) (k:Int):(x.mkV k).Data=mkL mkI ctI x.Data (k):=rfl
theorem qA.mkVC (x:qA) (k:Int):(x.mkV k).Kids=mkL qA.mrk qA.ct x.Kids (k+((qG ctI x.Data:Nat):Int)):=rfl
theorem qA.rowsV (x:qA) (k:Int):(x.mkV k).enc.rows=x.enc.rows:=by
  rw [qA.rowsE,qA.rowsE,qA.mkVD,qA.mkVC];simp only [AV.rows,jh qA.mrk qA.ct (enc:=qA.enc) qA.rowsM,jh mkI ctI (enc:=qE) (fun _ _=>rfl)]
theorem qA.ctle:∀x:qA,x.ct≤16+16*x.sz:=qA.ind fun x ih=>by
  have h:∀xs:List qA,(∀y∈xs,y.ct≤16+16*y.sz)→qG qA.ct xs≤16*(xs.length+qG qA.sz xs):=by
    intro xs
    induction xs with
    | nil=>intro _;exact Nat.le_refl _
    | cons a xs ihx=>intro h;have:=h a (by simp);have:=ihx (fun y hy=>h y (by simp [hy]));simp only [qG,List.length_cons];omega
  have h0:=h _ ih;rw [x.ct_eq,x.sz_eq,JO];omega
theorem qA.ctVle (x:qA):x.ctV≤16*x.sz:=by
  have h0:=x.ctle;rw [x.ct_eq,JO] at h0;have h1:=UY (c:=qA.ct) (z:=qA.sz) qA.ctle x.Kids;rw [x.sz_eq];unfold qA.ctV;rw [JO];omega
theorem n147 (xs:List Int) (hl:xs.length≤1048576):Fresh Gm 147 [.lst 1 (xs.map qE) false] (.lst 1 (xs.map qE) false):=qj5 g147 xs hl
theorem n83 (x:qA):∀(_:x.sz≤1048576),Fresh Gm 83 [x.enc] x.enc:=by
  induction x using qA.ind with
  | _ x ih=>
  intro hz;refine Fresh.intro [] [] g83 (by kernel_rfl) rfl (by simp [AV.trees,AV.tree,qA.tr]) (qA.plx x) ?_;simp only [F83,qL,go_sem];refine qc qA.ln ?_;simp only [go_sem];rw [qA.sz_eq] at hz;refine wg (n147 _ (by omega)) ?_;simp only [go_sem,QJ];refine wg (qXY qA.isSh qA.plx rfl rfl (by simp) Vi x.Kids (fun y hm=>ih y hm (by have:=zV (f:=qA.sz) hm;omega)) (by omega)) ?_;simp only [go_sem,QJ];refine qK rfl rfl ⟨_,rfl⟩ (by decide) ?_;simp only [go_sem];exact QF (pre:=[]) (post:=[]) (qA.plx x) (by simp [zO,qA.layE,qt,Nat.add_assoc]) (by simp [qA.layE,qt,Nat.add_assoc])
theorem n342 (xs:List qA) (hl:xs.length+qG qA.sz xs≤1048576):Fresh Gm 342 [.lst 4 (xs.map qA.enc) false] (.lst 4 (xs.map qA.enc) false):=
  qXY qA.isSh qA.plx rfl rfl (by simp) Vi xs (fun x hm=>n83 x (by have:=zV (f:=qA.sz) hm;omega)) (by omega)
theorem qF.plx (x:qF):x.enc.pl=true:=by simp [qF.enc,AV.pl,AV.pls,jL qA.plx]
theorem qF.cnx (x:qF):x.enc.cn=true:=by simp [qF.enc,AV.cn,AV.cns,VK qA.cnx]
theorem qF.layE (x:qF) (n:Nat):lay x.enc n=(.agg [.slice 4 (n) 0 x.Defs.length false],(lay (.lst 4 (x.Defs.map qA.enc) false) (n)).2++[]):=by
  simp [qF.enc,lay,qP,jK,AV.rows,Nat.add_assoc,Nat.add_comm,Nat.add_left_comm]
theorem qF.rowsE (x:qF):x.enc.rows=AV.rows (.lst 4 (x.Defs.map qA.enc) false):=by simp [qF.enc,AV.rows,AV.rowss,Nat.add_assoc]
def qF.mrk (x:qF) (k:Int):qF:={Defs:=mkL qA.mrk qA.ct x.Defs (k)}
def qF.ct (x:qF):Nat:=qG qA.ct x.Defs
def qF.mkV (x:qF) (k:Int):qF:={Defs:=mkL qA.mrk qA.ct x.Defs (k)}
def qF.ctV (x:qF):Nat:=qG qA.ct x.Defs
theorem qF.rowsM (x:qF) (k:Int):(x.mrk k).enc.rows=x.enc.rows:=by simp [qF.rowsE,qF.mrk,AV.rows,jh qA.mrk qA.ct (enc:=qA.enc) qA.rowsM]
theorem qF.rowsV (x:qF) (k:Int):(x.mkV k).enc.rows=x.enc.rows:=by simp [qF.rowsE,qF.mkV,AV.rows,jh qA.mrk qA.ct (enc:=qA.enc) qA.rowsM]
theorem qF.ctle (x:qF):x.ct≤16+16*x.sz:=by
  have h0:=UY (c:=qA.ct) (z:=qA.sz) qA.ctle x.Defs;simp only [qF.ct,qF.sz];omega
theorem qF.ctVle (x:qF):x.ctV≤16*x.sz:=by
  have h0:=UY (c:=qA.ct) (z:=qA.sz) qA.ctle x.Defs;simp only [qF.ctV,qF.sz];omega
theorem n82 (x:qF) (hz:x.sz≤1048576):Fresh Gm 82 [x.enc] x.enc:=by
  refine Fresh.intro [] [] g82 (by kernel_rfl) rfl (by simp [AV.trees,AV.tree,qF.tr]) (qF.plx x) ?_;simp only [F82,qL,go_sem];refine qc rfl ?_;simp only [go_sem];unfold qF.sz at hz;refine wg (n342 _ (by omega)) ?_;simp only [go_sem,QJ];exact QF (pre:=[]) (post:=[]) (qF.plx x) (by simp [zO,qF.layE,qt,Nat.add_assoc]) (by simp [qF.layE,qt,Nat.add_assoc])
theorem k90 (xs:List Int) (k:Int) (h0:0≤k) (hk:k+(qG ctI xs:Nat)≤4611686018427387904) (hz:xs.length≤4194304):Mark Gm 90 (.lst 1 (xs.map qE) false) (.lst 1 ((mkL mkI ctI xs k).map qE) false) k (k+(qG ctI xs:Nat)):=qgE g90 rfl xs k h0 hk hz
theorem qd1 (n:Nat):∀(xs:List qA) (k:Int) (_:xs.length+qG qA.sz xs<n) (_:0≤k) (_:k+(qG qA.ct xs:Nat)≤4611686018427387904) (_:xs.length+qG qA.sz xs≤4194304),Mark Gm 347 (.lst 4 (xs.map qA.enc) false) (.lst 4 ((mkL qA.mrk qA.ct xs k).map qA.enc) false) k (k+(qG qA.ct xs:Nat)):=by
  induction n with
  | zero=>intro xs k h;exact absurd h (by omega)
  | succ n ih=>
  intro xs k hn h0 hk hz;refine Mark.intro g347 (by kernel_rfl) rfl (jL qA.plx xs) (jL qA.plx _) (by simp only [AV.rows,jh qA.mrk qA.ct (enc:=qA.enc) qA.rowsM]) ?_;simp only [Xz,qL,QJ,go_sem,Nat.zero_add];refine Sem.loop (fun i:Nat=>i≤xs.length) (fun i=>(⟨[(0,.slice 4 0 0 xs.length false),(1,.int .i64 (k+((qG qA.ct (xs.take i):Nat):Int))),(5,.int .i64 (i:Nat))],[],(lay (.lst 4 ((mkL qA.mrk qA.ct (xs.take i) k++xs.drop i).map qA.enc) false) 0).2⟩:VSt)) (fun i=>xs.length-i) 0 (by kernel_rfl) (Nat.zero_le _) (by simp only [List.take_zero,mkL,List.nil_append,List.drop_zero,qG,Int.ofNat_zero,Int.natCast_zero,Int.add_zero];exact Can.sub (by simp [go_sem]) (by simp [go_sem])) ?_;intro i hi;simp only [go_sem,Nat.zero_add];refine qD ?_ ?_<;>intro hc<;>simp only [hc,go_sem,Nat.zero_add]
  · have hlt:i<xs.length:=by have:=odT hc;omega
    have hct:=qXU qA.ct hlt;have hcl:=qXS qA.ct xs (i+1);have hrow:=qA.rowsM;rw [List.drop_eq_getElem_cons hlt,qU4];have hsz:qA.sz xs[i]≤qG qA.sz xs:=zV (f:=qA.sz) (gMm hlt);obtain ⟨K,hK⟩:∃K:Int,K=k+((qG qA.ct (xs.take i):Nat):Int):=⟨_,rfl⟩;have hend:k+((qG qA.ct (xs.take (i+1)):Nat):Int)=K+((qA.ct xs[i]:Nat):Int):=by rw [hct,hK];omega
    have hKb:0≤K∧K+((qA.ct xs[i]:Nat):Int)≤4611686018427387904:=by rw [←hend];omega
    have hmk:(mkL qA.mrk qA.ct (xs.take (i+1)) k++xs.drop (i+1))=mkL qA.mrk qA.ct (xs.take i) k++qA.mrk xs[i] K::xs.drop (i+1):=by rw [qVR qA.mrk qA.ct hlt,←hK,List.append_assoc];rfl
    have hrx:=hrow xs[i] K;rw [←hK];obtain ⟨y,hy⟩:∃y,y=xs[i]:=⟨_,rfl⟩;rw [←hy] at hmk hend hKb hrx hsz⊢;have hcy:qA.ct y=1+1+qG ctI y.Data+qG qA.ct y.Kids:=qA.ct_eq y;rw [hcy] at hend hKb;rw [qA.sz_eq] at hsz;have hA:(qP ((mkL qA.mrk qA.ct (xs.take i) k).map qA.enc) 1).1.length=i:=by rw [wU,List.length_map,JD];simp;omega
    have hoA:=jK ((mkL qA.mrk qA.ct (xs.take i) k).map qA.enc) 1;have e2:=qU4 (enc:=qA.enc) (w:=4) (c:=false) (A:=mkL qA.mrk qA.ct (xs.take i) k) (B:=xs.drop (i+1)) (z:=qA.mrk y K);rw [hrx] at e2;rw [qA.layE] at e2⊢;obtain ⟨p,hp⟩:∃p,p=1+AV.rowss ((mkL qA.mrk qA.ct (xs.take i) k).map qA.enc):=⟨_,rfl⟩;rw [←hp] at e2⊢;generalize (qP ((xs.drop (i+1)).map qA.enc) (p+y.enc.rows)).1=vB at e2⊢;generalize (qP ((xs.drop (i+1)).map qA.enc) (p+y.enc.rows)).2=oB at e2⊢;generalize (qP ((mkL qA.mrk qA.ct (xs.take i) k).map qA.enc) 1).1=vA at e2 hA⊢;generalize (qP ((mkL qA.mrk qA.ct (xs.take i) k).map qA.enc) 1).2=oA at e2 hoA⊢;simp only [JC hA,Jy hA,z5 hlt,List.set_cons_zero,go_sem,Nat.zero_add];refine z7 (e':=.agg [.int .i64 (K),.int .i64 y.Value,.slice 1 (p) 0 y.Data.length false,.slice 4 (p+AV.rows (.lst 1 (y.Data.map qE) false)) 0 y.Kids.length false]) (by rfl) (by rfl) (JC hA) (by rfl) ?_;simp only [JC hA,Jy hA,z5 hlt,List.set_cons_zero,go_sem,Nat.zero_add];rw [qj (n:=K+1) (by omega) (by omega)]
    try simp only [JC hA,Jy hA,z5 hlt,List.set_cons_zero,go_sem,Nat.zero_add]
    refine z7 (e':=.agg [.int .i64 (K),.int .i64 (K+1),.slice 1 (p) 0 y.Data.length false,.slice 4 (p+AV.rows (.lst 1 (y.Data.map qE) false)) 0 y.Kids.length false]) (by rfl) (by rfl) (JC hA) (by rfl) ?_;simp only [JC hA,Jy hA,z5 hlt,List.set_cons_zero,go_sem,Nat.zero_add];rw [qj (n:=K+1+1) (by omega) (by omega)]
    try simp only [JC hA,Jy hA,z5 hlt,List.set_cons_zero,go_sem,Nat.zero_add]
    refine Qv (n:=p) (pre:=.row 4 (vA++.agg [.int .i64 (K),.int .i64 (K+1),.slice 1 (p) 0 y.Data.length false,.slice 4 (p+AV.rows (.lst 1 (y.Data.map qE) false)) 0 y.Kids.length false]::vB) true::(oA++[])) (post:=((lay (.lst 4 (y.Kids.map qA.enc) false) (p+AV.rows (.lst 1 (y.Data.map qE) false))).2++[])++oB) (t:=(.lst 1 (y.Data.map qE) false)) (t':=(.lst 1 ((mkL mkI ctI y.Data (K+1+1)).map qE) false)) (k90 y.Data (K+1+1) (by omega) (by omega) (by omega)) ?_ ?_ (by rw [QJ,List.length_map]) ?_
    · first | rfl | (simp only [List.length_cons,lAp,List.length_nil,hoA,qt,AV.rows,jh mkI ctI (enc:=qE) (fun _ _=>rfl)];done) | (simp only [List.length_cons,lAp,List.length_nil,hoA,qt,AV.rows,jh mkI ctI (enc:=qE) (fun _ _=>rfl)];omega)
    · first | rfl | (simp only [List.append_assoc,List.nil_append,List.append_nil,List.cons_append];done)
    simp only [JC hA,Jy hA,z5 hlt,List.set_cons_zero,List.cons_append,go_sem,Nat.zero_add];refine Qv (n:=p+AV.rows (.lst 1 (y.Data.map qE) false)) (pre:=.row 4 (vA++.agg [.int .i64 (K),.int .i64 (K+1),.slice 1 (p) 0 y.Data.length false,.slice 4 (p+AV.rows (.lst 1 (y.Data.map qE) false)) 0 y.Kids.length false]::vB) true::(oA++((lay (.lst 1 ((mkL mkI ctI y.Data (K+1+1)).map qE) false) (p)).2))) (post:=([])++oB) (t:=(.lst 4 (y.Kids.map qA.enc) false)) (t':=(.lst 4 ((mkL qA.mrk qA.ct y.Kids (K+1+1+((qG ctI y.Data:Nat):Int))).map qA.enc) false)) (ih y.Kids (K+1+1+((qG ctI y.Data:Nat):Int)) (by omega) (by omega) (by omega) (by omega)) ?_ ?_ (by rw [QJ,List.length_map]) ?_
    · first | rfl | (simp only [List.length_cons,lAp,List.length_nil,hoA,qt,AV.rows,jh mkI ctI (enc:=qE) (fun _ _=>rfl)];done) | (simp only [List.length_cons,lAp,List.length_nil,hoA,qt,AV.rows,jh mkI ctI (enc:=qE) (fun _ _=>rfl)];omega)
    · first | rfl | (simp only [List.append_assoc,List.nil_append,List.append_nil,List.cons_append];done)
    simp only [JC hA,Jy hA,z5 hlt,List.set_cons_zero,List.cons_append,go_sem,Nat.zero_add];simp only [qe (show i<4611686018427387904 by omega)];refine qZ (i+1) (by omega) (by omega) ?_;have e3:K+1+1+((qG ctI y.Data:Nat):Int)+((qG qA.ct y.Kids:Nat):Int)=k+((qG qA.ct (xs.take (i+1)):Nat):Int):=by first | (rw [hend];done) | (rw [hend];omega)
    rw [e3];rw [hmk,e2];simp only [qA.mrkK,qA.mrkV,qA.mrkD,qA.mrkC,JD,AV.rows,List.append_assoc,List.nil_append,List.append_nil,List.cons_append,jh qA.mrk qA.ct (enc:=qA.enc) qA.rowsM,jh mkI ctI (enc:=qE) (fun _ _=>rfl)];exact Can.sub (by simp [go_sem]) (by simp [go_sem])
  · have hge:i=xs.length:=by have:=odF hc;omega
    subst hge;refine qQG (by rw [List.take_length]) ?_;rw [List.take_length,List.drop_length,List.append_nil]
theorem k347 (xs:List qA) (k:Int) (h0:0≤k) (hk:k+(qG qA.ct xs:Nat)≤4611686018427387904) (hz:xs.length+qG qA.sz xs≤4194304):Mark Gm 347 (.lst 4 (xs.map qA.enc) false) (.lst 4 ((mkL qA.mrk qA.ct xs k).map qA.enc) false) k (k+(qG qA.ct xs:Nat)):=qd1 _ xs k (Nat.lt_succ_self _) h0 hk hz
theorem k88 (x:qF) (k:Int) (h0:0≤k) (hk:k+(x.ctV:Nat)≤4611686018427387904) (hz:x.sz≤4194304):Mark Gm 88 x.enc (x.mkV k).enc k (k+(x.ctV:Nat)):=by
  refine Mark.intro g88 (by kernel_rfl) rfl (qF.plx x) (qF.plx _) (qF.rowsV x k) ?_;rw [qF.layE,qF.layE];simp only [F88,qL,go_sem,Nat.zero_add];refine qc rfl ?_;simp only [go_sem,Nat.zero_add];unfold qF.ctV at hk;simp only [qF.sz] at hz;refine Qv (n:=0) (pre:=[]) (post:=[]) (t:=(.lst 4 (x.Defs.map qA.enc) false)) (t':=(.lst 4 ((mkL qA.mrk qA.ct x.Defs (k)).map qA.enc) false)) (k347 x.Defs (k) (by omega) (by omega) (by omega)) ?_ ?_ (by rw [QJ,List.length_map]) ?_
  · first | rfl | (simp only [lAp,List.length_nil,qt,AV.rows,jh qA.mrk qA.ct (enc:=qA.enc) qA.rowsM];done) | (simp only [lAp,List.length_nil,qt,AV.rows,jh qA.mrk qA.ct (enc:=qA.enc) qA.rowsM];omega)
  · first | rfl | (simp only [List.append_assoc,List.nil_append,List.append_nil];done)
  simp only [List.append_assoc,List.nil_append,List.append_nil,go_sem,Nat.zero_add];refine qQG (by first | rfl | (simp only [qF.ctV];done) | (simp only [qF.ctV];omega)) ?_;simp only [qF.mkV,AV.rows,Nat.zero_add,List.append_assoc,List.nil_append,List.append_nil,jh qA.mrk qA.ct (enc:=qA.enc) qA.rowsM]
theorem q92 (xs:List Int) (k:Int) (h0:0≤k) (hk:k+(qG ctI xs:Nat)≤4611686018427387904) (hz:xs.length≤4194304):Pure Gm 92 [.lst 1 ((mkL mkI ctI xs k).map qE) false,.int .i64 k] (.int .i64 (k+(qG ctI xs:Nat))):=qdT g92 rfl xs k h0 hk hz
theorem qhM (n:Nat):∀(xs:List qA) (k:Int) (_:xs.length+qG qA.sz xs<n) (_:0≤k) (_:k+(qG qA.ct xs:Nat)≤4611686018427387904) (_:xs.length+qG qA.sz xs≤4194304),Pure Gm 348 [(.lst 4 ((mkL qA.mrk qA.ct xs k).map qA.enc) false),.int .i64 k] (.int .i64 (k+(qG qA.ct xs:Nat))):=by
  induction n with
  | zero=>intro xs k h;exact absurd h (by omega)
  | succ n ih=>
  intro xs k hn h0 hk hz;refine Pure.intro [] [] g348 (by kernel_rfl) rfl (by simp [AV.trees,AV.tree,zq qA.isSh.tree]) rfl ?_;simp only [X0,qL,go_sem,Nat.zero_add];refine Sem.loop (fun i:Nat=>i≤xs.length) (fun i=>(⟨[(0,(.lst 4 ((mkL qA.mrk qA.ct xs k).map qA.enc) false)),(1,.int .i64 (k+((qG qA.ct (xs.take i):Nat):Int))),(5,.int .i64 (i:Nat))],[],[]⟩:VSt)) (fun i=>xs.length-i) 0 (by kernel_rfl) (Nat.zero_le _) (by simp only [List.take_zero,qG,Int.ofNat_zero,Int.natCast_zero,Int.add_zero];exact Can.sub (by simp [go_sem]) (by simp [go_sem])) ?_;intro i hi;simp only [JD,go_sem,Nat.zero_add];refine qD ?_ ?_<;>intro hc<;>simp only [hc,go_sem,Nat.zero_add]
  · have hlt:i<xs.length:=by have:=odT hc;omega
    have hct:=qXU qA.ct hlt;have hcl:=qXS qA.ct xs (i+1);have hget:=qVQ qA.mrk qA.ct hlt k;have hsz:qA.sz xs[i]≤qG qA.sz xs:=zV (f:=qA.sz) (gMm hlt);obtain ⟨K,hK⟩:∃K:Int,K=k+((qG qA.ct (xs.take i):Nat):Int):=⟨_,rfl⟩;have hend:k+((qG qA.ct (xs.take (i+1)):Nat):Int)=K+((qA.ct xs[i]:Nat):Int):=by rw [hct,hK];omega
    have hKb:0≤K∧K+((qA.ct xs[i]:Nat):Int)≤4611686018427387904:=by rw [←hend];omega
    rw [←hK] at hget⊢;obtain ⟨y,hy⟩:∃y,y=xs[i]:=⟨_,rfl⟩;rw [←hy] at hget hend hKb hsz;have hcy:qA.ct y=1+1+qG ctI y.Data+qG qA.ct y.Kids:=qA.ct_eq y;rw [hcy] at hend hKb;rw [qA.sz_eq] at hsz;simp only [List.getElem?_map,hget,Option.map_some,go_sem,Nat.zero_add]
    try simp only [List.getElem?_map,hget,Option.map_some,qA.mrkK,qA.mrkV,qA.mrkD,qA.mrkC,go_sem,Nat.zero_add]
    rw [qj (n:=K+1) (by omega) (by omega)]
    try simp only [List.getElem?_map,hget,Option.map_some,qA.mrkK,qA.mrkV,qA.mrkD,qA.mrkC,go_sem,Nat.zero_add]
    try simp only [List.getElem?_map,hget,Option.map_some,qA.mrkK,qA.mrkV,qA.mrkD,qA.mrkC,go_sem,Nat.zero_add]
    rw [qj (n:=K+1+1) (by omega) (by omega)]
    try simp only [List.getElem?_map,hget,Option.map_some,qA.mrkK,qA.mrkV,qA.mrkD,qA.mrkC,go_sem,Nat.zero_add]
    try simp only [List.getElem?_map,hget,Option.map_some,qA.mrkK,qA.mrkV,qA.mrkD,qA.mrkC,go_sem,Nat.zero_add]
    refine qH (q92 y.Data (K+1+1) (by omega) (by omega) (by omega)) ?_;simp only [List.getElem?_map,hget,Option.map_some,qA.mrkK,qA.mrkV,qA.mrkD,qA.mrkC,go_sem,Nat.zero_add];rw [show decide (K+1+1+((qG ctI y.Data:Nat):Int)<0)=false from decide_eq_false (by omega)];simp only [List.getElem?_map,hget,Option.map_some,qA.mrkK,qA.mrkV,qA.mrkD,qA.mrkC,go_sem,Nat.zero_add]
    try simp only [List.getElem?_map,hget,Option.map_some,qA.mrkK,qA.mrkV,qA.mrkD,qA.mrkC,go_sem,Nat.zero_add]
    refine qH (ih y.Kids (K+1+1+((qG ctI y.Data:Nat):Int)) (by omega) (by omega) (by omega) (by omega)) ?_;simp only [List.getElem?_map,hget,Option.map_some,qA.mrkK,qA.mrkV,qA.mrkD,qA.mrkC,go_sem,Nat.zero_add];rw [show decide (K+1+1+((qG ctI y.Data:Nat):Int)+((qG qA.ct y.Kids:Nat):Int)<0)=false from decide_eq_false (by omega)];simp only [List.getElem?_map,hget,Option.map_some,qA.mrkK,qA.mrkV,qA.mrkD,qA.mrkC,go_sem,Nat.zero_add];simp only [qe (show i<4611686018427387904 by omega)];refine qZ (i+1) (by omega) (by omega) ?_;have e3:K+1+1+((qG ctI y.Data:Nat):Int)+((qG qA.ct y.Kids:Nat):Int)=k+((qG qA.ct (xs.take (i+1)):Nat):Int):=by first | (rw [hend];done) | (rw [hend];omega)
    rw [e3];exact Can.sub (by simp [go_sem]) (by simp [go_sem])
  · have hge:i=xs.length:=by have:=odF hc;omega
    subst hge;refine qM rfl ?_;rw [List.take_length]
theorem q348 (xs:List qA) (k:Int) (h0:0≤k) (hk:k+(qG qA.ct xs:Nat)≤4611686018427387904) (hz:xs.length+qG qA.sz xs≤4194304):Pure Gm 348 [(.lst 4 ((mkL qA.mrk qA.ct xs k).map qA.enc) false),.int .i64 k] (.int .i64 (k+(qG qA.ct xs:Nat))):=qhM _ xs k (Nat.lt_succ_self _) h0 hk hz
end Go.Ab
namespace Go.Ab
open Go
set_option maxRecDepth 10000
set_option maxHeartbeats 2000000
attribute [local simp] qr qa zW
theorem qSZ {E:Ev} {l:List qB} {ks:List Fr1} {s m:qg} {h:List qC} {Q:qb→VSt→Prop} {k w:Nat} {z v:AV} {e:Env} (hl:v.cells.length=w) (hr:R E (.ops l::ks) ⟨(k,.slice w h.length 0 1 false)::s,m,h++[.row w [v] true]⟩ Q):
    Bsl E (some k) w 1 (fil e w [z] 0 (some v) []) l ks ⟨s,m,h⟩ Q:=by
  rw [qbN hl,qbM,qY8,qgJ];exact hr
theorem qVF {E:Ev} {l:List qB} {ks:List Fr1} {s m:qg} {h:List qC} {Q:qb→VSt→Prop} {t:Nat} {x:qA} {n:Nat} {cs:List AV} (h1:cs.length=4) (hr:R E (.ops l::ks) ⟨s,(t,(lay x.enc n).1)::m,h⟩ Q):Lst E t 0 4 (some (.agg cs)) (some (lay x.enc n).1) l ks ⟨s,m,h⟩ Q:=
  qK h1 (by rw [ZD (qA.plx x)];exact qA.ln (x:=x)) (by rw [qA.layE];exact ⟨_,rfl⟩) (by decide) hr
theorem n385 (x:qA):∀(_:x.sz≤1048576),Fresh Gm 385 [x.enc] x.enc:=by
  induction x using qA.ind with
  | _ x ih=>
  intro hz;have hL:=x.len_sz;have hse:=x.sz_eq;refine Fresh.intro [] [] g385 (by kernel_rfl) rfl (by simp [AV.trees,go_sem]) (qA.plx x) ?_;simp only [X3,qL,go_sem];refine qc qA.ln ?_;simp only [go_sem];refine wg (n401 x.Data (by omega)) ?_;simp only [qQT,qQU,List.nil_append,List.length_nil,go_sem];refine qK (k:=4) (by rfl) (by rfl) (by exact ⟨_,rfl⟩) (by decide) ?_;simp only [go_sem];refine Sem.loop (fun i:Nat=>i≤x.Kids.length) (fun i=>(⟨[(15,.lst 4 (x.Kids.map qA.enc) false),(16,.int .i64 (x.Kids.length:Nat)),(17,.int .i64 (i:Nat))],[(1,x.enc),(3,.agg [.int .i64 x.Kind,.int .i64 x.Value,.slice 1 0 0 x.Data.length false,.slice 4 1 0 i false]),(2,.agg [.int .i64 0,.int .i64 0,.nils,.nils])],(qP [.lst 1 (x.Data.map qE) false] 0).2++.row 4 (qP ((x.Kids.take i).map qA.enc) 2).1 true::(qP ((x.Kids.take i).map qA.enc) 2).2⟩:VSt)) (fun i=>x.Kids.length-i) 0 (by kernel_rfl) (Nat.zero_le _) ?_ ?_
  · refine Can.start (w:=4) (ps:=[.lst 1 (x.Data.map qE) false]) (b:=1) (by simp [AV.pls,AV.pl,jL (enc:=qE) (fun _=>rfl)]) (by simp [AV.rowss,AV.rows,UQ]) (by simp [qP,lay,lI]) ?_ ?_
    · exact ⟨⟨_,rfl,.tree (by simp [AV.tree,go_sem])⟩,⟨_,rfl,.tree rfl⟩,⟨_,rfl,.tree rfl⟩,trivial⟩
    · exact ⟨⟨_,rfl,.tree (by simp [go_sem])⟩,⟨_,rfl,.agg rfl (VR2s.cons (.tree rfl) (VR2s.cons (.tree rfl) (VR2s.cons (.slice (qR1 (by omega))) (VR2s.cons (.ph qXI) VR2s.nil)))).2⟩,⟨_,rfl,.tree rfl⟩,trivial⟩
  · intro i hi;simp only [go_sem];refine qD ?_ ?_<;>intro hc<;>simp only [hc,go_sem]
    · have hlt:i<x.Kids.length:=by have:=odT hc;omega
      have hm:=gMm hlt;have hk:=qA.kid_sz hm;simp only [List.getElem?_map,gEg hlt,Option.map_some,go_sem];refine qK (k:=4) (by rfl) (by simp [go_sem]) (qA.isAgg _) (by decide) ?_;simp only [go_sem];refine wg (ih _ hm (by omega)) ?_;simp only [go_sem];refine qSZ (w:=4) ((ZD (qA.plx x.Kids[i])).trans qA.ln) ?_;simp only [go_sem];have hA:(qP ((x.Kids.take i).map qA.enc) 2).1.length=i:=by rw [wU];simp;omega
      have hps:(qP [AV.lst 1 (x.Data.map qE) false] 0).2=[.row 1 (x.Data.map qE) true]:=by simp [qP,lay,lI]
      refine jM (len:=i) (el:=(qP ((x.Kids.take i).map qA.enc) 2).1) ja (by rw [hps];rfl) hA (by omega) ?_;simp only [go_sem];simp only [qe (show i<4611686018427387904 by omega)];refine qZ (i+1) (by omega) (by omega) ?_;have e:(x.Kids.take (i+1)).map qA.enc=(x.Kids.take i).map qA.enc++[qA.enc x.Kids[i]]:=by
        rw [List.take_succ_eq_append_getElem hlt,List.map_append];rfl
      refine Can.push (w:=4) (ps:=[.lst 1 (x.Data.map qE) false]) (A:=(x.Kids.take i).map qA.enc) (t:=x.Kids[i].enc) (b:=1) (by simp [AV.pls,AV.pl,jL (enc:=qE) (fun _=>rfl)]) (jL qA.plx _) (qA.plx _) (by simp [AV.rowss,AV.rows,UQ]) rfl ?_ ?_
        ⟨⟨_,rfl,.tree (by simp [AV.tree,go_sem])⟩,⟨_,rfl,.tree rfl⟩,⟨_,rfl,.tree rfl⟩,trivial⟩ ⟨⟨_,rfl,.tree (by simp [go_sem])⟩,⟨_,rfl,.agg rfl (VR2s.cons (.tree rfl) (VR2s.cons (.tree rfl) (VR2s.cons (.slice (qRP (by omega))) (VR2s.cons (.slice (qWQ.trans ?_)) VR2s.nil)))).2⟩,⟨_,rfl,.tree rfl⟩,trivial⟩
      · rw [hps];simp only [jK,List.cons_append,List.nil_append,List.set_cons_zero,List.set_cons_succ,List.append_assoc,List.length_cons,lAp,List.length_nil,Nat.zero_add,Nat.add_comm 1,Nat.reduceAdd,show AV.rowss ((x.Kids.take i).map qA.enc)+1+1=2+AV.rowss ((x.Kids.take i).map qA.enc) by omega]
      · rw [e]
      · rw [hps];simp only [lAp,List.length_cons,List.length_nil,jK,qt];congr 2;omega
    · obtain rfl:i=x.Kids.length:=by have:=odF hc;omega
      rw [List.take_length];refine qK (k:=4) (by rfl) (by rfl) (by exact ⟨_,rfl⟩) (by decide) ?_;simp only [go_sem];exact QF (t:=x.enc) (pre:=[]) (post:=[]) (qA.plx x) (by simp [zO,qA.layE,qt,AV.rows,UQ]) (by simp [qA.layE,lay,qP,qt,lI,AV.rows,UQ])
end Go.Ab
namespace Go.Ab
open Go
set_option maxRecDepth 10000
set_option maxHeartbeats 2000000
attribute [local simp] qr qa zW
inductive Bel:Int→qA→Prop
  | var {v n:Int} {d:List Int} (h:v<n):Bel n (.mk 1 v d [])
  | node {k v n:Int} {d:List Int} {ks:List qA} (hk:¬k=1) (h:∀(i:Nat) (hi:i<ks.length),Bel (n+qR k i) ks[i]):Bel n (.mk k v d ks)
theorem Bel.kid {n:Int} {x:qA} (h:Bel n x) {i:Nat} (hi:i<x.Kids.length):Bel (n+qR x.Kind i) x.Kids[i]:=by
  cases h with
  | var h=>simp [qA.Kids] at hi
  | node hk h=>exact h i hi
theorem qSH {α:Type} {p:Nat→α→Bool}:∀{xs:List α} {k:Nat},jH p xs k=false→∀(i:Nat) (h:i<xs.length),p (k+i) xs[i]=false
  |[],k,_=>fun i h=>by simp at h
  | x::xs,k,h=>by
    simp only [jH,Bool.or_eq_false_iff] at h;intro i hi;cases i with
    | zero=>exact h.1
    | succ i=>have:=qSH h.2 i (by simpa using hi);rw [show k+1+i=k+(i+1) by omega] at this;simpa using this
theorem JX {α β:Type} {f:Nat→α→β}:∀(xs:List α) (k i:Nat) (h:i<xs.length),(zC f xs k)[i]'(by rw [jv];exact h)=f (k+i) xs[i]
  | x::xs,k,0,_=>rfl
  | x::xs,k,i+1,h=>by
    have:=JX (f:=f) xs (k+1) i (by simpa using h);simp only [zC,List.getElem_cons_succ];rw [this,show k+1+i=k+(i+1) by omega]
theorem qPT:∀(x:qA) (n:Int),x.ok=true→x.above n=false→Bel n x:=qA.ind fun x ih n ho h=>by
  rw [x.above_eq] at h;have e:=x.eta;by_cases h1:x.Kind=1
  · rw [if_pos h1] at h;rw [QO ho h1,h1] at e;rw [←e];exact .var (by have:=odF h;omega)
  · rw [if_neg h1] at h;rw [←e];exact .node h1 fun i hi=>ih _ (gMm hi) _ (qv ho (gMm hi)) (by have:=qSH h i hi;rwa [Nat.zero_add] at this)
theorem qA.high_le (x:qA) (m:Int) (h1:x.Kind=1→x.Value≤m) (h0: -1≤m) (hk:∀y∈x.Kids,y.high≤m):x.high≤m:=by
  rw [x.high_eq];have:∀(ks:List qA) (n:Int),n≤m→(∀y∈ks,y.high≤m)→ks.foldl (fun n y=>if y.high<n then n else y.high) n≤m:=by
    intro ks
    induction ks with
    | nil=>intro n hn _;exact hn
    | cons a ks ih=>
      intro n hn h;rw [List.foldl_cons];refine ih _ ?_ fun y hy=>h y (by simp [hy]);split
      · exact hn
      · exact h a (by simp)
  refine this _ _ ?_ hk;split
  · rename_i h;exact h1 h
  · exact h0
theorem Bel.high {n:Int} {x:qA} (h:Bel n x):0≤n→x.high<n+x.dep:=by
  induction h with
  | @var v n d h=>
    intro hn;have hd:=(qA.mk 1 v d []).dep_eq;have:=(qA.mk 1 v d []).high_le (n+(qA.mk 1 v d []).dep-1) (fun _=>by show v≤_;omega) (by omega) (fun y hy=>by simp [qA.Kids] at hy);omega
  | @node k v n d ks hk h ih=>
    intro hn;have hd:=(qA.mk k v d ks).dep_eq;have:=(qA.mk k v d ks).high_le (n+(qA.mk k v d ks).dep-1) (fun h1=>absurd h1 hk) (by omega) (fun y hy=>by
      obtain ⟨i,hi,rfl⟩:=List.getElem_of_mem hy;have hkd:=qA.dep_kid hy;have hb:=jI k i;have:=ih i hi (by omega);simp only [qA.Kids] at hkd⊢;omega)
    omega
theorem Bel.shift {m:Int} {x:qA} (h:Bel m x):∀(a f n:Int),m=n+f→0≤a→0≤n→Bel (n+a+f) (x.shift a f):=by
  induction h with
  | @var v m d h=>
    intro a f n hm ha hn;rw [qA.shift_eq];refine .var ?_;show jY 1 v a f<_;unfold jY;split<;>omega
  | @node k v m d ks hk h ih=>
    intro a f n hm ha hn;rw [qA.shift_eq];refine .node hk fun i hi=> ?_;have hi2:i<ks.length:=by rw [jv] at hi;exact hi
    simp only [qA.Kids];rw [JX _ _ _ hi2,Nat.zero_add];have:=ih i hi2 a (f+qR k i) n (by omega) ha hn;show Bel (n+a+f+qR k i) (qA.shift a ks[i] (f+qR k i));rw [show n+a+f+qR k i=n+a+(f+qR k i) by omega];exact this
theorem Bel.put {m:Int} {x arg:qA} (h:Bel m x):∀(d n:Int),m=n+1+d→0≤d→0≤n→Bel n arg→Bel (n+d) (qA.put arg x d):=by
  induction h with
  | @var v m d h=>
    intro e n hm he hn ha;rw [qA.put_eq,if_pos (by rfl)];by_cases hv:v=e
    · rw [if_pos (by exact hv)];have:=ha.shift e 0 n (by omega) he hn;rwa [Int.add_zero] at this
    · rw [if_neg (by exact hv)];refine .var ?_;show wP v e<_;unfold wP;split<;>omega
  | @node k v m d ks hk h ih=>
    intro e n hm he hn ha;rw [qA.put_eq,if_neg (by exact hk)];refine .node hk fun i hi=> ?_;have hi2:i<ks.length:=by rw [jv] at hi;exact hi
    have hb:=jI k i;simp only [qA.Kids];rw [JX _ _ _ hi2,Nat.zero_add];have:=ih i hi2 (e+qR k i) n (by omega) (by omega) hn ha;show Bel (n+e+qR k i) (qA.put arg ks[i] (e+qR k i));rw [show n+e+qR k i=n+(e+qR k i) by omega];exact this
theorem qUR {body arg:qA} {n:Int} (hn:0≤n∧n≤80) (hb:Bel (n+1) body) (ha:Bel n arg) (ho:body.ok=true):
    (jA body arg=0∧jg body arg=qA.put arg body 0)∨(jA body arg=4∧(qA.put arg body 0).fits=false):=by
  have h1:=UK arg body 0 ho;have h2:=(hb.put (arg:=arg) 0 n (by omega) (by omega) hn.1 ha).high (by omega);unfold jg jA qA.fits;by_cases c1:400<(body.size:Int)+body.count 0*((arg.size:Int)-1)
  · rw [if_pos c1];exact .inr ⟨rfl,by rw [decide_eq_false (p:=(qA.put arg body 0).size≤400) (by omega),Bool.false_and]⟩
  rw [if_neg c1];by_cases c2:80<(qA.put arg body 0).dep
  · rw [if_pos c2];exact .inr ⟨rfl,by rw [decide_eq_false (p:=(qA.put arg body 0).dep≤80) (by omega),Bool.and_false]⟩
  rw [if_neg c2,if_neg (by omega),if_pos rfl];exact .inl ⟨rfl,rfl⟩
end Go.Ab
namespace Go.Ab
open Go
set_option maxRecDepth 10000
set_option maxHeartbeats 2000000
attribute [local simp] qr qa zW
theorem Bel.sub {n:Int} {x y:qA} {i:Nat} (h:Bel n x) (hy:x.Kids[i]?=some y) (hb:qR x.Kind i=0):Bel n y:=by
  obtain ⟨hi,rfl⟩:=List.getElem?_eq_some_iff.1 hy;have:=h.kid hi;rwa [hb,Int.add_zero] at this
theorem Bel.sub1 {n:Int} {x y:qA} {i:Nat} (h:Bel n x) (hy:x.Kids[i]?=some y) (hb:qR x.Kind i=1):Bel (n+1) y:=by
  obtain ⟨hi,rfl⟩:=List.getElem?_eq_some_iff.1 hy;have:=h.kid hi;rwa [hb] at this
theorem qU9 {a:qA} {L:List Int} {l n:Int} (ho:a.ok=true) (hb:Bel n a) (h:(qn a L l).2=0):Bel n (qn a L l).1:=by
  have hk:a.Kind=6→Bel n (zA a):=fun h6=>by
    obtain ⟨k,hk⟩:=zi ((qu ho).2 (by omega));have:zA a=k:=by unfold zA;rw [hk];rfl
    rw [this];exact hb.sub (i:=0) (by rw [hk];rfl) (by unfold qR;rw [if_neg (by omega)])
  unfold qn at h⊢;split
  · exact hb
  split
  · exact hb
  split
  · rename_i h6;exact hk h6.1
  split
  · exact hb
  split
  · rename_i h6;exact hk h6.2
  · rw [if_neg (by assumption),if_neg (by assumption),if_neg (by assumption),if_neg (by assumption),if_neg (by assumption)] at h;cases h
theorem qh0 {x a c:qA} (h3:x.Kind=3) (hK:x.Kids=[a,c]):qX x=if a.Kind=11 then 4 else if a.Kind=2 then (if c.Kind=2 then 2 else if c.Kind=11 then 4 else 0) else 0:=by
  unfold qX;rw [hK];simp only [];rw [if_neg (by omega),if_pos h3]
theorem qYX {b:qF} {I:List Bool} {x a c:qA} {l:Int} (h3:x.Kind=3) (hK:x.Kids=[a,c]):
    at1 b I x a c l=if a.Kind=2∧c.Kind=2 then (.mk 2 (opI x.Value a.Value c.Value) [] [],1) else (qV,0):=by
  have hr:=qh0 h3 hK;have h5:¬x.Kind=5:=by omega
  have h7:¬x.Kind=7:=by omega
  unfold at1;by_cases hc:a.Kind=2∧c.Kind=2
  · rw [if_neg (by omega),if_pos hc.1,if_pos hc.2] at hr;rw [if_pos hr,if_pos hc]
  · have hr2:qX x=4∨qX x=0:=by
      rw [hr];by_cases e:a.Kind=11
      · rw [if_pos e];exact .inl rfl
      rw [if_neg e];by_cases e2:a.Kind=2
      · rw [if_pos e2,if_neg (fun h=>hc ⟨e2,h⟩)];split
        · exact .inl rfl
        · exact .inr rfl
      · rw [if_neg e2];exact .inr rfl
    have n2:¬qX x=2:=by omega
    have n3:¬qX x=3:=by omega
    have n1:¬qX x=1:=by omega
    rw [if_neg n2,if_neg n3,if_neg n1,if_neg (fun h=>h5 h.1),if_neg (fun h=>h7 h.1),if_neg hc]
theorem qh2 {x a:qA} {ys:List qA} (h:x.Kind=10∨x.Kind=9) (hK:x.Kids=a::ys):qX x=3∨qX x=4∨qX x=0:=by
  unfold qX;rw [hK];simp only [];rw [if_neg (by omega),if_neg (by omega)];split
  · split
    · exact .inl rfl
    · split
      · exact .inr (.inl rfl)
      · exact .inr (.inr rfl)
  · split
    · split
      · exact .inl rfl
      · split
        · exact .inr (.inl rfl)
        · exact .inr (.inr rfl)
    · exact .inr (.inr rfl)
def Qm (o:qA×Int) (p:j5):Prop:=(p.2.2=0∧p.1=o.1)∨(p.2.2=4∧o.1.fits=false∧¬o.2=0)
theorem qYY {b:qF} {lim:Int} {x:qA} {l n:Int} (ho:x.ok=true) (hf:x.refs b.Defs.length=true) (hn:0≤n∧n≤80) (hb:Bel n x):
    Qm (atC b (qy b lim b.Defs.length) x l) (zF b (zp b) lim x l):=by
  classical
  have hrule:=qPQ (lim:=lim) (l:=l) ho hf;unfold Qm;cases hK:x.Kids with
  | nil=>
    left;unfold atC zF;rw [hK];exact ⟨rfl,rfl⟩
  | cons a ys=>
  have ham:a∈x.Kids:=by rw [hK];simp
  rw [Jh hK] at hrule⊢
  --the implementation's rule tells the case
  by_cases h3:x.Kind=3
  · left;obtain ⟨a',c,hK'⟩:=ze ((qu ho).1 (.inl h3));rw [hK'] at hK;cases hK;have er:zF b (zp b) lim x l=if a.Kind=2∧c.Kind=2 then (.mk 2 (opI x.Value a.Value c.Value) [] [],1,0) else (qV,0,0):=by
      unfold zF;rw [hK'];simp only [];rw [if_pos h3];rfl
    have ea:=qYX (b:=b) (I:=qy b lim b.Defs.length) (l:=l) h3 hK';rw [show ([c].headD qV)=c from rfl,ea,er];by_cases hc:a.Kind=2∧c.Kind=2
    · rw [if_pos hc,if_pos hc];exact ⟨rfl,rfl⟩
    · rw [if_neg hc,if_neg hc];exact ⟨rfl,rfl⟩
  by_cases h9:x.Kind=10∨x.Kind=9
  · left;unfold at1 zF;rw [hK];simp only [];rw [if_neg h3,if_pos h9];have hq:=qh2 h9 hK;have hn2:¬qX x=2∧¬qX x=1:=by clear hrule;omega
    have h5:¬x.Kind=5:=by clear hrule;omega
    have h7:¬x.Kind=7:=by clear hrule;omega
    rw [if_neg hn2.1];by_cases r3:qX x=3
    · rw [if_pos r3,if_pos r3];exact ⟨rfl,rfl⟩
    · rw [if_neg r3,if_neg r3,if_neg hn2.2,if_neg (fun h=>h5 h.1),if_neg (fun h=>h7 h.1)];exact ⟨rfl,rfl⟩
  by_cases h5:x.Kind=5
  · obtain ⟨a',c,hK'⟩:=ze ((qu ho).1 (by omega));rw [hK'] at hK;cases hK;have hr:qX x=if a.Kind=4 then 1 else if a.Kind=11 then 4 else 0:=by unfold qX;rw [hK'];simp only [];rw [if_pos h5]
    by_cases h4:a.Kind=4
    · rw [if_pos h4] at hr;obtain ⟨k,hk⟩:=zi ((qu (qv ho ham)).2 (.inl h4));have hk0:zA a=k:=by unfold zA;rw [hk];rfl
      have hba:Bel n a:=hb.sub (i:=0) (by rw [hK'];rfl) (by unfold qR;rw [if_neg (by omega)]);have hbc:Bel n c:=hb.sub (i:=1) (by rw [hK'];rfl) (by unfold qR;rw [if_neg (by omega)]);have hbk:Bel (n+1) k:=hba.sub1 (i:=0) (by rw [hk];rfl) (by unfold qR;rw [if_pos (.inl h4)]);have hko:=qv (qv ho ham) (show k∈a.Kids by rw [hk];simp);have ea:at1 b (qy b lim b.Defs.length) x a c l=(qA.put c k 0,3):=by
        unfold at1;rw [if_neg (by omega),if_neg (by omega),if_pos hr,hk0]
      have er:zF b (zp b) lim x l=(jg k c,3,jA k c):=by
        unfold zF;rw [hK'];simp only [];rw [if_neg h3,if_neg h9,if_pos h5,if_pos h4,hk0];rfl
      rw [show ([c].headD qV)=c from rfl,ea,er];rcases qUR hn hbk hbc hko with ⟨i1,i2⟩ | ⟨i1,i2⟩
      · exact .inl ⟨i1,i2⟩
      · exact .inr ⟨i1,i2,by show ¬(3:Int)=0;decide⟩
    · left;have hrr:¬qX x=2∧¬qX x=3∧¬qX x=1:=by rw [hr,if_neg h4];split<;>omega
      have e1:zF b (zp b) lim x l=if wT b (zp b) lim x l=true then (zP (b.Defs.getD a.Value.toNat qV) c,5,0) else (qV,0,0):=by
        unfold zF;rw [hK'];simp only [];rw [if_neg h3,if_neg h9,if_pos h5,if_neg h4];rfl
      have e2:at1 b (qy b lim b.Defs.length) x a c l=if x.Kind=5∧a.Kind=11∧(qy b lim b.Defs.length).getD a.Value.toNat false=true∧l+(b.Defs.getD a.Value.toNat qV).boxes≤8 then (zP (b.Defs.getD a.Value.toNat qV) c,5) else (qV,0):=by
        unfold at1;rw [if_neg hrr.1,if_neg hrr.2.1,if_neg hrr.2.2];split
        · rfl
        · rw [if_neg (by omega)]
      rw [show ([c].headD qV)=c from rfl] at hrule⊢;rw [e1,e2] at hrule⊢;by_cases q:wT b (zp b) lim x l=true
      · rw [if_pos q] at hrule⊢;split at hrule
        · rename_i q2;rw [if_pos q2];exact ⟨rfl,rfl⟩
        · cases hrule
      · rw [if_neg q] at hrule⊢;split at hrule
        · cases hrule
        · rename_i q2;rw [if_neg q2];exact ⟨rfl,rfl⟩
  have hr:qX x=0:=ZU h5 h3 (fun h=>h9 (.inr h)) (fun h=>h9 (.inl h));by_cases h7:x.Kind=7
  · obtain ⟨a',c,hK'⟩:=ze ((qu ho).1 (by omega));rw [hK'] at hK;cases hK;have ea:at1 b (qy b lim b.Defs.length) x a c l=if (jC x c l).2=true then ((jC x c l).1,4) else (qV,0):=by
      unfold at1;rw [if_neg (by omega),if_neg (by omega),if_neg (by omega),if_neg (fun h=>h5 h.1)];by_cases e:(jC x c l).2=true
      · rw [if_pos ⟨h7,e⟩,if_pos e]
      · rw [if_neg (fun h=>e h.2),if_neg e]
    have er:zF b (zp b) lim x l=if (zB x l).2=0 then (jg c (zB x l).1,4,jA c (zB x l).1) else (qV,0,0):=by
      unfold zF;rw [hK'];simp only [];rw [if_neg h3,if_neg h9,if_neg h5,if_pos h7];rfl
    rw [show ([c].headD qV)=c from rfl,ea,er];unfold jC;by_cases h0:(zB x l).2=0
    · rw [if_pos h0,if_pos h0,if_pos rfl];have hba:Bel n a:=hb.sub (i:=0) (by rw [hK'];rfl) (by unfold qR;rw [if_neg (by omega)]);have hbc:Bel (n+1) c:=hb.sub1 (i:=1) (by rw [hK'];rfl) (by unfold qR;rw [if_pos (.inr ⟨h7,rfl⟩)]);have e:zB x l=qn a (c.levels 0 l) l:=by unfold zB;rw [hK']
      have hbl:=qU9 (qv ho ham) hba (by rw [←e];exact h0);rw [←e] at hbl;have hco:=qv ho (show c∈x.Kids by rw [hK'];simp);rcases qUR hn hbc hbl hco with ⟨i1,i2⟩ | ⟨i1,i2⟩
      · exact .inl ⟨i1,i2⟩
      · exact .inr ⟨i1,i2,by show ¬(4:Int)=0;decide⟩
    · rw [if_neg h0,if_neg h0,if_neg (by decide)];exact .inl ⟨rfl,rfl⟩
  · left;unfold at1 zF;rw [hK];simp only [];have n2:¬qX x=2:=by omega
    have n3:¬qX x=3:=by omega
    have n1:¬qX x=1:=by omega
    rw [if_neg h3,if_neg h9,if_neg h5,if_neg h7,if_neg n2,if_neg n3,if_neg n1,if_neg (fun h=>h5 h.1),if_neg (fun h=>h7 h.1)];exact ⟨rfl,rfl⟩
theorem qbT {k v:Int} {d:List Int} {ks:List qA} {y:qA} (hy:y∈ks) (h:y.fits=false):(qA.mk k v d ks).fits=false:=by
  have h1:=zV (f:=qA.size) hy;have h2:=(qA.mk k v d ks).size_eq;have h3:=qA.dep_kid (x:=qA.mk k v d ks) (y:=y) hy;unfold qA.fits at h⊢;simp only [Bool.and_eq_false_iff,decide_eq_false_iff_not] at h⊢;simp only [qA.Kids] at h2;omega
theorem qT6 {x:qA} {f:qA→Int→qA×Int} {g:qA→Int→j5} {l:Int}:∀(n i:Nat),i+n=x.Kids.length→(∀(j:Nat) (h:j<x.Kids.length),Qm (f x.Kids[j] l) (g x.Kids[j] l)∧(f x.Kids[j] l).2=(g x.Kids[j] l).2.1)→Qm (jf x ((x.Kids.drop i).map f) i l) (wK x ((x.Kids.drop i).map g) i l)
  | 0,i,h,_=>by
    rw [show x.Kids.drop i=[] from List.drop_eq_nil_of_le (by omega)];exact .inl ⟨rfl,rfl⟩
  | n+1,i,h,hs=>by
    have hlt:i<x.Kids.length:=by omega
    rw [Vc hlt,Q6 hlt];obtain ⟨h1,h2⟩:=hs i hlt;by_cases h0:(g x.Kids[i] l).2.1=0
    · rw [if_pos h0,if_pos (by omega)];exact qT6 n (i+1) (by omega) hs
    · rw [if_neg h0,if_neg (by omega)];rcases h1 with ⟨q1,q2⟩ | ⟨q1,q2,q3⟩
      · exact .inl ⟨q1,by rw [q2]⟩
      · exact .inr ⟨q1,qbT (List.mem_of_getElem? (List.getElem?_set_self hlt)) q2,q3⟩
theorem qjS {b:qF} {lim:Int}:∀(x:qA) (l n:Int),x.ok=true→x.refs b.Defs.length=true→0≤n→n+x.dep≤80→Bel n x→Qm (zU b (qy b lim b.Defs.length) x l) (jT b (zp b) lim x l):=qA.ind fun x ih l n ho hf hn hd hb=>by
  rw [Za,WJ];have e:=qPQ (lim:=lim) (l:=l) ho hf;by_cases h0:(zF b (zp b) lim x l).2.1=0
  · rw [if_pos h0,if_pos (by omega)];refine qT6 x.Kids.length 0 (by omega) fun j hj=> ?_;have hm:=gMm hj;have hkd:=qA.dep_kid hm;have hbi:=jI x.Kind j;exact ⟨ih _ hm _ _ (qv ho hm) (jy hf hm) (by omega) (by omega) (hb.kid hj),qXL _ _ (qv ho hm) (jy hf hm)⟩
  · rw [if_neg h0,if_neg (by omega)];exact qYY ho hf ⟨hn,by omega⟩ hb
end Go.Ab
namespace Go.Ab
open Go
set_option maxRecDepth 10000
set_option maxHeartbeats 2000000
attribute [local simp] qr qa zW
theorem qVL {α:Type} {f:Nat→α→α}:∀{xs:List α} {k:Nat},(∀x∈xs,∀k,f k x=x)→zC f xs k=xs
  |[],_,_=>rfl
  | x::xs,k,h=>by simp only [zC,h x (by simp) k,qVL (xs:=xs) fun y hy=>h y (by simp [hy])]
theorem qjD:∀(x:qA) (f:Int),x.shift 0 f=x:=qA.ind fun x ih f=>by
  rw [qA.shift_eq,qVL fun y hy k=>ih y hy _];have:jY x.Kind x.Value 0 f=x.Value:=by unfold jY;split<;>omega
  rw [this,qA.eta]
theorem WK (x:qA) (n:Nat):(lay x.enc n).1.part 0 (some 4)=some (lay x.enc n).1:=qU5 (qA.plx x) ⟨_,qA.enc_eq x⟩ qA.ln
end Go.Ab
namespace Go.Ab
open Go
set_option maxRecDepth 10000
set_option maxHeartbeats 2000000
attribute [local simp] qr qa zW
theorem jB (x:qF) (n:Nat):(lay x.enc n).1.part 0 (some 1)=some (lay x.enc n).1:=qU5 (qF.plx x) ⟨_,rfl⟩ rfl
theorem qQS (x:qF) (n:Nat):(lay x.enc n).1.cells.length=1:=by rw [ZD (qF.plx x)];rfl
theorem qQR (x:qF) (n:Nat):∃cs,(lay x.enc n).1=.agg cs:=⟨_,congrArg Prod.fst (qF.layE x n)⟩
end Go.Ab
namespace Go.Ab
open Go
set_option maxRecDepth 10000
set_option maxHeartbeats 2000000
theorem Q7 {α β:Type} {f:Nat→α→List Int} {g:Nat→β→List Int}:∀{xs:List α} {ys:List β} {k:Nat},xs.length=ys.length→(∀(i:Nat) (h:i<xs.length) (h2:i<ys.length),f (k+i) xs[i]=g (k+i) ys[i])→qi f xs k=qi g ys k
  |[],[],_,_,_=>rfl
  | x::xs,y::ys,k,hl,h=>by
    have h0:=h 0 (by simp) (by simp);simp only [qi];rw [Q7 (xs:=xs) (ys:=ys) (k:=k+1) (by simpa using hl) fun i h1 h2=>by
      have:=h (i+1) (by simpa using h1) (by simpa using h2);rw [show k+1+i=k+(i+1) by omega];simpa using this]
    rw [show f k x=g k y from by simpa using h0]
  |[],_::_,_,hl,_=>by simp at hl
  | _::_,[],_,hl,_=>by simp at hl
theorem WG {α β:Type} {f:Nat→β→List Int} {g:Nat→α→β} {xs:List α} {k:Nat}:qi f (zC g xs k) k=qi (fun i x=>f i (g i x)) xs k:=
  Q7 (jv _ _ _) fun i h h2=>by rw [JX _ _ _ h2]
theorem Ve {α:Type} {f:Nat→α→List Int} {n:Int}:∀{xs:List α} {k:Nat},n∈qi f xs k↔∃(i:Nat) (h:i<xs.length),n∈f (k+i) xs[i]
  |[],k=>by simp [qi]
  | x::xs,k=>by
    simp only [qi,List.mem_append];rw [Ve (xs:=xs) (k:=k+1)];constructor
    · rintro (h | ⟨i,hi,h⟩)
      · exact ⟨0,by simp,h⟩
      · exact ⟨i+1,by simpa using hi,by rw [show k+(i+1)=k+1+i by omega];simpa using h⟩
    · rintro ⟨i,hi,h⟩;cases i with
      | zero=>exact .inl (by simpa using h)
      | succ i=>exact .inr ⟨i,by simpa using hi,by rw [show k+1+i=k+(i+1) by omega];simpa using h⟩
theorem qUA {α:Type} {f:Nat→α→List Int} {g:Int→Int}:∀{xs:List α} {k:Nat},(qi f xs k).map g=qi (fun i x=>(f i x).map g) xs k
  |[],_=>rfl
  | x::xs,k=>by simp only [qi,List.map_append,qUA (xs:=xs)]
theorem qT8 {α:Type} {f:Nat→α→List Int} {g:Int→List Int}:∀{xs:List α} {k:Nat},(qi f xs k).flatMap g=qi (fun i x=>(f i x).flatMap g) xs k
  |[],_=>rfl
  | x::xs,k=>by simp only [qi,List.flatMap_append,qT8 (xs:=xs)]
theorem qUB {α:Type} {f g h:Nat→α→List Int}:∀{xs:List α} {k:Nat},(∀(i:Nat) (q:i<xs.length),(f (k+i) xs[i]).Perm (g (k+i) xs[i]++h (k+i) xs[i]))→(qi f xs k).Perm (qi g xs k++qi h xs k)
  |[],_,_=>by simp [qi]
  | x::xs,k,hp=>by
    have h0:=hp 0 (by simp);have h1:=qUB (f:=f) (g:=g) (h:=h) (xs:=xs) (k:=k+1) fun i q=>by
      have:=hp (i+1) (by simpa using q);rw [show k+1+i=k+(i+1) by omega];simpa using this
    simp only [qi];have h0:(f k x).Perm (g k x++h k x):=by simpa using h0
    refine (h0.append h1).trans ?_;rw [List.append_assoc,List.append_assoc];refine List.Perm.append_left _ ?_;rw [←List.append_assoc,←List.append_assoc];exact List.Perm.append_right _ List.perm_append_comm
theorem qQ1 (a:Int):∀(x:qA) (v l:Int),x.levels v (l+a)=(x.levels v l).map (· +a):=qA.ind fun x ih v l=>by
  rw [x.levels_eq,x.levels_eq];split
  · split<;>rfl
  · rw [qUA];refine Q7 rfl fun i h _=> ?_;rw [show l+a+qW x.Kind=l+qW x.Kind+a by omega];exact ih _ (gMm h) _ _
theorem JA {k v:Int} {d:List Int} {ks:List qA} {u l:Int}:(qA.mk k v d ks).levels u l=if k=1 then (if v=u then [l] else []) else qi (fun i y=>y.levels (u+qR k i) (l+qW k)) ks 0:=qA.levels_eq _ _ _
theorem Zb {k v:Int} {d:List Int} {ks:List qA} {l:Int}:(qA.mk k v d ks).strat l=(decide (l≤8)&&zM (.mk k v d ks) l&&ks.all fun y=>y.strat (l+qW k)):=qA.strat_eq _ _
theorem qXA (a:Int) (ha:0≤a):∀(x:qA) (f v l:Int),v<f→(x.shift a f).levels v l=x.levels v l:=qA.ind fun x ih f v l hv=>by
  rw [qA.shift_eq,JA,x.levels_eq];by_cases hk:x.Kind=1
  · rw [if_pos hk,if_pos hk];unfold jY;by_cases hf:x.Kind=1∧f≤x.Value
    · rw [if_pos hf,if_neg (by omega),if_neg (by omega)]
    · rw [if_neg hf]
  · rw [if_neg hk,if_neg hk,WG];exact Q7 rfl fun i h _=>ih _ (gMm h) _ _ _ (by omega)
theorem qi9 (a:Int):∀(x:qA) (f v l:Int),f≤v→v<f+a→(x.shift a f).levels v l=[]:=qA.ind fun x ih f v l hv hv2=>by
  rw [qA.shift_eq,JA];by_cases hk:x.Kind=1
  · rw [if_pos hk];unfold jY;by_cases hf:x.Kind=1∧f≤x.Value
    · rw [if_pos hf,if_neg (by omega)]
    · rw [if_neg hf,if_neg (fun e=>hf ⟨hk,by omega⟩)]
  · rw [if_neg hk,WG];have:∀(xs:List qA) (g:Nat→qA→List Int) (k:Nat),(∀y∈xs,∀k,g k y=[])→qi g xs k=[]:=by
      intro xs g
      induction xs with
      | nil=>intro k _;rfl
      | cons y xs ihx=>intro k h;simp only [qi];rw [h y (by simp),ihx _ fun z hz=>h z (by simp [hz])];rfl
    exact this _ _ _ fun y hy k=>ih y hy _ _ _ (by omega) (by omega)
theorem qi8 (a:Int):∀(x:qA) (f v l:Int),f+a≤v→0≤a→(x.shift a f).levels v l=x.levels (v-a) l:=qA.ind fun x ih f v l hv ha=>by
  rw [qA.shift_eq,JA,x.levels_eq];by_cases hk:x.Kind=1
  · rw [if_pos hk,if_pos hk];unfold jY;by_cases hf:x.Kind=1∧f≤x.Value
    · rw [if_pos hf];by_cases e:x.Value+a=v
      · rw [if_pos e,if_pos (by omega)]
      · rw [if_neg e,if_neg (by omega)]
    · rw [if_neg hf,if_neg (fun e=>hf ⟨hk,by omega⟩),if_neg (fun e=>hf ⟨hk,by omega⟩)]
  · rw [if_neg hk,if_neg hk,WG];refine Q7 rfl fun i h _=> ?_;rw [ih _ (gMm h) _ _ _ (by omega) ha];congr 1;omega
theorem JX? {α β:Type} {f:Nat→α→β} {xs:List α} {i:Nat}:(zC f xs 0)[i]?=(xs[i]?).map (f i):=by
  by_cases h:i<xs.length
  · rw [gEg (by rw [jv];exact h),gEg h,JX _ _ _ h,Nat.zero_add];rfl
  · rw [List.getElem?_eq_none (by rw [jv];omega),List.getElem?_eq_none (by omega)];rfl
theorem WR {k v:Int} {d:List Int} {ks:List qA} {l:Int}:zM (.mk k v d ks) l=if k=4 then (match ks[0]? with
    | some y=>decide ((y.levels 0 l).length≤1)&&(y.levels 0 l).all (fun n=>decide (n=l))
    | none=>true)
  else if k=7 then (match ks[1]? with
    | some y=>(y.levels 0 l).all (fun n=>decide (n=l)) || (y.levels 0 l).all (fun n=>decide (n=l+1))
    | none=>true)
  else true:=rfl
theorem qVG {k v v':Int} {d d':List Int} {ks:List qA} {g:Nat→qA→qA} {l:Int} (h4:k=4→∀y∈ks,(g 0 y).levels 0 l=y.levels 0 l) (h7:k=7→∀y∈ks,(g 1 y).levels 0 l=y.levels 0 l):
    zM (.mk k v d (zC g ks 0)) l=zM (.mk k v' d' ks) l:=by
  rw [WR,WR,JX?,JX?];by_cases e4:k=4
  · rw [if_pos e4,if_pos e4];cases hk:ks[0]? with
    | none=>rfl
    | some y=>simp only [Option.map_some];rw [h4 e4 y (List.mem_of_getElem? hk)]
  · rw [if_neg e4,if_neg e4];by_cases e7:k=7
    · rw [if_pos e7,if_pos e7];cases hk:ks[1]? with
      | none=>rfl
      | some y=>simp only [Option.map_some];rw [h7 e7 y (List.mem_of_getElem? hk)]
    · rw [if_neg e7,if_neg e7]
theorem VC:qR 4 0=1:=by unfold qR;rw [if_pos (.inl rfl)]
theorem VD:qR 7 1=1:=by unfold qR;rw [if_pos (.inr ⟨rfl,rfl⟩)]
theorem qVK {α β:Type} {f:Nat→α→β} {p:β→Bool} {q:α→Bool}:∀{xs:List α} {k:Nat},(∀x∈xs,∀k,p (f k x)=q x)→(zC f xs k).all p=xs.all q
  |[],_,_=>rfl
  | x::xs,k,h=>by simp only [zC,List.all_cons,h x (by simp) k,qVK (xs:=xs) fun y hy=>h y (by simp [hy])]
theorem qjC (a:Int) (ha:0≤a):∀(x:qA) (f l:Int),0≤f→(x.shift a f).strat l=x.strat l:=qA.ind fun x ih f l hf=>by
  rw [qA.shift_eq,Zb,x.strat_eq];have hl:zM (.mk x.Kind (jY x.Kind x.Value a f) x.Data (zC (fun i y=>y.shift a (f+qR x.Kind i)) x.Kids 0)) l=zM x l:=by
    have:=qVG (k:=x.Kind) (v:=jY x.Kind x.Value a f) (v':=x.Value) (d:=x.Data) (d':=x.Data) (ks:=x.Kids) (g:=fun i y=>y.shift a (f+qR x.Kind i)) (l:=l)
      (fun e y _=>qXA a ha y _ 0 l (by rw [e,VC];omega)) (fun e y _=>qXA a ha y _ 0 l (by rw [e,VD];omega))
    rwa [qA.eta] at this
  rw [hl];rw [qVK fun y hy k=>ih y hy _ _ (by have:=jI x.Kind k;omega)]
theorem qWC {arg:qA}:∀(x:qA) (d v l:Int),0≤v→v<d→(qA.put arg x d).levels v l=x.levels v l:=qA.ind fun x ih d v l hv hd=>by
  rw [qA.put_eq];by_cases hk:x.Kind=1
  · rw [if_pos hk,x.levels_eq,if_pos hk];by_cases hx:x.Value=d
    · rw [if_pos hx,qi9 d arg 0 v l hv (by omega),if_neg (by omega)]
    · rw [if_neg hx,JA,if_pos rfl];unfold wP;by_cases h:d<x.Value
      · rw [if_pos h,if_neg (by omega),if_neg (by omega)]
      · rw [if_neg h]
  · rw [if_neg hk,JA,x.levels_eq];rw [if_neg hk,if_neg hk,WG];exact Q7 rfl fun i h _=>ih _ (gMm h) _ _ _ (by have:=jI x.Kind (0+i);omega) (by omega)
theorem qWB {arg:qA}:∀(x:qA) (d v l:Int),0≤d→d≤v→((qA.put arg x d).levels v l).Perm (x.levels (v+1) l++(x.levels d l).flatMap fun n=>arg.levels (v-d) n):=qA.ind fun x ih d v l hd hv=>by
  rw [qA.put_eq];by_cases hk:x.Kind=1
  · rw [if_pos hk,x.levels_eq,if_pos hk,x.levels_eq,if_pos hk];by_cases hx:x.Value=d
    · rw [if_pos hx,if_neg (by omega),if_pos hx,qi8 d arg 0 v l (by omega) hd];simp
    · rw [if_neg hx,if_neg hx,JA,if_pos rfl];unfold wP;by_cases h:d<x.Value
      · rw [if_pos h];by_cases e:x.Value-1=v
        · rw [if_pos e,if_pos (by omega)];simp
        · rw [if_neg e,if_neg (by omega)];simp
      · rw [if_neg h,if_neg (by omega),if_neg (by omega)];simp
  · rw [if_neg hk,JA,x.levels_eq,x.levels_eq];rw [if_neg hk,if_neg hk,if_neg hk,WG,qT8];refine qUB fun i h=> ?_;have hb:=jI x.Kind (0+i);have:=ih _ (gMm h) (d+qR x.Kind (0+i)) (v+qR x.Kind (0+i)) (l+qW x.Kind) (by omega) (by omega);rw [show v+qR x.Kind (0+i)+1=v+1+qR x.Kind (0+i) by omega,show v+qR x.Kind (0+i)-(d+qR x.Kind (0+i))=v-d by omega] at this;exact this
theorem wR {x y:qA} {l:Int} (h:x.strat l=true) (hy:y∈x.Kids):y.strat (l+qW x.Kind)=true:=by
  rw [x.strat_eq] at h;simp only [bAt,List.all_eq_true] at h;exact h.2 y hy
theorem J5 {x:qA} {l:Int} (h:x.strat l=true):l≤8∧zM x l=true:=by
  rw [x.strat_eq] at h;simp only [bAt,decide_eq_true_eq] at h;exact h.1
theorem qWG {arg:qA}:∀(x:qA) (d l:Int),0≤d→x.strat l=true→(∀n∈x.levels d l,arg.strat n=true)→(qA.put arg x d).strat l=true:=qA.ind fun x ih d l hd hs ha=>by
  have hlv:=J5 hs;rw [qA.put_eq];by_cases hk:x.Kind=1
  · rw [if_pos hk];rw [x.levels_eq,if_pos hk] at ha;by_cases hx:x.Value=d
    · rw [if_pos hx,qjC d hd arg 0 l (by omega)];exact ha l (by rw [if_pos hx];simp)
    · rw [if_neg hx,Zb];simp only [List.all_nil,Bool.and_true,bAt,decide_eq_true_eq];exact ⟨hlv.1,rfl⟩
  · rw [if_neg hk,Zb];have hl:zM (.mk x.Kind x.Value x.Data (zC (fun i y=>qA.put arg y (d+qR x.Kind i)) x.Kids 0)) l=zM x l:=by
      have:=qVG (k:=x.Kind) (v:=x.Value) (v':=x.Value) (d:=x.Data) (d':=x.Data) (ks:=x.Kids) (g:=fun i y=>qA.put arg y (d+qR x.Kind i)) (l:=l)
        (fun e y _=>qWC y _ 0 l (by omega) (by rw [e,VC];omega)) (fun e y _=>qWC y _ 0 l (by omega) (by rw [e,VD];omega))
      rwa [qA.eta] at this
    rw [hl];simp only [bAt,decide_eq_true_eq];refine ⟨hlv, ?_⟩;rw [List.all_eq_true];intro z hz;obtain ⟨i,hi,rfl⟩:=List.getElem_of_mem hz;have hi2:i<x.Kids.length:=by rw [jv] at hi;exact hi
    rw [JX _ _ _ hi2];have hm:=gMm hi2;refine ih _ hm _ _ (by have:=jI x.Kind (0+i);omega) (wR hs hm) fun n hn=>ha n ?_;rw [x.levels_eq,if_neg hk];exact Ve.2 ⟨i,hi2,hn⟩
theorem qeE:∀(x:qA) (v l n:Int),x.strat l=true→n∈x.levels v l→n≤8:=qA.ind fun x ih v l n hs hn=>by
  rw [x.levels_eq] at hn;split at hn
  · split at hn
    · simp at hn;subst hn;exact (J5 hs).1
    · cases hn
  · obtain ⟨i,hi,h⟩:=Ve.1 hn;exact ih _ (gMm hi) _ _ n (wR hs (gMm hi)) h
theorem qY3 {m:Int} {x:qA} (h:Bel m x):∀(v l:Int),m≤v→x.levels v l=[]:=by
  induction h with
  | @var u m d h=>intro v l hv;rw [qA.levels_eq,qA.mk_kind,if_pos rfl,qA.mk_value,if_neg (by omega)]
  | @node k u m d ks hk h ih=>
    intro v l hv;rw [JA,if_neg hk];refine List.eq_nil_iff_forall_not_mem.2 fun n hn=> ?_;obtain ⟨i,hi,q⟩:=Ve.1 hn;rw [Nat.zero_add,ih i hi _ _ (by omega)] at q;cases q
end Go.Ab
namespace Go.Ab
open Go
set_option maxRecDepth 10000
set_option maxHeartbeats 2000000
attribute [local simp] qr qa zW
def jw (n:Int) (x:qA):Bool:=inI x.Kids.length (shp x.Kind).1.1 (shp x.Kind).1.2&&inI x.Data.length (shp x.Kind).2.1 (shp x.Kind).2.2&&(if x.Kind=1 then decide (0≤x.Value) else jj x.Kind x.Value)&&x.Data.all jo&&
  (!(decide (x.Kind=11)&&decide (n≤x.Value))&&x.Data.all (fun k=>decide (k<n)))
def qA.ow (n:Int):qA→Bool:=qA.fold fun x rs=>jw n x&&rs.all id
theorem qA.ow_eq (n:Int) (x:qA):x.ow n=(jw n x&&x.Kids.all (qA.ow n)):=by unfold qA.ow;rw [qA.fold_eq];simp
theorem wX {n:Int} {x y:qA} (h:x.ow n=true) (hm:y∈x.Kids):y.ow n=true:=by
  rw [qA.ow_eq,bAt,List.all_eq_true] at h;exact h.2 y hm
theorem QR {n:Int} {x:qA} (h:x.ow n=true):jw n x=true:=by rw [qA.ow_eq,bAt] at h;exact h.1
theorem qRD {n:Int} {k v v':Int} {d:List Int} {ks ks':List qA} (h:(qA.mk k v d ks).ow n=true) (hl:ks'.length=ks.length) (hv:k=1→0≤v') (hv2:¬k=1→v'=v) (hk:∀y∈ks',y.ow n=true):(qA.mk k v' d ks').ow n=true:=by
  have h1:=QR h;rw [qA.ow_eq,bAt,List.all_eq_true];refine ⟨?_,hk⟩;unfold jw at h1⊢;simp only [qA.mk_kind,qA.mk_value,qA.mk_data,qA.mk_kids,hl] at h1⊢;by_cases e:k=1
  · have:=hv e;simp only [e,if_true,bAt,decide_eq_true_eq] at h1⊢;refine ⟨⟨⟨h1.1.1.1,decide_eq_true this⟩,h1.1.2⟩, ?_,h1.2.2⟩;simp
  · rw [hv2 e];exact h1
theorem qgP {n:Int} {x:qA} (h:zo x=true) (hr:(!(decide (x.Kind=11)&&decide (n≤x.Value))&&x.Data.all (fun k=>decide (k<n)))=true):jw n x=true:=by
  unfold jw;unfold zo at h;rw [hr,Bool.and_true];by_cases e:x.Kind=1
  · simp only [e,if_true,bAt,decide_eq_true_eq] at h⊢;refine ⟨⟨h.1.1, ?_⟩,h.2⟩;have:=h.1.2;unfold jj inI at this;simp at this;exact this.1
  · simp only [if_neg e];exact h
theorem qRE {n:Int}:∀x:qA,x.ok=true→x.refs n=true→x.ow n=true:=qA.ind fun x ih h hr=>by
  have h2:=hr;rw [qA.refs_eq,bAt] at h2;rw [qA.ow_eq,bAt,List.all_eq_true];exact ⟨qgP (w3 h) h2.1,fun y hy=>ih y hy (qv h hy) (jy hr hy)⟩
theorem qhD {n:Int}:∀x:qA,x.ow n=true→x.refs n=true:=qA.ind fun x ih h=>by
  have h1:=QR h;rw [qA.refs_eq,bAt,List.all_eq_true];unfold jw at h1;rw [bAt] at h1;exact ⟨h1.2,fun y hy=>ih y hy (wX h hy)⟩
theorem qhC {n:Int} {m:Int} {x:qA} (hB:Bel m x):x.ow n=true→m+x.dep≤256→x.ok=true:=by
  induction hB with
  | @var v m d hv=>
    intro h hm;have h1:=QR h;have hd:=(qA.mk 1 v d []).dep_eq;rw [qA.ok_eq,bAt];refine ⟨?_,rfl⟩;unfold jw at h1;unfold zo;simp only [qA.mk_kind,qA.mk_value,if_true,bAt] at h1⊢;refine ⟨⟨h1.1.1.1, ?_⟩,h1.1.2⟩;have h0:=odT h1.1.1.2;unfold jj inI;rw [if_pos rfl,bAt];exact ⟨decide_eq_true h0,decide_eq_true (by omega)⟩
  | @node k v m d ks hk hb ih=>
    intro h hm;have h1:=QR h;rw [qA.ok_eq,bAt,List.all_eq_true];constructor
    · unfold jw at h1;unfold zo;simp only [qA.mk_kind,hk,if_false,bAt] at h1⊢;exact h1.1
    · intro y hy;obtain ⟨i,hi,rfl⟩:=List.getElem_of_mem hy;have hkd:=qA.dep_kid (x:=qA.mk k v d ks) hy;have hb2:=jI k i;exact ih i hi (wX h hy) (by simp only [qA.Kids] at hkd;omega)
theorem qjA {n a:Int} (ha:0≤a):∀(x:qA) (f:Int),x.ow n=true→(x.shift a f).ow n=true:=qA.ind fun x ih f h=>by
  rw [qA.shift_eq];refine qRD (v:=x.Value) (ks:=x.Kids) (by rw [x.eta];exact h) (jv _ _ _) (fun e=> ?_) (fun e=> ?_) fun y hy=> ?_
  · have h1:=QR h;unfold jw at h1;simp only [e,if_true,bAt,decide_eq_true_eq] at h1;unfold jY;have:=h1.1.1.2;split<;>omega
  · unfold jY;rw [if_neg fun q=>e q.1]
  · obtain ⟨z,hz,i,rfl⟩:=V3 hy;exact ih z hz _ (wX h hz)
theorem qWD {n:Int} {arg:qA} (ha:arg.ow n=true):∀(x:qA) (d:Int),0≤d→x.ow n=true→(qA.put arg x d).ow n=true:=qA.ind fun x ih d hd h=>by
  rw [qA.put_eq];by_cases hk:x.Kind=1
  · rw [if_pos hk];by_cases hx:x.Value=d
    · rw [if_pos hx];exact qjA hd arg 0 ha
    · rw [if_neg hx];have h1:=QR h;unfold jw at h1;simp only [hk,if_true,bAt,decide_eq_true_eq] at h1;rw [qA.ow_eq,bAt];refine ⟨?_,rfl⟩;unfold jw;simp only [qA.mk_kind,qA.mk_value,qA.mk_data,qA.mk_kids,if_true];have h0:0≤x.Value:=h1.1.1.2;have h2:0≤wP x.Value d:=by unfold wP;split<;>omega
      simp [shp,inI,h2]
  · rw [if_neg hk];refine qRD (v:=x.Value) (ks:=x.Kids) (by rw [x.eta];exact h) (jv _ _ _) (fun e=>absurd e hk) (fun e=>rfl) fun y hy=> ?_;obtain ⟨z,hz,i,rfl⟩:=V3 hy;exact ih z hz _ (by have:=jI x.Kind i;omega) (wX h hz)
theorem qSL {n:Int} {f a:qA} (hf:f.ow n=true) (ha:a.ow n=true):(zP f a).ow n=true:=by
  rw [qA.ow_eq];simp [zP,jw,qA.Kind,qA.Value,qA.Kids,qA.Data,hf,ha,shp,inI,jj]
theorem qUE {n:Int}:∀(as:List qA) (f:qA),f.ow n=true→(∀a∈as,a.ow n=true)→(as.foldl zP f).ow n=true
  |[],f,h,_=>h
  | a::as,f,h,ha=>qUE as (zP f a) (qSL h (ha a (by simp))) fun y hy=>ha y (by simp [hy])
theorem qSX {m:Int} {f a:qA} (hf:Bel m f) (ha:Bel m a):Bel m (zP f a):=by
  refine .node (by decide) fun i hi=> ?_;have e:qR 5 i=0:=by unfold qR;rw [if_neg (by omega)]
  rw [e,Int.add_zero]
  match i,hi with
  | 0,_=>exact hf
  | 1,_=>exact ha
theorem qUC {m:Int}:∀(as:List qA) (f:qA),Bel m f→(∀a∈as,Bel m a)→Bel m (as.foldl zP f)
  |[],f,h,_=>h
  | a::as,f,h,ha=>qUC as (zP f a) (qSX h (ha a (by simp))) fun y hy=>ha y (by simp [hy])
theorem qSJ {f a:qA} {v l:Int}:(zP f a).levels v l=f.levels v l++a.levels v l:=by
  unfold zP;rw [JA,if_neg (by decide)];have e:∀i,qR 5 i=0:=fun i=>by unfold qR;rw [if_neg (by omega)]
  simp [qi,e,qW]
theorem qUD {v l:Int}:∀(as:List qA) (f:qA),(as.foldl zP f).levels v l=f.levels v l++as.flatMap fun a=>a.levels v l
  |[],f=>by simp
  | a::as,f=>by rw [List.foldl_cons,qUD as,qSJ];simp
theorem qSM {f a:qA} {l:Int} (hf:f.strat l=true) (ha:a.strat l=true):(zP f a).strat l=true:=by
  unfold zP;rw [Zb];have h8:=(J5 hf).1;simp [WR,qW,hf,ha,h8]
theorem qUF {l:Int}:∀(as:List qA) (f:qA),f.strat l=true→(∀a∈as,a.strat l=true)→(as.foldl zP f).strat l=true
  |[],f,h,_=>h
  | a::as,f,h,ha=>qUF as (zP f a) (qSM h (ha a (by simp))) fun y hy=>ha y (by simp [hy])
theorem qT7 {α:Type} {g:α→List Int} {f:Nat→α→List Int}:∀{xs:List α} {k:Nat},(∀i x,f i x=g x)→qi f xs k=xs.flatMap g
  |[],_,_=>rfl
  | x::xs,k,h=>by simp only [qi,List.flatMap_cons,h,qT7 (xs:=xs) h]
theorem qeH {x:qA} {l a:Int}:zM x (l+a)=zM x l:=by
  unfold zM;have e1:∀(y:qA),((y.levels 0 (l+a)).all fun n=>decide (n=l+a))=(y.levels 0 l).all fun n=>decide (n=l):=fun y=>by
    rw [qQ1,List.all_map];congr 1;funext n;simp [Function.comp]<;>omega
  have e2:∀(y:qA),((y.levels 0 (l+a)).all fun n=>decide (n=l+a+1))=(y.levels 0 l).all fun n=>decide (n=l+1):=fun y=>by
    rw [qQ1,List.all_map];congr 1;funext n;simp [Function.comp]<;>omega
  have e3:∀(y:qA),(y.levels 0 (l+a)).length=(y.levels 0 l).length:=fun y=>by rw [qQ1,List.length_map]
  simp only [e1,e2,e3]
theorem qjV {a:Int}:∀(x:qA) (l:Int),x.strat l=true→l+a+x.boxes≤8→x.strat (l+a)=true:=qA.ind fun x ih l h hb=>by
  have hlv:=J5 h;have hbe:=x.boxes_eq;rw [x.strat_eq];simp only [bAt,decide_eq_true_eq,List.all_eq_true,qeH];refine ⟨⟨by omega,hlv.2⟩,fun y hy=> ?_⟩;have hy2:=(ZK qA.boxes _ x.Kids).1 (Nat.le_refl _) y hy;rw [show l+a+qW x.Kind=l+qW x.Kind+a by omega];refine ih y hy _ (wR h hy) ?_;unfold qW;split at hbe<;>rename_i e
  · rw [if_pos e];omega
  · rw [if_neg e];omega
def Le (a b:List Int):Prop:=a.length≤b.length∧∀n∈a,n∈b
theorem Le.refl (a:List Int):Le a a:=⟨Nat.le_refl _,fun _ h=>h⟩
theorem Le.nil (a:List Int):Le [] a:=⟨Nat.zero_le _,fun _ h=>by cases h⟩
theorem Le.app {a b c d:List Int} (h:Le a b) (h2:Le c d):Le (a++c) (b++d):=by
  refine ⟨by rw [lAp,lAp];have:=h.1;have:=h2.1;omega,fun n hn=> ?_⟩;rcases List.mem_append.1 hn with q | q
  · exact List.mem_append.2 (.inl (h.2 n q))
  · exact List.mem_append.2 (.inr (h2.2 n q))
theorem Le.perm {a b c:List Int} (h:a.Perm b) (h2:Le b c):Le a c:=⟨by rw [h.length_eq];exact h2.1,fun n hn=>h2.2 n (h.mem_iff.1 hn)⟩
theorem Le.one {a:List Int} {l:Int} (h1:a.length≤1) (h2:∀n∈a,n=l) {g:Int→List Int}:Le (a.flatMap g) (g l):=by
  match a,h1,h2 with
  |[],_,_=>exact .nil _
  |[n],_,h2=>rw [h2 n (by simp)];simp only [List.flatMap_cons,List.flatMap_nil,List.append_nil];exact .refl _
theorem Le.set {α:Type} {f:Nat→α→List Int} {y:α}:∀{xs:List α} {k i:Nat} (h:i<xs.length),Le (f (k+i) y) (f (k+i) xs[i])→Le (qi f (xs.set i y) k) (qi f xs k)
  | x::xs,k,0,_,hq=>by
    simp only [List.set_cons_zero,qi];exact Le.app hq (.refl _)
  | x::xs,k,i+1,h,hq=>by
    simp only [List.set_cons_succ,qi];refine Le.app (.refl _) (Le.set (by simpa using h) ?_);rw [show k+1+i=k+(i+1) by omega];simpa using hq
theorem qg5 {k a b:Int}: -2147483648≤opI k a b∧opI k a b≤2147483647:=by
  have hw:∀n:Int,-2147483648≤w32 n∧w32 n≤2147483647:=fun n=>by
    have h3: -2147483648≤IntKind.i32.wrap n∧IntKind.i32.wrap n≤2147483647:=by
      simp only [IntKind.wrap,IntKind.bits,IntKind.signed,Bool.true_and,decide_eq_true_eq,Nat.reduceSub,Int.reducePow,ge_iff_le];split<;>constructor<;>omega
    rw [qX7,qj (by omega) (by omega)];exact h3
  unfold opI
  repeat' split
  all_goals first | exact hw _ | omega
end Go.Ab
namespace Go.Ab
open Go
set_option maxRecDepth 10000
set_option maxHeartbeats 2000000
attribute [local simp] qr qa zW
structure Qj (n m:Int) (x r:qA) (l:Int):Prop where
  ow:r.ow n=true
  bel:Bel m r
  strat:r.strat l=true
  le:∀v,0≤v→Le (r.levels v l) (x.levels v l)
theorem Bel.mono {m:Int} {x:qA} (h:Bel m x):∀k,m≤k→Bel k x:=by
  induction h with
  | var h=>intro k hk;exact .var (by omega)
  | node hk h ih=>intro k hm;exact .node hk fun i hi=>ih i hi _ (by omega)
theorem lv2 {x a c:qA} {v l:Int} (hk:¬x.Kind=1) (hK:x.Kids=[a,c]):x.levels v l=a.levels (v+qR x.Kind 0) (l+qW x.Kind)++c.levels (v+qR x.Kind 1) (l+qW x.Kind):=by
  rw [x.levels_eq,if_neg hk,hK];simp [qi]
theorem lv1 {x a:qA} {v l:Int} (hk:¬x.Kind=1) (hK:x.Kids=[a]):x.levels v l=a.levels (v+qR x.Kind 0) (l+qW x.Kind):=by
  rw [x.levels_eq,if_neg hk,hK];simp [qi]
theorem lv0 {x:qA} {v l:Int} (hk:¬x.Kind=1) (hK:x.Kids=[]):x.levels v l=[]:=by
  rw [x.levels_eq,if_neg hk,hK];rfl
theorem qXN {x:qA} {l:Int} (h2:x.Kind=2) (hK:x.Kids=[]) (h8:l≤8):x.strat l=true:=by
  rw [x.strat_eq,hK];unfold zM;rw [if_neg (by omega),if_neg (by omega)];simp [h8]
theorem wG {k:Int} (h:¬k=6):qW k=0:=by unfold qW;rw [if_neg h]
theorem wF {k:Int} {i:Nat} (h:¬k=4) (h7:¬(k=7∧i=1)):qR k i=0:=by unfold qR;rw [if_neg (by omega)]
theorem qgY {N v:Int} (h: -2147483648≤v∧v≤2147483647):(qA.mk 2 v [] []).ow N=true:=by
  rw [qA.ow_eq];simp [jw,qA.Kind,qA.Value,qA.Kids,qA.Data,shp,inI,jj,h]
theorem qh3 {N v:Int} (h:0≤v∧v≤23) (h2:v<N):(qA.mk 11 v [] []).ow N=true:=by
  rw [qA.ow_eq];simp [jw,qA.Kind,qA.Value,qA.Kids,qA.Data,shp,inI,jj,h];exact decide_eq_false (by omega)
theorem qVH {k v u l:Int} {d:List Int} (hk:¬k=1):(qA.mk k v d []).levels u l=[]:=lv0 hk rfl
theorem qeD {N:Int} {a:qA} {L:List Int} {l:Int} (ho:a.ok=true) (hw:a.ow N=true) (hs:a.strat l=true) (h8:∀n∈L,n≤8) (hL:(∀n∈L,n=l)∨(∀n∈L,n=l+1)) (h:(qn a L l).2=0):
    (∀v,Le (L.flatMap fun n=>(qn a L l).1.levels v n) (a.levels v l))∧(∀n∈L,(qn a L l).1.strat n=true)∧(qn a L l).1.ow N=true:=by
  have hk:a.Kind=6→∃k,a.Kids=[k]∧zA a=k:=fun h6=>by
    obtain ⟨k,hk⟩:=zi ((qu ho).2 (by omega));exact ⟨k,hk,by unfold zA;rw [hk];rfl⟩
  have num:∀y:qA,y.ok=true→y.Kind=2→(∀v n,y.levels v n=[])∧∀n∈L,y.strat n=true:=fun y hy h2=>
    ⟨fun v n=>lv0 (by omega) (WW hy h2),fun n hn=>qXN h2 (WW hy h2) (h8 n hn)⟩
  have nums:∀y:qA,(∀v n,y.levels v n=[])→∀v,(L.flatMap fun n=>y.levels v n)=[]:=fun y hy v=>by
    rw [List.flatMap_eq_nil_iff];exact fun n _=>hy v n
  unfold qn at h⊢;by_cases c1:L.length=0
  · rw [if_pos c1] at h⊢;have e:L=[]:=List.eq_nil_of_length_eq_zero c1;subst e;exact ⟨fun v=>.nil _,(fun n hn=>absurd hn List.not_mem_nil),hw⟩
  rw [if_neg c1] at h⊢;by_cases c2:a.Kind=2
  · rw [if_pos c2] at h⊢;obtain ⟨h1,h2⟩:=num a ho c2;exact ⟨fun v=>by rw [nums a h1];exact .nil _,h2,hw⟩
  rw [if_neg c2] at h⊢;by_cases c3:a.Kind=6∧(zA a).Kind=2
  · rw [if_pos c3] at h⊢;obtain ⟨k,hk1,hk2⟩:=hk c3.1;have hm:k∈a.Kids:=by rw [hk1];simp
    obtain ⟨h1,h2⟩:=num k (qv ho hm) (by rw [←hk2];exact c3.2);rw [hk2];exact ⟨fun v=>by rw [nums k h1];exact .nil _,h2,wX hw hm⟩
  rw [if_neg c3] at h⊢;by_cases c4:L.length=1∧L.head?=some l
  · rw [if_pos c4] at h⊢
    match L,c4 with
    |[n],c4=>
      have e:n=l:=by simpa using c4.2
      subst e;refine ⟨fun v=>by simp only [List.flatMap_cons,List.flatMap_nil,List.append_nil];exact .refl _,fun k hk=> ?_,hw⟩;rw [List.mem_singleton.1 hk];exact hs
  rw [if_neg c4] at h⊢;by_cases c5:L.length=1∧a.Kind=6
  · rw [if_pos c5] at h⊢;obtain ⟨k,hk1,hk2⟩:=hk c5.2;have hm:k∈a.Kids:=by rw [hk1];simp
    match L,c4,c5,hL with
    |[n],c4,c5,hL=>
      have hn:n=l+1:=by
        rcases hL with q | q
        · exact absurd ⟨rfl,by rw [q n (by simp)];rfl⟩ c4
        · exact q n (by simp)
      have hb:qW a.Kind=1:=by unfold qW;rw [if_pos c5.2]
      have hkl:=wR hs hm;rw [hb] at hkl;rw [hk2];refine ⟨fun v=> ?_,fun j hj=> ?_,wX hw hm⟩
      · simp only [List.flatMap_cons,List.flatMap_nil,List.append_nil];rw [lv1 (x:=a) (by omega) hk1,hb,wF (by omega) (by omega),Int.add_zero,hn];exact .refl _
      · rw [List.mem_singleton.1 hj,hn];exact hkl
  · rw [if_neg c5] at h;cases h
theorem qYV {b:qF} {I:List Bool} {x:qA} {l m:Int} (hb:b.ok=true) (hbs:∀d∈b.Defs,d.strat 0=true) (ho:x.ok=true) (hr:x.refs b.Defs.length=true) (hm:0≤m) (hB:Bel m x) (hs:x.strat l=true) (hl:0≤l) (hne:¬(atC b I x l).2=0):
    Qj b.Defs.length m x (atC b I x l).1 l:=by
  have hw:=qRE x ho hr;have h8:=(J5 hs).1;cases hK:x.Kids with
  | nil=>unfold atC at hne;rw [hK] at hne;exact absurd rfl hne
  | cons a ys=>
  have ham:a∈x.Kids:=by rw [hK];simp
  have hao:=qv ho ham;have haw:=wX hw ham;rw [Jh hK] at hne⊢;unfold at1 at hne⊢;by_cases r2:qX x=2
  · rw [if_pos r2];have hv:=qg5 (k:=x.Value) (a:=a.Value) (b:=(ys.headD qV).Value);refine ⟨?_,.node (by decide) fun i hi=>absurd hi (by simp), ?_,fun v _=> ?_⟩
    · exact qgY hv
    · exact qXN rfl rfl h8
    · rw [qVH (by omega)];exact .nil _
  rw [if_neg r2] at hne⊢;by_cases r3:qX x=3
  · rw [if_pos r3];obtain ⟨y,hy,hc⟩:=ZT ho r3;rw [hy] at hK;cases hK;have hk1:¬x.Kind=1:=by omega
    have hx6:¬x.Kind=6:=by omega
    have ha6:¬a.Kind=6:=by omega
    have hdm:zj x∈x.Data:=by
      have hg:∀j:Nat,j<x.Data.length→x.Data.getD j 0∈x.Data:=fun j hj=>by
        rw [List.getD_eq_getElem?_getD,gEg hj];exact gMm hj
      unfold zj;rw [hy];simp only [];rcases hc with ⟨c1,c2,c3,c4⟩ | ⟨c1,c2,c3⟩
      · rw [if_neg (by omega)];exact hg _ (by omega)
      · rw [if_pos c1];split<;>exact hg _ (by omega)
    have hd:jo (zj x)=true∧zj x<b.Defs.length:=by
      have h1:=QR hw;unfold jw at h1;simp only [bAt,List.all_eq_true,decide_eq_true_eq] at h1;exact ⟨h1.1.2 _ hdm,h1.2.2 _ hdm⟩
    have hlev:∀v,(wH (zj x) a.Kids).levels v l=x.levels v l:=fun v=>by
      unfold wH;rw [qUD,qVH (by omega),lv1 hk1 hy,wG hx6,wF (by omega) (by omega),Int.add_zero,Int.add_zero,a.levels_eq,if_neg (by omega),wG ha6];rw [qT7 (g:=fun y=>y.levels v l) fun i z=>by rw [wF (by omega) (by omega),Int.add_zero,Int.add_zero]];rfl
    have hBa:=hB.sub (i:=0) (by rw [hy];rfl) (wF (by omega) (by omega));have hsa:=wR hs ham;rw [wG hx6,Int.add_zero] at hsa;refine ⟨qUE _ _ ?_ fun y hm=>wX haw hm,qUC _ _ (.node (by decide) fun i hi=>absurd hi (by simp)) fun y hm=> ?_,qUF _ _ ?_ fun y hm=> ?_,fun v _=>by rw [hlev];exact .refl _⟩
    · have hd1:=hd.1;unfold jo inI at hd1;simp only [bAt,decide_eq_true_eq] at hd1;exact qh3 hd1 hd.2
    · obtain ⟨i,hi,rfl⟩:=List.getElem_of_mem hm;exact hBa.sub (i:=i) (gEg hi) (wF (by omega) (by omega))
    · rw [Zb,WR];simp [h8]
    · have:=wR hsa hm;rwa [wG ha6,Int.add_zero] at this
  rw [if_neg r3] at hne⊢;by_cases r1:qX x=1
  · rw [if_pos r1];have h5:x.Kind=5:=by
      rcases qRO ho with q | q | q | q | q
      · omega
      · exact q.2.1
      · omega
      · omega
      · omega
    obtain ⟨a',c,hK'⟩:=ze ((qu ho).1 (by omega));rw [hK'] at hK;cases hK;have h4:a.Kind=4:=by
      have hr1:qX x=if a.Kind=4 then 1 else if a.Kind=11 then 4 else 0:=by unfold qX;rw [hK'];simp only [];rw [if_pos h5]
      rw [hr1] at r1;by_cases e:a.Kind=4
      · exact e
      · rw [if_neg e] at r1;split at r1<;>omega
    obtain ⟨k,hk⟩:=zi ((qu hao).2 (.inl h4));have hk0:zA a=k:=by unfold zA;rw [hk];rfl
    have hcm:c∈x.Kids:=by rw [hK'];simp
    have hkm:k∈a.Kids:=by rw [hk];simp
    have hba:Bel m a:=hB.sub (i:=0) (by rw [hK'];rfl) (wF (by omega) (by omega));have hbc:Bel m c:=hB.sub (i:=1) (by rw [hK'];rfl) (wF (by omega) (by omega));have hbk:Bel (m+1) k:=hba.sub1 (i:=0) (by rw [hk];rfl) (by rw [h4,VC]);have hsa:=wR hs ham;have hsc:=wR hs hcm;rw [wG (by omega),Int.add_zero] at hsa hsc;have hsk:=wR hsa hkm;rw [wG (by omega),Int.add_zero] at hsk;have hlv:=(J5 hsa).2;unfold zM at hlv;rw [if_pos h4,hk] at hlv;simp only [List.getElem?_cons_zero,bAt,decide_eq_true_eq,List.all_eq_true] at hlv;rw [show ([c].headD qV)=c from rfl,hk0];refine ⟨qWD (wX hw hcm) k 0 (by omega) (wX haw hkm),by have:=hbk.put (arg:=c) 0 m (by omega) (by omega) hm hbc;rwa [Int.add_zero] at this,qWG k 0 l (by omega) hsk fun n hn=>by rw [hlv.2 n hn];exact hsc,fun v hv=> ?_⟩;refine Le.perm (qWB k 0 v l (by omega) hv) ?_;rw [lv2 (by omega) hK',wG (by omega),wF (by omega) (by omega),wF (by omega) (by omega),Int.add_zero,Int.add_zero,lv1 (by omega) hk,h4,VC,wG (by omega),Int.add_zero];refine Le.app (.refl _) ?_;simp only [Int.sub_zero];exact Le.one (g:=fun n=>c.levels v n) hlv.1 hlv.2
  rw [if_neg r1] at hne⊢;by_cases r5:x.Kind=5∧a.Kind=11∧I.getD a.Value.toNat false=true∧l+(b.Defs.getD a.Value.toNat qV).boxes≤8
  · rw [if_pos r5];obtain ⟨h5,h11,_,hbx⟩:=r5;obtain ⟨a',c,hK'⟩:=ze ((qu ho).1 (by omega));rw [hK'] at hK;cases hK;have hcm:c∈x.Kids:=by rw [hK'];simp
    have hv:=ZV hao (jy hr ham) h11;have hlt:a.Value.toNat<b.Defs.length:=by omega
    have hg:b.Defs.getD a.Value.toNat qV=b.Defs[a.Value.toNat]:=by rw [List.getD_eq_getElem?_getD,gEg hlt];rfl
    have hdm:b.Defs[a.Value.toNat]∈b.Defs:=gMm hlt;rw [hg] at hbx⊢;generalize b.Defs[a.Value.toNat]=d at hbx hdm⊢;obtain ⟨hcl,hrf⟩:=Jj hb hdm;have hab:d.above 0=false:=by
      unfold qA.closed at hcl;simp only [bAt,Bool.not_eq_true'] at hcl;exact hcl.2
    have hdo:=(Qw hcl).1;have hBd:=qPT d 0 hdo hab;have hsd:=qjV (a:=l) d 0 (hbs d hdm) (by omega);rw [Int.zero_add] at hsd;have hbc:Bel m c:=hB.sub (i:=1) (by rw [hK'];rfl) (wF (by omega) (by omega));have hsc:=wR hs hcm;rw [wG (by omega),Int.add_zero] at hsc;rw [show ([c].headD qV)=c from rfl];refine ⟨qSL (qRE d hdo hrf) (wX hw hcm),qSX (hBd.mono m hm) hbc,qSM hsd hsc,fun v hv=> ?_⟩;rw [qSJ,qY3 hBd v l hv,lv2 (by omega) hK',wG (by omega),wF (by omega) (by omega),wF (by omega) (by omega),Int.add_zero,Int.add_zero];exact Le.app (.nil _) (.refl _)
  rw [if_neg r5] at hne⊢;by_cases r7:x.Kind=7∧(jC x (ys.headD qV) l).2=true
  · rw [if_pos r7];obtain ⟨h7,hlet⟩:=r7;obtain ⟨a',c,hK'⟩:=ze ((qu ho).1 (by omega));rw [hK'] at hK;cases hK;have hcm:c∈x.Kids:=by rw [hK'];simp
    rw [show ([c].headD qV)=c from rfl] at hlet⊢;have e:zB x l=qn a (c.levels 0 l) l:=by unfold zB;rw [hK']
    unfold jC at hlet⊢;by_cases h0:(zB x l).2=0
    · rw [if_pos h0];rw [e] at h0⊢;have hba:Bel m a:=hB.sub (i:=0) (by rw [hK'];rfl) (wF (by omega) (by omega));have hbc:Bel (m+1) c:=hB.sub1 (i:=1) (by rw [hK'];rfl) (by rw [h7,VD]);have hbl:=qU9 hao hba h0;have hsa:=wR hs ham;have hsc:=wR hs hcm;rw [wG (by omega),Int.add_zero] at hsa hsc;have hlv:=(J5 hs).2;unfold zM at hlv;rw [if_neg (by omega),if_pos h7,hK'] at hlv;simp only [List.getElem?_cons_succ,List.getElem?_cons_zero,Bool.or_eq_true,decide_eq_true_eq,List.all_eq_true] at hlv;obtain ⟨u1,u2,u3⟩:=qeD hao haw hsa (fun n hn=>qeE c 0 l n hsc hn) hlv h0;refine ⟨qWD u3 c 0 (by omega) (wX hw hcm),by have:=hbc.put 0 m (by omega) (by omega) hm hbl;rwa [Int.add_zero] at this,qWG c 0 l (by omega) hsc u2,fun v hv=> ?_⟩;refine Le.perm (qWB c 0 v l (by omega) hv) (Le.perm List.perm_append_comm ?_);rw [lv2 (by omega) hK',h7,VD,wG (by omega),wF (by omega) (by omega),Int.add_zero,Int.add_zero];simp only [Int.sub_zero];exact Le.app (u1 v) (.refl _)
    · rw [if_neg h0] at hlet;cases hlet
  · rw [if_neg r7] at hne;exact absurd rfl hne
theorem qi0 {n m:Int} {x r:qA} {l:Int} {i:Nat} (hi:i<x.Kids.length) (ho:x.ok=true) (hw:x.ow n=true) (hB:Bel m x) (hs:x.strat l=true) (h:Qj n (m+qR x.Kind i) x.Kids[i] r (l+qW x.Kind)):
    Qj n m x (.mk x.Kind x.Value x.Data (x.Kids.set i r)) l:=by
  have hk1:¬x.Kind=1:=fun e=>by rw [QO ho e] at hi;simp at hi
  have hlv:=J5 hs;refine ⟨qRD (v:=x.Value) (ks:=x.Kids) (by rw [x.eta];exact hw) (by simp) (fun e=>absurd e hk1) (fun _=>rfl) fun y hy=> ?_,.node hk1 fun j hj=> ?_, ?_,fun v hv=> ?_⟩
  · rcases List.mem_or_eq_of_mem_set hy with q | q
    · exact wX hw q
    · rw [q];exact h.ow
  · have hj2:j<x.Kids.length:=by simpa using hj
    by_cases e:i=j
    · subst e;rw [List.getElem_set_self];exact h.bel
    · rw [List.getElem_set_ne e];exact hB.kid hj2
  · rw [Zb];simp only [bAt,decide_eq_true_eq,List.all_eq_true];refine ⟨⟨hlv.1, ?_⟩,fun y hy=> ?_⟩
    · have h2:=hlv.2;unfold zM at h2;rw [WR];by_cases e4:x.Kind=4
      · rw [if_pos e4] at h2⊢;obtain ⟨k,hk⟩:=zi ((qu ho).2 (.inl e4));have hi0:i=0:=by rw [hk] at hi;simpa using hi
        subst hi0;have hle:=h.le 0 (by omega);simp only [hk,List.getElem_cons_zero,List.getElem?_cons_zero,List.set_cons_zero,bAt,decide_eq_true_eq,List.all_eq_true] at h2 hle⊢;rw [wG (by omega),Int.add_zero] at hle;exact ⟨Nat.le_trans hle.1 h2.1,fun n hn=>h2.2 n (hle.2 n hn)⟩
      rw [if_neg e4] at h2⊢;by_cases e7:x.Kind=7
      · rw [if_pos e7] at h2⊢;obtain ⟨a,c,hk⟩:=ze ((qu ho).1 (by omega));have hle:=h.le 0 (by omega);rw [wG (by omega),Int.add_zero] at hle;rw [hk] at hi
        match i,hi with
        | 0,_=>simp only [hk,List.getElem?_cons_succ,List.getElem?_cons_zero,List.set_cons_zero] at h2⊢;exact h2
        | 1,_=>
          simp only [hk,List.getElem?_cons_succ,List.getElem?_cons_zero,List.set_cons_succ,List.set_cons_zero,List.getElem_cons_succ,List.getElem_cons_zero,Bool.or_eq_true,decide_eq_true_eq,List.all_eq_true] at h2 hle⊢;exact h2.imp (fun q n hn=>q n (hle.2 n hn)) (fun q n hn=>q n (hle.2 n hn))
      · rw [if_neg e7]
    · rcases List.mem_or_eq_of_mem_set hy with q | q
      · exact wR hs q
      · rw [q];exact h.strat
  · rw [JA,if_neg hk1,x.levels_eq,if_neg hk1];refine Le.set hi ?_;rw [Nat.zero_add];exact h.le _ (by have:=jI x.Kind i;omega)
theorem qT3 {n m:Int} {x:qA} {f:qA→Int→qA×Int} {l:Int} (ho:x.ok=true) (hw:x.ow n=true) (hB:Bel m x) (hs:x.strat l=true) (hf:∀(j:Nat) (h:j<x.Kids.length),¬(f x.Kids[j] (l+qW x.Kind)).2=0→Qj n (m+qR x.Kind j) x.Kids[j] (f x.Kids[j] (l+qW x.Kind)).1 (l+qW x.Kind)):
    ∀(k i:Nat),i+k=x.Kids.length→¬(jf x ((x.Kids.drop i).map f) i (l+qW x.Kind)).2=0→Qj n m x (jf x ((x.Kids.drop i).map f) i (l+qW x.Kind)).1 l
  | 0,i,h,hne=>by
    rw [show x.Kids.drop i=[] from List.drop_eq_nil_of_le (by omega)] at hne;exact absurd rfl hne
  | k+1,i,h,hne=>by
    have hlt:i<x.Kids.length:=by omega
    rw [Vc hlt] at hne⊢;by_cases e:(f x.Kids[i] (l+qW x.Kind)).2=0
    · rw [if_pos e] at hne⊢;exact qT3 ho hw hB hs hf k (i+1) (by omega) hne
    · rw [if_neg e] at hne⊢;exact qi0 hlt ho hw hB hs (hf i hlt e)
theorem qjQ {b:qF} {I:List Bool} (hb:b.ok=true) (hbs:∀d∈b.Defs,d.strat 0=true):∀(x:qA) (l m:Int),x.ok=true→x.refs b.Defs.length=true→0≤m→Bel m x→x.strat l=true→0≤l→¬(zU b I x l).2=0→Qj b.Defs.length m x (zU b I x l).1 l:=qA.ind fun x ih l m ho hr hm hB hs hl hne=>by
  rw [Za] at hne⊢;by_cases e:(atC b I x l).2=0
  · rw [if_pos e] at hne⊢;have:=qT3 (f:=zU b I) ho (qRE x ho hr) hB hs (fun j h hj=> ?_) x.Kids.length 0 (by omega) (by simpa using hne)
    · simpa using this
    have hmm:=gMm h;exact ih _ hmm _ _ (qv ho hmm) (jy hr hmm) (by have:=jI x.Kind j;omega) (hB.kid h) (wR hs hmm) (by have:=Qp x.Kind;omega) hj
  · rw [if_neg e];exact qYV hb hbs ho hr hm hB hs hl e
def Sim (b:qF) (c:qA):Prop:=c.valid=true∧c.refs b.Defs.length=true∧c.strat 0=true∧c.above 0=false
theorem qY2 {m:Int} {x:qA} (h:Bel m x):x.above m=false:=by
  induction h with
  | @var v m d h=>rw [qA.above_eq];show (if (1:Int)=1 then decide (m≤v) else _)=false;rw [if_pos rfl];exact decide_eq_false (by omega)
  | @node k v m d ks hk h ih=>
    rw [qA.above_eq];simp only [qA.Kind,qA.Kids,hk,if_false];have:∀(xs:List qA) (j:Nat),(∀(i:Nat) (hi:i<xs.length),xs[i].above (m+qR k (j+i))=false)→jH (fun i y=>qA.above y (m+qR k i)) xs j=false:=by
      intro xs
      induction xs with
      | nil=>intro _ _;rfl
      | cons x xs ihx=>
        intro j hx;have h0:=hx 0 (by simp);simp only [List.getElem_cons_zero,Nat.add_zero] at h0;simp only [jH,h0,Bool.false_or];exact ihx (j+1) fun i hi=>by have:=hx (i+1) (by simpa using hi);rw [show j+1+i=j+(i+1) by omega];simpa using this
    exact this ks 0 fun i hi=>by rw [Nat.zero_add];exact ih i hi
theorem qRY {b:qF} {I:List Bool} {c:qA} (hb:b.ok=true) (hbs:∀d∈b.Defs,d.strat 0=true) (hc:Sim b c) (hne:¬(zU b I c 0).2=0) (hf:¬(zU b I c 0).1.fits=false):Sim b (zU b I c 0).1:=by
  obtain ⟨h1,h2,h3,h4⟩:=hc;have ho:=(zZ h1).1;have g:=qjQ hb hbs c 0 0 ho h2 (by omega) (qPT c 0 ho h4) h3 (by omega) hne;generalize zU b I c 0=o at hf g;have hf:o.1.fits=true:=by simpa using hf
  unfold qA.fits at hf;simp only [bAt,decide_eq_true_eq] at hf;refine ⟨?_,qhD _ g.ow,g.strat,qY2 g.bel⟩;unfold qA.valid;simp only [bAt,decide_eq_true_eq];exact ⟨⟨qhC g.bel g.ow (by omega),hf.2⟩,hf.1⟩
end Go.Ab
namespace Go.Ab
open Go
set_option maxRecDepth 10000
set_option maxHeartbeats 2000000
theorem zJ.exts {h h':List qC} {w id':Nat} {ys:List AV} {o:qC} (g:zJ (h++[o]) h.length w ys h' id'):∃ex,h'=h++ex:=
  ⟨h'.drop h.length,by
    have e:h'.take h.length=h:=List.ext_getElem? fun i=>by
      rw [List.getElem?_take];by_cases hi:i<h.length
      · rw [if_pos hi,g.keep i (by simp;omega) (by omega),List.getElem?_append_left hi]
      · rw [if_neg hi,List.getElem?_eq_none (by omega)]
    conv=>lhs;rw [←List.take_append_drop h.length h',e]⟩
theorem Wf {h:List qC} {a b:qC}:(h++[a]).set h.length b=h++[b]:=by rw [List.set_append_right _ _ (Nat.le_refl _),Nat.sub_self];rfl
theorem qg4 {h:List qC} {a:qC}:(only [h.length] (h++[a]))[h.length]?=some a:=by
  simp [only,List.getElem?_mapIdx]
theorem qkF {h:List qC} {a:qC}:jG [h.length] (h++[a])=jG [h.length] h++[.dead]:=by
  simp [jG,List.mapIdx_append]
theorem qkE {h:List qC}:jG [h.length] h=h:=by
  refine List.ext_getElem? fun i=> ?_;simp only [jG,List.getElem?_mapIdx];cases hi:h[i]? with
  | none=>rfl
  | some o=>have:=jV hi;simp;omega
attribute [local simp] qr qa zW
theorem t763 {x:qA} {as:List qA} (ho:x.ok=true) (hr:qX x=3) (hz:x.sz≤1048576) (hn:as.length≤1048576) (ha:x.Kind=10→as=[]) {h:List qC} {id:Nat} {K:AV→List qC→Prop} (hp:h[id]?=some (.row 4 [x.enc] true)) (hk:∀ex,K ((wH (zj x) as).enc) (h++ex)):SCall Gm 763 [.ptr id 0 0,.lst 4 (as.map qA.enc) false] h K:=by
  refine SCall.tree [] [] g763 (by kernel_rfl) rfl (by simp [go_sem]) ?_ hk;simp only [Zp,qL,hp,go_sem];have hd:x.Data.length<9223372036854775808:=by have:=x.sz_eq;omega
  have hL:=x.len_sz;obtain ⟨y,hK,h9 | h10⟩:=ZT ho hr
  · refine qD ?_ ?_<;>intro hc<;>simp only [hc,hp,go_sem]
    · have:=odT hc;omega
    obtain ⟨n,hV⟩:∃n:Nat,y.Value=n:=⟨y.Value.toNat,by omega⟩;have hlt:n<x.Data.length:=by omega
    have hrd:zj x=x.Data[n]:=by
      unfold zj;rw [hK];simp only [];rw [if_neg (by omega),hV];simp [hlt]
    replace hK:=And.intro hK hV;simp only [hK,hp,List.map_cons,List.map_nil,Option.map_some,go_sem];simp only [hp,List.getElem?_map,gEg hlt,Option.map_some,go_sem];simp only [qE,hp,go_sem];refine qH Qs ?_;simp only [hp,go_sem];refine qK (k:=4) (by rfl) (by simp [go_sem]) (qA.isAgg _) (by decide) ?_;simp only [hp,go_sem];refine Sem.loop (fun i:Nat=>i≤as.length∧True) (fun i=>(⟨[(0,.ptr id 0 0),(1,.lst 4 (as.map qA.enc) false),(6,.int .i64 (i:Nat))],[(5,((as.take i).foldl zP (.mk 11 x.Data[n] [] [])).enc),(4,.agg [.int .i64 0,.int .i64 0,.nils,.nils])],h⟩:VSt)) (fun i=>as.length-i) 0 (by kernel_rfl) ⟨Nat.zero_le _,trivial⟩ (Can.sub (by simp [go_sem]) (by simp [go_sem])) ?_;rintro i ⟨hi,hI⟩;simp only [hp,go_sem];refine qD ?_ ?_<;>intro hc<;>simp only [hc,hp,go_sem]
    · have hlt:i<as.length:=by have:=odT hc;omega
      simp only [hp,List.getElem?_map,gEg hlt,Option.map_some,go_sem];refine qH VE ?_;simp only [hp,go_sem];refine Jr qA.ln qA.putcore ?_;simp only [hp,go_sem];simp only [qe (show i<4611686018427387904 by omega)];refine qZ (i+1) ⟨by omega,trivial⟩ (by omega) (Can.sub (by simp [go_sem]) ?_);rw [List.take_succ_eq_append_getElem hlt,List.foldl_append];simp [go_sem]
    · obtain rfl:i=as.length:=by have:=odF hc;omega
      rw [List.take_length];refine qK (k:=4) (by rfl) (by simp [go_sem]) (qA.isAgg _) (by decide) ?_;simp only [hp,go_sem];rw [hrd];exact .of0 fun _=>zH (.refl (by simp [go_sem]))
  · obtain ⟨d,e,hD⟩:=ze h10.2.2;have hrd:zj x=if y.Value=0 then e else d:=by
      unfold zj;rw [hK];simp only [];rw [if_pos h10.1,hD];rfl
    refine qD ?_ ?_<;>intro hc<;>simp only [hc,hp,go_sem]
    · replace hK:=And.intro hK hD;simp only [hK,hp,List.map_cons,List.map_nil,Option.map_some,go_sem];rw [ha h10.1,hrd];refine qD ?_ ?_<;>intro hc<;>simp only [hc,hK,hp,List.map_cons,List.map_nil,Option.map_some,go_sem]
      · simp only [qE,hp,go_sem];refine qH Qs ?_;simp only [hp,go_sem];refine qK (k:=4) (by rfl) (by simp [go_sem]) (qA.isAgg _) (by decide) ?_;simp only [hp,go_sem];rw [if_neg (by simpa using hc)];exact .of0 fun _=>zH (.refl (by simp [go_sem]))
      · simp only [qE,hp,go_sem];refine qH Qs ?_;simp only [hp,go_sem];refine qK (k:=4) (by rfl) (by simp [go_sem]) (qA.isAgg _) (by decide) ?_;simp only [hp,go_sem];rw [if_pos (by simpa using hc)];exact .of0 fun _=>zH (.refl (by simp [go_sem]))
    · exact absurd h10.1 (odF hc)
theorem qj2 {b:qF} {R:List Int} {lim:Int} {x a c:qA} {ks:List qA} {l:Int} (hK:x.Kids=a::c::ks) (ha:a.Kind=6→∃k kl,a.Kids=k::kl) (hz:x.sz≤1048576) (hq:x.size≤1048576) (hd:x.dep≤1048576) (hl:0≤l∧l≤1048576) {h:List qC} {id:Nat} {K:AV→List qC→Prop} (hp:h[id]?=some (.row 4 [x.enc] true)) (hk:∀ex,K (.tup [(zB x l).1.enc,.int .i64 (zB x l).2]) (h++ex)):SCall Gm 1409 [.ept (z6 b R lim) 0,.ptr id 0 0,.int .i64 l] h K:=by
  refine SCall.tree [] [] qUJ (by kernel_rfl) rfl (by simp [AV.tree,AV.trees,go_sem]) ?_ hk;simp only [Zn,qL,hp,go_sem];have hcm:c∈x.Kids:=by rw [hK];simp
  have hcz:=qA.kid_sz hcm;have hcd:=qA.dep_kid hcm;have hcs:=zV (f:=qA.size) hcm;have hxs:=x.size_eq;have hll:=qA.levels_len c 0 l;have hr:zB x l=qn a (c.levels 0 l) l:=by unfold zB;rw [hK]
  rw [hr];simp only [hK,hp,List.map_cons,List.map_nil,Option.map_some,go_sem];have hacc:=Y4 c 0 l [] (by omega) (by omega) (by omega) (by simp;omega);rw [List.nil_append] at hacc;obtain ⟨L,hL⟩:∃L,L=c.levels 0 l:=⟨_,rfl⟩;rw [←hL] at hll hacc hr⊢;refine JM hacc rfl ?_;intro h' id' hG;obtain ⟨ex,rfl⟩:=hG.exts;replace hp:(h++ex)[id]?=some (.row 4 [x.enc] true):=by rw [List.getElem?_append_left (jV hp)];exact hp
  simp only [hp,go_sem];refine qY ?_ ?_<;>intro hc<;>simp only [hc,hp,go_sem];rotate_left
  · refine qK (k:=4) (by rfl) (by simp [go_sem]) (qA.isAgg _) (by decide) ?_;simp only [hp,go_sem];refine .of ?_;exact wi (x:=(a,0)) (by unfold qn;rw [if_pos (by simp at hc;simp [hc])])
  have h0:¬L.length=0:=by have:=odF hc;omega
  refine qD ?_ ?_<;>intro hc<;>simp only [hc,hp,go_sem]
  · refine qK (k:=4) (by rfl) (by simp [go_sem]) (qA.isAgg _) (by decide) ?_;simp only [hp,go_sem];refine .of ?_;exact wi (x:=(a,0)) (by unfold qn;rw [if_neg h0,if_pos (odT hc)])
  have h2:=odF hc;by_cases h6:a.Kind=6
  · obtain ⟨k,kl,hk⟩:=ha h6;have hk0:zA a=k:=by unfold zA;rw [hk];rfl
    replace hK:=And.intro hK hk;refine qY ?_ ?_<;>intro hc<;>simp only [hc,hp,go_sem];rotate_left
    · exact absurd h6 (by simpa using hc)
    simp only [hK,hp,List.map_cons,List.map_nil,Option.map_some,go_sem];refine qD ?_ ?_<;>intro hc<;>simp only [hc,hK,hp,List.map_cons,List.map_nil,Option.map_some,go_sem]
    · refine qK (k:=4) (by rfl) (by simp [go_sem]) (qA.isAgg _) (by decide) ?_;simp only [hp,go_sem];refine .of ?_;exact wi (x:=(k,0)) (by unfold qn;rw [if_neg h0,if_neg h2,hk0,if_pos ⟨h6,odT hc⟩])
    have h7:¬(a.Kind=6∧(zA a).Kind=2):=by rw [hk0];exact fun h=>odF hc h.2
    refine qY ?_ ?_<;>intro hc<;>simp only [hc,hp,go_sem];rotate_left
    · have h1:¬L.length=1:=by simp at hc;omega
      refine qK (k:=4) (by rfl) (by rfl) (by exact ⟨_,rfl⟩) (by decide) ?_;simp only [hp,go_sem];have e:qn a L l=(qV,3):=by unfold qn;rw [if_neg h0,if_neg h2,if_neg h7,if_neg (fun h=>h1 h.1),if_neg (fun h=>h1 h.1)]
      rw [e];refine .of ?_;exact jq (cv2 wo rfl)
    have h1:=odT hc;obtain ⟨n,rfl⟩:∃n,L=[n]:=zi (by omega);simp only [hp,go_sem];rw [hG.at'];simp only [hp,List.map_cons,List.map_nil,qE,go_sem];refine qD ?_ ?_<;>intro hc<;>simp only [hc,hp,go_sem]
    · refine qK (k:=4) (by rfl) (by simp [go_sem]) (qA.isAgg _) (by decide) ?_;simp only [hp,go_sem];refine .of ?_;exact wi (x:=(a,0)) (by unfold qn;rw [if_neg h0,if_neg h2,if_neg h7,if_pos ⟨rfl,by rw [odT hc];rfl⟩])
    have h8:¬([n].length=1∧[n].head?=some l):=by rintro ⟨_,h⟩;simp at h;exact odF hc h
    refine qY ?_ ?_<;>intro hc<;>simp only [hc,hp,go_sem];rotate_left
    · exact absurd hc (by simp)
    refine qD ?_ ?_<;>intro hc<;>simp only [hc,hK,hp,List.map_cons,List.map_nil,Option.map_some,go_sem]
    · refine qK (k:=4) (by rfl) (by simp [go_sem]) (qA.isAgg _) (by decide) ?_;simp only [hp,go_sem];refine .of ?_;exact wi (x:=(k,0)) (by unfold qn;rw [if_neg h0,if_neg h2,if_neg h7,if_neg h8,if_pos ⟨rfl,h6⟩,hk0])
    · exact absurd h6 (odF hc)
  · refine qY ?_ ?_<;>intro hc<;>simp only [hc,hp,go_sem]
    · exact absurd (odT hc) h6
    have h7:¬(a.Kind=6∧(zA a).Kind=2):=fun h=>h6 h.1;refine qY ?_ ?_<;>intro hc<;>simp only [hc,hp,go_sem];rotate_left
    · have h1:¬L.length=1:=by simp at hc;omega
      refine qK (k:=4) (by rfl) (by rfl) (by exact ⟨_,rfl⟩) (by decide) ?_;simp only [hp,go_sem];have e:qn a L l=(qV,3):=by unfold qn;rw [if_neg h0,if_neg h2,if_neg h7,if_neg (fun h=>h1 h.1),if_neg (fun h=>h1 h.1)]
      rw [e];refine .of ?_;exact jq (cv2 wo rfl)
    have h1:=odT hc;obtain ⟨n,rfl⟩:∃n,L=[n]:=zi (by omega);simp only [hp,go_sem];rw [hG.at'];simp only [hp,List.map_cons,List.map_nil,qE,go_sem];refine qD ?_ ?_<;>intro hc<;>simp only [hc,hp,go_sem]
    · refine qK (k:=4) (by rfl) (by simp [go_sem]) (qA.isAgg _) (by decide) ?_;simp only [hp,go_sem];refine .of ?_;exact wi (x:=(a,0)) (by unfold qn;rw [if_neg h0,if_neg h2,if_neg h7,if_pos ⟨rfl,by rw [odT hc];rfl⟩])
    have h8:¬([n].length=1∧[n].head?=some l):=by rintro ⟨_,h⟩;simp at h;exact odF hc h
    refine qY ?_ ?_<;>intro hc<;>simp only [hc,hp,go_sem];rotate_left
    · exact absurd hc (by simp)
    refine qD ?_ ?_<;>intro hc<;>simp only [hc,hp,go_sem]
    · exact absurd (odT hc) h6
    refine qK (k:=4) (by rfl) (by rfl) (by exact ⟨_,rfl⟩) (by decide) ?_;simp only [hp,go_sem];have e:qn a [n] l=(qV,3):=by unfold qn;rw [if_neg h0,if_neg h2,if_neg h7,if_neg h8,if_neg (fun h=>h6 h.2)]
    rw [e];refine .of ?_;exact jq (cv2 wo rfl)
theorem qj1 {b:qF} {R:List Int} {lim:Int} {x:qA} {l:Int} (hb:b.ok=true) (hbz:b.sz≤1048576) (hx:x.valid=true) (hf:x.refs b.Defs.length=true) (hR:R.length≤24) (hl:0≤l∧l≤1000) {h:List qC} {id:Nat} {K:AV→List qC→Prop} (hp:h[id]?=some (.row 4 [x.enc] true)) (hk:∀ex,K (jQ (zF b R lim x l)) (h++ex)):SCall Gm 1163 [.ept (z6 b R lim) 0,.ptr id 0 0,.int .i64 l] h K:=by
  refine SCall.tree [] [] qUI (by kernel_rfl) rfl (by simp [AV.tree,AV.trees,go_sem]) ?_ hk;simp only [Zm,qL,hp,go_sem];obtain ⟨ho,hd,hs,hz,hv⟩:=zZ hx;refine qD ?_ ?_<;>intro hc<;>simp only [hc,hp,go_sem]
  · have h3:=odT hc;obtain ⟨a,c,hK⟩:=ze ((qu ho).1 (by omega));have hr:zF b R lim x l=if a.Kind=2∧c.Kind=2 then (.mk 2 (opI x.Value a.Value c.Value) [] [],1,0) else (qV,0,0):=by unfold zF;rw [hK];simp only [];rw [if_pos h3];rfl
    rw [hr];simp only [hK,hp,List.map_cons,List.map_nil,Option.map_some,go_sem];refine qY ?_ ?_<;>intro hc<;>simp only [hc,hK,hp,List.map_cons,List.map_nil,Option.map_some,go_sem];rotate_left
    · refine qK (k:=4) (by rfl) (by rfl) (by exact ⟨_,rfl⟩) (by decide) ?_;simp only [hp,go_sem];exact .of0 fun _=>js (if_neg (fun h=>by simp [h.1] at hc))
    have ha:=odT hc;refine qD ?_ ?_<;>intro hc<;>simp only [hc,hK,hp,List.map_cons,List.map_nil,Option.map_some,go_sem]
    · refine qH c762 ?_;simp only [hp,go_sem];refine qH c381 ?_;simp only [hp,go_sem];refine qK (k:=4) (by rfl) (by simp [go_sem]) (qA.isAgg _) (by decide) ?_;simp only [hp,go_sem];rw [if_pos ⟨ha,odT hc⟩];exact .of0 fun _=>jr rfl
    · refine qK (k:=4) (by rfl) (by rfl) (by exact ⟨_,rfl⟩) (by decide) ?_;simp only [hp,go_sem];exact .of0 fun _=>js (if_neg (fun h=>odF hc h.2))
  have h3:=odF hc;by_cases h10:x.Kind=10∨x.Kind=9
  · obtain ⟨a,hK⟩:=zi ((qu ho).2 (by omega));have ham:a∈x.Kids:=by rw [hK];simp
    have haz:=qA.kid_sz ham;have hal:=a.len_sz;have hr:zF b R lim x l=if qX x=3 then (wH (zj x) a.Kids,2,0) else (qV,0,0):=by unfold zF;rw [hK];simp only [];rw [if_neg h3,if_pos h10]
    rw [hr];have hak:qX x=3→x.Kind=10→a.Kids=[]:=by
      intro h h';obtain ⟨y,hy,h9 | h9⟩:=ZT ho h
      · omega
      · rw [hK] at hy;cases hy;exact WW (qv ho ham) h9.2.1
    refine qD ?_ ?_<;>intro hc<;>simp only [hc,hp,go_sem];rotate_left;refine qD ?_ ?_<;>intro hc<;>simp only [hc,hp,go_sem];rotate_left
    · have:=odF hc;rename_i h;have:=odF h;omega
    all_goals
      refine z4 (vs':=[.ept x.enc 0]) (Cvs.cons (.ptr hp (by decide) rfl (.refl (by simp [go_sem]))) Cvs.nil) (c760 ho (by omega)) rfl ?_;simp only [hp,go_sem];refine qD ?_ ?_<;>intro hc<;>simp only [hc,hp,go_sem]
      · have hk3:=odT hc;simp only [hK,hp,List.map_cons,List.map_nil,Option.map_some,go_sem];refine zK (t763 ho hk3 (by omega) (by omega) (hak hk3) hp fun ex=> ?_);simp only [hp,go_sem];refine qK (k:=4) (by rfl) (by simp [go_sem]) (qA.isAgg _) (by decide) ?_;simp only [hp,go_sem];rw [if_pos hk3];refine .of ?_;exact jr rfl
      · refine qK (k:=4) (by rfl) (by rfl) (by exact ⟨_,rfl⟩) (by decide) ?_;simp only [hp,go_sem];exact .of0 fun _=>js (if_neg (odF hc))
  refine qD ?_ ?_<;>intro hc<;>simp only [hc,hp,go_sem]
  · exact absurd (.inl (odT hc)) h10
  refine qD ?_ ?_<;>intro hc<;>simp only [hc,hp,go_sem]
  · exact absurd (.inr (odT hc)) h10
  refine qD ?_ ?_<;>intro hc<;>simp only [hc,hp,go_sem]
  · have h5:=odT hc;obtain ⟨a,c,hK⟩:=ze ((qu ho).1 (by omega));have ham:a∈x.Kids:=by rw [hK];simp
    have hcm:c∈x.Kids:=by rw [hK];simp
    have hr:zF b R lim x l=if a.Kind=4 then (jg (zA a) c,3,jA (zA a) c)
      else if wT b R lim x l=true then (zP (b.Defs.getD a.Value.toNat qV) c,5,0) else (qV,0,0):=by unfold zF;rw [hK];simp only [];rw [if_neg h3,if_neg h10,if_pos h5];rfl
    rw [hr];simp only [hK,hp,List.map_cons,List.map_nil,Option.map_some,go_sem];refine qD ?_ ?_<;>intro hc<;>simp only [hc,hp,go_sem]
    · have h4:=odT hc;obtain ⟨k,hk⟩:=zi ((qu (qv ho ham)).2 (.inl h4));have hk0:zA a=k:=by unfold zA;rw [hk];rfl
      have hkm:k∈a.Kids:=by rw [hk];simp
      have hK0:=hK;replace hK:=And.intro hK hk;simp only [hK,hp,List.map_cons,List.map_nil,Option.map_some,go_sem];refine qH (VG (zd (zd hx ham) hkm) (zd hx hcm)) ?_;simp only [hp,go_sem];refine qK (k:=4) (by rfl) (by simp [go_sem]) (qA.isAgg _) (by decide) ?_;simp only [hp,go_sem];refine qK (k:=4) (by rfl) (by simp [go_sem]) (qA.isAgg _) (by decide) ?_;simp only [hp,go_sem];rw [if_pos h4,hk0];exact .of0 fun _=>jr rfl
    have h4:=odF hc;rw [if_neg h4];have hav:a.Kind=11→0≤a.Value∧a.Value<(b.Defs.length:Nat):=ZV (qv ho ham) (jy hf ham);refine z4 (vs':=[.ept (z6 b R lim) 0,.ept x.enc 0,.int .i64 l]) (Cvs.cons (.refl (by simp [AV.tree,AV.trees,go_sem])) (Cvs.cons (.ptr hp (by decide) rfl (.refl (by simp [go_sem]))) (Cvs.cons (.refl rfl) Cvs.nil))) (qS7 hK hav hbz (fun d hd=>by have:=((Qe hb).2 d hd).2.2;omega) (by omega) (by omega)) rfl ?_;simp only [hp,go_sem];refine qD ?_ ?_<;>intro hc<;>simp only [hc,hp,go_sem]
    · have hi:=hc;have h11:a.Kind=11:=by
        unfold wT at hi;rw [hK] at hi;simp only [bAt,decide_eq_true_eq] at hi;exact hi.1
      obtain ⟨n,hV⟩:∃n:Nat,a.Value=n:=⟨a.Value.toNat,by have:=hav h11;omega⟩;have hlt:n<b.Defs.length:=by have:=hav h11;omega
      replace hK:=And.intro hK hV;simp only [hK,hp,List.map_cons,List.map_nil,Option.map_some,go_sem];simp only [hp,List.getElem?_map,gEg hlt,Option.map_some,go_sem];simp only [hK,hp,List.map_cons,List.map_nil,Option.map_some,go_sem];refine qH VE ?_;simp only [hp,go_sem];refine qK (k:=4) (by rfl) (by simp [go_sem]) (qA.isAgg _) (by decide) ?_;simp only [hp,go_sem];exact .of0 fun _=>jr (by simp [hlt])
    · refine qK (k:=4) (by rfl) (by rfl) (by exact ⟨_,rfl⟩) (by decide) ?_;simp only [hp,go_sem];exact .of0 fun _=>js rfl
  have h5:=odF hc;refine qD ?_ ?_<;>intro hc<;>simp only [hc,hp,go_sem]
  · have h7:=odT hc;obtain ⟨a,c,hK⟩:=ze ((qu ho).1 (by omega));have ham:a∈x.Kids:=by rw [hK];simp
    have hcm:c∈x.Kids:=by rw [hK];simp
    have hr:zF b R lim x l=if (zB x l).2=0 then (jg c (zB x l).1,4,jA c (zB x l).1) else (qV,0,0):=by unfold zF;rw [hK];simp only [];rw [if_neg h3,if_neg h10,if_neg h5,if_pos h7];rfl
    rw [hr];have hvl:(zB x l).2=0→(zB x l).1.valid=true:=by
      have e:zB x l=qn a (c.levels 0 l) l:=by unfold zB;rw [hK]
      rw [e];exact Vy (zd hx ham)
    refine zK (qj2 hK (fun h6=>by obtain ⟨k,hk⟩:=zi ((qu (qv ho ham)).2 (by omega));exact ⟨k,[],hk⟩) (by omega) (by omega) (by omega) (by omega) hp fun ex=> ?_);simp only [hp,go_sem];refine z7 (by simp [go_sem]) ja rfl qA.putall ?_;have hp2:∀o,(h++ex++[o])[id]?=some (.row 4 [x.enc] true):=fun o=>by rw [List.append_assoc,List.getElem?_append_left (jV hp)];exact hp
    simp only [Wf,hp2,go_sem];refine qD ?_ ?_<;>intro hc<;>simp only [hc,hp,go_sem]
    · have h0:=odT hc;simp only [hK,hp2,List.map_cons,List.map_nil,Option.map_some,go_sem];refine VH [(h++ex).length] (vs':=[.ept c.enc 0,.ept (zB x l).1.enc 0]) (Cvs.cons (.refl (by simp [AV.tree,go_sem])) (Cvs.cons (.ptr qg4 (by decide) rfl (.refl (by simp [go_sem]))) Cvs.nil)) (VG (zd hx hcm) (hvl h0)) ?_;simp only [hp,go_sem];refine qK (k:=4) (by rfl) (by simp [go_sem]) (qA.isAgg _) (by decide) ?_;simp only [hp,go_sem];refine qK (k:=4) (by rfl) (by simp [go_sem]) (qA.isAgg _) (by decide) ?_;simp only [hp,go_sem];rw [if_pos h0,qkF,qkE,List.append_assoc];refine .of ?_;exact jr rfl
    · refine qK (k:=4) (by rfl) (by rfl) (by exact ⟨_,rfl⟩) (by decide) ?_;simp only [hp,go_sem];rw [List.append_assoc];refine .of ?_;exact js (if_neg (odF hc))
  have h7:=odF hc;refine qK (k:=4) (by rfl) (by rfl) (by exact ⟨_,rfl⟩) (by decide) ?_;simp only [hp,go_sem];exact .of0 fun _=>js (by unfold zF;split;rfl;rw [if_neg h3,if_neg h10,if_neg h5,if_neg h7])
end Go.Ab
namespace Go.Ab
open Go
set_option maxRecDepth 10000
set_option maxHeartbeats 2000000
attribute [local simp] qr qa zW
theorem t836 {x:qA} {b:qF} {R:List Int} {lim:Int} (l:Int) (hb:b.ok=true) (hbz:b.sz≤1048576) (hx:x.valid=true) (hf:x.refs b.Defs.length=true) (hR:R.length≤24) (hl:0≤l∧l+x.dep≤1000) {h:List qC} {id:Nat} {K:AV→List qC→Prop} (hp:h[id]?=some (.row 4 [x.enc] true)) (hk:∀ex,K (jQ (jT b R lim x l)) (h++ex)):SCall Gm 836 [.ept (z6 b R lim) 0,.ptr id 0 0,.int .i64 l] h K:=by
  refine SCall.tree [] [] g836 (by kernel_rfl) rfl (by simp [AV.tree,AV.trees,go_sem]) ?_ hk;simp only [Zq,qL,hp,go_sem];obtain ⟨ho,hd,hs,hz,hv⟩:=zZ hx;have hL:=x.len_sz;have hres:=WJ b R lim x l;refine zK (qj1 hb hbz hx hf hR (by omega) hp fun ex=> ?_);replace hp:(h++ex)[id]?=some (.row 4 [x.enc] true):=by rw [List.getElem?_append_left (jV hp)];exact hp
  simp only [jQ,hp,go_sem];refine qK (k:=4) (by rfl) (by simp [go_sem]) (qA.isAgg _) (by decide) ?_;simp only [hp,go_sem];refine qD ?_ ?_<;>intro hc<;>simp only [hc,hp,go_sem]
  · refine qK (k:=4) (by rfl) (by simp [go_sem]) (qA.isAgg _) (by decide) ?_;simp only [hp,go_sem];rw [hres,if_neg (by simpa using hc)];refine .of ?_;exact jr rfl
  rw [if_pos (by simpa using hc)] at hres;refine qD ?_ ?_<;>intro hc<;>simp only [hc,hp,go_sem]
  · rw [qj (n:=l+1) (by omega) (by omega)];have hbx:qW x.Kind=1:=by unfold qW;rw [if_pos (odT hc)]
    obtain ⟨m,hm⟩:∃m,m=l+1:=⟨_,rfl⟩;rw [hbx,←hm] at hres;rw [←hm];refine Sem.loop (fun i:Nat=>i≤x.Kids.length∧jT b R lim x l=wK x ((x.Kids.drop i).map (jT b R lim)) i m) (fun i=>(⟨[(0,.ept (z6 b R lim) 0),(1,.ptr id 0 0),(2,.int .i64 m),(12,.int .i64 (i:Nat))],[(6,.agg [.int .i64 0,.int .i64 0,.nils,.nils])],h++ex⟩:VSt)) (fun i=>x.Kids.length-i) 0 (by kernel_rfl) ⟨Nat.zero_le _,hres⟩ (Can.sub (by simp [go_sem]) (by simp [go_sem])) ?_;rintro i ⟨hi,hI⟩;simp only [hp,go_sem];refine qD ?_ ?_<;>intro hc<;>simp only [hc,hp,go_sem]
    · have hlt:i<x.Kids.length:=by have:=odT hc;omega
      simp only [hp,List.getElem?_map,gEg hlt,Option.map_some,go_sem];have hkm:=gMm hlt;have hkd:=qA.dep_kid hkm;rw [Q6 hlt] at hI;refine qH (c836 _ b R lim m hb hbz (zd hx hkm) (jy hf hkm) hR (by omega)) ?_;simp only [jQ,hp,go_sem];refine qK (k:=4) (by rfl) (by simp [go_sem]) (qA.isAgg _) (by decide) ?_;simp only [hp,go_sem];refine qD ?_ ?_<;>intro hc<;>simp only [hc,hp,go_sem]
      · rw [if_pos (odT hc)] at hI;simp only [qe (show i<4611686018427387904 by omega)];refine qZ (i+1) ⟨by omega, ?_⟩ (by omega) (Can.sub (by simp [go_sem]) (by simp [go_sem]));exact hI
      rw [if_neg (odF hc)] at hI;refine Y7 (ys:=x.Kids.map qA.enc) Els.lst (by simp;omega) ?_;simp only [hp,go_sem];refine qK (k:=4) (by rfl) (by rfl) (by exact ⟨_,rfl⟩) (by decide) ?_;simp only [hp,go_sem];rw [z5 hlt];simp only [hp,go_sem];refine z7 (by simp [go_sem]) ja (by simp [hlt];rfl) qA.putcore ?_;simp only [Wf,hp,go_sem];refine qK (k:=4) (by rfl) (by rfl) (by exact ⟨_,rfl⟩) (by decide) ?_;simp only [hp,go_sem];rw [List.append_assoc];refine .of ?_;exact Va (Jm (by simp [List.map_set,wh]) (by simp)) hI
    · obtain rfl:i=x.Kids.length:=by have:=odF hc;omega
      refine qK (k:=4) (by rfl) (by rfl) (by exact ⟨_,rfl⟩) (by decide) ?_;simp only [hp,go_sem];refine .of ?_;exact js (by rw [hI,List.drop_length];rfl)
  · have hbx:qW x.Kind=0:=by unfold qW;rw [if_neg (odF hc)]
    rw [hbx,Int.add_zero] at hres;obtain ⟨m,hm⟩:∃m,m=l:=⟨_,rfl⟩;rw [←hm] at hres⊢;refine Sem.loop (fun i:Nat=>i≤x.Kids.length∧jT b R lim x m=wK x ((x.Kids.drop i).map (jT b R lim)) i m) (fun i=>(⟨[(0,.ept (z6 b R lim) 0),(1,.ptr id 0 0),(2,.int .i64 m),(12,.int .i64 (i:Nat))],[(6,.agg [.int .i64 0,.int .i64 0,.nils,.nils])],h++ex⟩:VSt)) (fun i=>x.Kids.length-i) 0 (by kernel_rfl) ⟨Nat.zero_le _,hres⟩ (Can.sub (by simp [go_sem]) (by simp [go_sem])) ?_;rintro i ⟨hi,hI⟩;simp only [hp,go_sem];refine qD ?_ ?_<;>intro hc<;>simp only [hc,hp,go_sem]
    · have hlt:i<x.Kids.length:=by have:=odT hc;omega
      simp only [hp,List.getElem?_map,gEg hlt,Option.map_some,go_sem];have hkm:=gMm hlt;have hkd:=qA.dep_kid hkm;rw [Q6 hlt] at hI;refine qH (c836 _ b R lim m hb hbz (zd hx hkm) (jy hf hkm) hR (by omega)) ?_;simp only [jQ,hp,go_sem];refine qK (k:=4) (by rfl) (by simp [go_sem]) (qA.isAgg _) (by decide) ?_;simp only [hp,go_sem];refine qD ?_ ?_<;>intro hc<;>simp only [hc,hp,go_sem]
      · rw [if_pos (odT hc)] at hI;simp only [qe (show i<4611686018427387904 by omega)];refine qZ (i+1) ⟨by omega, ?_⟩ (by omega) (Can.sub (by simp [go_sem]) (by simp [go_sem]));exact hI
      rw [if_neg (odF hc)] at hI;refine Y7 (ys:=x.Kids.map qA.enc) Els.lst (by simp;omega) ?_;simp only [hp,go_sem];refine qK (k:=4) (by rfl) (by rfl) (by exact ⟨_,rfl⟩) (by decide) ?_;simp only [hp,go_sem];rw [z5 hlt];simp only [hp,go_sem];refine z7 (by simp [go_sem]) ja (by simp [hlt];rfl) qA.putcore ?_;simp only [Wf,hp,go_sem];refine qK (k:=4) (by rfl) (by rfl) (by exact ⟨_,rfl⟩) (by decide) ?_;simp only [hp,go_sem];rw [List.append_assoc];refine .of ?_;exact Va (Jm (by simp [List.map_set,wh]) (by simp)) hI
    · obtain rfl:i=x.Kids.length:=by have:=odF hc;omega
      refine qK (k:=4) (by rfl) (by rfl) (by exact ⟨_,rfl⟩) (by decide) ?_;simp only [hp,go_sem];refine .of ?_;exact js (by rw [hI,List.drop_length];rfl)
end Go.Ab
namespace Go.Ab
open Go
set_option maxRecDepth 10000
set_option maxHeartbeats 2000000
attribute [local simp] qr qa zW
theorem t481 {b:qF} {R:List Int} {lim:Int} {x:qA} (hb:b.ok=true) (hbz:b.sz≤1048576) (hx:x.valid=true) (hf:x.refs b.Defs.length=true) (hR:R.length≤24) {h:List qC} {id:Nat} {K:AV→List qC→Prop} (hp:h[id]?=some (.row 4 [x.enc] true)) (hk:∀ex,K (jQ (J4 b R lim x)) (h++ex)):SCall Gm 481 [.ept (z6 b R lim) 0,.ptr id 0 0] h K:=by
  refine SCall.tree [] [] g481 (by kernel_rfl) rfl (by simp [AV.tree,AV.trees,go_sem]) ?_ hk;simp only [X8,qL,hp,go_sem];obtain ⟨ho,hd,hs,hz,hv⟩:=zZ hx;have hosz:=qdX (R:=R) (lim:=lim) hb x 0 hx;refine zK (t836 0 hb hbz hx hf hR (by omega) hp fun ex=> ?_);obtain ⟨H,hH⟩:∃H,H=h++ex:=⟨_,rfl⟩;rw [←hH];unfold J4;obtain ⟨o,hoo⟩:∃o,o=jT b R lim x 0:=⟨_,rfl⟩;rw [←hoo] at hosz⊢;have hod:=o.1.dep_size;have hos:=o.1.size_sz;simp only [jQ,hp,go_sem];refine z7 (by simp [go_sem]) ja rfl qA.putall ?_;simp only [Wf,List.set_cons_zero,hp,go_sem];have hl:(H++[qC.row 4 [o.1.enc] true])[H.length]?=some (.row 4 [o.1.enc] true):=ja;have cvp:Cv (H++[qC.row 4 [o.1.enc] true]) (.ptr H.length 0 0) (.ept o.1.enc 0):=.ptr hl (by decide) rfl (.refl (by simp [go_sem]));refine qY ?_ ?_<;>intro hc<;>simp only [hc,hp,go_sem];rotate_left
  · simp only [go_sem,hl];refine qK (k:=4) (by rfl) (by simp [go_sem]) (qA.isAgg _) (by decide) ?_;simp only [hp,go_sem];rw [if_neg (fun h=>h.1 (by simpa using hc))];rw [hH,List.append_assoc];refine .of ?_;exact jr (y:=(_,_,_)) rfl
  have h1:¬o.2.1=0:=by simpa using hc
  refine qY ?_ ?_<;>intro hc<;>simp only [hc,hp,go_sem];rotate_left
  · simp only [go_sem,hl];refine qK (k:=4) (by rfl) (by simp [go_sem]) (qA.isAgg _) (by decide) ?_;simp only [hp,go_sem];rw [if_neg (fun h=>by simp [h.2.1] at hc)];rw [hH,List.append_assoc];refine .of ?_;exact jr (y:=(_,_,_)) rfl
  have h2:=odT hc;refine z4 (vs':=[.ept o.1.enc 0]) (Cvs.cons cvp Cvs.nil) (c765 (by omega) (by omega)) rfl ?_;simp only [hp,go_sem];refine qD ?_ ?_<;>intro hc<;>simp only [hc,hp,go_sem]
  · simp only [go_sem,hl];refine qK (k:=4) (by rfl) (by simp [go_sem]) (qA.isAgg _) (by decide) ?_;simp only [hp,go_sem];rw [if_pos ⟨h1,h2,by simpa using hc⟩];rw [hH,List.append_assoc];refine .of ?_;exact jr (y:=(_,_,_)) rfl
  · simp only [go_sem,hl];refine qK (k:=4) (by rfl) (by simp [go_sem]) (qA.isAgg _) (by decide) ?_;simp only [hp,go_sem];rw [if_neg (fun h=>by simp [h.2.2] at hc)];rw [hH,List.append_assoc];refine .of ?_;exact jr (y:=(_,_,_)) rfl
end Go.Ab
namespace Go.Ab
open Go
set_option maxRecDepth 10000
set_option maxHeartbeats 2000000
attribute [local simp] qr qa zW
theorem qT4 {x:qA} {f:qA→Int→qA×Int} {l:Int}:∀(ks:List qA) (i:Nat),(∀y∈ks,0≤(f y l).2∧(f y l).2≤5)→0≤(jf x (ks.map f) i l).2∧(jf x (ks.map f) i l).2≤5
  |[],_,_=>by simp [jf]
  | y::ks,i,h=>by
    rw [List.map_cons,jf];split
    · exact qT4 ks (i+1) fun z hz=>h z (by simp [hz])
    · exact h y (by simp)
theorem qYW {b:qF} {I:List Bool} {x:qA} {l:Int}:0≤(atC b I x l).2∧(atC b I x l).2≤5:=by
  unfold atC at1
  repeat' split
  all_goals simp
theorem qXK {b:qF} {I:List Bool}:∀(x:qA) (l:Int),0≤(zU b I x l).2∧(zU b I x l).2≤5:=qA.ind fun x ih l=>by
  rw [Za];split
  · exact qT4 _ _ fun y hy=>ih y hy _
  · exact qYW
theorem qjO {b:qF} {lim:Int} {c:qA} (hc:Sim b c):
    ((zU b (qy b lim b.Defs.length) c 0).2=0∧(J4 b (zp b) lim c).2.1=0∧(J4 b (zp b) lim c).2.2=0)∨
    (¬(zU b (qy b lim b.Defs.length) c 0).2=0∧(zU b (qy b lim b.Defs.length) c 0).1.fits=false∧(J4 b (zp b) lim c).2.2=4)∨
    (¬(zU b (qy b lim b.Defs.length) c 0).2=0∧¬(zU b (qy b lim b.Defs.length) c 0).1.fits=false∧J4 b (zp b) lim c=((zU b (qy b lim b.Defs.length) c 0).1,(zU b (qy b lim b.Defs.length) c 0).2,0)):=by
  obtain ⟨hv,hf,_,hab⟩:=hc;have ho:=(zZ hv).1;have hr:=qXL (lim:=lim) c 0 ho hf;have hd:=(zZ hv).2.1;have hs:=qjS (lim:=lim) c 0 0 ho hf (by omega) (by omega) (qPT c 0 ho hab);unfold J4;simp only [];generalize jT b (zp b) lim c 0=p at hr hs⊢;generalize zU b (qy b lim b.Defs.length) c 0=o at hr hs⊢;obtain ⟨o1,o2⟩:=o;obtain ⟨p1,p2,p3⟩:=p;simp only at hr hs⊢;unfold Qm at hs;simp only at hs;subst hr;rcases hs with ⟨h1,h2⟩ | ⟨h1,h2,h3⟩
  · subst h1 h2;by_cases hz:o2=0
    · simp [hz]
    · by_cases hft:p1.fits=false
      · simp [hz,hft]
      · simp [hz,hft]
  · subst h1;simp [h2,h3]
def Qq (k:List Int) (e:Int):List Int:=k.set e.toNat (IntKind.i64.wrap (gI k e+1))
theorem qPV {k:List Int} {e:Int}:(Qq k e).length=k.length:=by simp [Qq]
noncomputable def qw (b:qF) (lim:Int):Nat→qA→List Int→qA×List Int×Int
  | 0,c,k=>(c,k,0)
  | n+1,c,k=>if (zU b (qy b lim b.Defs.length) c 0).2=0 then (c,k,0) else if (zU b (qy b lim b.Defs.length) c 0).1.fits=false then (qV,k,4)
    else qw b lim n (zU b (qy b lim b.Defs.length) c 0).1 (Qq k ((zU b (qy b lim b.Defs.length) c 0).2-1))
theorem UR {b:qF} {lim:Int} (hb:b.ok=true) (hbs:∀d∈b.Defs,d.strat 0=true):∀(n:Nat) (c:qA) (k:List Int),Sim b c→(qw b lim n c k).2.1.length=k.length∧(((qw b lim n c k).2.2=0∧Sim b (qw b lim n c k).1)∨((qw b lim n c k).2.2=4∧(qw b lim n c k).1=qV))
  | 0,c,k,hc=>⟨rfl,.inl ⟨rfl,hc⟩⟩
  | n+1,c,k,hc=>by
    rw [qw];split
    · exact ⟨rfl,.inl ⟨rfl,hc⟩⟩
    · split
      · exact ⟨rfl,.inr ⟨rfl,rfl⟩⟩
      · rename_i h1 h2;have:=UR (lim:=lim) hb hbs n _ (Qq k ((zU b (qy b lim b.Defs.length) c 0).2-1)) (qRY hb hbs hc h1 h2);rw [qPV] at this;exact this
theorem Zs {A ex:List qC} {r:qC} {id:Nat} {k:List Int} (hid:id<A.length):(RW (A++r::ex) id k)[A.length]?=some r:=by
  unfold RW;rw [List.getElem?_set_ne (by omega),List.getElem?_append_right (Nat.le_refl _),Nat.sub_self];rfl
theorem qYK {A ex:List qC} {r r':qC} {id:Nat} {k:List Int} (hid:id<A.length):(RW (A++r::ex) id k).set A.length r'=RW (A++r'::ex) id k:=by
  unfold RW;rw [List.set_comm _ _ (by omega),List.set_append_right _ _ (Nat.le_refl _),Nat.sub_self];rfl
theorem qg3 {A ex:List qC} {r:qC} {id:Nat} {k:List Int} (hid:id<A.length):(only [A.length] (RW (A++r::ex) id k))[A.length]?=some r:=by
  simp only [only,List.getElem?_mapIdx,Zs hid];simp
theorem qkD {A ex:List qC} {r:qC} {id:Nat} {k:List Int} (hid:id<A.length):jG [A.length] (RW (A++r::ex) id k)=RW (A++.dead::ex) id k:=by
  refine List.ext_getElem? fun i=> ?_;simp only [jG,List.getElem?_mapIdx];by_cases hi:i=A.length
  · subst hi;rw [Zs hid,Zs hid];simp
  · have e:(RW (A++.dead::ex) id k)[i]?=(RW (A++r::ex) id k)[i]?:=by
      unfold RW;rw [List.getElem?_set,List.getElem?_set];simp only [lAp,List.length_cons];split
      · rfl
      · by_cases hl:i<A.length
        · rw [List.getElem?_append_left hl,List.getElem?_append_left hl]
        · rw [List.getElem?_append_right (by omega),List.getElem?_append_right (by omega)];rcases hn:i-A.length with _ | j
          · omega
          · rfl
    rw [e];cases (RW (A++r::ex) id k)[i]? with
    | none=>rfl
    | some o=>simp [hi]
theorem UX {b:qF} {c:qA} (h:Sim b c):c.sz≤2000∧c.dep≤80∧c.vb 4294967296=true:=by
  obtain ⟨_,h2,_,h4,h5⟩:=zZ h.1;exact ⟨h4,h2,h5⟩
end Go.Ab
namespace Go.Ab
open Go
set_option maxRecDepth 10000
set_option maxHeartbeats 2000000
attribute [local simp] qr qa zW
theorem s500 {b:qF} {lim:Int} {x:qA} {n:Nat} {k0:List Int} {h:List qC} {id:Nat} {K:AV→List qC→Prop} (hb:b.ok=true) (hbz:b.sz≤1048576) (hbs:∀d∈b.Defs,d.strat 0=true) (hx:Sim b x) (hn:n≤2000) (hid:id<h.length) (hk:k0.length=5)
    (hK0:∀ex,(qw b lim n x k0).2.2=0→K (.tup [(qw b lim n x k0).1.enc,.int .i64 0]) (RW (h++ex) id (qw b lim n x k0).2.1))
    (hK1:∀ex,(qw b lim n x k0).2.2=4→K (.tup [.agg [.int .i64 0,.int .i64 0,.nils,.nils],.int .i64 4]) (RW (h++ex) id (qw b lim n x k0).2.1)):
    SCall Gm 500 [.ept (z6 b (zp b) lim) 0,.ept x.enc 0,.int .i64 n,.slice 1 id 0 5 false] (RW h id k0) K:=by
  have hR:(zp b).length≤24:=by have:=qWK (zD b) b.Defs.length;have:=QD hb;unfold zp;omega
  refine SCall.run [] [] g500 (by kernel_rfl) rfl ?_;simp only [YG,qL,go_sem];refine z7 (by simp [go_sem]) ja rfl qA.putall ?_;rw [Wf];simp only [List.set_cons_zero,Qk hid,Ql,go_sem];refine j9 (fun q:Nat×qA×List Int×List qC=>q.1≤n∧Sim b q.2.1∧q.2.2.1.length=5∧qw b lim n x k0=qw b lim (n-q.1) q.2.1 q.2.2.1)
    (fun q=>(⟨[(0,.ept (z6 b (zp b) lim) 0),(2,.int .i64 (n:Nat)),(3,.slice 1 id 0 5 false),(10,.ptr h.length 0 0),(11,.int .i64 (q.1:Nat))],[(8,.agg [.int .i64 0,.int .i64 0,.nils,.nils])],RW (h++.row 4 [q.2.1.enc] true::q.2.2.2) id q.2.2.1⟩:VSt)) (fun q=>n-q.1) (0,x,k0,[])
    (fun q:qA×List Int×List qC=>Sim b q.1∧qw b lim n x k0=(q.1,q.2.1,0)) (fun q=>(⟨[(10,.ptr h.length 0 0)],[(8,.agg [.int .i64 0,.int .i64 0,.nils,.nils])],RW (h++.row 4 [q.1.enc] true::q.2.2) id q.2.1⟩:VSt)) (by kernel_rfl) ⟨Nat.zero_le _,hx,hk,rfl⟩ (Can.sub (by simp [go_sem]) (by simp [go_sem])) ?_ ?_
  · rintro ⟨i,c,k,ex⟩ ⟨h1,h2,h3,h4⟩;simp only at h1 h2 h3 h4⊢;simp only [go_sem];refine qD ?_ ?_<;>intro hc<;>simp only [hc,go_sem]
    · have hlt:i<n:=by have:=odT hc;omega
      have hv:=h2.1;have hf:=h2.2.1;refine zK (t481 hb hbz hv hf hR (Zs hid) fun ex2=> ?_);rw [Qk (by simp;omega),List.append_assoc,List.cons_append];have hs:=qjO (lim:=lim) h2;have hsim:=qRY (I:=qy b lim b.Defs.length) hb hbs h2;have hkd:=qXK (b:=b) (I:=qy b lim b.Defs.length) c 0;obtain ⟨m,hm⟩:∃m,n-i=m+1:=⟨n-i-1,by omega⟩;rw [hm,qw] at h4;generalize J4 b (zp b) lim c=p at hs⊢;generalize zU b (qy b lim b.Defs.length) c 0=o at hs h4 hsim hkd;obtain ⟨p1,p2,p3⟩:=p;obtain ⟨o1,o2⟩:=o;simp only [Prod.mk.injEq] at hs h4 hsim hkd;simp only [jQ,go_sem];refine qK (k:=4) (by rfl) (by simp [go_sem]) (qA.isAgg _) (by decide) ?_;simp only [go_sem];refine qD ?_ ?_<;>intro hc<;>simp only [hc,go_sem]
      · have h0:¬p3=0:=by simpa using hc
        obtain ⟨g1,g2,rfl⟩:¬o2=0∧o1.fits=false∧p3=4:=by
          rcases hs with q | q | q
          · exact absurd q.2.2 h0
          · exact q
          · exact absurd q.2.2.2.2 h0
        rw [if_neg g1,if_pos g2] at h4;rw [h4] at hK1;refine qK (k:=4) (by rfl) (by rfl) (by exact ⟨_,rfl⟩) (by decide) ?_;simp only [go_sem];exact hK1 _ rfl
      have h0:p3=0:=by simpa using hc
      subst h0;refine qD ?_ ?_<;>intro hc<;>simp only [hc,go_sem]
      · have h5:p2=0:=by simpa using hc
        have g1:o2=0:=by
          rcases hs with q | q | q
          · exact q.1
          · exact absurd q.2.2 (by decide)
          · exact absurd (q.2.2.2.1.symm.trans h5) q.1
        rw [if_pos g1] at h4;exact zx (c,k,ex++ex2) ⟨h2,h4⟩ (Can.sub (by simp [go_sem]) (by simp [go_sem]))
      have h5:¬p2=0:=by simpa using hc
      obtain ⟨g1,g2,rfl,rfl,_⟩:¬o2=0∧¬o1.fits=false∧p1=o1∧p2=o2∧(0:Int)=0:=by
        rcases hs with q | q | q
        · exact absurd q.2.1 h5
        · exact absurd q.2.2 (by decide)
        · exact q
      rw [if_neg g1,if_neg g2] at h4;have hid2:∀l,id<(h++qC.row 4 [c.enc] true::l).length:=fun l=>by simp;omega
      simp (disch:=omega) only [go_sem,qQ,qT,Int.reduceEq];rw [qU (hid2 _) (by omega) (by omega)];simp only [go_sem];simp (disch:=omega) only [go_sem,qT];refine zI (hid2 _) (by omega) (by omega) ?_;simp only [go_sem];refine z7 (by simp [go_sem]) (Zs hid) rfl qA.putcore ?_;rw [qYK hid];simp only [List.set_cons_zero,go_sem];rw [qe (by omega)];exact jO (i+1,p1,Qq k (p2-1),ex++ex2) ⟨(by first | omega | (simp only;omega)),hsim g1 g2,by rw [qPV];exact h3,by rw [show n-(i+1)=m by omega];exact h4⟩ (by first | omega | (simp only;omega)) (Can.sub (by simp [go_sem]) (by simp [go_sem]))
    · have hge:n-i=0:=by have:=odF hc;omega
      rw [hge] at h4;exact zx (c,k,ex) ⟨h2,h4⟩ (Can.sub (by simp [go_sem]) (by simp [go_sem]))
  · rintro ⟨c,k,ex⟩ ⟨h1,h2⟩;simp only at h1 h2⊢;obtain ⟨q1,q2,q3⟩:=UX h1;simp only [go_sem];refine VH [h.length] (vs':=[.ept c.enc 0]) (Cvs.cons (.ptr (qg3 hid) (by decide) rfl (.refl (by simp [go_sem]))) Cvs.nil) (c387 (by omega) (by omega) q3) ?_;rw [qkD hid,qjD];simp only [go_sem];refine qK (k:=4) (by rfl) (by simp [go_sem]) (qA.isAgg _) (by decide) ?_;simp only [go_sem];rw [h2] at hK0;exact hK0 _ rfl
end Go.Ab
namespace Go.Ab
open Go
set_option maxRecDepth 10000
set_option maxHeartbeats 2000000
attribute [local simp] qr qa zW
theorem qjJ {b:qF} {c:qA} {limit budget:Int} (h:jF b c limit budget=0):Sim b c∧(∀d∈b.Defs,d.strat 0=true):=by
  obtain ⟨h1,h2,h3,h4,_⟩:=qXF h;have hs:=qjL h;unfold qA.closed at h4;simp only [bAt,Bool.not_eq_true'] at h4;refine ⟨⟨h2,h3,hs,h4.2⟩, ?_⟩;have hbc:zr b=0:=by
    by_cases e:zr b=0
    · exact e
    · exfalso;unfold jF at h;rw [if_neg e] at h;split at h
      · first | exact e h | (split at h;exact e h;exact absurd h (by decide))
      · exact absurd h (by decide)
  unfold zr at hbc;rw [if_pos h1] at hbc;split at hbc
  · rename_i hall;exact List.all_eq_true.1 hall
  · cases hbc
end Go.Ab
namespace Go.Ab
open Go
set_option maxRecDepth 10000
set_option maxHeartbeats 2000000
attribute [local simp] qr qa zW
theorem s499 {b:qF} {lim:Int} {x:qA} {n:Nat} {k0:List Int} {h:List qC} {id:Nat} {K:AV→List qC→Prop} (hb:b.ok=true) (hbz:b.sz≤1048576) (hbs:∀d∈b.Defs,d.strat 0=true) (hx:Sim b x) (hn:n≤2000) (hid:id<h.length) (hk:k0.length=5)
    (hK0:(qw b lim n x k0).2.2=0→K (.tup [(lay (qw b lim n x k0).1.enc h.length).1,.int .i64 0]) (RW (h++(lay (qw b lim n x k0).1.enc h.length).2) id (qw b lim n x k0).2.1))
    (hK1:(qw b lim n x k0).2.2=4→K (.tup [.agg [.int .i64 0,.int .i64 0,.nils,.nils],.int .i64 4]) (RW h id (qw b lim n x k0).2.1)):
    SCall Gm 499 [.ept (j3 b lim (qy b lim b.Defs.length)) 0,x.enc,.int .i64 n,.slice 1 id 0 5 false] (RW h id k0) K:=by
  refine SCall.run [] [] g499 (by kernel_rfl) rfl ?_;simp only [YF,qL,go_sem];refine qc qA.ln ?_;simp only [go_sem];refine j9 (fun q:Nat×qA×List Int=>q.1≤n∧Sim b q.2.1∧q.2.2.length=5∧qw b lim n x k0=qw b lim (n-q.1) q.2.1 q.2.2)
    (fun q=>(⟨[(0,.ept (j3 b lim (qy b lim b.Defs.length)) 0),(3,.slice 1 id 0 5 false),(12,.int .i64 (n:Nat)),(13,.int .i64 (q.1:Nat))],[(5,q.2.1.enc),(8,.agg [.int .i64 0,.int .i64 0,.nils,.nils])],RW h id q.2.2⟩:VSt)) (fun q=>n-q.1) (0,x,k0)
    (fun q:qA×List Int=>Sim b q.1∧qw b lim n x k0=(q.1,q.2,0)) (fun q=>(⟨[],[(5,q.1.enc),(8,.agg [.int .i64 0,.int .i64 0,.nils,.nils])],RW h id q.2⟩:VSt)) (by kernel_rfl) ⟨Nat.zero_le _,hx,hk,rfl⟩ (Can.sub (by simp [go_sem]) (by simp [go_sem])) ?_ ?_
  · rintro ⟨i,c,k⟩ ⟨h1,h2,h3,h4⟩;simp only at h1 h2 h3 h4⊢;simp only [go_sem];refine qD ?_ ?_<;>intro hc<;>simp only [hc,go_sem]
    · have hlt:i<n:=by have:=odT hc;omega
      have hsz:=qjT (I:=qy b lim b.Defs.length) hb c 0 h2.1;have hcz:=(UX h2).1;refine qH (c494 c b lim _ 0 hb hbz h2.1 h2.2.1 qQQ h2.2.2.1 (by omega)) ?_;have hsim:=qRY (I:=qy b lim b.Defs.length) hb hbs h2;have hkd:=qXK (b:=b) (I:=qy b lim b.Defs.length) c 0;obtain ⟨m,hm⟩:∃m,n-i=m+1:=⟨n-i-1,by omega⟩;rw [hm,qw] at h4;generalize zU b (qy b lim b.Defs.length) c 0=o at h4 hsim hkd hsz⊢;obtain ⟨o1,o2⟩:=o;simp only at h4 hsim hkd hsz;have hds:=o1.dep_size;have hss:=o1.size_sz;simp only [go_sem];refine qK (k:=4) (by rfl) (by simp [go_sem]) (qA.isAgg _) (by decide) ?_;simp only [go_sem];refine qD ?_ ?_<;>intro hc<;>simp only [hc,go_sem]
      · have g1:o2=0:=odT hc;rw [if_pos g1] at h4;exact zx (c,k) ⟨h2,h4⟩ (Can.sub (by simp [go_sem]) (by simp [go_sem]))
      have g1:¬o2=0:=odF hc;rw [if_neg g1] at h4;refine qH (c495 (by omega) (by omega) (by omega)) ?_;simp only [go_sem];refine qD ?_ ?_<;>intro hc<;>simp only [hc,go_sem]
      · rw [if_pos (by simpa using hc)] at h4;rw [h4] at hK1;refine qK (k:=4) (by rfl) (by rfl) (by exact ⟨_,rfl⟩) (by decide) ?_;simp only [go_sem];exact hK1 rfl
      have g2:¬o1.fits=false:=by simpa using hc
      rw [if_neg g2] at h4;simp (disch:=omega) only [go_sem,qQ,qT,Int.reduceEq];rw [qU hid (by omega) (by omega)];simp only [go_sem];simp (disch:=omega) only [go_sem,qT];refine zI hid (by omega) (by omega) ?_;simp only [go_sem];refine Jr qA.ln qA.putcore ?_;simp only [go_sem];rw [qe (by omega)];exact jO (i+1,o1,Qq k (o2-1)) ⟨(by first | omega | (simp only;omega)),hsim g1 g2,by rw [qPV];exact h3,by rw [show n-(i+1)=m by omega];exact h4⟩ (by first | omega | (simp only;omega)) (Can.sub (by simp [go_sem]) (by simp [go_sem]))
    · have hge:n-i=0:=by have:=odF hc;omega
      rw [hge] at h4;exact zx (c,k) ⟨h2,h4⟩ (Can.sub (by simp [go_sem]) (by simp [go_sem]))
  · rintro ⟨c,k⟩ ⟨h1,h2⟩;simp only at h1 h2⊢;have hcz:=(UX h1).1;simp only [go_sem];refine wg (n385 c (by omega)) ?_;simp only [go_sem];refine qVF rfl ?_;simp only [WK,go_sem,Ql,Qk hid];rw [h2] at hK0;exact hK0 rfl
end Go.Ab
namespace Go.Ab
open Go
set_option maxRecDepth 10000
set_option maxHeartbeats 2000000
attribute [local simp] qr qa zW
theorem FinF.swapP {X Y W vs:List AV} {t:AV} {h:List qC} (hX:AV.pls X=true) (hY:AV.pls Y=true) (hW:AV.pls W=true) (hh:h=(qP (X++(Y++W)) 0).2) (ht:(lay t 0).2=(qP (Y++(X++W)) 0).2)
    (hv:VR2 (pmu (AV.rowss X) (AV.rowss Y) (AV.rowss W)) (zO vs) (lay t 0).1):FinF (some vs) h t:=by
  have:=FinF.swap (v:=zO vs) hX hY hW hh ht hv;unfold FinF at this⊢;exact this
theorem plsI (k:List Int):AV.pls (k.map qE)=true:=jL (fun _=>rfl) k
theorem WL (k:List Int) (n:Nat):qP (k.map qE) n=(k.map qE,[]):=by
  induction k generalizing n with
  | nil=>rfl
  | cons x k ih=>simp [qP,lay,qE,ih]
end Go.Ab
namespace Go.Ab
open Go
set_option maxRecDepth 10000
set_option maxHeartbeats 2000000
attribute [local simp] qr qa zW
end Go.Ab
namespace Go.Ab
open Go
set_option maxRecDepth 10000
set_option maxHeartbeats 2000000
attribute [local simp] qr qa zW
theorem qh8 {a c:AV} {xs:List AV} {w:Nat} {b:Bool} {r:AV} (h:RelV ρ0 (.tup [a,.lst w xs b,c]) r):RelV ρ0 (.tup [a,.lst w xs false,c]) r:=by
  simp only [RelV,RelVs] at h⊢;obtain ⟨ds,rfl,b1,bs,rfl,h1,b2,bs2,rfl,h2,h3⟩:=h;refine ⟨_,rfl,b1,_,rfl,h1,b2,_,rfl, ?_,h3⟩;rcases h2 with ⟨ys,c,q1,_,q2⟩ | q
  · exact .inl ⟨ys,c,q1,(fun e=>by cases e),q2⟩
  · exact .inr q
end Go.Ab
namespace Go.Ab
open Go
set_option maxRecDepth 10000
set_option maxHeartbeats 2000000
attribute [local simp] qr qa zW
theorem qQW {t:AV} {n:Nat} {pre post h:List qC} (hp:t.pl=true) (hc:t.cn=true) (hn:pre.length=n) (hh:h=pre++((lay t n).2++post)):Cv h (lay t n).1 t:=by
  subst hn;exact qQV hp hc hh
def KL (k:List Int):AV:=.lst 1 (k.map qE) false
theorem Y0 {k:List Int}:(KL k).pl=true:=by simp [KL,AV.pl,plsI]
theorem qSB {k:List Int}:(KL k).cn=true:=by simp [KL,AV.cn,VK (enc:=qE) (fun _=>rfl)]
theorem qSC {k:List Int}:(KL k).rows=1:=by
  have:=qt (KL k) 0;simp only [KL,lay,WL] at this;exact this.symm
theorem qTM (k:List Int):qG ctI k≤k.length:=by rw [JO];exact Nat.le_refl _
theorem c86K {k:List Int} (hk:k.length≤5):Pure Gm 86 [KL k,.lst 1 (k.map qE) false] (.bool true):=c86 k (by omega)
theorem k90K {k:List Int} {m:Int} (h0:0≤m) (hm:m≤2305843009213693952) (hk:k.length≤5):Mark Gm 90 (KL k) (KL (mkL mkI ctI k m)) m (m+(qG ctI k:Nat)):=
  k90 k m h0 (by have:=qTM k;omega) (by omega)
theorem q92K {k:List Int} {m:Int} (h0:0≤m) (hm:m≤2305843009213693952) (hk:k.length≤5):Pure Gm 92 [KL (mkL mkI ctI k m),.int .i64 m] (.int .i64 (m+(qG ctI k:Nat))):=
  q92 k m h0 (by have:=qTM k;omega) (by omega)
theorem qd8 {k:List Int} {m:Int} (n:Nat):(lay (KL (mkL mkI ctI k m)) n).1=(lay (KL k) n).1:=by simp [KL,lay,JD]
end Go.Ab
namespace Go.Ab
open Go
set_option maxRecDepth 10000
set_option maxHeartbeats 2000000
attribute [local simp] qr qa zW
theorem qiX {b:qF} {lim:Int} {x:qA} {n:Nat} {k0:List Int} {h:List qC} {id:Nat} {K:AV→List qC→Prop} (hb:b.ok=true) (hbz:b.sz≤1048576) (hbs:∀d∈b.Defs,d.strat 0=true) (hx:Sim b x) (hn:n≤2000) (ho:h[id]?=some (.row 1 (k0.map qE) true)) (hk:k0.length=5)
    (hK0:∀ex,(qw b lim n x k0).2.2=0→K (.tup [(qw b lim n x k0).1.enc,.int .i64 0]) (RW (h++ex) id (qw b lim n x k0).2.1))
    (hK1:∀ex,(qw b lim n x k0).2.2=4→K (.tup [.agg [.int .i64 0,.int .i64 0,.nils,.nils],.int .i64 4]) (RW (h++ex) id (qw b lim n x k0).2.1)):
    SCall Gm 500 [.ept (z6 b (zp b) lim) 0,.ept x.enc 0,.int .i64 n,.slice 1 id 0 5 false] h K:=by
  have:=s500 (K:=K) (h:=h) hb hbz hbs hx hn (jV ho) hk hK0 hK1;rwa [qPJ ho] at this
def BkH (ds:List qA) (X:AV) (h:List qC):Prop:=(ds=[]∧X=.nils)∨∃id,id≠0∧X=.slice 4 id 0 ds.length false∧h[id]?=some (.row 4 (ds.map qA.enc) true)
section
variable {E:Ev} {l:List qB} {ks:List Fr1} {s m:qg} {h:List qC} {Q:qb→VSt→Prop} {k:Nat} {X:AV} {ds:List qA} {c:qA}
theorem qY5 (hX:BkH ds X h) (hl:0<h.length) (hn:ds.length≤24) (hr:∀id h2,h2[0]?=h[0]?→id≠0→h2[id]?=some (.row 4 ((ds++[c]).map qA.enc) true)→R E (.ops l::ks) ⟨(k,.slice 4 id 0 (ds.length+1) false)::s,m,h2⟩ Q):
    wc E 4 (some k) (some X) (some (.slice 4 h.length 0 1 false)) l ks ⟨s,m,h++[.row 4 [c.enc] true]⟩ Q:=by
  rcases hX with ⟨rfl,rfl⟩ | ⟨id,hid,rfl,ho⟩
  · refine qSK (ys:=[c.enc]) (Els.row ja rfl) (by simp) ?_;refine hr _ _ ?_ (by simp) ?_
    · rw [List.getElem?_append_left (by simp),List.getElem?_append_left hl]
    · rw [ja];rfl
  · have hil:id<h.length:=(List.getElem?_eq_some_iff.1 ho).1;refine jM (el:=ds.map qA.enc) ja (by rw [List.getElem?_append_left hil];exact ho) (by simp) (by omega) ?_;refine hr _ _ ?_ (by simp) ?_
    · rw [List.getElem?_append_left (by simp),List.getElem?_set_ne hid,List.getElem?_append_left hl]
    · rw [List.getElem?_append_right (by simp)];simp
end
theorem BkH.run {ds:List qA} {X:AV} {h ex:List qC} {k:List Int} (hX:BkH ds X h) (hl:0<h.length):BkH ds X (RW (h++ex) 0 k):=by
  rcases hX with q | ⟨id,hid,e,ho⟩
  · exact .inl q
  · refine .inr ⟨id,hid,e, ?_⟩;unfold RW;rw [List.getElem?_set_ne (Ne.symm hid),List.getElem?_append_left (jV ho)];exact ho
noncomputable def ji (b:qF) (lim:Int) (n:Nat):List qA→List qA×List Int→Option (List qA×List Int)
  |[],a=>some a
  | c::cs,a=>if (qw b lim n c a.2).2.2=0 then ji b lim n cs (a.1++[(qw b lim n c a.2).1],(qw b lim n c a.2).2.1) else none
def wD (y:qF×List Int×Int):AV:=.tup [y.1.enc,.lst 1 (y.2.1.map qE) false,.int .i64 y.2.2]
def QQ (y:qF×List Int×Int):AV:=.tup [y.1.enc,.lst 1 (y.2.1.map qE) (!decide (y.2.2=0)),.int .i64 y.2.2]
noncomputable def wq (b:qF) (lim:Int) (n:Nat):qF×List Int×Int:=match ji b lim n b.Defs ([],[0,0,0,0,0]) with
  | some (ds,k)=>(⟨ds⟩,k,0)
  | none=>(⟨[]⟩,[],4)
theorem qhA {h:List qC} {y:qF×List Int×Int} {ds:List qA} {k:List Int} {id:Nat} {X:AV} (e:y=(⟨ds⟩,k,0)) (hk:k.length=5) (ho:h[id]?=some (.row 1 (k.map qE) true)) (hX:BkH ds X h):Fin (some [.agg [X],.slice 1 id 0 5 false,.int .i64 0]) h (QQ y):=by
  subst e;unfold Fin;refine .tup rfl ?_;simp only [List.zip_cons_cons,List.zip_nil_left,List.mem_cons,List.not_mem_nil,or_false];rintro p (rfl | rfl | rfl)
  · refine .agg rfl ?_;simp only [List.zip_cons_cons,List.zip_nil_left,List.mem_cons,List.not_mem_nil,or_false];rintro p rfl;rcases hX with ⟨rfl,rfl⟩ | ⟨id,_,rfl,ho⟩
    · exact .nils
    · exact Cv.row ho (by simp) (qr _) (by decide)
  · exact Cv.row ho (by simp [hk]) (qa _) (by decide)
  · exact .refl rfl
theorem UG {h:List qC} {y:qF×List Int×Int} {e:Int} (he:y=(⟨[]⟩,[],e)) (h0:¬e=0):Fin (some [.agg [.nils],.lst 1 [] true,.int .i64 e]) h (QQ y):=by
  subst he;unfold Fin;refine .tup rfl ?_;simp only [List.zip_cons_cons,List.zip_nil_left,List.mem_cons,List.not_mem_nil,or_false,h0,decide_false,Bool.not_false,List.map_nil];rintro p (rfl | rfl | rfl)
  · exact .agg rfl (by simp only [List.zip_cons_cons,List.zip_nil_left,List.mem_cons,List.not_mem_nil,or_false];rintro p rfl;exact .nils)
  · exact .refl rfl
  · exact .refl rfl
theorem Z5 {b:qF} (hb:b.ok=true) (hbs:∀d∈b.Defs,d.strat 0=true) {c:qA} (hc:c∈b.Defs):Sim b c:=by
  obtain ⟨h1,h2⟩:=Jj hb hc;have h3:=hbs c hc;unfold qA.closed at h1;simp only [bAt,Bool.not_eq_true'] at h1;exact ⟨h1.1,h2,h3,h1.2⟩
theorem qXC {y:qF×List Int×Int}:(QQ y).tree=true:=by simp [QQ,AV.tree,AV.trees,go_sem]
theorem c497 {b:qF} {lim:Int} {n:Nat} (hb:b.ok=true) (hbz:b.sz≤1048576) (hbs:∀d∈b.Defs,d.strat 0=true) (hn:n≤2000):Pure Gm 497 [.ept b.enc 0,.int .i64 lim,.int .i64 n] (QQ (wq b lim n)):=by
  refine Pure.intro [] [] g497 (by kernel_rfl) rfl (by simp [AV.trees,AV.tree,go_sem]) (by exact qXC) ?_;simp only [YD,qL,go_sem];have h24:=QD hb;refine qH (c480 hb hbz) ?_;simp only [go_sem];refine ZM (n:=5) (by decide) ?_;simp only [go_sem,List.nil_append,List.cons_append,List.set_cons_zero,List.set_cons_succ];refine Sem.loop (fun a:Nat×List qA×List Int×AV×List qC=>a.1≤b.Defs.length∧a.2.1.length=a.1∧a.2.2.1.length=5∧a.2.2.2.2[0]?=some (.row 1 (a.2.2.1.map qE) true)∧BkH a.2.1 a.2.2.2.1 a.2.2.2.2∧ji b lim n b.Defs ([],[0,0,0,0,0])=ji b lim n (b.Defs.drop a.1) (a.2.1,a.2.2.1))
    (fun a=>(⟨[(0,.ept b.enc 0),(2,.int .i64 (n:Nat)),(9,.ept (z6 b (zp b) lim) 0),(10,.slice 1 0 0 5 false),(12,.int .i64 (a.1:Nat))],[(6,.agg [.nils]),(11,.agg [a.2.2.2.1])],a.2.2.2.2⟩:VSt)) (fun a=>b.Defs.length-a.1) (0,[],[0,0,0,0,0],.nils,[.row 1 [.int .i64 0,.int .i64 0,.int .i64 0,.int .i64 0,.int .i64 0] true]) (by kernel_rfl) ⟨Nat.zero_le _,rfl,rfl,rfl,.inl ⟨rfl,rfl⟩,rfl⟩ (Can.sub (by simp [go_sem,zp]) (by simp [go_sem])) ?_
  rintro ⟨i,ds,k,X,h⟩ ⟨h1,h2,h3,h4,h5,h6⟩;simp only at h1 h2 h3 h4 h5 h6⊢;simp only [go_sem];refine qD ?_ ?_<;>intro hc<;>simp only [hc,go_sem]
  · have hlt:i<b.Defs.length:=by have:=odT hc;omega
    simp only [List.getElem?_map,gEg hlt,Option.map_some,go_sem];have hm:=gMm hlt;have hr:ji b lim n (b.Defs.drop i) (ds,k)=if (qw b lim n b.Defs[i] k).2.2=0 then ji b lim n (b.Defs.drop (i+1)) (ds++[(qw b lim n b.Defs[i] k).1],(qw b lim n b.Defs[i] k).2.1) else none:=by
      rw [List.drop_eq_getElem_cons hlt,ji]
    rw [hr] at h6;obtain ⟨hkl,hcase⟩:=UR (lim:=lim) hb hbs n b.Defs[i] k (Z5 hb hbs hm);refine zK (qiX hb hbz hbs (Z5 hb hbs hm) hn h4 h3 (fun ex q0=> ?_) fun ex q1=> ?_)
    · rw [if_pos q0] at h6;generalize qw b lim n b.Defs[i] k=o at hkl hcase q0 h6⊢;simp only [go_sem];refine qK (k:=4) (by rfl) (by simp [go_sem]) (qA.isAgg _) (by decide) ?_;simp only [go_sem];have hl:0<h.length:=jV h4;refine qY5 (h5.run hl) (by rw [Ql];simp;omega) (by omega) fun id h2' e0 hid eid=> ?_;simp only [go_sem];rw [qe (by omega)];refine qZ (i+1,ds++[o.1],o.2.1,.slice 4 id 0 (ds.length+1) false,h2') ⟨(by first | omega | (simp only;omega)),by simp [h2],hkl.trans h3,by rw [e0];exact qPI (by simp;omega),.inr ⟨id,hid,by simp,eid⟩,h6⟩ (by first | omega | (simp only;omega)) (Can.sub (by simp [go_sem]) (by simp [go_sem]))
    · rw [if_neg (by omega)] at h6;simp only [go_sem];refine qK (k:=4) (by rfl) (by rfl) (by exact ⟨_,rfl⟩) (by decide) ?_;simp only [go_sem];refine qD ?_ ?_<;>intro hc<;>simp only [hc,go_sem]
      · exact UG (e:=4) (by unfold wq;rw [h6]) (by decide)
      · exact absurd hc (by decide)
  · obtain rfl:i=b.Defs.length:=by have:=odF hc;omega
    rw [List.drop_length,ji] at h6;exact qhA (by unfold wq;rw [h6]) h3 h4 h5
end Go.Ab
namespace Go.Ab
open Go
set_option maxRecDepth 10000
set_option maxHeartbeats 2000000
attribute [local simp] qr qa zW
noncomputable def wQ (b:qF) (lim budget:Int):qF×List Int×Int:=
  if zr b=0 then (if inI lim 0 40&&inI budget 0 2000 then wq b lim budget.toNat else (⟨[]⟩,[],2)) else (⟨[]⟩,[],zr b)
theorem qSY {b:qF} (h:zr b=0):b.ok=true∧∀d∈b.Defs,d.strat 0=true:=by
  unfold zr at h;by_cases h1:b.ok=true
  · rw [if_pos h1] at h;refine ⟨h1, ?_⟩;split at h
    · rename_i hall;exact List.all_eq_true.1 hall
    · exact absurd h (by decide)
  · rw [if_neg h1] at h;exact absurd h (by decide)
theorem c176 {b:qF} {lim budget:Int} (hbz:b.sz≤1048576):Pure Gm 176 [b.enc,.int .i64 lim,.int .i64 budget] (QQ (wQ b lim budget)):=by
  refine Pure.intro [3] [] g176 (by kernel_rfl) rfl (by simp [AV.trees,AV.tree,go_sem]) (by exact qXC) ?_;simp only [Xv,qL,go_sem];refine wL rfl ?_;simp only [go_sem,List.nil_append,List.cons_append,List.set_cons_zero,List.set_cons_succ];refine qH (c496 hbz) ?_;simp only [go_sem];refine qD ?_ ?_<;>intro hc<;>simp only [hc,go_sem]
  · exact UG (by unfold wQ;rw [if_neg (by simpa using hc)]) (by simpa using hc)
  have h0:zr b=0:=by simpa using hc
  obtain ⟨hb,hbs⟩:=qSY h0;have hr:wQ b lim budget=if inI lim 0 40&&inI budget 0 2000 then wq b lim budget.toNat else (⟨[]⟩,[],2):=by unfold wQ;rw [if_pos h0]
  refine qH Qu ?_;simp only [go_sem];refine qY ?_ ?_<;>intro hc<;>simp only [hc,go_sem];rotate_left
  · exact UG (e:=2) (by rw [hr,if_neg (by simp at hc;simp [hc])]) (by decide)
  have hl:inI lim 0 40=true:=by simpa using hc
  refine qH Qu ?_;simp only [go_sem];refine qD ?_ ?_<;>intro hc<;>simp only [hc,go_sem]
  · exact UG (e:=2) (by rw [hr,if_neg (by simp at hc;simp [hc])]) (by decide)
  have hg:inI budget 0 2000=true:=by simpa using hc
  have hg2:=hg;unfold inI at hg2;simp only [bAt,decide_eq_true_eq] at hg2;obtain ⟨n,rfl⟩:∃n:Nat,budget=n:=⟨budget.toNat,by omega⟩;rw [hl,hg,Int.toNat_natCast] at hr;refine qH (c497 hb hbz hbs (by omega)) ?_;rw [hr];generalize wq b lim n=y;simp only [QQ,go_sem];unfold Fin;exact .refl (by simp [zO,AV.tree,AV.trees,go_sem])
end Go.Ab
namespace Go.Ab
open Go
set_option maxRecDepth 10000
set_option maxHeartbeats 2000000
attribute [local simp] qr qa zW
theorem qg8 {y:qF×List Int×Int}:(wD y).pl=true:=by
  simp [wD,qF.enc,AV.pl,AV.pls,jL qA.plx,plsI]
theorem qUY {ds:List qA} {k:List Int} {e:Int} (n:Nat):lay (wD (⟨ds⟩,k,e)) n=(.tup [(lay (qF.mk ds).enc n).1,(lay (KL k) (n+(qF.mk ds).enc.rows)).1,.int .i64 e],(lay (qF.mk ds).enc n).2++(lay (KL k) (n+(qF.mk ds).enc.rows)).2):=by
  simp [wD,KL,lay,qP,qt,WL]
theorem qQF {h:List qC} {y:qF×List Int×Int} {e:Int} (he:y=(⟨[]⟩,[],e)):FinF (some [.agg [.nils],.nils,.int .i64 e]) h (wD y):=by
  subst he;refine ⟨[none,none],rfl,by simp [wD,qF.enc,lay,qP];exact ⟨.ph,.ph,trivial⟩, ?_⟩;simp only [wD,qF.enc,lay,qP,List.map_nil,List.length_nil,List.append_nil,List.length_cons,zO];have q:VR2 [none,none] (.agg [.nils]) (.agg [.slice 4 0 0 0 false]):=.agg rfl (VR2s.cons (.ph rfl) VR2s.nil).2;exact .tup rfl (VR2s.cons q (VR2s.cons (.ph rfl) (VR2s.cons (.tree rfl) VR2s.nil))).2
theorem qbP {h:List qC} {ds:List qA} {k:List Int} (hk:k.length=5) (hh:h=(qP [KL k] 0).2++.row 4 (qP (ds.map qA.enc) 2).1 true::(qP (ds.map qA.enc) 2).2):FinF (some [.agg [.slice 4 1 0 ds.length false],.slice 1 0 0 5 false,.int .i64 0]) h (wD (⟨ds⟩,k,0)):=by
  have hK:AV.rowss [KL k]=1:=by simp only [AV.rowss,qSC]
  have hY:AV.rowss [(.lst 4 (ds.map qA.enc) false:AV)]=AV.rowss (ds.map qA.enc)+1:=by simp only [AV.rowss,AV.rows,Nat.add_zero]
  refine FinF.swapP (X:=[KL k]) (Y:=[.lst 4 (ds.map qA.enc) false]) (W:=[]) ?_ ?_ rfl ?_ ?_ ?_
  · simp only [AV.pls,Y0,Bool.and_self]
  · simp only [AV.pls,AV.pl,jL qA.plx,Bool.and_self]
  · rw [hh,ZE];simp only [hK,List.append_nil,qP,lay,Nat.zero_add]
  · simp [wD,qF.enc,KL,qP,lay,WL]
  · rw [qUY,hK,hY];simp only [qF.enc,KL,lay,qP,List.length_map,WL,hk,zO,AV.rows,AV.rowss,Nat.zero_add,Nat.add_zero];have q:VR2 (pmu 1 (AV.rowss (ds.map qA.enc)+1) 0) (.agg [.slice 4 1 0 ds.length false]) (.agg [.slice 4 0 0 ds.length false]):=.agg rfl (VR2s.cons (.slice (WY (by omega))) VR2s.nil).2;exact .tup rfl (VR2s.cons q (VR2s.cons (.slice (WY (by omega))) (VR2s.cons (.tree rfl) VR2s.nil))).2
end Go.Ab
namespace Go.Ab
open Go
set_option maxRecDepth 10000
set_option maxHeartbeats 2000000
attribute [local simp] qr qa zW
theorem qiW {b:qF} {lim:Int} {x:qA} {n:Nat} {k0:List Int} {h:List qC} {id:Nat} {K:AV→List qC→Prop} (hb:b.ok=true) (hbz:b.sz≤1048576) (hbs:∀d∈b.Defs,d.strat 0=true) (hx:Sim b x) (hn:n≤2000) (ho:h[id]?=some (.row 1 (k0.map qE) true)) (hk:k0.length=5)
    (hK0:(qw b lim n x k0).2.2=0→K (.tup [(lay (qw b lim n x k0).1.enc h.length).1,.int .i64 0]) (RW (h++(lay (qw b lim n x k0).1.enc h.length).2) id (qw b lim n x k0).2.1))
    (hK1:(qw b lim n x k0).2.2=4→K (.tup [.agg [.int .i64 0,.int .i64 0,.nils,.nils],.int .i64 4]) (RW h id (qw b lim n x k0).2.1)):
    SCall Gm 499 [.ept (j3 b lim (qy b lim b.Defs.length)) 0,x.enc,.int .i64 n,.slice 1 id 0 5 false] h K:=by
  have:=s499 (K:=K) (h:=h) hb hbz hbs hx hn (jV ho) hk hK0 hK1;rwa [qPJ ho] at this
theorem qjH {b:qF} {lim budget:Int} (hb:b.ok=true) {c:qA} (hc:c∈b.Defs):jF b c lim budget=if zr b=0 then (if inI lim 0 40&&inI budget 0 2000 then 0 else 2) else zr b:=by
  obtain ⟨h1,h2⟩:=Jj hb hc;unfold jF;rw [hb,h1,h2];simp only [Bool.and_self,if_true];by_cases hs:c.strat 0=true
  · rw [if_pos hs]
  · rw [if_neg hs];have:zr b=9:=by
      unfold zr;rw [if_pos hb,if_neg];exact fun h=>hs (List.all_eq_true.1 h c hc)
    rw [this];rfl
theorem n177 {b:qF} {lim budget:Int} (hbz:b.sz≤1048576):Fresh Gm 177 [b.enc,.int .i64 lim,.int .i64 budget] (wD (wQ b lim budget)):=by
  refine Fresh.intro [] [] g177 (by kernel_rfl) rfl (by simp [AV.trees,AV.tree,go_sem]) qg8 ?_;simp only [Xw,qL,go_sem];refine qc rfl ?_;simp only [go_sem];refine qH (c498 hbz) ?_;simp only [go_sem];refine qD ?_ ?_<;>intro hc<;>simp only [hc,go_sem]
  · have h1:zr b=1:=by unfold zr;rw [if_neg (by simpa using hc)]
    exact qQF (by unfold wQ;rw [h1];rfl)
  have hb:b.ok=true:=by simpa using hc
  have h24:=QD hb;have hlt0:0<b.Defs.length:=by omega
  simp only [List.getElem?_map,gEg hlt0,Option.map_some,go_sem];have hm0:=gMm hlt0;have hz0:=zV (f:=qA.sz) hm0;have hz':b.Defs.length+qG qA.sz b.Defs≤1048576:=hbz;have hcode:=qjH (lim:=lim) (budget:=budget) hb hm0;refine qH (c493 (c:=b.Defs[0]) hbz (by omega)) ?_;simp only [go_sem];refine qD ?_ ?_<;>intro hc<;>simp only [hc,go_sem]
  · refine qQF ?_;have h1:¬jF b b.Defs[0] lim budget=0:=by simpa using hc
    unfold wQ;rw [hcode] at h1⊢;by_cases q:zr b=0
    · rw [if_pos q] at h1⊢;by_cases q2:(inI lim 0 40&&inI budget 0 2000)=true
      · rw [if_pos q2] at h1;exact absurd rfl h1
      · rw [if_neg q2,if_pos q,if_neg q2]
    · rw [if_neg q,if_neg q]
  have h0:jF b b.Defs[0] lim budget=0:=by simpa using hc
  have hsv:J1 b b.Defs[0] lim budget=.ept (j3 b lim (qy b lim b.Defs.length)) 0:=by unfold J1;rw [if_pos h0]
  rw [hsv];obtain ⟨_,hbs⟩:=qjJ h0;obtain ⟨_,_,_,_,_,_,hb0,hb1⟩:=qXF h0;obtain ⟨n,rfl⟩:∃n:Nat,budget=n:=⟨budget.toNat,by omega⟩;have hr:wQ b lim (n:Int)=wq b lim n:=by
    rw [hcode] at h0;unfold wQ;by_cases q:zr b=0
    · rw [if_pos q] at h0⊢;by_cases q2:(inI lim 0 40&&inI (n:Int) 0 2000)=true
      · rw [if_pos q2,Int.toNat_natCast]
      · rw [if_neg q2] at h0;exact absurd h0 (by decide)
    · rw [if_neg q] at h0;exact absurd h0 q
  rw [hr];have hKp:∀k:List Int,AV.pls [KL k]=true:=fun k=>by simp only [AV.pls,Y0,Bool.and_self]
  have hKr:∀k:List Int,AV.rowss [KL k]=1:=fun k=>by simp only [AV.rowss,qSC]
  have hKl:∀k:List Int,(qP [KL k] 0).2.length=1:=fun k=>by rw [jK,hKr]
  have hK2:∀k:List Int,(qP [KL k] 0).2=[.row 1 (k.map qE) true]:=fun k=>by simp [KL,qP,lay,WL]
  refine ZM (n:=5) (by decide) ?_;simp only [go_sem,List.nil_append,List.cons_append,List.set_cons_zero,List.set_cons_succ];refine Sem.loop (fun a:Nat×List qA×List Int=>a.1≤b.Defs.length∧a.2.1.length=a.1∧a.2.2.length=5∧ji b lim n b.Defs ([],[0,0,0,0,0])=ji b lim n (b.Defs.drop a.1) (a.2.1,a.2.2))
    (fun a=>(⟨[(2,.int .i64 (n:Nat)),(9,.ept (j3 b lim (qy b lim b.Defs.length)) 0),(11,.slice 1 0 0 5 false),(38,.lst 4 (b.Defs.map qA.enc) false),(39,.int .i64 (b.Defs.length:Nat)),(40,.int .i64 (a.1:Nat))],[(6,.agg [.nils]),(12,.agg [.slice 4 1 0 a.2.1.length false])],(qP [KL a.2.2] 0).2++.row 4 (qP (a.2.1.map qA.enc) 2).1 true::(qP (a.2.1.map qA.enc) 2).2⟩:VSt)) (fun a=>b.Defs.length-a.1) (0,[],[0,0,0,0,0]) (by kernel_rfl) ⟨Nat.zero_le _,rfl,rfl,rfl⟩
    (Can.start (w:=4) (ps:=[KL [0,0,0,0,0]]) (hKp _) (hKr _) (by rw [hK2];rfl) ⟨⟨_,rfl,.tree rfl⟩,⟨_,rfl,.tree (by simp [AV.tree,go_sem])⟩,⟨_,rfl,.slice (qR1 (by omega))⟩,⟨_,rfl,.tree (by simp [AV.tree])⟩,⟨_,rfl,.tree rfl⟩,⟨_,rfl,.tree rfl⟩,trivial⟩ ⟨⟨_,rfl,.tree rfl⟩,⟨_,rfl,.agg rfl (VR2s.cons (.ph qXI) VR2s.nil).2⟩,trivial⟩) ?_
  rintro ⟨i,ds,k⟩ ⟨h1,h2,h3,h4⟩;simp only at h1 h2 h3 h4⊢;simp only [go_sem];refine qD ?_ ?_<;>intro hc<;>simp only [hc,go_sem]
  · have hlt:i<b.Defs.length:=by have:=odT hc;omega
    simp only [List.getElem?_map,gEg hlt,Option.map_some,go_sem];refine qK (k:=4) (by rfl) (by simp [go_sem]) (qA.isAgg _) (by decide) ?_;simp only [go_sem];have hm:=gMm hlt;have hru:ji b lim n (b.Defs.drop i) (ds,k)=if (qw b lim n b.Defs[i] k).2.2=0 then ji b lim n (b.Defs.drop (i+1)) (ds++[(qw b lim n b.Defs[i] k).1],(qw b lim n b.Defs[i] k).2.1) else none:=by
      rw [List.drop_eq_getElem_cons hlt,ji]
    rw [hru] at h4;obtain ⟨hkl,hcase⟩:=UR (lim:=lim) hb hbs n b.Defs[i] k (Z5 hb hbs hm);refine zK (qiW hb hbz hbs (Z5 hb hbs hm) (by omega) (by rw [hK2];rfl) h3 (fun q0=> ?_) fun q1=> ?_)
    · rw [if_pos q0] at h4;clear hru;generalize qw b lim n b.Defs[i] k=o at hkl hcase q0 h4⊢;obtain ⟨A,hA⟩:∃A,A=ds.map qA.enc:=⟨_,rfl⟩;rw [←hA];obtain ⟨N,hN⟩:∃N,N=2+AV.rowss A:=⟨_,rfl⟩;have hlen:((qP [KL k] 0).2++qC.row 4 (qP A 2).1 true::(qP A 2).2).length=N:=by rw [lAp,hKl,List.length_cons,jK,hN];omega
      have hRW:RW (((qP [KL k] 0).2++qC.row 4 (qP A 2).1 true::(qP A 2).2)++(lay o.1.enc N).2) 0 o.2.1=(qP [KL o.2.1] 0).2++(qC.row 4 (qP A 2).1 true::((qP A 2).2++(lay o.1.enc N).2)):=by rw [hK2,hK2];simp [RW]
      have hlen2:((qP [KL o.2.1] 0).2++(qC.row 4 (qP A 2).1 true::((qP A 2).2++(lay o.1.enc N).2))).length=N+o.1.enc.rows:=by rw [lAp,hKl,List.length_cons,lAp,jK,qt,hN];omega
      rw [hlen,hRW];simp only [WK,go_sem];refine qVF rfl ?_;simp only [WK,go_sem];refine qSZ (by rw [ZD (qA.plx _)];exact qA.ln) ?_;simp only [WK,hlen2,go_sem];have hAl:(qP A 2).1.length=ds.length:=by rw [wU,hA];simp
      refine jM (len:=ds.length) (el:=(qP A 2).1) (x:=(lay o.1.enc N).1) ?_ ?_ hAl (by omega) ?_
      · rw [←hlen2];exact ja
      · simp only [List.append_assoc,List.cons_append];exact qgF (hKl _)
      simp only [WK,go_sem];rw [qe (by omega)];have hid:(((qP [KL o.2.1] 0).2++(qC.row 4 (qP A 2).1 true::((qP A 2).2++(lay o.1.enc N).2)))++[qC.row 4 [(lay o.1.enc N).1] true]).length=1+(AV.rowss A+o.1.enc.rows)+2:=by rw [lAp,hlen2,hN];simp;omega
      have hAm:(ds++[o.1]).map qA.enc=A++[o.1.enc]:=by rw [List.map_append,hA];rfl
      have hdl:(ds++[o.1]).length=ds.length+1:=by simp
      have hAp:AV.pls A=true:=by rw [hA];exact jL qA.plx _
      rw [hid];refine qZ (i+1,ds++[o.1],o.2.1) ⟨(by first | omega | (simp only;omega)),by rw [hdl];omega,hkl.trans h3,h4⟩ (by first | omega | (simp only;omega)) ?_;simp only [hAm,hdl];refine Can.push (w:=4) (ps:=[KL o.2.1]) (A:=A) (t:=o.1.enc) (b:=1) (hKp _) hAp (qA.plx _) (hKr _) rfl ?_ rfl ⟨⟨_,rfl,.tree rfl⟩,⟨_,rfl,.tree (by simp [AV.tree,go_sem])⟩,⟨_,rfl,.slice (qRP (by omega))⟩,⟨_,rfl,.tree (by simp [AV.tree])⟩,⟨_,rfl,.tree rfl⟩,⟨_,rfl,.tree rfl⟩,trivial⟩ ⟨⟨_,rfl,.tree rfl⟩,⟨_,rfl,.agg rfl (VR2s.cons (.slice qWQ) VR2s.nil).2⟩,trivial⟩;rw [List.append_assoc,List.cons_append,qgG (hKl _),←hN];simp only [List.append_assoc,List.cons_append,List.nil_append]
    · rw [if_neg (by omega)] at h4;simp only [go_sem];refine qK (k:=4) (by rfl) (by rfl) (by exact ⟨_,rfl⟩) (by decide) ?_;simp only [go_sem];refine qD ?_ ?_<;>intro hc<;>simp only [hc,go_sem]
      · exact qQF (e:=4) (by unfold wq;rw [h4])
      · exact absurd hc (by decide)
  · obtain rfl:i=b.Defs.length:=by have:=odF hc;omega
    rw [List.drop_length,ji] at h4;have e:wq b lim n=(⟨ds⟩,k,0):=by unfold wq;rw [h4]
    rw [e];exact qbP h3 rfl
end Go.Ab
namespace Go.Ab
open Go
set_option maxRecDepth 10000
set_option maxHeartbeats 2000000
attribute [local simp] qr qa zW
theorem qWV {b:qF} {lim:Int} {n:Nat} (hb:b.ok=true) (hbs:∀d∈b.Defs,d.strat 0=true):∀(cs:List qA) (ds:List qA) (k:List Int) (r:List qA×List Int),(∀c∈cs,c∈b.Defs)→(∀d∈ds,d.sz≤2000)→ji b lim n cs (ds,k)=some r→r.1.length=ds.length+cs.length∧(∀d∈r.1,d.sz≤2000)∧r.2.length=k.length
  |[],ds,k,r,_,hd,h=>by
    rw [ji] at h;cases h;exact ⟨rfl,hd,rfl⟩
  | c::cs,ds,k,r,hc,hd,h=>by
    rw [ji] at h;obtain ⟨hkl,hcase⟩:=UR (lim:=lim) hb hbs n c k (Z5 hb hbs (hc c (by simp)));split at h
    · rename_i q;simp only at q;have hs:(qw b lim n c k).1.sz≤2000:=by
        rcases hcase with ⟨_,g⟩ | ⟨g,_⟩
        · exact (UX g).1
        · omega
      obtain ⟨g1,g2,g3⟩:=qWV hb hbs cs _ _ r (fun y hy=>hc y (by simp [hy])) (fun d hm=>by
        rcases List.mem_append.1 hm with q | q
        · exact hd d q
        · rw [List.mem_singleton.1 q];exact hs) h
      exact ⟨by rw [g1];simp;omega,g2,g3.trans hkl⟩
    · cases h
theorem qjY {xs:List qA} {m:Nat}:(∀x∈xs,x.sz≤m)→qG qA.sz xs≤xs.length*m:=by
  induction xs with
  | nil=>intro _;simp [qG]
  | cons x xs ih=>
    intro h;have h1:=h x (by simp);have h2:=ih fun y hy=>h y (by simp [hy]);simp only [qG,List.length_cons,Nat.add_mul,Nat.one_mul];omega
theorem qjG {b:qF} {lim budget:Int}:(wQ b lim budget).1.sz≤100000∧(wQ b lim budget).2.1.length≤5:=by
  have hz:(qF.mk []).sz=0:=rfl;unfold wQ;split
  · rename_i h0;obtain ⟨hb,hbs⟩:=qSY h0;split
    · unfold wq;split
      · rename_i ds k hr;obtain ⟨g1,g2,g3⟩:=qWV (lim:=lim) (n:=budget.toNat) hb hbs b.Defs [] _ _ (fun c h=>h) (fun d h=>absurd h List.not_mem_nil) hr;simp only [List.length_nil,List.length_cons] at g1 g3;have h24:=QD hb;have hs:=qjY g2;have h3:ds.length*2000≤24*2000:=Nat.mul_le_mul_right _ (by omega);refine ⟨?_,by show k.length≤5;omega⟩;show ds.length+qG qA.sz ds≤100000;simp only at hs g1;omega
      · exact ⟨by show (qF.mk []).sz≤_;omega,by simp⟩
    · exact ⟨by show (qF.mk []).sz≤_;omega,by simp⟩
  · exact ⟨by show (qF.mk []).sz≤_;omega,by simp⟩
theorem qg9 {y:qF×List Int×Int}:(wD y).tree=true:=by simp [wD,AV.tree,AV.trees,go_sem]
theorem qZ5 {b:qF} {lim budget:Int} (hbz:b.sz≤1048576):Pure Gm 176 [b.enc,.int .i64 lim,.int .i64 budget] (wD (wQ b lim budget)):=
  (c176 hbz).conv0 qg9 fun _ r h=>⟨r,.refl r,qh8 h⟩
theorem q178 (x:qF) (k:Int) (h0:0≤k) (hk:k+(x.ctV:Nat)≤4611686018427387904) (hz:x.sz≤4194304):Pure Gm 178 [(x.mkV k).enc,.int .i64 k] (.int .i64 (k+(x.ctV:Nat))):=by
  refine Pure.intro [] [] g178 (by kernel_rfl) rfl (by simp [AV.trees,AV.tree,qF.tr]) rfl ?_;simp only [Xx,qL,go_sem,Nat.zero_add];refine qc rfl ?_;simp only [go_sem,Nat.zero_add];unfold qF.ctV at hk;simp only [qF.sz] at hz;refine qH (q348 x.Defs k (by omega) (by omega) (by omega)) ?_;simp only [go_sem,Nat.zero_add];rw [show decide (k+((qG qA.ct x.Defs:Nat):Int)<0)=false from decide_eq_false (by omega)];simp only [go_sem];exact qM rfl (by simp only [qF.ctV])
theorem qU0 (x:qF) (k:Int) (n:Nat):(lay (x.mkV k).enc n).1=(lay x.enc n).1:=by
  rw [qF.layE,qF.layE];simp only [qF.mkV,JD]
end Go.Ab
namespace Go.Ab
open Go
set_option maxRecDepth 10000
set_option maxHeartbeats 2000000
attribute [local simp] qr qa zW
theorem qUZ {g:qF} {k:List Int} {e:Int} (n:Nat):lay (wD (g,k,e)) n=(.tup [(lay g.enc n).1,(lay (KL k) (n+g.enc.rows)).1,.int .i64 e],(lay g.enc n).2++(lay (KL k) (n+g.enc.rows)).2):=by
  cases g;exact qUY n
theorem c23 {b:qF} {lim budget:Int} (hb:b.bd):Pure Gm 23 [b.enc,.int .i64 lim,.int .i64 budget] (.bool true):=by
  refine Pure.intro [] [] g23 (by kernel_rfl) rfl (by simp [AV.trees,AV.tree,go_sem]) rfl ?_;simp only [F23,qL,go_sem];refine qc rfl ?_;simp only [go_sem];refine qH (c79 b hb 1048576 (by omega)) ?_;simp only [go_sem];refine qD ?_ ?_<;>intro hc<;>simp only [hc,go_sem]
  · exact qM rfl rfl
  have hbz:b.sz≤1048576:=by
    have:=odF hc;rw [JV] at this;omega
  have hAz:=qjG (b:=b) (lim:=lim) (budget:=budget);have k0:=qZ5 (lim:=lim) (budget:=budget) hbz;have k1:=n177 (lim:=lim) (budget:=budget) hbz;generalize wQ b lim budget=A at hAz k0 k1;obtain ⟨G,k,e⟩:=A;simp only at hAz;refine qH (c82 b hbz) ?_;simp only [go_sem];refine qH k0 ?_;simp only [wD,go_sem];refine wg (n82 b hbz) ?_;simp only [go_sem];refine qK (k:=1) rfl (qQS b 0) (qQR b 0) (by decide) ?_;obtain ⟨B,hB⟩:∃B,B=b.enc.rows:=⟨_,rfl⟩;obtain ⟨D,hD⟩:∃D,D=G.enc.rows:=⟨_,rfl⟩;simp only [jB,go_sem,List.nil_append,qt,←hB];have atB:∀{h post:List qC},h=(lay b.enc 0).2++post→Cv h (lay b.enc 0).1 b.enc:=fun {h post} hh=>qQV (pre:=[]) (qF.plx b) (qF.cnx b) hh;have atG:∀{b' G':qF} {h post:List qC},b'.enc.rows=B→h=(lay b'.enc 0).2++((lay G'.enc B).2++post)→Cv h (lay G'.enc B).1 G'.enc:=fun {b' G' h post} hr hh=>
    qQW (pre:=(lay b'.enc 0).2) (post:=post) (qF.plx G') (qF.cnx G') ((qt _ _).trans hr) hh
  have atK:∀{b' G':qF} {k':List Int} {h post:List qC},b'.enc.rows=B→G'.enc.rows=D→h=(lay b'.enc 0).2++((lay G'.enc B).2++((lay (KL k') (B+D)).2++post))→Cv h (lay (KL k') (B+D)).1 (KL k'):=fun {b' G' k' h post} hr hr3 hh=>
    qQW (pre:=(lay b'.enc 0).2++(lay G'.enc B).2) (post:=post) Y0 qSB (by simp only [lAp,qt,hr,hr3]) (by simp only [List.append_assoc];exact hh)
  refine qaA (Cvs.cons (atB (post:=[]) (by simp)) (Cvs.cons (.refl rfl) (Cvs.cons (.refl rfl) Cvs.nil))) k1 ?_;have hlB0:(lay b.enc 0).2.length=B:=by rw [qt,hB]
  simp only [hlB0,qUZ,←hD,jB,go_sem,List.append_assoc];refine qK (k:=1) rfl (qQS G B) (qQR G B) (by decide) ?_;simp only [jB,go_sem];refine z4 (Cvs.cons (atG (b':=b) (post:=(lay (KL k) (B+D)).2) hB.symm rfl) (Cvs.cons (.refl qF.tr) Cvs.nil)) (c87 G (by omega)) rfl ?_;simp only [jB,go_sem];refine z4 (Cvs.cons (atK (b':=b) (G':=G) (post:=[]) hB.symm hD.symm (by simp)) (Cvs.cons (.refl (by simp [AV.tree])) Cvs.nil)) (c86K hAz.2) rfl ?_;simp only [jB,go_sem];refine qH (c82 b hbz) ?_;simp only [jB,go_sem];refine z4 (Cvs.cons (atB rfl) (Cvs.cons (.refl (by simp [go_sem])) Cvs.nil)) (c87 b (by omega)) rfl ?_;simp only [jB,go_sem];have ctB:=b.ctVle;have ctG:=G.ctVle;refine Qv (k88 b 1 (by omega) (by omega) (by omega)) (pre:=[]) rfl rfl rfl ?_;simp only [jB,go_sem,List.nil_append];have hlB:(lay (b.mkV 1).enc 0).2.length=B:=by rw [qt,qF.rowsV,hB]
  have hneg:decide ((1:Int)+((b.ctV:Nat):Int)<0)=false:=decide_eq_false (by omega);simp only [hneg,jB,go_sem];have hrB:(b.mkV 1).enc.rows=B:=by rw [qF.rowsV,hB]
  have hrG:(G.mkV 1).enc.rows=D:=by rw [qF.rowsV,hD]
  refine z4 (Cvs.cons (atG (b':=b.mkV 1) hrB rfl) (Cvs.cons (.refl qF.tr) Cvs.nil)) (c87 G (by omega)) rfl ?_;simp only [jB,go_sem];refine z4 (Cvs.cons (atK (b':=b.mkV 1) (G':=G) (post:=[]) hrB hD.symm (by simp)) (Cvs.cons (.refl (by simp [AV.tree])) Cvs.nil)) (c86K hAz.2) rfl ?_;simp only [jB,go_sem];refine Qv (k88 G 1 (by omega) (by omega) (by omega)) (post:=(lay (KL k) (B+D)).2) hlB rfl rfl ?_;simp only [jB,go_sem,List.append_assoc];have hlK:((lay (b.mkV 1).enc 0).2++(lay (G.mkV 1).enc B).2).length=B+D:=by simp only [lAp,qt,hrB,hrG]
  refine Qv (k90K (k:=k) (m:=1+((G.ctV:Nat):Int)) (by omega) (by omega) hAz.2) (post:=[]) hlK (by simp only [List.append_assoc,List.append_nil]) rfl ?_;simp only [jB,go_sem,List.append_assoc,List.append_nil];obtain ⟨M,hM⟩:∃M,M=mkL mkI ctI k (1+((G.ctV:Nat):Int)):=⟨_,rfl⟩;have hMK:∀n,(lay (KL k) n).1=(lay (KL M) n).1:=fun n=>by rw [hM,qd8]
  rw [←hM];refine z4 (Cvs.cons (by rw [←qU0 G 1];exact atG (post:=(lay (KL M) (B+D)).2) hrB rfl) (Cvs.cons (.refl rfl) Cvs.nil)) (q178 G 1 (by omega) (by omega) (by omega)) rfl ?_;have hneg2:decide ((1:Int)+((G.ctV:Nat):Int)<0)=false:=decide_eq_false (by omega);have hneg3:decide ((1:Int)+((G.ctV:Nat):Int)+((qG ctI k:Nat):Int)<0)=false:=decide_eq_false (by omega);simp only [hneg2,jB,go_sem];have q92M:=q92K (k:=k) (m:=1+((G.ctV:Nat):Int)) (by omega) (by omega) hAz.2;rw [←hM] at q92M;refine z4 (Cvs.cons (by rw [hMK];exact atK (post:=[]) hrB hrG (by simp)) (Cvs.cons (.refl rfl) Cvs.nil)) q92M rfl ?_;simp only [hneg3,jB,go_sem];refine qH (c82 b hbz) ?_;simp only [jB,go_sem];obtain ⟨P,hP⟩:∃P,P=(lay (b.mkV 1).enc 0).2++((lay (G.mkV 1).enc B).2++(lay (KL M) (B+D)).2):=⟨_,rfl⟩;rw [←hP];refine wg k1 ?_;simp only [qUZ,jB,go_sem];refine qK (k:=1) rfl (qQS G _) (qQR G _) (by decide) ?_;simp only [jB,go_sem];refine z4 (Cvs.cons (qQV (pre:=P) (post:=(lay (KL k) (P.length+G.enc.rows)).2) (qF.plx G) (qF.cnx G) rfl) (Cvs.cons (.refl qF.tr) Cvs.nil)) (c87 G (by omega)) rfl ?_;simp only [jB,go_sem];refine z4 (Cvs.cons (qQW (pre:=P++(lay G.enc P.length).2) (post:=[]) Y0 qSB (by rw [lAp,qt]) (by simp)) (Cvs.cons (.refl (by simp [AV.tree])) Cvs.nil)) (c86K hAz.2) rfl ?_;simp only [jB,go_sem];have eP:=congrArg (· ++((lay G.enc P.length).2++(lay (KL k) (P.length+G.enc.rows)).2)) hP;simp only [List.append_assoc] at eP;refine z4 (Cvs.cons (by rw [←qU0 G 1];exact atG (post:=(lay (KL M) (B+D)).2++((lay G.enc P.length).2++(lay (KL k) (P.length+G.enc.rows)).2)) hrB eP) (Cvs.cons (.refl rfl) Cvs.nil)) (q178 G 1 (by omega) (by omega) (by omega)) rfl ?_;simp only [hneg2,jB,go_sem];refine z4 (Cvs.cons (by rw [hMK];exact atK (post:=(lay G.enc P.length).2++(lay (KL k) (P.length+G.enc.rows)).2) hrB hrG eP) (Cvs.cons (.refl rfl) Cvs.nil)) q92M rfl ?_;simp only [hneg3,jB,go_sem];exact qM rfl rfl
end Go.Ab
