/- Texts Cor44 .. Cor53: the abstract machine, its laws and contracts of functions: lemmas for the statement. No condition. -/
import Derived.Test.YteekllacfpafoaaGreatP7
set_option linter.unusedSimpArgs false
set_option linter.unusedVariables false
namespace Go.Ab
open Go
set_option maxRecDepth 10000
set_option maxHeartbeats 2000000
theorem zQJ {h:List AObj} {id n:Nat} {xs:List Int} {a b:Int} {K:AV→List AObj→Prop} (hid:id<h.length) (hn:xs.length=n) (hl:n≤4194304) (hab:0≤a∧a<b∧b≤n)
    (hK:∀(ys:List Int) (r:Bool),ys.Perm xs→K (.bool r) (RW h id ys)):qAZ Gm 1344 [.slice 1 id 0 n false,.int .i64 a,.int .i64 b] (RW h id xs) K:=by
  refine qAZ.run [] [] zMO (by kernel_rfl) rfl ?_
  simp only [qk1,qAC,go_sem]
  simp (config:={maxSteps:=2000000}) (disch:=omega) only [go_sem,qAO,qAR,qAM,Int.reduceEq]
  refine qB5 (fun q:Int×Int×List Int=>0≤q.1∧q.1≤5∧a+1≤q.2.1∧q.2.1≤b∧q.2.2.Perm xs) (fun q=>(⟨[(0,.slice 1 id 0 n false),(1,.int .i64 a),(2,.int .i64 b),(7,.int .i64 q.2.1),(8,.int .i64 q.1)],[],RW h id q.2.2⟩:VSt)) (fun q=>(5-q.1).toNat) (0,a+1,xs)
    (fun ys:List Int=>ys.Perm xs) (fun ys=>(⟨[],[],RW h id ys⟩:VSt)) (by kernel_rfl) ⟨(by first | omega | (simp only;omega)),(by first | omega | (simp only;omega)),(by first | omega | (simp only;omega)),(by first | omega | (simp only;omega)),.refl _⟩ (Can.sub (by simp [go_sem]) (by simp [go_sem])) ?_ ?_
  · rintro ⟨r,i,ys⟩ ⟨h1,h2,h3,h4,h5⟩
    simp only at h1 h2 h3 h4 h5⊢
    have hyl:=h5.length_eq
    simp only [go_sem]
    refine qAA ?_ ?_<;>intro hc<;>simp only [hc,go_sem]
    · have hr5:=of_decide_eq_true hc
      refine qB5 (fun i':Int=>a+1≤i'∧i'≤b) (fun i'=>(⟨[(0,.slice 1 id 0 n false),(1,.int .i64 a),(2,.int .i64 b),(7,.int .i64 i'),(8,.int .i64 r)],[],RW h id ys⟩:VSt)) (fun i'=>(b-i').toNat) i
        (fun i':Int=>a+1≤i'∧i'≤b) (fun i'=>(⟨[(0,.slice 1 id 0 n false),(1,.int .i64 a),(2,.int .i64 b),(7,.int .i64 i'),(8,.int .i64 r)],[],RW h id ys⟩:VSt)) (by kernel_rfl) ⟨(by first | omega | (simp only;omega)),(by first | omega | (simp only;omega))⟩ (Can.sub (by simp [go_sem]) (by simp [go_sem])) ?_ ?_
      · rintro i' ⟨k1,k2⟩
        simp only [go_sem]
        refine qAG ?_ ?_<;>intro hc<;>simp only [hc,go_sem]
        · have hle:=of_decide_eq_true hc
          simp (config:={maxSteps:=2000000}) (disch:=omega) only [go_sem,qAO,qAR,qAM,Int.reduceEq]
          refine qAB (qEO _ _) ?_
          simp only [go_sem]
          refine qAA ?_ ?_<;>intro hc<;>simp only [hc,go_sem]
          · simp (config:={maxSteps:=2000000}) (disch:=omega) only [go_sem,qAO,qAR,qAM,Int.reduceEq]
            exact qA8 (i'+1) ⟨(by first | omega | (simp only;omega)),(by first | omega | (simp only;omega))⟩ (by first | omega | (simp only;omega)) (Can.sub (by simp [go_sem]) (by simp [go_sem]))
          · exact qBN i' ⟨by omega,by omega⟩ (Can.sub (by simp [go_sem]) (by simp [go_sem]))
        · exact qBN i' ⟨by omega,by omega⟩ (Can.sub (by simp [go_sem]) (by simp [go_sem]))
      rintro i' ⟨k1,k2⟩
      simp only [go_sem]
      refine qAA ?_ ?_<;>intro hc<;>simp only [hc,go_sem]
      · exact hK _ _ h5
      have hib:=of_decide_eq_false hc
      simp (config:={maxSteps:=2000000}) (disch:=omega) only [go_sem,qAO,qAR,qAM,Int.reduceEq]
      refine qAA ?_ ?_<;>intro hc<;>simp only [hc,go_sem]
      · exact hK _ _ h5
      have hib50:=of_decide_eq_false hc
      simp (config:={maxSteps:=2000000}) (disch:=omega) only [go_sem,qAO,qAR,qAM,Int.reduceEq]
      refine qBW hid (by omega) (by omega) ?_;simp (config:={maxSteps:=2000000}) (disch:=omega) only [go_sem,qAO,qAR,qAM,Int.reduceEq];refine qBW hid (by omega) (by rw [List.length_set];omega) ?_;simp (maxSteps:=2000000) (disch:=omega) only [go_sem,qAO,qAR,qAM,Int.reduceEq]
      have hp2:(swI ys i' (i'-1)).Perm xs:=(qBD (by omega) (by omega) (by omega) (by omega)).trans h5
      refine qAA ?_ ?_<;>intro hc<;>simp only [hc,go_sem]
      · simp (config:={maxSteps:=2000000}) (disch:=omega) only [go_sem,qAO,qAR,qAM,Int.reduceEq]
        have hib2:=of_decide_eq_true hc
        refine qB5 (fun q:Int×List Int=>0≤q.1∧q.1≤i'-1∧q.2.Perm xs) (fun q=>(⟨[(0,.slice 1 id 0 n false),(1,.int .i64 a),(2,.int .i64 b),(7,.int .i64 i'),(8,.int .i64 r),(9,.int .i64 q.1)],[],RW h id q.2⟩:VSt)) (fun q=>q.1.toNat) (i'-1,swI ys i' (i'-1))
          (fun zs:List Int=>zs.Perm xs) (fun zs=>(⟨[(0,.slice 1 id 0 n false),(1,.int .i64 a),(2,.int .i64 b),(7,.int .i64 i'),(8,.int .i64 r)],[],RW h id zs⟩:VSt)) (by kernel_rfl) ⟨(by first | omega | (simp only;omega)),(by first | omega | (simp only;omega)),hp2⟩ (Can.sub (by simp [go_sem]) (by simp [go_sem])) ?_ ?_
        · rintro ⟨j,zs⟩ ⟨m1,m2,m3⟩
          simp only at m1 m2 m3⊢
          have hzl:=m3.length_eq
          simp only [go_sem]
          refine qAA ?_ ?_<;>intro hc<;>simp only [hc,go_sem]
          · have hj1:=of_decide_eq_true hc
            simp (config:={maxSteps:=2000000}) (disch:=omega) only [go_sem,qAO,qAR,qAM,Int.reduceEq]
            refine qAB (qEO _ _) ?_
            simp only [go_sem]
            refine qAA ?_ ?_<;>intro hc<;>simp only [hc,go_sem]
            · exact qBN zs m3 (Can.sub (by simp [go_sem]) (by simp [go_sem]))
            · simp (config:={maxSteps:=2000000}) (disch:=omega) only [go_sem,qAO,qAR,qAM,Int.reduceEq]
              refine qBW hid (by omega) (by omega) ?_;simp (config:={maxSteps:=2000000}) (disch:=omega) only [go_sem,qAO,qAR,qAM,Int.reduceEq];refine qBW hid (by omega) (by rw [List.length_set];omega) ?_;simp (maxSteps:=2000000) (disch:=omega) only [go_sem,qAO,qAR,qAM,Int.reduceEq]
              exact qA8 (j-1,swI zs j (j-1)) ⟨(by first | omega | (simp only;omega)),(by first | omega | (simp only;omega)),(qBD (by omega) (by omega) (by omega) (by omega)).trans m3⟩ (by first | omega | (simp only;omega)) (Can.sub (by simp [go_sem]) (by simp [go_sem]))
          · exact qBN zs m3 (Can.sub (by simp [go_sem]) (by simp [go_sem]))
        · intro zs hz
          have hzl:=hz.length_eq
          simp (config:={maxSteps:=2000000}) (disch:=omega) only [go_sem,qAO,qAR,qAM,Int.reduceEq]
          refine qAA ?_ ?_<;>intro hc<;>simp only [hc,go_sem]
          · simp (config:={maxSteps:=2000000}) (disch:=omega) only [go_sem,qAO,qAR,qAM,Int.reduceEq]
            have hib3:=of_decide_eq_true hc
            refine Sem.loop (fun q:Int×List Int=>i'+1≤q.1∧q.1≤b∧q.2.Perm xs) (fun q=>(⟨[(0,.slice 1 id 0 n false),(1,.int .i64 a),(2,.int .i64 b),(7,.int .i64 i'),(8,.int .i64 r),(10,.int .i64 q.1)],[],RW h id q.2⟩:VSt)) (fun q=>(b-q.1).toNat) (i'+1,zs) (by kernel_rfl) ⟨(by first | omega | (simp only;omega)),(by first | omega | (simp only;omega)),hz⟩ (Can.sub (by simp [go_sem]) (by simp [go_sem])) ?_
            rintro ⟨j,us⟩ ⟨m1,m2,m3⟩
            simp only at m1 m2 m3⊢
            have hul:=m3.length_eq
            simp only [go_sem]
            refine qAA ?_ ?_<;>intro hc<;>simp only [hc,go_sem]
            · have hj1:=of_decide_eq_true hc
              simp (config:={maxSteps:=2000000}) (disch:=omega) only [go_sem,qAO,qAR,qAM,Int.reduceEq]
              refine qAB (qEO _ _) ?_
              simp only [go_sem]
              refine qAA ?_ ?_<;>intro hc<;>simp only [hc,go_sem]
              · simp (config:={maxSteps:=2000000}) (disch:=omega) only [go_sem,qAO,qAR,qAM,Int.reduceEq]
                exact qA8 (r+1,i',us) ⟨(by first | omega | (simp only;omega)),(by first | omega | (simp only;omega)),(by first | omega | (simp only;omega)),(by first | omega | (simp only;omega)),m3⟩ (by first | omega | (simp only;omega)) (Can.sub (by simp [go_sem]) (by simp [go_sem]))
              · simp (config:={maxSteps:=2000000}) (disch:=omega) only [go_sem,qAO,qAR,qAM,Int.reduceEq]
                refine qBW hid (by omega) (by omega) ?_;simp (config:={maxSteps:=2000000}) (disch:=omega) only [go_sem,qAO,qAR,qAM,Int.reduceEq];refine qBW hid (by omega) (by rw [List.length_set];omega) ?_;simp (maxSteps:=2000000) (disch:=omega) only [go_sem,qAO,qAR,qAM,Int.reduceEq]
                exact qAH (j+1,swI us j (j-1)) ⟨(by first | omega | (simp only;omega)),(by first | omega | (simp only;omega)),(qBD (by omega) (by omega) (by omega) (by omega)).trans m3⟩ (by first | omega | (simp only;omega)) (Can.sub (by simp [go_sem]) (by simp [go_sem]))
            · simp (config:={maxSteps:=2000000}) (disch:=omega) only [go_sem,qAO,qAR,qAM,Int.reduceEq]
              exact qA8 (r+1,i',us) ⟨(by first | omega | (simp only;omega)),(by first | omega | (simp only;omega)),(by first | omega | (simp only;omega)),(by first | omega | (simp only;omega)),m3⟩ (by first | omega | (simp only;omega)) (Can.sub (by simp [go_sem]) (by simp [go_sem]))
          · simp (config:={maxSteps:=2000000}) (disch:=omega) only [go_sem,qAO,qAR,qAM,Int.reduceEq]
            exact qA8 (r+1,i',zs) ⟨(by first | omega | (simp only;omega)),(by first | omega | (simp only;omega)),(by first | omega | (simp only;omega)),(by first | omega | (simp only;omega)),hz⟩ (by first | omega | (simp only;omega)) (Can.sub (by simp [go_sem]) (by simp [go_sem]))
      · simp (config:={maxSteps:=2000000}) (disch:=omega) only [go_sem,qAO,qAR,qAM,Int.reduceEq]
        refine qAA ?_ ?_<;>intro hc<;>simp only [hc,go_sem]
        · simp (config:={maxSteps:=2000000}) (disch:=omega) only [go_sem,qAO,qAR,qAM,Int.reduceEq]
          have hib3:=of_decide_eq_true hc
          refine Sem.loop (fun q:Int×List Int=>i'+1≤q.1∧q.1≤b∧q.2.Perm xs) (fun q=>(⟨[(0,.slice 1 id 0 n false),(1,.int .i64 a),(2,.int .i64 b),(7,.int .i64 i'),(8,.int .i64 r),(10,.int .i64 q.1)],[],RW h id q.2⟩:VSt)) (fun q=>(b-q.1).toNat) (i'+1,swI ys i' (i'-1)) (by kernel_rfl) ⟨(by first | omega | (simp only;omega)),(by first | omega | (simp only;omega)),hp2⟩ (Can.sub (by simp [go_sem]) (by simp [go_sem])) ?_
          rintro ⟨j,us⟩ ⟨m1,m2,m3⟩
          simp only at m1 m2 m3⊢
          have hul:=m3.length_eq
          simp only [go_sem]
          refine qAA ?_ ?_<;>intro hc<;>simp only [hc,go_sem]
          · have hj1:=of_decide_eq_true hc
            simp (config:={maxSteps:=2000000}) (disch:=omega) only [go_sem,qAO,qAR,qAM,Int.reduceEq]
            refine qAB (qEO _ _) ?_
            simp only [go_sem]
            refine qAA ?_ ?_<;>intro hc<;>simp only [hc,go_sem]
            · simp (config:={maxSteps:=2000000}) (disch:=omega) only [go_sem,qAO,qAR,qAM,Int.reduceEq]
              exact qA8 (r+1,i',us) ⟨(by first | omega | (simp only;omega)),(by first | omega | (simp only;omega)),(by first | omega | (simp only;omega)),(by first | omega | (simp only;omega)),m3⟩ (by first | omega | (simp only;omega)) (Can.sub (by simp [go_sem]) (by simp [go_sem]))
            · simp (config:={maxSteps:=2000000}) (disch:=omega) only [go_sem,qAO,qAR,qAM,Int.reduceEq]
              refine qBW hid (by omega) (by omega) ?_;simp (config:={maxSteps:=2000000}) (disch:=omega) only [go_sem,qAO,qAR,qAM,Int.reduceEq];refine qBW hid (by omega) (by rw [List.length_set];omega) ?_;simp (maxSteps:=2000000) (disch:=omega) only [go_sem,qAO,qAR,qAM,Int.reduceEq]
              exact qAH (j+1,swI us j (j-1)) ⟨(by first | omega | (simp only;omega)),(by first | omega | (simp only;omega)),(qBD (by omega) (by omega) (by omega) (by omega)).trans m3⟩ (by first | omega | (simp only;omega)) (Can.sub (by simp [go_sem]) (by simp [go_sem]))
          · simp (config:={maxSteps:=2000000}) (disch:=omega) only [go_sem,qAO,qAR,qAM,Int.reduceEq]
            exact qA8 (r+1,i',us) ⟨(by first | omega | (simp only;omega)),(by first | omega | (simp only;omega)),(by first | omega | (simp only;omega)),(by first | omega | (simp only;omega)),m3⟩ (by first | omega | (simp only;omega)) (Can.sub (by simp [go_sem]) (by simp [go_sem]))
        · simp (config:={maxSteps:=2000000}) (disch:=omega) only [go_sem,qAO,qAR,qAM,Int.reduceEq]
          exact qA8 (r+1,i',swI ys i' (i'-1)) ⟨(by first | omega | (simp only;omega)),(by first | omega | (simp only;omega)),(by first | omega | (simp only;omega)),(by first | omega | (simp only;omega)),hp2⟩ (by first | omega | (simp only;omega)) (Can.sub (by simp [go_sem]) (by simp [go_sem]))
    · exact qBN ys h5 (Can.sub (by simp [go_sem]) (by simp [go_sem]))
  · intro ys hy
    simp only [go_sem]
    exact hK _ _ hy
end Go.Ab
namespace Go.Ab
open Go
set_option maxRecDepth 10000
set_option maxHeartbeats 2000000
def PS (id n:Nat) (s:LEnv) (a b lim:Int) (wb wp:Bool):Prop:=get s 0=some (.slice 1 id 0 n false)∧get s 1=some (.int .i64 a)∧get s 2=some (.int .i64 b)∧get s 3=some (.int .i64 lim)∧get s 8=some (.bool wb)∧get s 9=some (.bool wp)
def PQ (h:List AObj) (id n:Nat) (xs:List Int) (a b:Int) (Q:AExit→VSt→Prop):Prop:=∀(s:LEnv) (a' b' lim:Int) (wb wp:Bool) (ys:List Int) (ex:List AObj),PS id n s a' b' lim wb wp→a≤a'→a'≤b'→b'≤b→b'-a'<b-a→ys.Perm xs→Q .nrm ⟨s,[],RW (h++ex) id ys⟩
def PR (h:List AObj) (id n:Nat) (a b:Int):Prop:=∀(ex:List AObj) (ys:List Int) (a' b' lim:Int) (K:AV→List AObj→Prop),ys.length=n→0≤a'→a'≤b'→b'≤n→b'-a'<b-a→
  (∀(zs:List Int) (ex':List AObj),zs.Perm ys→K (.tup []) (RW (h++(ex++ex')) id zs))→qAZ Gm 1053 [.slice 1 id 0 n false,.int .i64 a',.int .i64 b',.int .i64 lim] (RW (h++ex) id ys) K
section
variable {bb id n:Nat} {h ex:List AObj} {xs ys:List Int} {s:LEnv} {a b lim:Int} {wb wp:Bool} {Q:AExit→VSt→Prop}
theorem PR.mono {a' b':Int} (hr:PR h id n a b) (hl:b'-a'≤b-a):PR h id n a' b':=fun ex ys a2 b2 lim K h1 h2 h3 h4 h5 h6=>hr ex ys a2 b2 lim K h1 h2 h3 h4 (by omega) h6
theorem pd18 {m:Int} (hp:PS id n s a b lim wb wp) (h10:get s 10=some (.int .i64 (b-a))) (h14:get s 14=some (.int .i64 m)) (hl:n≤4194304) (hab:0≤a∧a≤m∧m<b∧b≤n) (hy:ys.Perm xs) (hyl:ys.length=n)
    (hr:PR h id n a b) (hq:PQ h id n xs a b Q):R ⟨Gm,bb,[],[]⟩ [.code qDX,.blk 1] ⟨s,[],RW (h++ex) id ys⟩ Q:=by
  obtain ⟨p0,p1,p2,p3,p8,p9⟩:=hp
  simp (disch:=omega) only [go_sem,qAO,Int.reduceEq,p0,p1,p2,p3,p8,p9,h10,h14]
  have ht:(b-a).tdiv 8=(b-a)/8:=Int.tdiv_eq_ediv_of_nonneg (by omega)
  simp (disch:=omega) only [ht,go_sem,qAO,Int.reduceEq,p0,p1,p2,p3,p8,p9,h10,h14]
  refine qAA ?_ ?_<;>intro hc<;>simp only [hc,go_sem]
  · simp (disch:=omega) only [go_sem,qAO,Int.reduceEq,p0,p1,p2,p3,p8,p9,h10,h14]
    refine qAS (hr ex ys a m lim _ hyl (by omega) (by omega) (by omega) (by omega) fun zs ex' hz=> ?_)
    simp (disch:=omega) only [go_sem,qAO,Int.reduceEq,p0,p1,p2,p3,p8,p9,h10,h14]
    exact hq _ (m+1) b lim (decide ((b-a)/8≤m-a)) wp zs _ (by simp [PS,go_sem,p0,p1,p2,p3,p8,p9]) (by omega) (by omega) (by omega) (by omega) (hz.trans hy)
  · simp (disch:=omega) only [go_sem,qAO,Int.reduceEq,p0,p1,p2,p3,p8,p9,h10,h14]
    refine qAS (hr ex ys (m+1) b lim _ hyl (by omega) (by omega) (by omega) (by omega) fun zs ex' hz=> ?_)
    simp (disch:=omega) only [go_sem,qAO,Int.reduceEq,p0,p1,p2,p3,p8,p9,h10,h14]
    exact hq _ a m lim (decide ((b-a)/8≤b-m)) wp zs _ (by simp [PS,go_sem,p0,p1,p2,p3,p8,p9]) (by omega) (by omega) (by omega) (by omega) (hz.trans hy)
theorem pd19 {p:Int} (hid:id<h.length) (hp:PS id n s a b lim wb wp) (h10:get s 10=some (.int .i64 (b-a))) (h11:get s 11=some (.int .i64 p)) (hl:n≤4194304) (hab:0≤a∧a≤p∧p<b∧b≤n) (hy:ys.Perm xs) (hyl:ys.length=n)
    (hr:PR h id n a b) (hq:PQ h id n xs a b Q):R ⟨Gm,bb,[],[]⟩ [.code qDY,.blk 1] ⟨s,[],RW (h++ex) id ys⟩ Q:=by
  obtain ⟨p0,p1,p2,p3,p8,p9⟩:=hp
  have hid':id<(h++ex).length:=by rw [List.length_append];omega
  have h18:∀(s':LEnv) (m:Int) (r:Bool) (zs:List Int),PS id n s' a b lim wb r→get s' 10=some (.int .i64 (b-a))→get s' 14=some (.int .i64 m)→a≤m→m<b→zs.Perm ys→R ⟨Gm,bb,[],[]⟩ [.code qDX,.blk 1] ⟨s',[],RW (h++ex) id zs⟩ Q:=
    fun s' m r zs k1 k2 k3 k4 k5 k6=>pd18 k1 k2 k3 hl (by omega) (k6.trans hy) (by rw [k6.length_eq,hyl]) hr hq
  rw [qVZ]
  revert h18
  generalize qDX=k18
  intro h18
  have fin:∀s',get s' 0=some (.slice 1 id 0 n false)→get s' 1=some (.int .i64 a)→get s' 2=some (.int .i64 b)→get s' 3=some (.int .i64 lim)→get s' 8=some (.bool wb)→get s' 10=some (.int .i64 (b-a))→get s' 11=some (.int .i64 p)→
      R ⟨Gm,bb,[],[]⟩ (.ops qEM::.code (.seq (.reg true [.mk 0 (some 102) none (.mov (.t 15)) [],.mk 1 (some 9) none (.mov (.t 102)) []]) k18)::[.blk 1]) ⟨s',[],RW (h++ex) id ys⟩ Q:=by
    intro s' q0 q1 q2 q3 q8 q10 q11
    rw [qV1]
    simp (disch:=omega) only [go_sem,q0,q1,q2,q11]
    refine qAS (zQL (xs:=ys) hid' hyl hl (by omega) fun zs m r hz m1 m2=> ?_)
    simp (disch:=omega) only [go_sem]
    exact h18 _ m r zs (by simp [PS,go_sem,q0,q1,q2,q3,q8]) (by simp [go_sem,q10]) (by simp [go_sem]) m1 m2 hz
  revert fin
  generalize h11r:qEM=r11
  intro fin
  simp (disch:=omega) only [go_sem,qAO,Int.reduceEq,p0,p1,p2,p3,p8,p9,h10,h11]
  refine qAG ?_ ?_<;>intro hc<;>simp only [hc,go_sem]
  · have ha:=of_decide_eq_true hc
    simp (disch:=omega) only [go_sem,qAO,qAR,qAM,p0,p1,p2,p3,p8,p9,h10,h11]
    refine qAB (qEO _ _) ?_
    simp only [go_sem]
    refine qAA ?_ ?_<;>intro hc<;>simp only [hc,go_sem]
    · simp (disch:=omega) only [go_sem,p0,p1,p2,p3,p8,p9,h10,h11]
      refine qAS (zQK (xs:=ys) hid' hyl hl (by omega) fun zs m hz m1 m2=> ?_)
      simp only [go_sem]
      exact hq _ m b lim wb wp zs _ (by simp [PS,go_sem,p0,p1,p2,p3,p8,p9]) (by omega) (by omega) (by omega) (by omega) (hz.trans hy)
    · refine fin _ ?_ ?_ ?_ ?_ ?_ ?_ ?_<;>simp [go_sem,p0,p1,p2,p3,p8,h10,h11]
  · refine fin _ ?_ ?_ ?_ ?_ ?_ ?_ ?_<;>simp [go_sem,p0,p1,p2,p3,p8,h10,h11]
theorem pd20 {p t:Int} (hid:id<h.length) (hp:PS id n s a b lim wb wp) (h10:get s 10=some (.int .i64 (b-a))) (h11:get s 11=some (.int .i64 p)) (h12:get s 12=some (.int .i64 t)) (hl:n≤4194304) (hab:0≤a∧a≤p∧p<b∧b≤n) (hy:ys.Perm xs) (hyl:ys.length=n)
    (hr:PR h id n a b) (hq:PQ h id n xs a b Q) (hret:∀(s':LEnv) (zs:List Int) (ex':List AObj),zs.Perm xs→Q .ret ⟨s',[],RW (h++ex') id zs⟩):R ⟨Gm,bb,[],[]⟩ [.code qDB,.blk 1] ⟨s,[],RW (h++ex) id ys⟩ Q:=by
  obtain ⟨p0,p1,p2,p3,p8,p9⟩:=hp
  have hid':id<(h++ex).length:=by rw [List.length_append];omega
  have h19:∀(s':LEnv) (q:Int) (zs:List Int),PS id n s' a b lim wb wp→get s' 10=some (.int .i64 (b-a))→get s' 11=some (.int .i64 q)→a≤q→q<b→zs.Perm xs→R ⟨Gm,bb,[],[]⟩ [.code qDY,.blk 1] ⟨s',[],RW (h++ex) id zs⟩ Q:=
    fun s' q zs k1 k2 k3 k4 k5 k6=>pd19 hid k1 k2 k3 hl (by omega) k6 (by rw [k6.length_eq,←hy.length_eq,hyl]) hr hq
  rw [qV0]
  revert h19
  generalize qDY=k19
  intro h19
  have fin:∀s' q t' zs,zs.Perm xs→get s' 0=some (.slice 1 id 0 n false)→get s' 1=some (.int .i64 a)→get s' 2=some (.int .i64 b)→get s' 3=some (.int .i64 lim)→get s' 8=some (.bool wb)→get s' 9=some (.bool wp)→get s' 10=some (.int .i64 (b-a))→get s' 11=some (.int .i64 q)→get s' 12=some (.int .i64 t')→a≤q→q<b→
      R ⟨Gm,bb,[],[]⟩ (.ops qFM::.code (.cond (.t 68) (.seq (.reg true qHC) (.cond (.t 72) (.ret) (.skip))) (.skip))::.code k19::[.blk 1]) ⟨s',[],RW (h++ex) id zs⟩ Q:=by
    intro s' q t' zs hz q0 q1 q2 q3 q8 q9 q10 q11 q12 q13 q14
    have hzl:zs.length=n:=by rw [hz.length_eq,←hy.length_eq,hyl]
    have go:∀s2:LEnv,(∀k,k≤12→get s2 k=get s' k)→R ⟨Gm,bb,[],[]⟩ [.code k19,.blk 1] ⟨s2,[],RW (h++ex) id zs⟩ Q:=fun s2 hs=>h19 _ q zs (by simp [PS,hs,q0,q1,q2,q3,q8,q9]) (by rw [hs _ (by omega),q10]) (by rw [hs _ (by omega),q11]) q13 q14 hz
    have gk:∀(s2:LEnv) (j:Nat) (v:AV),12<j→(∀k,k≤12→get s2 k=get s' k)→∀k,k≤12→get ((j,v)::s2) k=get s' k:=fun s2 j v hj hs k hk=>by
      simp only [get];rw [if_neg (by omega)];exact hs k hk
    rw [qfK]
    simp (disch:=omega) only [go_sem,q0,q1,q2,q8,q9,q11,q12]
    have g0:∀k,k≤12→get s' k=get s' k:=fun _ _=>rfl
    cases wb
    · simp (disch:=omega) only [go_sem,q0,q1,q2,q8,q9,q11,q12]
      refine go _ ?_
      repeat' (first | exact g0 | refine gk _ _ _ (by omega) ?_)
    · cases wp
      · simp (disch:=omega) only [go_sem,q0,q1,q2,q8,q9,q11,q12]
        refine go _ ?_
        repeat' (first | exact g0 | refine gk _ _ _ (by omega) ?_)
      · simp (disch:=omega) only [go_sem,q0,q1,q2,q8,q9,q11,q12]
        refine qAA ?_ ?_<;>intro hc<;>simp only [hc,go_sem]
        · simp (disch:=omega) only [go_sem,q0,q1,q2,q8,q9,q11,q12]
          refine qAS (zQJ (xs:=zs) hid' hzl hl (by omega) fun us r hu=> ?_)
          simp only [go_sem]
          refine qAA ?_ ?_<;>intro hc<;>simp only [hc,go_sem]
          · exact hret _ _ _ (hu.trans hz)
          · refine h19 _ q us ?_ ?_ ?_ q13 q14 (hu.trans hz)
            · simp [PS,go_sem,q0,q1,q2,q3,q8,q9]
            · simp [go_sem,q10]
            · simp [go_sem,q11]
        · refine go _ ?_
          repeat' (first | exact g0 | refine gk _ _ _ (by omega) ?_)
  revert fin
  generalize qFM=r7
  intro fin
  simp (disch:=omega) only [go_sem,qAO,Int.reduceEq,p0,p1,p2,p3,p8,p9,h10,h11,h12]
  refine qAA ?_ ?_<;>intro hc<;>simp only [hc,go_sem]
  · simp (disch:=omega) only [go_sem,p0,p1,p2,p3,p8,p9,h10,h11,h12]
    refine qAS (zQI (xs:=ys) hid' hyl hl (by omega) fun zs hz=> ?_)
    simp (disch:=omega) only [go_sem,qAO,p0,p1,p2,p3,p8,p9,h10,h11,h12]
    refine fin _ (b-1-(p-a)) 1 zs (hz.trans hy) ?_ ?_ ?_ ?_ ?_ ?_ ?_ ?_ ?_ (by omega) (by omega)<;>simp [go_sem,p0,p1,p2,p3,p8,p9,h10,h11,h12]
  · refine fin _ p t ys hy ?_ ?_ ?_ ?_ ?_ ?_ ?_ ?_ ?_ (by omega) (by omega)<;>simp [go_sem,p0,p1,p2,p3,p8,p9,h10,h11,h12]
end
end Go.Ab
namespace Go.Ab
open Go
set_option maxRecDepth 10000
set_option maxHeartbeats 2000000
theorem zQD (N:Nat):∀{h:List AObj} {id n:Nat} {xs:List Int} {a b lim:Int} {K:AV→List AObj→Prop},id<h.length→xs.length=n→n≤4194304→0≤a→a≤b→b≤n→(b-a).toNat=N→
    (∀(ys:List Int) (ex:List AObj),ys.Perm xs→K (.tup []) (RW (h++ex) id ys))→qAZ Gm 1053 [.slice 1 id 0 n false,.int .i64 a,.int .i64 b,.int .i64 lim] (RW h id xs) K:=by
  induction N using Nat.strongRecOn with
  | _ N ih=>
  intro h id n xs a b lim K hid hn hl ha hab hb hN hK
  have hr:PR h id n a b:=fun ex ys a' b' lim' K' h1 h2 h3 h4 h5 h6=>
    ih (b'-a').toNat (by omega) (by rw [List.length_append];omega) h1 hl h2 h3 h4 rfl fun zs ex' hz=>by rw [List.append_assoc];exact h6 zs ex' hz
  refine qAZ.run [] [] zLP (by kernel_rfl) rfl ?_
  simp only [qj2,qAC,go_sem]
  refine Sem.loop (fun q:Int×Int×Int×Bool×Bool×List Int×List AObj=>a≤q.1∧q.1≤q.2.1∧q.2.1≤b∧q.2.2.2.2.2.1.Perm xs)
    (fun q=>(⟨[(0,.slice 1 id 0 n false),(1,.int .i64 q.1),(2,.int .i64 q.2.1),(3,.int .i64 q.2.2.1),(8,.bool q.2.2.2.1),(9,.bool q.2.2.2.2.1)],[],RW (h++q.2.2.2.2.2.2) id q.2.2.2.2.2.1⟩:VSt)) (fun q=>(q.2.1-q.1).toNat) (a,b,lim,true,true,xs,[]) (by kernel_rfl) ⟨(by first | omega | (simp only;omega)),(by first | omega | (simp only;omega)),(by first | omega | (simp only;omega)),.refl _⟩ (by simp only [List.append_nil];exact Can.sub (by simp [go_sem]) (by simp [go_sem])) ?_
  rintro ⟨a',b',lim',wb,wp,ys,ex⟩ ⟨h1,h2,h3,h4⟩
  simp only at h1 h2 h3 h4⊢
  have hyl:ys.length=n:=by rw [h4.length_eq,hn]
  have hid':id<(h++ex).length:=by rw [List.length_append];omega
  have hr':PR h id n a' b':=hr.mono (by omega)
  generalize hQ:qU5 _ _ _ _ _ _ _=Q
  have hq:PQ h id n xs a' b' Q:=by
    intro s a2 b2 lim2 wb2 wp2 zs ex2 hp g1 g2 g3 g4 g5
    subst hQ
    obtain ⟨p0,p1,p2,p3,p8,p9⟩:=hp
    exact qAH (a2,b2,lim2,wb2,wp2,zs,ex2) ⟨by first | omega | (simp only;omega),by first | omega | (simp only;omega),by first | omega | (simp only;omega),g5⟩ (by first | omega | (simp only;omega)) (Can.sub (by simp [go_sem,p0,p1,p2,p3,p8,p9]) (by simp [go_sem]))
  have hret:∀(s':LEnv) (zs:List Int) (ex':List AObj),zs.Perm xs→Q .ret ⟨s',[],RW (h++ex') id zs⟩:=by
    intro s' zs ex' hz
    subst hQ
    simp only [go_sem]
    exact hK _ _ hz
  clear hQ
  have h20:∀(s':LEnv) (p t l2:Int) (zs:List Int) (ex':List AObj),PS id n s' a' b' l2 wb wp→get s' 10=some (.int .i64 (b'-a'))→get s' 11=some (.int .i64 p)→get s' 12=some (.int .i64 t)→a'≤p→p<b'→zs.Perm xs→
      R ⟨Gm,(RW h id xs).length,[],[]⟩ [.code qDB,.blk 1] ⟨s',[],RW (h++ex') id zs⟩ Q:=
    fun s' p t l2 zs ex' k1 k2 k3 k4 k5 k6 k7=>pd20 hid k1 k2 k3 k4 hl (by omega) k7 (by rw [k7.length_eq,hn]) hr' hq hret
  simp (config:={maxSteps:=2000000}) (disch:=omega) only [go_sem,qAO,qAR,qAM,Int.reduceEq]
  refine qAA ?_ ?_<;>intro hc<;>simp only [hc,go_sem]
  · refine qAS (zQE (xs:=ys) hid' hyl hl (by omega) fun zs hz=> ?_)
    simp only [go_sem]
    exact hret _ _ _ (hz.trans h4)
  have h12:=of_decide_eq_false hc
  refine qAA ?_ ?_<;>intro hc<;>simp only [hc,go_sem]
  · refine qAS (zQF (xs:=ys) hid' hyl hl (by omega) fun zs hz=> ?_)
    simp only [go_sem]
    exact hret _ _ _ (hz.trans h4)
  have call:∀(s':LEnv) (l2:Int) (zs:List Int) (ex':List AObj),PS id n s' a' b' l2 wb wp→get s' 10=some (.int .i64 (b'-a'))→zs.Perm xs→
      R ⟨Gm,(RW h id xs).length,[],[]⟩ [.ops qFL,.code qDB,.blk 1] ⟨s',[],RW (h++ex') id zs⟩ Q:=by
    intro s' l2 zs ex' ⟨p0,p1,p2,p3,p8,p9⟩ k2 k3
    have hid2:id<(h++ex').length:=by rw [List.length_append];omega
    rw [qfJ]
    revert h20
    generalize qDB=k20
    intro h20
    simp (disch:=omega) only [go_sem,p0,p1,p2,p3,p8,p9]
    refine qAS (zQH (xs:=zs) hid2 (by rw [k3.length_eq,hn]) hl (by omega) fun p t y hp=> ?_)
    simp only [go_sem]
    rw [List.append_assoc]
    refine h20 _ p t l2 zs _ ?_ ?_ ?_ ?_ hp.1 hp.2 k3<;>simp [PS,go_sem,p0,p1,p2,p3,p8,p9,k2]
  revert call
  generalize qFL=r4
  intro call
  cases wb
  · simp only [go_sem]
    refine qAS (zQG (xs:=ys) hid' hyl hl (by omega) fun zs y hz=> ?_)
    simp only [go_sem]
    rw [List.append_assoc]
    refine call _ (IntKind.i64.wrap (lim'-1)) zs _ ?_ ?_ (hz.trans h4)<;>simp [PS,go_sem]
  · simp only [go_sem]
    refine call _ lim' ys _ ?_ ?_ h4<;>simp [PS,go_sem]
theorem s678 {h:List AObj} {id n:Nat} {xs:List Int} {K:AV→List AObj→Prop} (ho:h[id]?=some (.row 1 (xs.map encI) true)) (hn:xs.length=n) (hl:n≤4194304)
    (hK:∀(ys:List Int) (ex:List AObj),ys.Perm xs→K (.tup []) (h.set id (.row 1 (ys.map encI) true)++ex)):qAZ Gm 678 [.slice 1 id 0 n false] h K:=by
  have hid:id<h.length:=(List.getElem?_eq_some_iff.1 ho).1
  refine qAZ.run [] [] g678 (by kernel_rfl) rfl ?_
  simp only [F678,qAC,go_sem]
  simp (disch:=omega) only [qG4,go_sem]
  refine qAB (zFT (by omega)) ?_
  simp only [go_sem]
  rw [←zJR ho]
  refine qAS (zQD _ hid hn hl (by omega) (by omega) (by omega) rfl fun ys ex hy=> ?_)
  simp only [go_sem]
  rw [←qhL hid]
  exact hK ys ex hy
end Go.Ab
namespace Go.Ab
open Go
set_option maxRecDepth 10000
set_option maxHeartbeats 2000000
attribute [local simp] qBF qAT qGI
def GCore.nm:GCore→List Int:=GCore.fold fun x rs=>(if x.Kind=11 then [x.Value] else [])++(x.Data++rs.flatten)
theorem GCore.nm_eq (x:GCore):x.nm=(if x.Kind=11 then [x.Value] else [])++(x.Data++(x.Kids.map GCore.nm).flatten):=by
  unfold GCore.nm;rw [GCore.fold_eq]
theorem GCore.nm_len:∀x:GCore,x.nm.length≤x.sz+1:=GCore.ind fun x ih=>by
  rw [x.nm_eq,x.sz_eq]
  have h:∀ks:List GCore,(∀y∈ks,y.nm.length≤y.sz+1)→(ks.map GCore.nm).flatten.length≤ks.length+sumN GCore.sz ks:=by
    intro ks
    induction ks with
    | nil=>intro _;simp
    | cons a ks ih=>intro h;simp only [List.map_cons,List.flatten_cons,List.length_append,List.length_cons,sumN];have:=h a (by simp);have:=ih (fun y hy=>h y (by simp [hy]));omega
  have:=h _ ih
  simp only [List.length_append]
  split<;>simp only [List.length_cons,List.length_nil]<;>omega
theorem qeZ:∀(ds out:List Int) (k:Int),k∈ds.foldl putI out↔k∈out∨k∈ds
  |[],out,k=>by simp
  | d::ds,out,k=>by
    rw [List.foldl_cons,qeZ ds,qTY,List.mem_cons]
    constructor
    · rintro ((h | h) | h)<;>simp_all
    · rintro (h | h | h)<;>simp_all
theorem GCore.names_mem:∀(x:GCore) (out:List Int) (k:Int),k∈x.names out↔k∈out∨k∈x.nm:=GCore.ind fun x ih out k=>by
  have h:∀ks:List GCore,(∀y∈ks,∀(o:List Int) (k:Int),k∈y.names o↔k∈o∨k∈y.nm)→∀o:List Int,k∈ks.foldl (fun o y=>y.names o) o↔k∈o∨k∈(ks.map GCore.nm).flatten:=by
    intro ks
    induction ks with
    | nil=>intro _ o;simp
    | cons a ks ih=>
      intro h o
      rw [List.foldl_cons,ih (fun y hy=>h y (by simp [hy])),h a (by simp),List.map_cons,List.flatten_cons,List.mem_append]
      constructor
      · rintro ((h | h) | h)<;>simp_all
      · rintro (h | h | h)<;>simp_all
  rw [x.names_eq,x.nm_eq,h _ ih,qeZ,List.mem_append,List.mem_append]
  by_cases h11:x.Kind=11
  · rw [if_pos h11,if_pos h11,qTY,List.mem_singleton]
    constructor
    · rintro (((h | h) | h) | h)<;>simp_all
    · rintro (h | h | h | h)<;>simp_all
  · rw [if_neg h11,if_neg h11]
    constructor
    · rintro ((h | h) | h)<;>simp_all
    · rintro (h | h | h | h)<;>simp_all
theorem qmF {x:GCore} {i:Nat} (h:i<x.Kids.length):((x.Kids.take (i+1)).map GCore.nm).flatten=((x.Kids.take i).map GCore.nm).flatten++x.Kids[i].nm:=by
  rw [List.take_succ_eq_append_getElem h,List.map_append,List.flatten_append];simp
theorem qpD (x:GCore) (i:Nat):(x.Data++((x.Kids.take i).map GCore.nm).flatten).length≤x.sz+1:=by
  have h:∀(ks:List GCore) (i:Nat),((ks.take i).map GCore.nm).flatten.length≤ks.length+sumN GCore.sz ks:=by
    intro ks
    induction ks with
    | nil=>intro i;simp
    | cons a ks ih=>
      intro i
      cases i with
      | zero=>simp
      | succ i=>simp only [List.take_succ_cons,List.map_cons,List.flatten_cons,List.length_append,List.length_cons,sumN];have:=a.nm_len;have:=ih i;omega
  have:=h x.Kids i
  rw [List.length_append,x.sz_eq]
  omega
theorem zJS (x:GCore):∀(xs:List Int) (_:x.sz≤1048576) (_:xs.length+x.sz≤2097152),Acc Gm 1041 [x.enc] 1 (xs.map encI) ((xs++x.nm).map encI):=by
  induction x using GCore.ind with
  | _ x ih=>
  intro xs hz hx h id K ho hK
  have hL:=x.len_sz
  have hid:id<h.length:=(List.getElem?_eq_some_iff.1 ho).1
  refine qAZ.run [] [] zLL (by kernel_rfl) rfl ?_
  simp only [List.cons_append,List.nil_append,qjY,qAC,go_sem]
  refine qAN GCore.ln ?_
  simp only [go_sem]
  obtain ⟨pre,hpre⟩:∃p:List Int,p=if x.Kind=11 then [x.Value] else []:=⟨_,rfl⟩
  have hpl:pre.length≤1:=by rw [hpre];split<;>simp
  rw [x.nm_eq,←hpre] at hK
  have rest:∀(h1:List AObj) (id1:Nat),Grown h id 1 ((xs++pre).map encI) h1 id1→Grown h id 1 ((xs++pre++x.Data).map encI) (h1.set id1 .dead++[.row 1 ((xs++pre).map encI++x.Data.map encI) true]) h1.length:=by
    intro h1 id1 hG
    have:=hG.trans (Grown.app (zs:=(xs++pre).map encI++x.Data.map encI) hG.at')
    rw [List.map_append (l₁:=xs++pre)];exact this
  have body:∀(i:Nat) (hlt:i<x.Kids.length) (h':List AObj) (id':Nat),Grown h id 1 ((xs++pre++x.Data++((x.Kids.take i).map GCore.nm).flatten).map encI) h' id'→Acc Gm 1041 [x.Kids[i].enc] 1 ((xs++pre++x.Data++((x.Kids.take i).map GCore.nm).flatten).map encI) ((xs++pre++x.Data++((x.Kids.take (i+1)).map GCore.nm).flatten).map encI):=by
    intro i hlt h' id' _
    have hm:=List.getElem_mem hlt
    have hk:=GCore.kid_sz hm
    have hl:=qpD x i
    rw [qmF hlt,←List.append_assoc]
    refine ih _ hm _ (by omega) ?_
    have h2:∀(ks:List GCore) (i:Nat) (h:i<ks.length),((ks.take i).map GCore.nm).flatten.length+ks[i].sz+1≤ks.length+sumN GCore.sz ks:=by
      intro ks
      induction ks with
      | nil=>intro i h;simp at h
      | cons a ks ih=>
        intro i h
        cases i with
        | zero=>simp [sumN];omega
        | succ i=>
          simp only [List.take_succ_cons,List.map_cons,List.flatten_cons,List.length_append,List.length_cons,sumN,List.getElem_cons_succ]
          have:=a.nm_len;have:=ih i (by simpa using h);omega
    have:=h2 x.Kids i hlt
    have h3:=x.sz_eq
    simp only [List.length_append] at hl⊢
    omega
  refine qAA ?_ ?_<;>intro hc<;>simp only [hc,go_sem]
  · have h11:=of_decide_eq_true hc
    rw [if_pos h11] at hpre
    refine qBY (el:=xs.map encI) qFH (by rw [List.getElem?_append_left hid];exact ho) (by simp) (by omega) ?_
    have hG:Grown h id 1 ((xs++pre).map encI) ((h++[AObj.row 1 [AV.int .i64 x.Value] true]).set id .dead++[.row 1 (xs.map encI++[AV.int .i64 x.Value]) true]) (h++[AObj.row 1 [AV.int .i64 x.Value] true]).length:=by
      have:=Grown.ofApp (X:=[.row 1 [.int .i64 x.Value] true]) (Grown.app (zs:=xs.map encI++[AV.int .i64 x.Value]) (by rw [List.getElem?_append_left hid];exact ho)) hid
      rw [hpre];simpa [encI] using this
    generalize hh:((h++[AObj.row 1 [AV.int .i64 x.Value] true]).set id .dead++[AObj.row 1 (xs.map encI++[AV.int .i64 x.Value]) true])=h1 at hG⊢
    generalize hi:(h++[AObj.row 1 [AV.int .i64 x.Value] true]).length=id1 at hG⊢
    simp only [go_sem]
    refine qc6 (el:=(xs++pre).map encI) Els.lst hG.at' (by simp [hpre]) (by simp;omega) ?_
    replace hG:=rest _ _ hG
    generalize hh2:(h1.set id1 .dead++[AObj.row 1 ((xs++pre).map encI++x.Data.map encI) true])=h2 at hG⊢
    simp only [go_sem]
    refine Sem.loop (fun a:Nat×List AObj×Nat=>a.1≤x.Kids.length∧Grown h id 1 ((xs++pre++x.Data++((x.Kids.take a.1).map GCore.nm).flatten).map encI) a.2.1 a.2.2)
      (fun a=>(⟨[(1,.slice 1 a.2.2 0 (xs++pre++x.Data++((x.Kids.take a.1).map GCore.nm).flatten).length false),(20,.lst 4 (x.Kids.map GCore.enc) false),(21,.int .i64 (x.Kids.length:Nat)),(22,.int .i64 (a.1:Nat))],[(2,x.enc)],a.2.1⟩:VSt)) (fun a=>x.Kids.length-a.1) (0,h2,h1.length) (by kernel_rfl) ⟨Nat.zero_le _,by simpa using hG⟩
      (Can.sub (by simp [go_sem,hpre];omega) (by simp [go_sem])) ?_
    rintro ⟨i,h',id'⟩ ⟨hi',hG'⟩
    simp only at hi' hG'
    simp only [go_sem]
    refine qAA ?_ ?_<;>intro hc<;>simp only [hc,go_sem]
    · have hlt:i<x.Kids.length:=by have:=of_decide_eq_true hc;omega
      simp only [List.getElem?_map,List.getElem?_eq_getElem hlt,Option.map_some,go_sem]
      refine qAE (k:=4) (by rfl) (by simp [go_sem]) (GCore.isAgg _) (by decide) ?_;simp only [go_sem]
      refine qFP (body i hlt h' id' hG') hG'.at' (List.length_map _) rfl ?_
      intro h3 id3 hG3
      simp only [go_sem]
      simp only [qAK (show i<4611686018427387904 by omega)]
      exact qAH (i+1,h3,id3) ⟨by omega,hG'.trans hG3⟩ (by simp only;omega) (Can.sub (by simp [go_sem,-List.length_flatten,-List.length_append,-List.map_append]) (by simp [go_sem]))
    · have e:i=x.Kids.length:=by have:=of_decide_eq_false hc;omega
      subst e
      rw [List.take_length] at hG'⊢
      have e2:xs++pre++x.Data++(x.Kids.map GCore.nm).flatten=xs++(pre++(x.Data++(x.Kids.map GCore.nm).flatten)):=by simp
      rw [e2] at hG'⊢
      have:=hK _ _ hG'
      simpa only [List.length_map] using this
  · have h11:=of_decide_eq_false hc
    rw [if_neg h11] at hpre
    subst hpre
    refine qc6 (el:=(xs++[]).map encI) Els.lst (by rw [List.append_nil];exact ho) (by simp) (by simp;omega) ?_
    have hG:=rest h id (by rw [List.append_nil];exact Grown.refl ho)
    generalize hh2:(h.set id .dead++[AObj.row 1 ((xs++[]).map encI++x.Data.map encI) true])=h2 at hG⊢
    simp only [go_sem]
    refine Sem.loop (fun a:Nat×List AObj×Nat=>a.1≤x.Kids.length∧Grown h id 1 ((xs++[]++x.Data++((x.Kids.take a.1).map GCore.nm).flatten).map encI) a.2.1 a.2.2)
      (fun a=>(⟨[(1,.slice 1 a.2.2 0 (xs++[]++x.Data++((x.Kids.take a.1).map GCore.nm).flatten).length false),(20,.lst 4 (x.Kids.map GCore.enc) false),(21,.int .i64 (x.Kids.length:Nat)),(22,.int .i64 (a.1:Nat))],[(2,x.enc)],a.2.1⟩:VSt)) (fun a=>x.Kids.length-a.1) (0,h2,h.length) (by kernel_rfl) ⟨Nat.zero_le _,by simpa using hG⟩
      (Can.sub (by simp [go_sem]) (by simp [go_sem])) ?_
    rintro ⟨i,h',id'⟩ ⟨hi',hG'⟩
    simp only at hi' hG'
    simp only [go_sem]
    refine qAA ?_ ?_<;>intro hc<;>simp only [hc,go_sem]
    · have hlt:i<x.Kids.length:=by have:=of_decide_eq_true hc;omega
      simp only [List.getElem?_map,List.getElem?_eq_getElem hlt,Option.map_some,go_sem]
      refine qAE (k:=4) (by rfl) (by simp [go_sem]) (GCore.isAgg _) (by decide) ?_;simp only [go_sem]
      refine qFP (body i hlt h' id' hG') hG'.at' (List.length_map _) rfl ?_
      intro h3 id3 hG3
      simp only [go_sem]
      simp only [qAK (show i<4611686018427387904 by omega)]
      exact qAH (i+1,h3,id3) ⟨by omega,hG'.trans hG3⟩ (by simp only;omega) (Can.sub (by simp [go_sem,-List.length_flatten,-List.length_append,-List.map_append]) (by simp [go_sem]))
    · have e:i=x.Kids.length:=by have:=of_decide_eq_false hc;omega
      subst e
      rw [List.take_length] at hG'⊢
      have e2:xs++[]++x.Data++(x.Kids.map GCore.nm).flatten=xs++([]++(x.Data++(x.Kids.map GCore.nm).flatten)):=by simp
      rw [e2] at hG'⊢
      have:=hK _ _ hG'
      simpa only [List.length_map] using this
end Go.Ab
namespace Go.Ab
open Go
set_option maxRecDepth 10000
set_option maxHeartbeats 2000000
attribute [local simp] qBF qAT qGI
theorem qTD:∀(xs:List Int) (s:List Int×Option Int),(∀y,s.2=some y→y∈s.1)→(∀k,k∈(xs.foldl qCJ s).1↔k∈s.1∨k∈xs)∧(xs.foldl qCJ s).1.length≤s.1.length+xs.length
  |[],s,_=>by simp
  | x::xs,s,h=>by
    rw [List.foldl_cons]
    have hx:x∈(qCJ s x).1:=by
      unfold qCJ
      by_cases e:s.2=some x
      · simp only [if_pos e];exact h x e
      · simp only [if_neg e];simp
    have ih:=qTD xs (qCJ s x) (fun y hy=>by
      have:y=x:=by simpa [qCJ] using hy.symm
      subst this;exact hx)
    have hm:∀k,k∈(qCJ s x).1↔k∈s.1∨k=x:=by
      intro k
      unfold qCJ
      by_cases e:s.2=some x
      · simp only [if_pos e]
        constructor
        · exact .inl
        · rintro (q | rfl)
          · exact q
          · exact h _ e
      · simp only [if_neg e];simp
    have hl:(qCJ s x).1.length≤s.1.length+1:=by
      unfold qCJ
      by_cases e:s.2=some x
      · simp only [if_pos e];omega
      · simp only [if_neg e];simp
    refine ⟨fun k=> ?_,by rw [List.length_cons];omega⟩
    rw [ih.1,hm,List.mem_cons,or_assoc]
theorem qd6 (xs:List Int) (k:Int):k∈comp xs↔k∈xs:=by
  have:=(qTD xs ([],none) (fun y hy=>by cases hy)).1 k
  simpa [comp] using this
theorem qKE (xs:List Int):(comp xs).length≤xs.length:=by
  have:=(qTD xs ([],none) (fun y hy=>by cases hy)).2
  simpa [comp] using this
def SetV (P:Int→Prop) (n:Nat) (v:AV):Prop:=∃ys:List Int,v=.lst 1 (ys.map encI) false∧(∀k,k∈ys↔P k)∧ys.length≤n
theorem SetV.tree {P:Int→Prop} {n:Nat}:∀v,SetV P n v→v.tree=true:=by
  rintro v ⟨ys,rfl,_⟩;simp [AV.tree]
theorem r664 {b:GBook} {n:Nat} (hbz:b.sz≤1048576) (hn:n<b.Defs.length):qI0 Gm 664 [b.enc,.int .i64 (n:Int)] (SetV (fun k=>k∈b.Defs[n].nm) 1048577):=by
  refine qI0.intro [] [] g664 (by kernel_rfl) rfl (by simp [AV.trees,AV.tree,go_sem]) SetV.tree ?_
  simp only [F664,qAC,go_sem]
  have hz':b.Defs.length+sumN GCore.sz b.Defs≤1048576:=hbz
  have hs:=qA9 (f:=GCore.sz) (List.getElem_mem hn)
  have hl:=GCore.nm_len b.Defs[n]
  refine qAN rfl ?_;simp only [go_sem]
  simp only [List.getElem?_map,List.getElem?_eq_getElem hn,Option.map_some,go_sem]
  refine qCW (as:=[b.Defs[n].enc]) (zJS b.Defs[n] [] (by omega) (by simp;omega)) rfl ?_
  intro h' id' hG
  simp only [List.nil_append] at hG
  simp only [go_sem]
  refine qAS (s678 hG.at' rfl (by simp;omega) fun ys ex hy=> ?_)
  simp only [go_sem]
  have hid:id'<h'.length:=hG.lt
  have ho:(h'.set id' (AObj.row 1 (ys.map encI) true)++ex)[id']?=some (.row 1 (ys.map encI) true):=by
    rw [List.getElem?_append_left (by simpa using hid)];simp [hid]
  rw [show (([]:List Int)++b.Defs[n].nm).length=ys.length by rw [hy.length_eq];rfl]
  refine qAS (qpP ho (by rw [hy.length_eq];omega) ?_)
  simp only [go_sem]
  have hid2:id'<(h'.set id' (AObj.row 1 (ys.map encI) true)++ex).length:=by simp;omega
  refine qh7 (v:=.lst 1 ((comp ys).map encI) false) ⟨comp ys,rfl,fun k=>by rw [qd6,hy.mem_iff],by have:=qKE ys;rw [hy.length_eq] at this;omega⟩ ?_
  exact Cv.row (by rw [List.getElem?_set_self hid2]) (by simp) (qAT _) (by decide)
theorem qjR {b:GBook} {a k:Int}:Ed (qBJ b) a k↔∃x,b.Defs[a.toNat]?=some x∧k∈x.nm:=by
  unfold Ed qBJ
  rw [List.getD_eq_getElem?_getD,List.getElem?_map]
  cases h:b.Defs[a.toNat]? with
  | none=>simp
  | some x=>simp [GCore.names_mem]
structure SeenD (U:List (List Int)) (d:Int) (i:Nat) (seen:List Int):Prop where
  nd:seen.Nodup
  rng:∀s∈seen,0≤s∧s<U.length
  rch:∀s∈seen,s=d∨Relation.TransGen (Ed U) d s
  beg:d∈seen
  cls:∀j,j<i→∀s,seen[j]?=some s→∀k,Ed U s k→k∈seen
theorem SeenD.len {U:List (List Int)} {d:Int} {i:Nat} {seen:List Int} (h:SeenD U d i seen):seen.length≤U.length:=qEF _ _ h.nd h.rng
theorem SeenD.start {U:List (List Int)} {d:Int} (hd:0≤d∧d<U.length):SeenD U d 0 [d]:=
  ⟨by simp,fun s hs=>by rw [List.mem_singleton] at hs;subst hs;exact hd,fun s hs=>.inl (by simpa using hs),by simp,fun j hj=>by omega⟩
theorem SeenD.done {U:List (List Int)} {d:Int} {seen:List Int} (h:SeenD U d seen.length seen) (k:Int):k∈seen↔k=d∨Relation.TransGen (Ed U) d k:=by
  constructor
  · exact h.rch k
  · have cl:∀{a c:Int},a∈seen→Ed U a c→c∈seen:=fun {a c} ha hc=>by
      obtain ⟨j,hj,e⟩:=List.getElem_of_mem ha
      exact h.cls j hj _ (by rw [List.getElem?_eq_getElem hj,e]) _ hc
    rintro (rfl | hr)
    · exact h.beg
    · induction hr with
      | single h1=>exact cl h.beg h1
      | tail _ h2 ih=>exact cl ih h2
theorem SeenD.next {U:List (List Int)} {d:Int} {i:Nat} {seen':List Int} {e:Int} (h:SeenD U d i seen') (hp:seen'[i]?=some e) (he:∀k,Ed U e k→k∈seen'):SeenD U d (i+1) seen':=
  ⟨h.nd,h.rng,h.rch,h.beg,fun j hj s hs k hk=>by
    rcases Nat.lt_succ_iff_lt_or_eq.1 hj with hj | rfl
    · exact h.cls j hj s hs k hk
    · rw [hp] at hs;cases hs;exact he k hk⟩
theorem SeenD.push {U:List (List Int)} (hU:qT9 U) {d:Int} {i:Nat} {seen:List Int} {e k:Int} (h:SeenD U d i seen) (hi:i≤seen.length) (he:e∈seen) (hk:Ed U e k) (hn:k∉seen):SeenD U d i (seen++[k]) where
  nd:=by
    rw [List.nodup_append]
    refine ⟨h.nd,by simp, ?_⟩
    intro a ha b hb
    simp at hb
    rintro rfl;subst hb;exact hn ha
  rng:=by
    intro s hs
    rcases List.mem_append.1 hs with hs | hs
    · exact h.rng s hs
    · rw [List.mem_singleton] at hs;subst hs
      unfold Ed at hk
      rw [List.getD_eq_getElem?_getD] at hk
      cases q:U[e.toNat]? with
      | none=>rw [q] at hk;simp at hk
      | some ys=>rw [q] at hk;exact hU ys (List.mem_of_getElem? q) _ hk
  rch:=by
    intro s hs
    rcases List.mem_append.1 hs with hs | hs
    · exact h.rch s hs
    · rw [List.mem_singleton] at hs;subst hs
      rcases h.rch e he with rfl | hr
      · exact .inr (.single hk)
      · exact .inr (hr.tail hk)
  beg:=by simp [h.beg]
  cls:=fun j hj s hs k' hk'=>by
    rw [List.getElem?_append_left (by omega)] at hs
    exact List.mem_append_left _ (h.cls j hj s hs k' hk')
theorem zGW {h:List AObj} {id p:Nat} {xs:List Int} (ho:h[id]?=some (.row 1 (xs.map encI) true)) (hp:p<xs.length):orow none 0 p h[id]?=some (.int .i64 xs[p]):=qTV ho hp
theorem zP7 {b:GBook} {d:Int} (hb:b.ok=true) (hbz:b.sz≤1048576) (hd:0≤d∧d<(b.Defs.length:Nat)):qI0 Gm 1039 [b.enc,.lst 1 ([d].map encI) false] (SetV (fun k=>k=d∨Relation.TransGen (Ed (qBJ b)) d k) 24):=by
  refine qI0.intro [] [] zLJ (by kernel_rfl) rfl (by simp [AV.trees,AV.tree,encI,go_sem]) SetV.tree ?_
  simp only [qjW,qAC,go_sem]
  have hz':b.Defs.length+sumN GCore.sz b.Defs≤1048576:=hbz
  have hU:=qd0 hb
  have hul:(qBJ b).length=b.Defs.length:=by simp [qBJ]
  have h24:=(qTB hb).2
  refine qAN rfl ?_;simp only [go_sem]
  refine qEX (n401 [d] (by simp)) ?_
  simp only [zGH,zGI,List.nil_append,List.length_nil,go_sem]
  refine qB5 (fun a:Nat×List Int×List AObj×Nat=>a.1≤a.2.1.length∧SeenD (qBJ b) d a.1 a.2.1∧a.2.2.1[a.2.2.2]?=some (.row 1 (a.2.1.map encI) true)) (fun a=>(⟨[(5,.slice 1 a.2.2.2 0 a.2.1.length false),(6,.int .i64 (a.1:Nat))],[(2,b.enc)],a.2.2.1⟩:VSt)) (fun a=>b.Defs.length-a.1) (0,[d],[.row 1 ([d].map encI) true],0)
    (fun a:List Int×List AObj×Nat=>SeenD (qBJ b) d a.1.length a.1∧a.2.1[a.2.2]?=some (.row 1 (a.1.map encI) true)) (fun a=>(⟨[(5,.slice 1 a.2.2 0 a.1.length false)],[],a.2.1⟩:VSt)) (by kernel_rfl) ⟨Nat.zero_le _,SeenD.start (by omega),rfl⟩ (Can.sub (by simp [go_sem]) (by simp [go_sem])) ?_ ?_
  · rintro ⟨i,sn,h',id'⟩ ⟨hi,hS,ho⟩
    simp only at hi hS ho⊢
    have hsl:=hS.len
    simp only [go_sem]
    refine qAA ?_ ?_<;>intro hc<;>simp only [hc,go_sem]
    · have hlt:i<sn.length:=by have:=of_decide_eq_true hc;omega
      have hrg:=hS.rng _ (List.getElem_mem hlt)
      obtain ⟨e,he⟩:∃e:Nat,sn[i]=(e:Int):=⟨sn[i].toNat,by omega⟩
      have hel:e<b.Defs.length:=by omega
      rw [qHB hlt]
      simp only [Nat.zero_add,go_sem]
      rw [zGW ho hlt,he]
      simp only [go_sem]
      refine qKB (r664 hbz hel) ?_
      rintro v ⟨us,rfl,hus,hul2⟩
      simp only [go_sem]
      have hEd:∀k,Ed (qBJ b) (e:Int) k↔k∈us:=fun k=>by
        rw [qjR,Int.toNat_natCast,List.getElem?_eq_getElem hel,hus];simp
      refine Sem.loop (fun a:Nat×List Int×List AObj×Nat=>a.1≤us.length∧i<a.2.1.length∧a.2.1[i]?=some (e:Int)∧SeenD (qBJ b) d i a.2.1∧(∀k∈us.take a.1,k∈a.2.1)∧a.2.2.1[a.2.2.2]?=some (.row 1 (a.2.1.map encI) true))
        (fun a=>(⟨[(5,.slice 1 a.2.2.2 0 a.2.1.length false),(6,.int .i64 (i:Nat)),(22,.lst 1 (us.map encI) false),(23,.int .i64 (us.length:Nat)),(24,.int .i64 (a.1:Nat))],[(2,b.enc)],a.2.2.1⟩:VSt)) (fun a=>us.length-a.1) (0,sn,h',id') (by kernel_rfl) ⟨Nat.zero_le _,hlt,by simp only;rw [List.getElem?_eq_getElem hlt,he],hS,by simp,ho⟩ (Can.sub (by simp [go_sem]) (by simp [go_sem])) ?_
      rintro ⟨j,sn2,h2,id2⟩ ⟨hj,hi2,hse,hS2,htk,ho2⟩
      simp only at hj hi2 hse hS2 htk ho2⊢
      have hsl2:=hS2.len
      simp only [go_sem]
      refine qAA ?_ ?_<;>intro hc<;>simp only [hc,go_sem]
      · have hjl:j<us.length:=by have:=of_decide_eq_true hc;omega
        simp only [List.getElem?_map,List.getElem?_eq_getElem hjl,Option.map_some,encI,go_sem]
        refine qBS (vs':=[.lst 1 (sn2.map encI) false,.int .i64 us[j]]) (Cvs.cons (Cv.row ho2 (by simp) (qAT _) (by decide)) (Cvs.cons (.refl rfl) Cvs.nil)) (c647 (by omega)) rfl ?_
        simp only [go_sem]
        have htk2:∀zs:List Int,(∀y∈sn2,y∈zs)→us[j]∈zs→∀k∈us.take (j+1),k∈zs:=by
          intro zs h1 h2 k hk
          rw [List.take_succ_eq_append_getElem hjl,List.mem_append,List.mem_singleton] at hk
          rcases hk with hk | rfl
          · exact h1 _ (htk _ hk)
          · exact h2
        refine qAA ?_ ?_<;>intro hc<;>simp only [hc,go_sem]
        · have hnm:us[j]∉sn2:=by
            intro hm
            simp only [Bool.not_eq_true',List.any_eq_false] at hc
            exact hc _ hm (by simp)
          refine qBY (el:=sn2.map encI) qFH (by rw [List.getElem?_append_left (List.getElem?_eq_some_iff.1 ho2).1];exact ho2) (by simp) (by omega) ?_
          simp only [go_sem]
          simp only [qAK (show j<4611686018427387904 by omega)]
          refine qAH (j+1,sn2++[us[j]],_,(h2++[AObj.row 1 [AV.int .i64 us[j]] true]).length) ⟨by simp only;omega,by simp;omega,by simp only;rw [List.getElem?_append_left hi2];exact hse,hS2.push hU (by omega) (List.mem_of_getElem? hse) ((hEd _).2 (List.getElem_mem hjl)) hnm,htk2 _ (fun y hy=>by simp [hy]) (by simp), ?_⟩ (by simp only;omega) (Can.sub (by simp [go_sem]) (by simp [go_sem]))
          simp only []
          rw [List.getElem?_append_right (by simp)];simp [encI]
        · have hmm:us[j]∈sn2:=by
            simp only [Bool.not_eq_false',List.any_eq_true,decide_eq_true_eq] at hc
            obtain ⟨y,hy,e⟩:=hc
            rw [e];exact hy
          simp only [qAK (show j<4611686018427387904 by omega)]
          exact qAH (j+1,sn2,h2,id2) ⟨by simp only;omega,hi2,hse,hS2,htk2 _ (fun y hy=>hy) hmm,ho2⟩ (by simp only;omega) (Can.sub (by simp [go_sem]) (by simp [go_sem]))
      · have hje:j=us.length:=by have:=of_decide_eq_false hc;omega
        subst hje
        rw [List.take_length] at htk
        simp only [qAK (show i<4611686018427387904 by omega)]
        exact qA8 (i+1,sn2,h2,id2) ⟨by simp only;omega,hS2.next hse fun k hk=>htk _ ((hEd k).1 hk),ho2⟩ (by simp only;omega) (Can.sub (by simp [go_sem]) (by simp [go_sem]))
    · have e:i=sn.length:=by have:=of_decide_eq_false hc;omega
      subst e
      exact qBN (sn,h',id') ⟨hS,ho⟩ (Can.sub (by simp [go_sem]) (by simp [go_sem]))
  · rintro ⟨sn,h',id'⟩ ⟨hS,ho⟩
    simp only at hS ho⊢
    have hsl:=hS.len
    simp only [go_sem]
    refine qAS (s678 ho rfl (by omega) fun ys ex hy=> ?_)
    simp only [go_sem]
    have hid:id'<h'.length:=(List.getElem?_eq_some_iff.1 ho).1
    have ho2:(h'.set id' (AObj.row 1 (ys.map encI) true)++ex)[id']?=some (.row 1 (ys.map encI) true):=by
      rw [List.getElem?_append_left (by simpa using hid)];simp [hid]
    rw [←hy.length_eq]
    refine qAS (qpP ho2 (by rw [hy.length_eq];omega) ?_)
    simp only [go_sem]
    have hid2:id'<(h'.set id' (AObj.row 1 (ys.map encI) true)++ex).length:=by simp;omega
    refine qh7 (v:=.lst 1 ((comp ys).map encI) false) ⟨comp ys,rfl,fun k=>by rw [qd6,hy.mem_iff,hS.done],by have:=qKE ys;rw [hy.length_eq] at this;omega⟩ ?_
    exact Cv.row (by rw [List.getElem?_set_self hid2]) (by simp) (qAT _) (by decide)
theorem zJY {b:GBook} {n:Nat} {d:Int} (hbz:b.sz≤1048576) (hn:n<b.Defs.length):Pure Gm 1040 [.int .i64 (n:Int),.ept b.enc 0,.ept (.int .i64 d) 0] (.bool (decide (d∈b.Defs[n].nm))):=by
  refine Pure.intro [] [] zLK (by kernel_rfl) rfl (by simp [AV.trees,AV.tree,go_sem]) rfl ?_
  simp only [qjX,qAC,go_sem]
  refine qKB (r664 hbz hn) ?_
  rintro v ⟨us,rfl,hus,hul2⟩
  simp only [go_sem]
  refine qAB (c647 (by omega)) ?_
  simp only [go_sem]
  refine qAF rfl ?_
  rw [AV.bool.injEq,Bool.eq_iff_iff]
  simp [←hus d]
theorem qmM {b:GBook} {d:Int} {ys:List Int} (hy:∀k,k∈ys↔k=d∨Relation.TransGen (Ed (qBJ b)) d k):(ys.any fun e=>decide (d∈(b.Defs.getD e.toNat qAX).nm))=recB (qBJ b) d:=by
  unfold recB
  have hz:qAX.nm=[]:=by rw [GCore.nm_eq];rfl
  have hE:∀e,Ed (qBJ b) e d↔d∈(b.Defs.getD e.toNat qAX).nm:=fun e=>by
    rw [qjR,List.getD_eq_getElem?_getD]
    cases h:b.Defs[e.toNat]? with
    | none=>simp [hz]
    | some x=>simp
  rw [Bool.eq_iff_iff]
  simp only [List.any_eq_true,decide_eq_true_eq]
  constructor
  · rintro ⟨e,he,hd⟩
    rcases (hy e).1 he with rfl | hr
    · exact .single ((hE _).2 hd)
    · exact hr.tail ((hE _).2 hd)
  · intro hr
    cases hr with
    | single h1=>exact ⟨d,(hy d).2 (.inl rfl),(hE _).1 h1⟩
    | tail h1 h2=>exact ⟨_,(hy _).2 (.inr h1),(hE _).1 h2⟩
theorem zGT {b:GBook} (hb:b.ok=true) {d k:Int} (h:k=d∨Relation.TransGen (Ed (qBJ b)) d k) (hd:0≤d∧d<(b.Defs.length:Nat)):0≤k∧k<(b.Defs.length:Nat):=by
  have hul:(qBJ b).length=b.Defs.length:=by simp [qBJ]
  rcases h with rfl | hr
  · exact hd
  · have:∀{a c:Int},Ed (qBJ b) a c→0≤c∧c<(b.Defs.length:Nat):=fun {a c} h=>by
      unfold Ed at h
      rw [List.getD_eq_getElem?_getD] at h
      cases q:(qBJ b)[a.toNat]? with
      | none=>rw [q] at h;simp at h
      | some ys=>rw [q] at h;have:=qd0 hb ys (List.mem_of_getElem? q) _ h;omega
    cases hr with
    | single h1=>exact this h1
    | tail _ h2=>exact this h2
theorem c663 {b:GBook} {d:Int} (hb:b.ok=true) (hbz:b.sz≤1048576) (hd:0≤d∧d<(b.Defs.length:Nat)):Pure Gm 663 [b.enc,.int .i64 d] (.bool (recB (qBJ b) d)):=by
  refine Pure.intro [2,3] [] g663 (by kernel_rfl) rfl (by simp [AV.trees,AV.tree,go_sem]) rfl ?_
  simp only [F663,qAC,go_sem]
  refine qCF rfl ?_
  simp only [go_sem]
  refine qCF rfl ?_
  simp only [go_sem]
  simp only [go_sem,List.nil_append,List.cons_append,List.set_cons_zero,List.set_cons_succ]
  refine qfQ [2] (vs':=[b.enc,.lst 1 ([d].map encI) false]) (Cvs.cons (.refl (by simp [go_sem])) (Cvs.cons (Cv.row rfl rfl rfl (by decide)) Cvs.nil)) (zP7 hb hbz hd) ?_
  rintro v ⟨ys,rfl,hys,hyl⟩
  simp only [go_sem]
  refine qAB (c397 (f:=.fn 1040 [.ept b.enc 0,.ept (.int .i64 d) 0]) (fun e=>decide (d∈(b.Defs.getD e.toNat qAX).nm)) (by simp [AV.tree,AV.trees,go_sem]) ys ?_ (by omega)) ?_
  · intro e he
    have hr:=zGT hb ((hys e).1 he) hd
    obtain ⟨n,rfl⟩:=Int.eq_ofNat_of_zero_le hr.1
    have hn:n<b.Defs.length:=by omega
    refine ⟨1040,_,rfl, ?_⟩
    have:=zJY (d:=d) hbz hn
    rw [List.getD_eq_getElem?_getD,Int.toNat_natCast,List.getElem?_eq_getElem hn]
    exact this
  · simp only [go_sem]
    exact qAF rfl (by rw [qmM hys])
end Go.Ab
namespace Go.Ab
open Go
set_option maxRecDepth 10000
set_option maxHeartbeats 2000000
attribute [local simp] qBF qAT qGI
def inl1 (b:GBook) (lim:Int) (i:Nat):Prop:=(b.Defs.getD i qAX).Kind=4∧((b.Defs.getD i qAX).size:Int)≤lim∧recB (qBJ b) i=false
open Classical in
noncomputable def inlI (b:GBook) (lim:Int) (n:Nat):List Bool:=(List.range n).map fun i=>decide (inl1 b lim i)
theorem qTN {b:GBook} {lim:Int} {n:Nat}:(inlI b lim n).length=n:=by simp [inlI]
theorem qiD {b:GBook} {lim:Int} {n:Nat} {v:Bool} (h:v=true↔inl1 b lim n):inlI b lim (n+1)=inlI b lim n++[v]:=by
  classical
  unfold inlI
  rw [List.range_succ,List.map_append,List.map_cons,List.map_nil]
  congr 2
  rw [Bool.eq_iff_iff,h];simp
def InlH (b:GBook) (lim:Int) (i:Nat) (X:AV) (h:List AObj):Prop:=
  h[0]?=some (.row 3 [.agg [.lst 4 (b.Defs.map GCore.enc) false,.int .i64 lim,X]] true)∧
    ((i=0∧X=.nils)∨∃id,id≠0∧X=.slice 1 id 0 i false∧h[id]?=some (.row 1 ((inlI b lim i).map qJ1) true))
section
variable {E:Ev} {l:List AOper} {ks:List Fr1} {s m:LEnv} {h:List AObj} {Q:AExit→VSt→Prop} {b:GBook} {lim:Int} {i k:Nat} {X:AV} {v:Bool}
theorem qpB (hH:InlH b lim i X h) (hi:i≤24) (hv:v=true↔inl1 b lim i) (hr:∀id h2,id≠0→h2[0]?=h[0]?→h2[id]?=some (.row 1 ((inlI b lim (i+1)).map qJ1) true)→R E (.ops l::ks) ⟨(k,.slice 1 id 0 (i+1) false)::s,m,h2⟩ Q):
    App1 E 1 (some k) (some X) (some (.slice 1 h.length 0 1 false)) l ks ⟨s,m,h++[.row 1 [.bool v] true]⟩ Q:=by
  obtain ⟨h0,hX⟩:=hH
  have hl:0<h.length:=(List.getElem?_eq_some_iff.1 h0).1
  have hs:=qiD hv
  rcases hX with ⟨rfl,rfl⟩ | ⟨id,hid,rfl,ho⟩
  · refine qoV (ys:=[.bool v]) (Els.row qFH rfl) (by simp) ?_
    refine hr _ _ (by simp) ?_ ?_
    · rw [List.getElem?_append_left (by simp),List.getElem?_append_left hl]
    · rw [qFH,hs];rfl
  · have hil:id<h.length:=(List.getElem?_eq_some_iff.1 ho).1
    refine qBY (el:=(inlI b lim i).map qJ1) qFH (by rw [List.getElem?_append_left hil];exact ho) (by simp [qTN]) (by omega) ?_
    refine hr _ _ (by simp) ?_ ?_
    · rw [List.getElem?_append_left (by simp),List.getElem?_set_ne hid,List.getElem?_append_left hl]
    · rw [List.getElem?_append_right (by simp),hs]
      simp [qJ1]
end
theorem c849 {b:GBook} {lim:Int} (hb:b.ok=true) (hbz:b.sz≤1048576):Pure Gm 849 [b.enc,.int .i64 lim] (.ept (simE b lim (inlI b lim b.Defs.length)) 0):=by
  refine Pure.intro [] [] g849 (by kernel_rfl) rfl (by simp [AV.trees,AV.tree,go_sem]) (by simp [AV.tree,AV.trees,go_sem]) ?_
  simp only [F849,qAC,go_sem]
  have hz':b.Defs.length+sumN GCore.sz b.Defs≤1048576:=hbz
  have h24:=qTB hb
  refine qAN rfl ?_;simp only [go_sem]
  refine qCF rfl ?_
  simp only [go_sem]
  refine Sem.loop (fun a:Nat×AV×List AObj=>a.1≤b.Defs.length∧InlH b lim a.1 a.2.1 a.2.2) (fun a=>(⟨[(1,.int .i64 lim),(5,.ptr 0 0 0),(15,.lst 4 (b.Defs.map GCore.enc) false),(16,.int .i64 (b.Defs.length:Nat)),(17,.int .i64 (a.1:Nat))],[(2,b.enc)],a.2.2⟩:VSt)) (fun a=>b.Defs.length-a.1) (0,.nils,[.row 3 [.agg [.lst 4 (b.Defs.map GCore.enc) false,.int .i64 lim,.nils]] true]) (by kernel_rfl) ⟨Nat.zero_le _,rfl,.inl ⟨rfl,rfl⟩⟩ (Can.sub (by simp [go_sem]) (by simp [go_sem])) ?_
  rintro ⟨i,X,h⟩ ⟨hi,h0,hX⟩
  simp only at hi h0 hX⊢
  simp only [go_sem]
  refine qAA ?_ ?_<;>intro hc<;>simp only [hc,go_sem]
  · have hlt:i<b.Defs.length:=by have:=of_decide_eq_true hc;omega
    simp only [List.getElem?_map,List.getElem?_eq_getElem hlt,Option.map_some,go_sem]
    have hm:=List.getElem_mem hlt
    have hv:=qCG (qFO hb hm).1
    have hs:=qA9 (f:=GCore.sz) hm
    refine qAE (k:=4) (by rfl) (by simp [go_sem]) (GCore.isAgg _) (by decide) ?_;simp only [go_sem]
    refine qAB (c665 b.Defs[i] (by omega) (by omega) (by omega)) ?_
    simp only [go_sem]
    simp only [h0,go_sem]
    have hg:b.Defs.getD i qAX=b.Defs[i]:=by rw [List.getD_eq_getElem?_getD,List.getElem?_eq_getElem hlt];rfl
    have tail:∀(v:Bool) (s':LEnv) (m':LEnv) (Q':AExit→VSt→Prop) (ks':List Fr1),(v=true↔inl1 b lim i)→get s' 27=some (.ptr 0 0 0)→
        (∀id h2 p,id≠0→h2[0]?=some (.row 3 [.agg [.lst 4 (b.Defs.map GCore.enc) false,.int .i64 lim,.slice 1 id 0 (i+1) false]] true)→h2[id]?=some (.row 1 ((inlI b lim (i+1)).map qJ1) true)→(∀k,k≤31→get p k=get s' k)→R ⟨Gm,0,[],[]⟩ ks' ⟨p,m',h2⟩ Q')→
        App1 ⟨Gm,0,[],[]⟩ 1 (some 47) (some X) (some (AV.slice 1 h.length 0 1 false)) [AOper.mk 21 (some 48) none (AOp.nilchk (Ao.t 27)) [],AOper.mk 22 (some 49) none (AOp.faddr 2 (Ao.t 48)) [],
      AOper.mk 23 none none (AOp.store 1 (Ao.t 49) (Ao.t 47)) []] ks' ⟨s',m',h++[AObj.row 1 [AV.bool v] true]⟩ Q':=by
      intro v s' m' Q' ks' hv e27 hr
      refine qpB ⟨h0,hX⟩ (by omega) hv ?_
      intro id h2 hid e0 eid
      simp only [go_sem,e27]
      refine qD3 (by rfl) (e0.trans h0) (by rfl) (by rfl) ?_
      rw [zG4]
      have hl:0<h2.length:=(List.getElem?_eq_some_iff.1 (e0.trans h0)).1
      refine hr id _ _ hid ?_ ?_ ?_
      · rw [List.getElem?_set_self hl];rfl
      · rw [List.getElem?_set_ne (Ne.symm hid)];exact eid
      · intro k hk
        simp only [get]
        rw [if_neg (by omega),if_neg (by omega),if_neg (by omega)]
    refine qAG ?_ ?_<;>intro hc<;>simp only [hc,go_sem]
    · have h4:=of_decide_eq_true hc
      refine qAG ?_ ?_<;>intro hc<;>simp only [hc,go_sem]
      · have hle:=of_decide_eq_true hc
        refine qAB (c663 hb hbz (by omega)) ?_
        simp only [go_sem]
        refine tail (!recB (qBJ b) i) _ _ _ _ ?_ ?_ ?_
        · unfold inl1;rw [hg];simp [h4,hle]
        · simp [go_sem]
        · intro id h2 p hid g1 g2 gp
          simp only [go_sem,gp 17 (by omega)]
          simp only [qAK (show i<4611686018427387904 by omega)]
          exact qAH (i+1,.slice 1 id 0 (i+1) false,h2) ⟨by simp only;omega,g1,.inr ⟨id,hid,rfl,g2⟩⟩ (by simp only;omega) (Can.sub (by simp [go_sem,gp]) (by simp [go_sem]))
      · have hle:¬((b.Defs[i].size:Int)≤lim):=by simpa using hc
        refine tail false _ _ _ _ ?_ ?_ ?_
        · unfold inl1;rw [hg];simp [hle]
        · simp [go_sem]
        · intro id h2 p hid g1 g2 gp
          simp only [go_sem,gp 17 (by omega)]
          simp only [qAK (show i<4611686018427387904 by omega)]
          exact qAH (i+1,.slice 1 id 0 (i+1) false,h2) ⟨by simp only;omega,g1,.inr ⟨id,hid,rfl,g2⟩⟩ (by simp only;omega) (Can.sub (by simp [go_sem,gp]) (by simp [go_sem]))
    · have h4:¬b.Defs[i].Kind=4:=by simpa using hc
      refine tail false _ _ _ _ ?_ ?_ ?_
      · unfold inl1;rw [hg];simp [h4]
      · simp [go_sem]
      · intro id h2 p hid g1 g2 gp
        simp only [go_sem,gp 17 (by omega)]
        simp only [qAK (show i<4611686018427387904 by omega)]
        exact qAH (i+1,.slice 1 id 0 (i+1) false,h2) ⟨by simp only;omega,g1,.inr ⟨id,hid,rfl,g2⟩⟩ (by simp only;omega) (Can.sub (by simp [go_sem,gp]) (by simp [go_sem]))
  · obtain rfl:i=b.Defs.length:=by have:=of_decide_eq_false hc;omega
    rcases hX with ⟨e,_⟩ | ⟨id,hid,rfl,ho⟩
    · omega
    refine qA7 ?_
    refine .ptr h0 (by decide) rfl ?_
    refine .agg rfl ?_
    simp only [List.zip_cons_cons,List.zip_nil_left,List.mem_cons,List.not_mem_nil,or_false]
    rintro p (rfl | rfl | rfl)
    · exact .refl (by simp [AV.tree])
    · exact .refl rfl
    · exact Cv.row ho (by simp [qTN]) (by simp) (by decide)
end Go.Ab
namespace Go.Ab
open Go
set_option maxRecDepth 10000
set_option maxHeartbeats 2000000
attribute [local simp] qBF qAT qGI
noncomputable def simV (b:GBook) (c:GCore) (lim budget:Int):AV:=if qA5 b c lim budget=0 then .ept (simE b lim (inlI b lim b.Defs.length)) 0 else .nilp
theorem zHC {b:GBook} {c:GCore} {lim budget:Int}:(simV b c lim budget).tree=true:=by
  unfold simV;split<;>simp [AV.tree,go_sem]
theorem qeE {n m:Int}:([n].all fun k=>inI k 0 m)=inI n 0 m:=by simp
theorem qUJ {b:GBook} (hb:b.ok=true):(b.Defs.all fun x=>x.closed&&x.strat 0)=b.Defs.all fun x=>x.strat 0:=by
  rw [Bool.eq_iff_iff]
  simp only [List.all_eq_true,Bool.and_eq_true]
  exact ⟨fun h x hx=>(h x hx).2,fun h x hx=>⟨(qFO hb hx).1,h x hx⟩⟩
theorem c493 {b:GBook} {c:GCore} {lim budget:Int} (hbz:b.sz≤1048576) (hcz:c.sz≤1048576):Pure Gm 493 [b.enc,c.enc,.int .i64 lim,.int .i64 budget] (.tup [simV b c lim budget,.int .i64 (qA5 b c lim budget)]):=by
  refine Pure.intro [] [] g493 (by kernel_rfl) rfl (by simp [AV.trees,AV.tree,go_sem]) (by simp [AV.tree,AV.trees,zHC]) ?_
  simp only [F493,qAC,go_sem]
  have hds:=c.dep_size
  have hss:=c.size_sz
  have bad:∀{h:List AObj} {k:Int},qA5 b c lim budget=k→k≠0→Fin (some [.nilp,.int .i64 k]) h (.tup [simV b c lim budget,.int .i64 (qA5 b c lim budget)]):=fun e hk=>by
    unfold simV;rw [e,if_neg hk];exact qB1 rfl rfl
  refine qAN rfl ?_;simp only [go_sem]
  refine qAN GCore.ln ?_
  simp only [go_sem]
  refine qAB (c498 hbz) ?_
  simp only [go_sem]
  refine qAG ?_ ?_<;>intro hc<;>simp only [hc,go_sem]
  rotate_left
  · exact bad (by unfold qA5;simp at hc;simp [hc]) (by decide)
  have h1:b.ok=true:=by simpa using hc
  refine qAB (c521 hcz (by omega) (by omega)) ?_
  simp only [go_sem]
  refine qAG ?_ ?_<;>intro hc<;>simp only [hc,go_sem]
  rotate_left
  · exact bad (by unfold qA5;simp at hc;simp [hc]) (by decide)
  have h2:c.closed=true:=by simpa using hc
  refine qAB (c847 hcz) ?_
  simp only [go_sem]
  refine qAA ?_ ?_<;>intro hc<;>simp only [hc,go_sem]
  · exact bad (by unfold qA5;simp at hc;simp [hc]) (by decide)
  have h3:c.refs b.Defs.length=true:=by simpa using hc
  refine qAB (c522 hcz (by omega)) ?_
  simp only [go_sem]
  refine qAG ?_ ?_<;>intro hc<;>simp only [hc,go_sem]
  rotate_left
  · exact bad (by unfold qA5;simp [h2] at hc;simp [h1,h2,h3,hc]) (by decide)
  have h4:c.strat 0=true:=by rw [h2] at hc;simpa using hc
  refine qAB (c848 hbz) ?_
  rw [qUJ h1]
  simp only [go_sem]
  refine qAA ?_ ?_<;>intro hc<;>simp only [hc,go_sem]
  · exact bad (by unfold qA5 qCC;rw [h1,h2,h3,h4];have:(b.Defs.all fun x=>x.strat 0)=false:=(by simpa using hc);rw [this];simp) (by decide)
  have h5:(b.Defs.all fun x=>x.strat 0)=true:=nf hc
  have h6:qCC b=0:=by unfold qCC;rw [h1,h5];rfl
  have hs:qA5 b c lim budget=if inI lim 0 40&&inI budget 0 2000 then 0 else 2:=by unfold qA5;rw [h1,h2,h3,h4,h6];rfl
  refine qBS (vs':=[.int .i64 40,.lst 1 ([lim].map encI) false]) (Cvs.cons (.refl rfl) (Cvs.cons (Cv.row rfl rfl rfl (by decide)) Cvs.nil)) (c436 (by simp)) rfl ?_
  rw [qeE]
  simp only [go_sem]
  refine qAG ?_ ?_<;>intro hc<;>simp only [hc,go_sem]
  rotate_left
  · exact bad (by rw [hs];have:inI lim 0 40=false:=(by simpa using hc);rw [this];rfl) (by decide)
  have h7:inI lim 0 40=true:=by simpa using hc
  refine qBS (vs':=[.int .i64 2000,.lst 1 ([budget].map encI) false]) (Cvs.cons (.refl rfl) (Cvs.cons (Cv.row rfl rfl rfl (by decide)) Cvs.nil)) (c436 (by simp)) rfl ?_
  rw [qeE]
  simp only [go_sem]
  refine qAA ?_ ?_<;>intro hc<;>simp only [hc,go_sem]
  · exact bad (by rw [hs,h7];have:inI budget 0 2000=false:=(by simpa using hc);rw [this];rfl) (by decide)
  have h8:inI budget 0 2000=true:=nf hc
  refine qAB (c849 h1 hbz) ?_
  simp only [go_sem]
  have h0:qA5 b c lim budget=0:=by rw [hs,h7,h8];rfl
  unfold simV
  rw [h0,if_pos rfl]
  exact qB1 (by simp [AV.tree,AV.trees,go_sem]) rfl
theorem qnB {x y:GCore} (hx:x.ok=true) (hxs:x.size≤400) (hy:y.ok=true) (hys:y.size≤400):(GCore.put y x 0).sz≤802000:=by
  have h1:=qJO y x 0 hx
  have h2:=GCore.sz_d4 _ (qi2 (qdR y hy) x 0 (qdR x hx))
  have h3:=x.count_size 0
  have h4:(x.count 0:Int)*((y.size:Int)-1)≤400*399:=by
    have h5:(1:Int)≤y.size:=by have:=y.size_eq;omega
    exact Int.mul_le_mul (by omega) (by omega) (by omega) (by omega)
  omega
theorem zJV {b:GBook} {I:List Bool} {x:GCore} {l:Int} (hb:b.ok=true) (hx:x.valid=true):(atC b I x l).1.sz≤802000:=by
  obtain ⟨ho,hd,hs,hz,hv⟩:=qA4 hx
  have hz0:=qT8
  cases hK:x.Kids with
  | nil=>unfold atC;rw [hK];show qAX.sz≤_;omega
  | cons a ys=>
  rw [qfN hK]
  have ham:a∈x.Kids:=by rw [hK];simp
  have haz:=GCore.kid_sz ham
  have hys:(ys.headD qAX).sz≤x.sz:=by
    match ys,hK with
    |[],_=>show qAX.sz≤_;omega
    | c::_,hK=>exact GCore.kid_sz (by rw [hK];simp)
  unfold at1
  split
  · show GCore.sz (.mk 2 _ [] [])≤_;rw [GCore.sz_eq];simp [sumN,go_sem]
  split
  · have:=qdH a.Kids (.mk 11 (redD x) [] [])
    have h1:=a.sz_eq
    have h2:(GCore.mk 11 (redD x) [] []).sz=0:=by rw [GCore.sz_eq];simp [sumN,go_sem]
    show (qDU _ _).sz≤_
    unfold qDU
    omega
  split
  · rename_i h1
    rcases qVK ho with h0 | ⟨_,h5,a',c,k,hK',h4,hk⟩ | ⟨h2,_⟩ | ⟨h3,_⟩ | ⟨h4,_⟩<;>try omega
    rw [hK'] at hK;cases hK
    have hk0:kid0 a=k:=by unfold kid0;rw [hk];rfl
    have hcv:=qA4 (qA1 hx (show c∈x.Kids by rw [hK'];simp))
    have hkv:=qA4 (qA1 (qA1 hx ham) (show k∈a.Kids by rw [hk];simp))
    show (GCore.put c (kid0 a) 0).sz≤_
    rw [hk0]
    exact qnB hkv.1 hkv.2.2.1 hcv.1 hcv.2.2.1
  split
  · show (appC _ _).sz≤_
    rw [qc5]
    have:(b.Defs.getD a.Value.toNat qAX).sz≤2000:=by
      rw [List.getD_eq_getElem?_getD]
      rcases h:b.Defs[a.Value.toNat]? with _ | d
      · show qAX.sz≤_;omega
      · exact (qA4 ((qGM hb).2 d (List.mem_of_getElem? h)).1).2.2.2.1
    omega
  split
  · rename_i h7
    obtain ⟨a',c,hK'⟩:=qEK ((qBE ho).1 (by omega))
    rw [hK'] at hK;cases hK
    have h72:=h7.2
    show (letR x c l).1.sz≤_
    unfold letR at h72⊢
    simp only [List.headD_cons] at h72
    split at h72
    · rename_i h0
      rw [if_pos h0]
      have e:letC x l=let1 a (c.levels 0 l) l:=by unfold letC;rw [hK']
      have hv2:=qGU (qA1 hx ham) (by rw [←e];exact h0)
      rw [←e] at hv2
      have hv3:=qA4 hv2
      have hcv:=qA4 (qA1 hx (show c∈x.Kids by rw [hK'];simp))
      exact qnB hcv.1 hcv.2.2.1 hv3.1 hv3.2.2.1
    · cases h72
  · show qAX.sz≤_;omega
theorem qUT {x:GCore} {f:GCore→Int→GCore×Int} {l:Int} (hf:∀y∈x.Kids,(f y l).1.sz≤y.sz+802000):∀(n i:Nat),i+n=x.Kids.length→(qE8 x ((x.Kids.drop i).map f) i l).1.sz≤x.sz+802000
  | 0,i,h=>by
    rw [show x.Kids.drop i=[] from List.drop_eq_nil_of_le (by omega)]
    show qAX.sz≤_
    rw [qT8];omega
  | n+1,i,h=>by
    have hlt:i<x.Kids.length:=by omega
    rw [qJE hlt]
    split
    · exact qUT hf n (i+1) (by omega)
    · show GCore.sz (.mk _ _ _ _)≤_
      have h1:=qT6 (f:=GCore.sz) (y:=(f x.Kids[i] l).1) hlt
      have h2:=hf _ (List.getElem_mem hlt)
      have h3:=x.sz_eq
      have h4:=qA9 (f:=GCore.sz) (List.getElem_mem hlt)
      rw [GCore.sz_eq,GCore.mk_data,GCore.mk_kids,List.length_set]
      omega
theorem qpU {b:GBook} {I:List Bool} (hb:b.ok=true):∀(x:GCore) (l:Int),x.valid=true→(qEV b I x l).1.sz≤x.sz+802000:=GCore.ind fun x ih l hx=>by
  rw [qT5]
  split
  · exact qUT (fun y hy=>ih y hy _ (qA1 hx hy)) x.Kids.length 0 (by omega)
  · have:=zJV (I:=I) (l:=l) hb hx;omega
theorem qmN {U:List (List Int)} {n:Nat} {v:Int} (h:0≤v∧v<(n:Nat)):((recs U n).any fun k=>decide (k=v))=recB U v:=by
  rw [Bool.eq_iff_iff]
  simp only [List.any_eq_true,decide_eq_true_eq]
  unfold recs
  constructor
  · rintro ⟨k,hk,rfl⟩;exact (List.mem_filter.1 hk).2
  · intro hr
    refine ⟨v,List.mem_filter.2 ⟨?_,hr⟩,rfl⟩
    exact List.mem_map.2 ⟨v.toNat,List.mem_range.2 (by omega),by omega⟩
theorem qoX {b:GBook} {lim:Int} {x:GCore} {l:Int} (ho:x.ok=true) (hf:x.refs b.Defs.length=true):
    (atC b (inlI b lim b.Defs.length) x l).2=(qD2 b (qgH b) lim x l).2.1:=by
  classical
  cases hK:x.Kids with
  | nil=>unfold atC qD2;rw [hK]
  | cons a ys=>
  rw [qfN hK]
  unfold at1 qD2
  rw [hK]
  simp only []
  have ham:a∈x.Kids:=by rw [hK];simp
  by_cases h3:x.Kind=3
  · rw [if_pos h3]
    obtain ⟨a',c,hK'⟩:=qEK ((qBE ho).1 (by omega))
    rw [hK'] at hK;cases hK
    have hr:redK x=if a.Kind=11 then 4 else if a.Kind=2 then (if c.Kind=2 then 2 else if c.Kind=11 then 4 else 0) else 0:=by unfold redK;rw [hK'];simp only [];rw [if_neg (by omega),if_pos h3]
    by_cases h2:a.Kind=2
    · by_cases c2:c.Kind=2
      · rw [if_pos (by rw [hr,if_neg (by omega),if_pos h2,if_pos c2]),if_pos (show a.Kind=2∧([c].headD qAX).Kind=2 from ⟨h2,c2⟩)]
      · have:redK x=if c.Kind=11 then 4 else 0:=by rw [hr,if_neg (by omega),if_pos h2,if_neg c2]
        rw [if_neg (by rw [this];split<;>omega),if_neg (by rw [this];split<;>omega),if_neg (by rw [this];split<;>omega),if_neg (by omega),if_neg (by omega),if_neg (show ¬(a.Kind=2∧([c].headD qAX).Kind=2) from fun h=>c2 h.2)]
    · have:redK x=if a.Kind=11 then 4 else 0:=by
        rw [hr]
        by_cases e:a.Kind=11
        · rw [if_pos e,if_pos e]
        · rw [if_neg e,if_neg e,if_neg h2]
      rw [if_neg (by rw [this];split<;>omega),if_neg (by rw [this];split<;>omega),if_neg (by rw [this];split<;>omega),if_neg (by omega),if_neg (by omega),if_neg (show ¬(a.Kind=2∧([c].headD qAX).Kind=2) from fun h=>h2 h.1)]
  rw [if_neg h3]
  by_cases h9:x.Kind=10∨x.Kind=9
  · rw [if_pos h9]
    have hn:¬redK x=2∧¬redK x=1:=by
      unfold redK;rw [hK];simp only []
      rw [if_neg (by omega),if_neg h3]
      split
      · split
        · omega
        · split<;>omega
      · split
        · split
          · omega
          · split<;>omega
        · omega
    rw [if_neg hn.1]
    by_cases r3:redK x=3
    · rw [if_pos r3,if_pos r3]
    · rw [if_neg r3,if_neg r3,if_neg hn.2,if_neg (by omega),if_neg (by omega)]
  rw [if_neg h9]
  by_cases h5:x.Kind=5
  · rw [if_pos h5]
    have hr:redK x=if a.Kind=4 then 1 else if a.Kind=11 then 4 else 0:=by unfold redK;rw [hK];simp only [];rw [if_pos h5]
    by_cases h4:a.Kind=4
    · rw [if_pos h4] at hr
      rw [if_neg (by omega),if_neg (by omega),if_pos hr,if_pos h4]
    rw [if_neg h4] at hr
    have hr2:¬redK x=2∧¬redK x=3∧¬redK x=1:=by rw [hr];split<;>omega
    rw [if_neg hr2.1,if_neg hr2.2.1,if_neg hr2.2.2,if_neg h4]
    by_cases h11:a.Kind=11
    · have hv:=qHP (qBB ho ham) (qDQ hf ham) h11
      obtain ⟨n,hV⟩:∃n:Nat,a.Value=n:=⟨a.Value.toNat,by omega⟩
      have hlt:n<b.Defs.length:=by omega
      have hI:(inlI b lim b.Defs.length).getD a.Value.toNat false=decide (inl1 b lim n):=by
        unfold inlI
        rw [hV,Int.toNat_natCast,List.getD_eq_getElem?_getD,List.getElem?_map,List.getElem?_range hlt];rfl
      rw [qiC hK h11 hV hlt]
      have hR:((qgH b).any fun k=>decide (k=a.Value))=recB (qBJ b) n:=by rw [hV];exact qmN (by omega)
      rw [hR,hI]
      have hg:b.Defs.getD n qAX=b.Defs[n]:=by rw [List.getD_eq_getElem?_getD,List.getElem?_eq_getElem hlt];rfl
      have hg2:b.Defs.getD a.Value.toNat qAX=b.Defs[n]:=by rw [hV,Int.toNat_natCast];exact hg
      rw [hg2]
      unfold inl1
      rw [hg]
      by_cases hin:(b.Defs[n].Kind=4∧(b.Defs[n].size:Int)≤lim∧recB (qBJ b) n=false)∧l+b.Defs[n].boxes≤8
      · rw [if_pos ⟨h5,h11,by simpa using hin.1,hin.2⟩,if_pos (by simp [hin.1.1,hin.1.2.1,hin.1.2.2,hin.2])]
      · rw [if_neg (fun h=>hin ⟨by simpa using h.2.2.1,h.2.2.2⟩),if_neg (by omega),if_neg (fun h=>hin (by simp at h;exact ⟨⟨h.1.1.1,h.1.2,h.1.1.2⟩,h.2⟩))]
    · rw [if_neg (fun h=>h11 h.2.1),if_neg (by omega)]
      have:inlC b (qgH b) lim x l=false:=by unfold inlC;rw [hK];simp [h11]
      rw [this];rfl
  rw [if_neg h5]
  have hr:redK x=0:=qVJ h5 h3 (fun h=>h9 (.inr h)) (fun h=>h9 (.inl h))
  rw [if_neg (by omega),if_neg (by omega),if_neg (by omega),if_neg (fun h=>h5 h.1)]
  by_cases h7:x.Kind=7
  · rw [if_pos h7]
    unfold letR
    by_cases h0:(letC x l).2=0
    · rw [if_pos h0,if_pos ⟨h7,rfl⟩,if_pos h0]
    · rw [if_neg h0,if_neg (fun h=>by cases h.2),if_neg h0]
  · rw [if_neg h7,if_neg (fun h=>h7 h.1)]
theorem qKK {x:GCore} {f:GCore→Int→GCore×Int} {g:GCore→Int→OutC} {l:Int}:∀(ks:List GCore) (i:Nat),(∀y∈ks,(f y l).2=(g y l).2.1)→(qE8 x (ks.map f) i l).2=(qEQ x (ks.map g) i l).2.1
  |[],_,_=>rfl
  | y::ks,i,h=>by
    simp only [List.map_cons,qE8,qEQ]
    have e:=h y (by simp)
    by_cases h0:(g y l).2.1=0
    · rw [if_pos h0,if_pos (by omega)]
      exact qKK ks (i+1) fun z hz=>h z (by simp [hz])
    · rw [if_neg h0,if_neg (by omega)];exact e
theorem qjN {b:GBook} {lim:Int}:∀(x:GCore) (l:Int),x.ok=true→x.refs b.Defs.length=true→(qEV b (inlI b lim b.Defs.length) x l).2=(qEI b (qgH b) lim x l).2.1:=GCore.ind fun x ih l ho hf=>by
  rw [qT5,qJF]
  have e:=qoX (lim:=lim) (l:=l) ho hf
  by_cases h0:(qD2 b (qgH b) lim x l).2.1=0
  · rw [if_pos h0,if_pos (by omega)]
    exact qKK _ _ fun y hy=>ih y hy _ (qBB ho hy) (qDQ hf hy)
  · rw [if_neg h0,if_neg (by omega)];exact e
end Go.Ab
namespace Go.Ab
open Go
set_option maxRecDepth 10000
set_option maxHeartbeats 2000000
attribute [local simp] qBF qAT qGI
noncomputable def qgO (b:GBook) (c:GCore) (lim:Int):OutC:=
  if qA5 b c lim 0=0 then (let o:=qEV b (inlI b lim b.Defs.length) c 0;if o.2=0 then (qAX,0,3) else if o.1.fits=false then (qAX,0,4) else (o.1,o.2,0))
  else (qAX,0,qA5 b c lim 0)
theorem qjL {b:GBook} {c:GCore} {limit budget:Int} (h:qA5 b c limit budget=0):c.strat 0=true:=by
  unfold qA5 at h
  split at h
  · split at h
    · rename_i h1;exact h1
    · cases h
  · cases h
theorem qh8 {h:List AObj} {y:OutC} {k:Int} (e:y=(qAX,0,k)):Fin (some [.agg [.int .i64 0,.int .i64 0,.nils,.nils],.int .i64 0,.int .i64 k]) h (outE y):=by
  subst e;unfold Fin
  refine .tup rfl ?_
  simp only [List.zip_cons_cons,List.zip_nil_left,List.mem_cons,List.not_mem_nil,or_false]
  rintro p (rfl | rfl | rfl)
  · exact qCB
  · exact .refl rfl
  · exact .refl rfl
theorem c175 {b:GBook} {c:GCore} {lim:Int} (hbz:b.sz≤1048576) (hcz:c.sz≤1048576):Pure Gm 175 [b.enc,c.enc,.int .i64 lim] (outE (qgO b c lim)):=by
  refine Pure.intro [] [] g175 (by kernel_rfl) rfl (by simp [AV.trees,AV.tree,go_sem]) (by simp [AV.tree,AV.trees,go_sem]) ?_
  simp only [F175,qAC,go_sem]
  refine qAN rfl ?_;simp only [go_sem]
  refine qAN GCore.ln ?_
  simp only [go_sem]
  refine qAB (c493 hbz hcz) ?_
  simp only [go_sem]
  refine qAA ?_ ?_<;>intro hc<;>simp only [hc,go_sem]
  · have h0:¬qA5 b c lim 0=0:=by simpa using hc
    refine qAE (k:=4) (by rfl) (by rfl) (by exact ⟨_,rfl⟩) (by decide) ?_;simp only [go_sem]
    exact qh8 (by unfold qgO;rw [if_neg h0])
  have h0:qA5 b c lim 0=0:=by simpa using hc
  obtain ⟨hb,hv,hf,hcl,_⟩:=qjK h0
  have hst:=qjL h0
  have hs:qgO b c lim=(if (qEV b (inlI b lim b.Defs.length) c 0).2=0 then (qAX,0,3) else if (qEV b (inlI b lim b.Defs.length) c 0).1.fits=false then (qAX,0,4) else ((qEV b (inlI b lim b.Defs.length) c 0).1,(qEV b (inlI b lim b.Defs.length) c 0).2,0)):=by unfold qgO;rw [if_pos h0]
  have hsv:simV b c lim 0=.ept (simE b lim (inlI b lim b.Defs.length)) 0:=by unfold simV;rw [if_pos h0]
  rw [hsv]
  have hcz2:=(qA4 hv).2.2.2.1
  have hsz:=qpU (I:=inlI b lim b.Defs.length) hb c 0 hv
  refine qAB (c494 c b lim _ 0 hb hbz hv hf qTN hst (by omega)) ?_
  generalize qEV b (inlI b lim b.Defs.length) c 0=o at hs hsz⊢
  have hds:=o.1.dep_size
  have hss:=o.1.size_sz
  simp only [go_sem]
  refine qAE (k:=4) (by rfl) (by simp [go_sem]) (GCore.isAgg _) (by decide) ?_;simp only [go_sem]
  refine qAA ?_ ?_<;>intro hc<;>simp only [hc,go_sem]
  · refine qAE (k:=4) (by rfl) (by rfl) (by exact ⟨_,rfl⟩) (by decide) ?_;simp only [go_sem]
    exact qh8 (by rw [hs,if_pos (by simpa using hc)])
  have h1:¬o.2=0:=by simpa using hc
  refine qAB (c495 (by omega) (by omega) (by omega)) ?_
  simp only [go_sem]
  refine qAA ?_ ?_<;>intro hc<;>simp only [hc,go_sem]
  · refine qAE (k:=4) (by rfl) (by rfl) (by exact ⟨_,rfl⟩) (by decide) ?_;simp only [go_sem]
    exact qh8 (by rw [hs,if_neg h1,if_pos (by simpa using hc)])
  have h2:¬o.1.fits=false:=by simpa using hc
  refine qAB (c385 o.1 (by omega)) ?_
  simp only [go_sem]
  refine qAE (k:=4) (by rfl) (by simp [go_sem]) (GCore.isAgg _) (by decide) ?_;simp only [go_sem]
  rw [hs,if_neg h1,if_neg h2]
  exact qDG rfl
theorem c162 {b:GBook} {c:GCore} {lim:Int} (hbz:b.sz≤1048576) (hcz:c.sz≤1048576):Pure Gm 162 [b.enc,c.enc,.int .i64 lim] (.bool (qF1 b c lim)):=by
  refine Pure.intro [] [] g162 (by kernel_rfl) rfl (by simp [AV.trees,AV.tree,go_sem]) rfl ?_
  simp only [F162,qAC,go_sem]
  refine qAN rfl ?_;simp only [go_sem]
  refine qAN GCore.ln ?_
  simp only [go_sem]
  refine qAB (c175 hbz hcz) ?_
  simp only [outE,go_sem]
  refine qAE (k:=4) (by rfl) (by simp [go_sem]) (GCore.isAgg _) (by decide) ?_;simp only [go_sem]
  refine qAF rfl ?_
  congr 1
  unfold qF1
  rw [Bool.eq_iff_iff]
  simp only [Bool.and_eq_true,decide_eq_true_eq]
  by_cases h0:qA5 b c lim 0=0
  · obtain ⟨hb,hv,hf,hcl,_⟩:=qjK h0
    have hr:=qjN (lim:=lim) c 0 (qA4 hv).1 hf
    unfold qgO qmV
    simp only [if_pos h0,h0,true_and]
    rw [←hr]
    by_cases h1:(qEV b (inlI b lim b.Defs.length) c 0).2=0
    · simp [h1]
    · rw [if_neg h1]
      constructor
      · intro h
        by_cases h2:(qEV b (inlI b lim b.Defs.length) c 0).1.fits=false
        · rw [if_pos h2] at h;cases h
        · rw [if_neg h2] at h;cases h
      · intro h;exact absurd h h1
  · unfold qgO
    rw [if_neg h0]
    constructor
    · intro h
      simp only at h
      unfold qA5 qCC at h
      exfalso
      revert h
      repeat' split
      all_goals simp
    · intro h;exact absurd h.1 h0
theorem c20 {b:GBook} {x:GCore} {lim:Int} (hb:b.bd) (hx:x.bd):Pure Gm 20 [b.enc,x.enc,.int .i64 lim] (.bool true):=by
  refine Pure.intro [] [] g20 (by kernel_rfl) rfl (by simp [AV.trees,AV.tree,go_sem]) rfl ?_
  simp only [F20,qAC,go_sem]
  refine qAN rfl ?_;simp only [go_sem]
  refine qAN GCore.ln ?_
  simp only [go_sem]
  refine qAB (c79 b hb 1048576 (by omega)) ?_
  simp only [go_sem]
  refine qAA ?_ ?_<;>intro hc<;>simp only [hc,go_sem]
  · exact qAF rfl rfl
  have hbz:b.sz≤1048576:=by
    have:=of_decide_eq_false hc
    rw [qCU] at this;omega
  rw [qBT hbz]
  refine qAB (c80 x hx (1048576-b.sz) (by omega)) ?_
  simp only [go_sem]
  refine qAA ?_ ?_<;>intro hc<;>simp only [hc,go_sem]
  · exact qAF rfl rfl
  have hxz:x.sz≤1048576-b.sz:=by
    have:=of_decide_eq_false hc
    rw [qCU] at this;omega
  refine qAB (c82 b hbz) ?_
  simp only [go_sem]
  refine qAB (c83 x (by omega)) ?_
  simp only [go_sem]
  refine qAB (c161 hbz (by omega)) ?_
  simp only [go_sem]
  refine qAB (c82 b hbz) ?_
  simp only [go_sem]
  refine qAB (c83 x (by omega)) ?_
  simp only [go_sem]
  refine qAE (k:=4) (by rfl) (by simp [go_sem]) (GCore.isAgg _) (by decide) ?_;simp only [go_sem]
  refine qAB (c162 hbz (by omega)) ?_
  simp only [go_sem]
  simp only [beq_self_eq_true,go_sem]
  refine qAB (c82 b hbz) ?_
  simp only [go_sem]
  refine qAB (c87 b (by omega)) ?_
  simp only [go_sem]
  refine qAB (c83 x (by omega)) ?_
  simp only [go_sem]
  refine qAB (c85 x (by omega)) ?_
  simp only [go_sem]
  exact qAF rfl rfl
end Go.Ab
