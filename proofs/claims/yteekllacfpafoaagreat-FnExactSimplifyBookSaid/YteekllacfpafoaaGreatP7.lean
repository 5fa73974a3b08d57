/- Texts Cor11 .. Cor43: the abstract machine, its laws and contracts of functions: lemmas for the statement. No condition. -/
import Derived.Test.YteekllacfpafoaaGreatP6
set_option linter.unusedSimpArgs false
set_option linter.unusedVariables false
namespace Go.Ab
open Go
set_option maxRecDepth 10000
set_option maxHeartbeats 2000000
theorem qQT {xs:List Int} {c:Bool} {n:Nat}:(lay (.lst 1 (xs.map qE) c) n).1=.slice 1 n 0 xs.length false:=by simp [lay]
theorem qQU {xs:List Int} {c:Bool} {n:Nat}:(lay (.lst 1 (xs.map qE) c) n).2=[.row 1 (xs.map qE) true]:=by simp [lay,lI]
theorem qQP {w id len i:Nat} {c:Bool} {k:IntKind} (h:i<len):idx w (some (.slice w id 0 len c)) (some (.int k (i:Int)))=some (.ptr id i 0):=by
  unfold idx;simp [h]
theorem jl.start {U:List (List Int)} (hU:Zu U) {d:Nat} (hd:d<U.length) (hn:U[d].Nodup):jl U d 0 U[d] where
  nd:=hn
  rng:=fun s hs=>hU _ (gMm hd) s hs
  rch:=fun s hs=>.single (by unfold Ed;rw [List.getD_eq_getElem?_getD,Int.toNat_natCast,gEg hd];exact hs)
  beg:=fun s hs=>by unfold Ed at hs;rw [List.getD_eq_getElem?_getD,Int.toNat_natCast,gEg hd] at hs;exact hs
  cls:=fun j hj=>by omega
theorem c835 {b:qF} (hz:b.sz≤1048576) (hn:b.Defs.length≤24) (hU:Zu (zD b)) (hN:∀ys∈zD b,ys.Nodup):Pure Gm 835 [.ept b.enc 0] (.lst 1 ((jE (zD b) b.Defs.length).map qE) false):=by
  refine Pure.intro [] [] g835 (by kernel_rfl) rfl (by simp [AV.trees,AV.tree,go_sem]) (by simp [AV.tree,qa]) ?_;simp only [Yi,qL,go_sem];have hul:(zD b).length=b.Defs.length:=by simp [zD]
  have hus:∀ys∈zD b,ys.length≤2097152:=by
    intro ys hy;simp only [zD,List.mem_map] at hy;obtain ⟨c,hc,rfl⟩:=hy;have h1:=qA.names_len c [];have h2:=zV (f:=qA.sz) hc;have h3:b.Defs.length+qG qA.sz b.Defs≤1048576:=hz;simp at h1;omega
  refine qH (qZM hz) ?_;simp only [go_sem];generalize zD b=U at hU hul hus hN⊢;refine Sem.loop (fun i:Nat=>i≤b.Defs.length) (fun i=>(⟨[(0,.ept b.enc 0),(3,.lst 1 (U.map (j8 1 qE)) false),(4,.slice 1 0 0 (jE U i).length false),(5,.int .i64 (i:Nat))],[],[.row 1 ((jE U i).map qE) true]⟩:VSt)) (fun i=>b.Defs.length-i) 0 (by kernel_rfl) (Nat.zero_le _)
    (Can.renum [none] rfl ⟨.ph,trivial⟩ ⟨⟨_,rfl,.tree (by simp [AV.tree,go_sem])⟩,⟨_,rfl,.tree (by simp [AV.tree,Qb])⟩,⟨_,rfl,.ph2 rfl⟩,⟨_,rfl,.tree rfl⟩,trivial⟩ trivial) ?_
  intro d hd;simp only [go_sem];refine qD ?_ ?_<;>intro hc<;>simp only [hc,go_sem]
  · have hlt:d<b.Defs.length:=by have:=odT hc;omega
    have hltU:d<U.length:=by omega
    simp only [List.getElem?_map,gEg hltU,Option.map_some,j8,go_sem];refine wg (n402 U[d] (by have:=hus _ (gMm hltU);omega)) ?_;simp only [go_sem,qQT,qQU,List.nil_append,List.cons_append];refine Sem.loop (fun a:Nat×List Int=>a.1≤a.2.length∧jl U d a.1 a.2) (fun a=>(⟨[(0,.ept b.enc 0),(3,.lst 1 (U.map (j8 1 qE)) false),(4,.slice 1 0 0 (jE U d).length false),(5,.int .i64 (d:Nat)),(6,.slice 1 1 0 a.2.length false),(7,.int .i64 (a.1:Nat))],[],[.row 1 ((jE U d).map qE) true,.row 1 (a.2.map qE) true]⟩:VSt)) (fun a=>U.length-a.1) (0,U[d]) (by kernel_rfl) ⟨Nat.zero_le _,jl.start hU hltU (hN _ (gMm hltU))⟩
      (Can.sub (by simp [go_sem]) (by simp [go_sem])) ?_
    rintro ⟨i,seen⟩ ⟨hi,hS⟩;simp only at hi hS;simp only [go_sem];have hsl:=hS.len;refine qD ?_ ?_<;>intro hc<;>simp only [hc,go_sem]
    · have hlti:i<seen.length:=by have:=odT hc;omega
      have he:=hS.rng _ (gMm hlti);have hme:=gMm hlti;obtain ⟨e,hE⟩:∃e:Nat,seen[i]=(e:Int):=⟨seen[i].toNat,by omega⟩;have hltE:e<U.length:=by omega
      have hEd:∀k,Ed U (e:Int) k↔k∈U[e]:=by intro k;unfold Ed;rw [List.getD_eq_getElem?_getD,Int.toNat_natCast,gEg hltE];rfl
      have hue:=hus _ (gMm hltE);refine Sem.loop (fun a:Nat×List Int=>a.1≤U[e].length∧i<a.2.length∧a.2[i]?=some (e:Int)∧jl U d i a.2∧∀y∈U[e].take a.1,y∈a.2) (fun a=>(⟨[(0,.ept b.enc 0),(3,.lst 1 (U.map (j8 1 qE)) false),(4,.slice 1 0 0 (jE U d).length false),(5,.int .i64 (d:Nat)),(6,.slice 1 1 0 a.2.length false),(7,.int .i64 (i:Nat)),(8,.int .i64 (a.1:Nat))],[],[.row 1 ((jE U d).map qE) true,.row 1 (a.2.map qE) true]⟩:VSt)) (fun a=>U[e].length-a.1) (0,seen) (by kernel_rfl) ⟨Nat.zero_le _,hlti,by rw [gEg hlti,hE],hS,by simp⟩
        (Can.sub (by simp [go_sem]) (by simp [go_sem])) ?_
      rintro ⟨k,sn⟩ ⟨hk,hi2,hse,hS2,hin⟩;simp only at hk hi2 hse hS2 hin;simp only [go_sem];simp only [qQP hi2,List.getElem?_map,hse,Option.map_some,qE,gEg hltE,j8,go_sem];refine qD ?_ ?_<;>intro hc<;>simp only [hc,go_sem]
      · have hltk:k<U[e].length:=by have:=odT hc;omega
        simp only [qQP hi2,List.getElem?_map,hse,Option.map_some,qE,gEg hltE,j8,gEg hltk,go_sem];have hsl2:=hS2.len;have hky:Ed U (e:Int) U[e][k]:=(hEd _).2 (gMm hltk);have htk:∀(sn':List Int),(∀y∈sn,y∈sn')→U[e][k]∈sn'→∀y∈U[e].take (k+1),y∈sn':=by
          intro sn' h1 h2 y hy;rw [List.take_add_one,gEg hltk] at hy;rcases List.mem_append.1 hy with hy | hy
          · exact h1 y (hin y hy)
          · simp at hy;subst hy;exact h2
        refine z4 (vs':=[.lst 1 (sn.map qE) false,.int .i64 U[e][k]]) (Cvs.cons (Cv.row rfl (by simp) (qa _) (by decide)) (Cvs.cons (.refl rfl) Cvs.nil)) (qPW (by omega)) rfl ?_;simp only [go_sem];refine qD ?_ ?_<;>intro hc<;>simp only [hc,go_sem]
        · simp only [qQP hi2,List.getElem?_map,hse,Option.map_some,qE,gEg hltE,j8,gEg hltk,go_sem];have hnm:U[e][k]∉sn:=by
            intro hm;have h2:(sn.any fun q=>decide (q=U[e][k]))=true:=List.any_eq_true.2 ⟨_,hm,by simp⟩;have h3:=nt hc;rw [h2] at h3;cases h3
          refine jM (el:=sn.map qE) rfl rfl (by simp) (by omega) ?_;simp only [go_sem];simp only [qe (show k<4611686018427387904 by omega)];refine qZ (k+1,sn++[U[e][k]]) ⟨by simp only;omega,by simp;omega,by simp only;rw [List.getElem?_append_left hi2];exact hse,jl.push hU hS2 (by omega) (List.mem_of_getElem? hse) hky hnm,htk _ (fun y hy=>by simp [hy]) (by simp)⟩ (by simp only;omega) ?_;simp only [lAp,List.length_cons,List.length_nil,Nat.zero_add];exact Can.renum [some 0,some 3] rfl ⟨.row rfl (VR2s.of_eq rfl (qa _)),.row rfl (VR2s.of_eq (by simp [qE]) (qa _)),trivial⟩ ⟨⟨_,rfl,.tree (by simp [AV.tree,go_sem])⟩,⟨_,rfl,.tree (by simp [AV.tree,Qb])⟩,⟨_,rfl,.slice rfl⟩,⟨_,rfl,.tree rfl⟩,⟨_,rfl,.slice rfl⟩,⟨_,rfl,.tree rfl⟩,⟨_,rfl,.tree rfl⟩,trivial⟩ trivial
        · have hmm:U[e][k]∈sn:=by
            have h2:=nf hc;simp only [List.any_eq_true,decide_eq_true_eq] at h2;obtain ⟨q,hq,rfl⟩:=h2;exact hq
          simp only [qe (show k<4611686018427387904 by omega)];exact qZ (k+1,sn) ⟨by simp only;omega,hi2,hse,hS2,htk _ (fun y hy=>hy) hmm⟩ (by simp only;omega) (Can.sub (by simp [go_sem]) (by simp [go_sem]))
      · have ek:k=U[e].length:=by have:=odF hc;omega
        subst ek;rw [List.take_length] at hin;have hsl2:=hS2.len;simp only [qe (show i<4611686018427387904 by omega)];refine qZ (i+1,sn) ⟨by simp only;omega,hS2.next hse (fun y hy=>hin y ((hEd y).1 hy))⟩ (by simp only;omega) (Can.sub (by simp [go_sem]) (by simp [go_sem]))
    · have e:i=seen.length:=by have:=odF hc;omega
      subst e;refine z4 (vs':=[.lst 1 (seen.map qE) false,.int .i64 (d:Int)]) (Cvs.cons (Cv.row rfl (by simp) (qa _) (by decide)) (Cvs.cons (.refl rfl) Cvs.nil)) (qPW (by omega)) rfl ?_;simp only [go_sem];rw [hS.done];refine qD ?_ ?_<;>intro hc<;>simp only [hc,go_sem]
      · refine jM (el:=(jE U d).map qE) rfl rfl (by simp) (by have:=qWK U d;omega) ?_;simp only [go_sem];simp only [qe (show d<4611686018427387904 by omega)];refine qZ (d+1) (by omega) (by omega) ?_;rw [show jE U (d+1)=jE U d++[(d:Int)] by rw [qWL,if_pos hc]];simp only [lAp,List.length_cons,List.length_nil,Nat.zero_add];exact Can.renum [some 3] rfl ⟨.row rfl (VR2s.of_eq (by simp [qE]) (qa _)),trivial⟩ ⟨⟨_,rfl,.tree (by simp [AV.tree,go_sem])⟩,⟨_,rfl,.tree (by simp [AV.tree,Qb])⟩,⟨_,rfl,.slice rfl⟩,⟨_,rfl,.tree rfl⟩,trivial⟩ trivial
      · simp only [qe (show d<4611686018427387904 by omega)];refine qZ (d+1) (by omega) (by omega) ?_;rw [show jE U (d+1)=jE U d by rw [qWL,if_neg (by rw [hc];decide)]];exact Can.renum [some 0] rfl ⟨.row rfl (VR2s.of_eq rfl (qa _)),trivial⟩ ⟨⟨_,rfl,.tree (by simp [AV.tree,go_sem])⟩,⟨_,rfl,.tree (by simp [AV.tree,Qb])⟩,⟨_,rfl,.slice rfl⟩,⟨_,rfl,.tree rfl⟩,trivial⟩ trivial
  · have e:d=b.Defs.length:=by have:=odF hc;omega
    subst e;exact zH (Cv.row rfl (by simp) (qa _) (by decide))
end Go.Ab
namespace Go.Ab
open Go
set_option maxRecDepth 10000
set_option maxHeartbeats 2000000
def zC {α β:Type} (f:Nat→α→β):List α→Nat→List β
  |[],_=>[]
  | x::xs,i=>f i x::zC f xs (i+1)
theorem V2 {α β γ:Type} (f:Nat→β→γ) (g:α→β):∀(xs:List α) (i:Nat),zC f (xs.map g) i=zC (fun k x=>f k (g x)) xs i
  |[],_=>rfl
  | x::xs,i=>by simp [zC,V2 f g xs]
theorem jv {α β:Type} (f:Nat→α→β):∀(xs:List α) (i:Nat),(zC f xs i).length=xs.length
  |[],_=>rfl
  | x::xs,i=>by simp [zC,jv f xs]
theorem V4 {α β:Type} {f:Nat→α→β}:∀{xs:List α} {i k:Nat} (h:i<xs.length),zC f (xs.take (i+1)) k=zC f (xs.take i) k++[f (k+i) xs[i]]
  |[],i,k,h=>by simp at h
  | x::xs,0,k,h=>by simp [zC]
  | x::xs,i+1,k,h=>by
    simp only [List.take_succ_cons,zC,List.getElem_cons_succ,List.cons_append];rw [V4 (i:=i) (k:=k+1) (by simpa using h)];congr 3;congr 1;omega
theorem V3 {α β:Type} {f:Nat→α→β}:∀{xs:List α} {i:Nat} {y:β},y∈zC f xs i→∃x∈xs,∃k,y=f k x
  |[],_,_,h=>by simp [zC] at h
  | x::xs,i,y,h=>by
    simp only [zC,List.mem_cons] at h;rcases h with rfl | h
    · exact ⟨x,by simp,i,rfl⟩
    · obtain ⟨z,hz,k,e⟩:=V3 h;exact ⟨z,by simp [hz],k,e⟩
def qA.vb (m:Int):qA→Bool:=qA.fold fun x rs=>(!decide (x.Kind=1) || inI x.Value 0 m)&&rs.all id
theorem qA.vb_eq (m:Int) (x:qA):x.vb m=((!decide (x.Kind=1) || inI x.Value 0 m)&&x.Kids.all (qA.vb m)):=by
  unfold qA.vb;rw [qA.fold_eq];simp
theorem qR5 {x y:qA} {m:Int} (h:x.vb m=true) (hy:y∈x.Kids):y.vb m=true:=by
  rw [x.vb_eq,bAt,List.all_eq_true] at h;exact h.2 y hy
theorem qX6 {x:qA} {m:Int} (h:x.vb m=true) (hk:x.Kind=1):0≤x.Value∧x.Value≤m:=by
  rw [x.vb_eq,bAt] at h;have:=h.1;simp [hk,inI] at this;exact this
def jY (k v a f:Int):Int:=if k=1∧f≤v then v+a else v
def qA.shift (a:Int):qA→Int→qA:=qA.fold fun x rs f=>.mk x.Kind (jY x.Kind x.Value a f) x.Data (zC (fun i (r:Int→qA)=>r (f+qR x.Kind i)) rs 0)
theorem qA.shift_eq (a:Int) (x:qA) (f:Int):x.shift a f=.mk x.Kind (jY x.Kind x.Value a f) x.Data (zC (fun i y=>y.shift a (f+qR x.Kind i)) x.Kids 0):=by
  unfold qA.shift;rw [qA.fold_eq,V2]
theorem Jm {h:List qC} {id n:Nat} {k v:Int} {d:List Int} {ks:List qA} (ho:h[id]?=some (.row 4 (ks.map qA.enc) true)) (hn:ks.length=n):
    Cv h (.agg [.int .i64 k,.int .i64 v,.lst 1 (d.map qE) false,.slice 4 id 0 n false]) (qA.mk k v d ks).enc:=by
  rw [qA.enc_eq];refine .agg rfl ?_;simp only [List.zip_cons_cons,List.zip_nil_left,List.mem_cons,List.not_mem_nil,or_false,qA.Kind,qA.Value,qA.Data,qA.Kids];rintro p (rfl | rfl | rfl | rfl)
  · exact .refl rfl
  · exact .refl rfl
  · exact .refl (by simp [AV.tree,qa])
  · exact Cv.row ho (by simpa using hn) (zq qA.isSh.tree _) (by decide)
theorem qr (xs:List qA):AV.trees (xs.map qA.enc)=true:=zq qA.isSh.tree xs
theorem c766 (x:qA):∀(a f:Int) (hz:x.sz≤1048576) (ha:0≤a∧a≤4294967296) (hf:0≤f∧f+x.dep≤4294967296) (hv:x.vb 4294967296=true),Pure Gm 766 [.ept x.enc 0,.int .i64 a,.int .i64 f] ((x.shift a f).enc):=by
  induction x using qA.ind with
  | _ x ih=>
  intro a f hz ha hf hv;refine Pure.intro [] [] g766 (by kernel_rfl) rfl (by simp [AV.trees,AV.tree,go_sem]) (by simp [go_sem]) ?_;simp only [Yc,qL,go_sem];have hL:=x.len_sz;refine qH (c402 x.Data (by omega)) ?_;simp only [go_sem];refine qK (k:=4) (by rfl) (by rfl) (by exact ⟨_,rfl⟩) (by decide) ?_;simp only [go_sem];obtain ⟨w,hw⟩:∃w,w=jY x.Kind x.Value a f:=⟨_,rfl⟩;have hres:=x.shift_eq a f;rw [←hw] at hres;refine qY ?_ ?_<;>intro hc<;>simp only [hc,go_sem];refine qD ?_ ?_<;>intro hc<;>simp only [hc,go_sem];have hk1:=qX6 hv (odT (by assumption));rw [qj (by omega) (by omega)];have h0:x.Value+a=w:=by
    rename_i h1;rw [hw,jY,if_pos ⟨odT h1,odT hc⟩]
  rotate_left;have h0:x.Value=w:=by
    rw [hw,jY,if_neg (fun q=>absurd q.2 (odF hc))]
  rotate_left;have h0:x.Value=w:=by
    rw [hw,jY,if_neg (fun q=>absurd q.1 (odF hc))]
  all_goals
    rw [h0];refine Sem.loop (fun i:Nat=>i≤x.Kids.length) (fun i=>(⟨[(0,.ept x.enc 0),(1,.int .i64 a),(2,.int .i64 f),(8,.int .i64 (i:Nat))],[(7,.agg [.int .i64 x.Kind,.int .i64 w,.lst 1 (x.Data.map qE) false,.slice 4 0 0 i false]),(6,.agg [.int .i64 0,.int .i64 0,.nils,.nils])],[.row 4 ((zC (fun i y=>qA.shift a y (f+qR x.Kind i)) (x.Kids.take i) 0).map qA.enc) true]⟩:VSt)) (fun i=>x.Kids.length-i) 0 (by kernel_rfl) (Nat.zero_le _)
      (Can.renum [none] rfl ⟨.ph,trivial⟩ ⟨⟨_,rfl,.tree (by simp [AV.tree,go_sem])⟩,⟨_,rfl,.tree rfl⟩,⟨_,rfl,.tree rfl⟩,⟨_,rfl,.tree rfl⟩,trivial⟩
        ⟨⟨_,rfl,.agg rfl (VR2s.cons (.tree rfl) (VR2s.cons (.tree rfl) (VR2s.cons (.tree (by simp [AV.tree,qa])) (VR2s.cons (.ph rfl) VR2s.nil)))).2⟩,⟨_,rfl,.tree rfl⟩,trivial⟩) ?_
    intro i hi;simp only [go_sem];refine qD ?_ ?_<;>intro hc<;>simp only [hc,go_sem]
    · have hlt:i<x.Kids.length:=by have:=odT hc;omega
      simp only [List.getElem?_map,gEg hlt,Option.map_some,go_sem];have hm:=gMm hlt;have hk:=qA.kid_sz hm;have hp:=qA.dep_kid hm;have hb:=jI x.Kind i;refine qH Z0 ?_;simp only [go_sem];rw [qj (n:=f+qR x.Kind i) (by omega) (by omega)];refine qH (ih _ hm a (f+qR x.Kind i) (by omega) ha (by omega) (qR5 hv hm)) ?_;simp only [go_sem];refine jM (el:=(zC (fun i y=>qA.shift a y (f+qR x.Kind i)) (x.Kids.take i) 0).map qA.enc) rfl rfl (by simp [jv];omega) (by omega) ?_;simp only [go_sem];simp only [qe (show i<4611686018427387904 by omega)];refine qZ (i+1) (by omega) (by omega) ?_;refine Can.renum [some 2] rfl ⟨.row rfl (VR2s.of_eq (by rw [V4 hlt,Nat.zero_add];simp) (qr _)),trivial⟩ ⟨⟨_,rfl,.tree (by simp [AV.tree,go_sem])⟩,⟨_,rfl,.tree rfl⟩,⟨_,rfl,.tree rfl⟩,⟨_,rfl,.tree rfl⟩,trivial⟩
        ⟨⟨_,rfl,.agg rfl (VR2s.cons (.tree rfl) (VR2s.cons (.tree rfl) (VR2s.cons (.tree (by simp [AV.tree,qa])) (VR2s.cons (.slice rfl) VR2s.nil)))).2⟩,⟨_,rfl,.tree rfl⟩,trivial⟩
    · obtain rfl:i=x.Kids.length:=by have:=odF hc;omega
      rw [List.take_length];refine qK (k:=4) (by rfl) (by rfl) (by exact ⟨_,rfl⟩) (by decide) ?_;simp only [go_sem];rw [hres];exact zH (Jm rfl (jv _ _ _))
end Go.Ab
namespace Go.Ab
open Go
set_option maxRecDepth 10000
set_option maxHeartbeats 2000000
theorem WU {α:Type} {f:α→Nat} {xs:List α} {i:Nat} (h:i<xs.length):zL f (xs.take (i+1))=max (zL f (xs.take i)) (f xs[i]):=by
  induction xs generalizing i with
  | nil=>simp at h
  | cons a xs ih=>
    cases i with
    | zero=>simp [zL]
    | succ i=>
      simp only [List.take_succ_cons,zL,List.getElem_cons_succ,ih (by simpa using h)];show max _ _=max (max _ _) _;rw [Nat.max_assoc]
theorem Wm {α:Type} (f:α→Nat):∀(xs:List α) (i:Nat),qG f (xs.take i)≤qG f xs
  |[],i=>by simp
  | a::xs,0=>by simp [qG]
  | a::xs,i+1=>by simp only [List.take_succ_cons,qG];have:=Wm f xs i;omega
@[go_sem] theorem zH9 {α:Type} (f:α→Nat):zL f []=0:=rfl
theorem qVP (a b:Nat):(if (b:Int)<(a:Int) then (a:Int) else (b:Int))=((max a b:Nat):Int):=by
  split<;>omega
theorem qA.dep_size:∀x:qA,x.dep≤x.size:=qA.ind fun x ih=>by
  rw [x.dep_eq,x.size_eq];have:∀xs:List qA,(∀y∈xs,y.dep≤y.size)→zL qA.dep xs≤qG qA.size xs:=by
    intro xs
    induction xs with
    | nil=>intro _;simp [zL]
    | cons a xs ihx=>
      intro h;have h1:=h a (by simp);have h2:=ihx (fun y hy=>h y (by simp [hy]));simp only [zL,qG];show max _ _≤_;omega
  have:=this _ ih;omega
def qA.fits (x:qA):Bool:=decide (x.size≤400)&&decide (x.dep≤80)
def qA.left:qA→Int→Int:=qA.fold fun _ rs l=>rs.foldl (fun l (r:Int→Int)=>if l<0 then l else r l) (l-1)
theorem qA.left_eq (x:qA) (l:Int):x.left l=x.Kids.foldl (fun l y=>if l<0 then l else y.left l) (l-1):=by
  unfold qA.left;rw [qA.fold_eq,Vg]
theorem qQ0:∀(ks:List qA) (l:Int),l<0→ks.foldl (fun l y=>if l<0 then l else qA.left y l) l=l
  |[],_,_=>rfl
  | k::ks,l,h=>by simp only [List.foldl_cons,if_pos h];exact qQ0 ks l h
theorem qA.left_spec:∀(x:qA) (l:Int),0≤l→(0≤x.left l↔(x.size:Int)≤l)∧(0≤x.left l→x.left l=l-x.size)∧-1≤x.left l:=qA.ind fun x ih l hl=>by
  rw [x.left_eq,x.size_eq];have key:∀(ks:List qA),(∀y∈ks,∀l:Int,0≤l→(0≤y.left l↔(y.size:Int)≤l)∧(0≤y.left l→y.left l=l-y.size)∧-1≤y.left l)→∀m:Int,-1≤m→
      (0≤ks.foldl (fun l y=>if l<0 then l else qA.left y l) m↔(qG qA.size ks:Int)≤m∧0≤m)∧(0≤ks.foldl (fun l y=>if l<0 then l else qA.left y l) m→ks.foldl (fun l y=>if l<0 then l else qA.left y l) m=m-qG qA.size ks)∧
      -1≤ks.foldl (fun l y=>if l<0 then l else qA.left y l) m:=by
    intro ks
    induction ks with
    | nil=>intro _ m hm;simp [qG];omega
    | cons a ks ihk=>
      intro h m hm;by_cases h0:m<0
      · rw [qQ0 _ _ h0];refine ⟨⟨fun q=>by omega,fun q=>by omega⟩,fun q=>by omega,hm⟩
      · simp only [List.foldl_cons,if_neg h0,qG];have h1:=h a (by simp) m (by omega);have h2:=ihk (fun y hy=>h y (by simp [hy])) (a.left m) h1.2.2;refine ⟨⟨fun q=> ?_,fun q=> ?_⟩,fun q=> ?_,h2.2.2⟩
        · have h3:=h2.1.1 q;have h4:=h1.2.1 h3.2;omega
        · refine h2.1.2 ?_;have h4:=h1.1.2 (by omega);have h5:=h1.2.1 h4;omega
        · have h3:=h2.1.1 q;have h4:=h1.2.1 h3.2;rw [h2.2.1 q];omega
  have:=key x.Kids ih (l-1) (by omega);refine ⟨⟨fun q=> ?_,fun q=> ?_⟩,fun q=> ?_,this.2.2⟩
  · have:=this.1.1 q;omega
  · exact this.1.2 (by omega)
  · rw [this.2.1 q];omega
def qA.boxes:qA→Nat:=qA.fold fun x rs=>zL id rs+if x.Kind=6 then 1 else 0
theorem qA.boxes_eq (x:qA):x.boxes=zL qA.boxes x.Kids+if x.Kind=6 then 1 else 0:=by
  unfold qA.boxes;rw [qA.fold_eq,qQ8];rfl
theorem qA.boxes_dep:∀x:qA,x.boxes≤x.dep:=qA.ind fun x ih=>by
  rw [x.boxes_eq,x.dep_eq];have:zL qA.boxes x.Kids≤zL qA.dep x.Kids:=by
    rw [ZK];intro y hy;exact Nat.le_trans (ih y hy) ((ZK qA.dep _ x.Kids).1 (Nat.le_refl _) y hy)
  split<;>omega
theorem c856 {a b:Int}:Pure Gm 856 [.int .i64 a,.int .i64 b] (.int .i64 (if b<a then a else b)):=by
  refine Pure.intro [] [] g856 (by kernel_rfl) rfl (by simp [AV.trees,AV.tree,go_sem]) rfl ?_;simp only [Yo,qL,go_sem]
  repeat' (first | (refine qc rfl ?_;simp only [go_sem]) | (first | (refine qY ?_ ?_<;>intro hc<;>simp only [hc,go_sem]) | (refine qD ?_ ?_<;>intro hc<;>simp only [hc,go_sem])) | refine qM rfl ?_ | refine je (by rfl) ?_)
  all_goals (simp_all<;>omega)
theorem qS3 (x:qA):∀(hz:x.sz≤1048576) (hd:x.dep≤1048576),Pure Gm 1123 [.ept x.enc 0] (.int .i64 (x.dep:Nat)):=by
  induction x using qA.ind with
  | _ x ih=>
  intro hz hd;refine Pure.intro [] [] qcE (by kernel_rfl) rfl (by simp [AV.trees,AV.tree,go_sem]) rfl ?_;simp only [XC,qL,go_sem];have hL:=x.len_sz;have hde:=x.dep_eq;refine Sem.loop (fun i:Nat=>i≤x.Kids.length∧True) (fun i=>(⟨[(0,.ept x.enc 0),(3,.int .i64 (zL qA.dep (x.Kids.take i):Nat)),(4,.int .i64 (i:Nat))],[],[]⟩:VSt)) (fun i=>x.Kids.length-i) 0 (by kernel_rfl) ⟨Nat.zero_le _,by trivial⟩ (Can.sub (by simp [go_sem]) (by simp [go_sem])) ?_;rintro i ⟨hi,hI⟩;simp only [go_sem];refine qD ?_ ?_<;>intro hc<;>simp only [hc,go_sem]
  · have hlt:i<x.Kids.length:=by have:=odT hc;omega
    simp only [List.getElem?_map,gEg hlt,Option.map_some,go_sem];have hm:=gMm hlt;have hk:=qA.kid_sz hm;have hp:=qA.dep_kid hm;refine qH (ih _ hm (by omega) (by omega)) ?_;simp only [go_sem];refine qH c856 ?_;simp only [go_sem];rw [qVP,←WU hlt];simp only [qe (show i<4611686018427387904 by omega)];refine qZ (i+1) ⟨by omega, ?_⟩ (by omega) (Can.sub (by simp [go_sem]) (by simp [go_sem]));trivial
  · obtain rfl:i=x.Kids.length:=by have:=odF hc;omega
    rw [List.take_length,qj (by omega) (by omega)];exact qM rfl (by rw [hde];simp;omega)
theorem qZ3 (x:qA):∀(hz:x.sz≤1048576),Pure Gm 1504 [.ept x.enc 0] (.int .i64 (x.size:Nat)):=by
  induction x using qA.ind with
  | _ x ih=>
  intro hz;refine Pure.intro [] [] qdK (by kernel_rfl) rfl (by simp [AV.trees,AV.tree,go_sem]) rfl ?_;simp only [Xs,qL,go_sem];have hL:=x.len_sz;have hde:=x.size_eq;have hsz:=x.size_sz;refine Sem.loop (fun i:Nat=>i≤x.Kids.length∧True) (fun i=>(⟨[(0,.ept x.enc 0),(3,.int .i64 ((1+qG qA.size (x.Kids.take i):Nat):Int)),(4,.int .i64 (i:Nat))],[],[]⟩:VSt)) (fun i=>x.Kids.length-i) 0 (by kernel_rfl) ⟨Nat.zero_le _,by trivial⟩ (Can.sub (by simp [go_sem]) (by simp [go_sem])) ?_;rintro i ⟨hi,hI⟩;simp only [go_sem];refine qD ?_ ?_<;>intro hc<;>simp only [hc,go_sem]
  · have hlt:i<x.Kids.length:=by have:=odT hc;omega
    simp only [List.getElem?_map,gEg hlt,Option.map_some,go_sem];have hm:=gMm hlt;have hk:=qA.kid_sz hm;have ht:=Zd (f:=qA.size) hlt;have hle:=Wm qA.size x.Kids (i+1);refine qH (ih _ hm (by omega)) ?_;simp only [go_sem];have e1:((1+qG qA.size (x.Kids.take i):Nat):Int)+x.Kids[i].size=((1+qG qA.size (x.Kids.take (i+1)):Nat):Int):=by omega
    rw [e1,qj (n:=((1+qG qA.size (x.Kids.take (i+1)):Nat):Int)) (by omega) (by omega)];simp only [qe (show i<4611686018427387904 by omega)];refine qZ (i+1) ⟨by omega, ?_⟩ (by omega) (Can.sub (by simp [go_sem]) (by simp [go_sem]));trivial
  · obtain rfl:i=x.Kids.length:=by have:=odF hc;omega
    rw [List.take_length];exact qM rfl (by rw [hde])
theorem qZ4 (x:qA):∀(hz:x.sz≤1048576) (hd:x.dep≤1048576),Pure Gm 1505 [.ept x.enc 0] (.int .i64 (x.boxes:Nat)):=by
  induction x using qA.ind with
  | _ x ih=>
  intro hz hd;refine Pure.intro [] [] qdL (by kernel_rfl) rfl (by simp [AV.trees,AV.tree,go_sem]) rfl ?_;simp only [Xt,qL,go_sem];have hL:=x.len_sz;have hde:=x.boxes_eq;have hbd:=x.boxes_dep;refine Sem.loop (fun i:Nat=>i≤x.Kids.length∧True) (fun i=>(⟨[(0,.ept x.enc 0),(3,.int .i64 (zL qA.boxes (x.Kids.take i):Nat)),(4,.int .i64 (i:Nat))],[],[]⟩:VSt)) (fun i=>x.Kids.length-i) 0 (by kernel_rfl) ⟨Nat.zero_le _,by trivial⟩ (Can.sub (by simp [go_sem]) (by simp [go_sem])) ?_;rintro i ⟨hi,hI⟩;simp only [go_sem];refine qD ?_ ?_<;>intro hc<;>simp only [hc,go_sem]
  · have hlt:i<x.Kids.length:=by have:=odT hc;omega
    simp only [List.getElem?_map,gEg hlt,Option.map_some,go_sem];have hm:=gMm hlt;have hk:=qA.kid_sz hm;have hp:=qA.dep_kid hm;refine qH (ih _ hm (by omega) (by omega)) ?_;simp only [go_sem];refine qH c856 ?_;simp only [go_sem];rw [qVP,←WU hlt];simp only [qe (show i<4611686018427387904 by omega)];refine qZ (i+1) ⟨by omega, ?_⟩ (by omega) (Can.sub (by simp [go_sem]) (by simp [go_sem]));trivial
  · obtain rfl:i=x.Kids.length:=by have:=odF hc;omega
    rw [List.take_length];refine qD ?_ ?_<;>intro hc<;>simp only [hc,go_sem]
    · rw [if_pos (odT hc)] at hde;rw [qj (by omega) (by omega)];exact qM rfl (by rw [hde];simp)
    · rw [if_neg (odF hc)] at hde;exact qM rfl (by rw [hde];simp)
theorem qZK (x:qA):∀(l:Int) (hz:x.sz≤1048576) (hl:0≤l∧l≤1048576),Pure Gm 1128 [.ept x.enc 0,.int .i64 l] (.int .i64 (x.left l)):=by
  induction x using qA.ind with
  | _ x ih=>
  intro l hz hl;refine Pure.intro [] [] qcJ (by kernel_rfl) rfl (by simp [AV.trees,AV.tree,go_sem]) rfl ?_;simp only [XH,qL,go_sem];have hL:=x.len_sz;rw [qj (by omega) (by omega)];refine Sem.loop (fun i:Nat=>i≤x.Kids.length∧-1≤(x.Kids.take i).foldl (fun l y=>if l<0 then l else qA.left y l) (l-1)∧(x.Kids.take i).foldl (fun l y=>if l<0 then l else qA.left y l) (l-1)≤1048576) (fun i=>(⟨[(0,.ept x.enc 0),(1,.int .i64 ((x.Kids.take i).foldl (fun l y=>if l<0 then l else qA.left y l) (l-1))),(5,.int .i64 (i:Nat))],[],[]⟩:VSt)) (fun i=>x.Kids.length-i) 0 (by kernel_rfl) ⟨Nat.zero_le _,by simp;omega⟩ (Can.sub (by simp [go_sem]) (by simp [go_sem])) ?_;rintro i ⟨hi,hI,hI2⟩;simp only [go_sem];obtain ⟨m,hm0⟩:∃m,m=(x.Kids.take i).foldl (fun l y=>if l<0 then l else qA.left y l) (l-1):=⟨_,rfl⟩;have hrest:x.left l=(x.Kids.drop i).foldl (fun l y=>if l<0 then l else qA.left y l) m:=by
    rw [x.left_eq,hm0,←List.foldl_append,List.take_append_drop]
  refine qY ?_ ?_<;>intro hc<;>simp only [hc,go_sem]
  · have hlt:i<x.Kids.length:=by have:=odT hc;omega
    rw [←hm0];rw [←hm0] at hI hI2;refine qD ?_ ?_<;>intro hc<;>simp only [hc,go_sem]
    · have h0:=odT hc;simp only [List.getElem?_map,gEg hlt,Option.map_some,go_sem];have hm:=gMm hlt;have hk:=qA.kid_sz hm;refine qH (ih _ hm m (by omega) (by omega)) ?_;simp only [go_sem];have hs:=x.Kids[i].left_spec m (by omega);have hp:=x.Kids[i].size_pos;have hf:(x.Kids.take (i+1)).foldl (fun l y=>if l<0 then l else qA.left y l) (l-1)=x.Kids[i].left m:=by
        rw [Vh (fun (l:Int) (y:qA)=>if l<0 then l else y.left l) hlt,←hm0,if_neg (by omega)]
      simp only [qe (show i<4611686018427387904 by omega)];refine qZ (i+1) ⟨by omega,by rw [hf];exact hs.2.2, ?_⟩ (by omega) (Can.sub (by simp [go_sem,hf]) (by simp [go_sem]));rw [hf];by_cases hq:0≤x.Kids[i].left m
      · rw [hs.2.1 hq];omega
      · omega
    · have h0:=odF hc;exact qM rfl (by rw [hrest,qQ0 _ _ (by omega)])
  · have e:i=x.Kids.length:=by have:=odF hc;omega
    rw [←hm0];exact qM rfl (by rw [hrest,e,List.drop_length];rfl)
theorem c765 {x:qA} (hz:x.sz≤1048576) (hd:x.dep≤1048576):Pure Gm 765 [.ept x.enc 0] (.bool x.fits):=by
  refine Pure.intro [] [] g765 (by kernel_rfl) rfl (by simp [AV.trees,AV.tree,go_sem]) rfl ?_;simp only [Yb,qL,go_sem];refine qH (qZK x 400 hz (by omega)) ?_;simp only [go_sem];have h1:=(x.left_spec 400 (by omega)).1;refine qY ?_ ?_<;>intro hc<;>simp only [hc,go_sem]
  · refine qH (qS3 x hz hd) ?_;simp only [go_sem];have h2:x.size≤400:=by have:=h1.1 (odT hc);omega
    exact qM rfl (by unfold qA.fits;rw [decide_eq_true h2];simp;omega)
  · have h2:¬x.size≤400:=by intro h;have:=h1.2 (by omega);exact absurd this (odF hc)
    exact qM rfl (by unfold qA.fits;rw [decide_eq_false h2];rfl)
end Go.Ab
namespace Go.Ab
open Go
set_option maxRecDepth 10000
set_option maxHeartbeats 2000000
def z8 {α:Type} (f:Nat→α→Nat):List α→Nat→Nat
  |[],_=>0
  | x::xs,i=>f i x+z8 f xs (i+1)
theorem qXQ {α β:Type} (f:Nat→β→Nat) (g:α→β):∀(xs:List α) (i:Nat),z8 f (xs.map g) i=z8 (fun k x=>f k (g x)) xs i
  |[],_=>rfl
  | x::xs,i=>by simp [z8,qXQ f g xs]
theorem qXR {α:Type} {f:Nat→α→Nat}:∀{xs:List α} {i k:Nat} (h:i<xs.length),z8 f (xs.take (i+1)) k=z8 f (xs.take i) k+f (k+i) xs[i]
  |[],i,k,h=>by simp at h
  | x::xs,0,k,h=>by simp [z8]
  | x::xs,i+1,k,h=>by
    simp only [List.take_succ_cons,z8,List.getElem_cons_succ];rw [qXR (i:=i) (k:=k+1) (by simpa using h),show k+1+i=k+(i+1) by omega];omega
theorem qXP {α:Type} {f:Nat→α→Nat} {g:α→Nat}:∀{xs:List α} {k:Nat},(∀x∈xs,∀k,f k x≤g x)→z8 f xs k≤qG g xs
  |[],_,_=>by simp [z8]
  | x::xs,k,h=>by
    simp only [z8,qG];have:=h x (by simp) k;have:=qXP (f:=f) (g:=g) (xs:=xs) (k:=k+1) (fun y hy=>h y (by simp [hy]));omega
@[go_sem] theorem zK1 {α:Type} (f:Nat→α→Nat) (k:Nat):z8 f [] k=0:=rfl
def qA.count:qA→Int→Nat:=qA.fold fun x rs v=>if x.Kind=1 then (if x.Value=v then 1 else 0) else z8 (fun i (r:Int→Nat)=>r (v+qR x.Kind i)) rs 0
theorem qA.count_eq (x:qA) (v:Int):x.count v=if x.Kind=1 then (if x.Value=v then 1 else 0) else z8 (fun i y=>y.count (v+qR x.Kind i)) x.Kids 0:=by
  unfold qA.count;rw [qA.fold_eq,qXQ]
theorem qA.count_size:∀(x:qA) (v:Int),x.count v≤x.size:=qA.ind fun x ih v=>by
  rw [x.count_eq,x.size_eq];split
  · split<;>omega
  · have:=qXP (f:=fun i y=>qA.count y (v+qR x.Kind i)) (g:=qA.size) (xs:=x.Kids) (k:=0) (fun y hy k=>ih y hy _);omega
def qA.high:qA→Int:=qA.fold fun x rs=>rs.foldl (fun n (r:Int)=>if r<n then n else r) (if x.Kind=1 then x.Value else-1)
theorem qA.high_eq (x:qA):x.high=x.Kids.foldl (fun n y=>if y.high<n then n else y.high) (if x.Kind=1 then x.Value else-1):=by
  unfold qA.high;rw [qA.fold_eq,Vg]
def wP (v d:Int):Int:=if d<v then v-1 else v
def qA.put (arg:qA):qA→Int→qA:=qA.fold fun x rs d=>
  if x.Kind=1 then (if x.Value=d then arg.shift d 0 else .mk 1 (wP x.Value d) [] []) else .mk x.Kind x.Value x.Data (zC (fun i (r:Int→qA)=>r (d+qR x.Kind i)) rs 0)
theorem qA.put_eq (arg x:qA) (d:Int):qA.put arg x d=if x.Kind=1 then (if x.Value=d then arg.shift d 0 else .mk 1 (wP x.Value d) [] []) else .mk x.Kind x.Value x.Data (zC (fun i y=>qA.put arg y (d+qR x.Kind i)) x.Kids 0):=by
  unfold qA.put;rw [qA.fold_eq,V2]
theorem VO {h:List qC} {k v:Int} {d:List Int} {ks:List qA} {D K:AV} (hd:Cv h D (.lst 1 (d.map qE) false)) (hk:Cv h K (.lst 4 (ks.map qA.enc) false)):
    Cv h (.agg [.int .i64 k,.int .i64 v,D,K]) (qA.mk k v d ks).enc:=by
  rw [qA.enc_eq];refine .agg rfl ?_;simp only [List.zip_cons_cons,List.zip_nil_left,List.mem_cons,List.not_mem_nil,or_false,qA.Kind,qA.Value,qA.Data,qA.Kids];rintro p (rfl | rfl | rfl | rfl)
  · exact .refl rfl
  · exact .refl rfl
  · exact hd
  · exact hk
theorem qA.isAgg (x:qA):∃cs,x.enc=.agg cs:=⟨_,x.enc_eq⟩
theorem QE {h:List qC} {k v:Int}:Cv h (.agg [.int .i64 k,.int .i64 v,.nils,.nils]) (qA.mk k v [] []).enc:=VO .nils .nils
theorem qZH (x:qA):∀(v:Int) (hz:x.sz≤1048576) (hv:0≤v∧v+x.dep≤4294967296),Pure Gm 1121 [.ept x.enc 0,.int .i64 v] (.int .i64 (x.count v:Nat)):=by
  induction x using qA.ind with
  | _ x ih=>
  intro v hz hv;refine Pure.intro [] [] qcC (by kernel_rfl) rfl (by simp [AV.trees,AV.tree,go_sem]) rfl ?_;simp only [XA,qL,go_sem];have hL:=x.len_sz;have hce:=x.count_eq v;have hcs:=x.count_size v;have hsz:=x.size_sz;refine qD ?_ ?_<;>intro hc<;>simp only [hc,go_sem]
  · rw [if_pos (odT hc)] at hce;refine qD ?_ ?_<;>intro hc<;>simp only [hc,go_sem]
    · rw [if_pos (odT hc)] at hce;exact qM rfl (by rw [hce];rfl)
    · rw [if_neg (odF hc)] at hce;exact qM rfl (by rw [hce];rfl)
  rw [if_neg (odF hc)] at hce;refine Sem.loop (fun i:Nat=>i≤x.Kids.length∧z8 (fun i y=>qA.count y (v+qR x.Kind i)) (x.Kids.take i) 0≤qG qA.size (x.Kids.take i)) (fun i=>(⟨[(0,.ept x.enc 0),(1,.int .i64 v),(5,.int .i64 (z8 (fun i y=>qA.count y (v+qR x.Kind i)) (x.Kids.take i) 0:Nat)),(6,.int .i64 (i:Nat))],[],[]⟩:VSt)) (fun i=>x.Kids.length-i) 0 (by kernel_rfl) ⟨Nat.zero_le _,by simp [z8]⟩ (Can.sub (by simp [go_sem]) (by simp [go_sem])) ?_;rintro i ⟨hi,hI⟩;simp only [go_sem];refine qD ?_ ?_<;>intro hc<;>simp only [hc,go_sem]
  · have hlt:i<x.Kids.length:=by have:=odT hc;omega
    simp only [List.getElem?_map,gEg hlt,Option.map_some,go_sem];have hm:=gMm hlt;have hk:=qA.kid_sz hm;have hp:=qA.dep_kid hm;have hb:=jI x.Kind i;have hse:=x.size_eq;have hst:=Zd (f:=qA.size) hlt;have hsl:=Wm qA.size x.Kids (i+1);have hkc:=qA.count_size x.Kids[i] (v+qR x.Kind i);have hsk:=qXR (f:=fun i y=>qA.count y (v+qR x.Kind i)) (k:=0) hlt;rw [Nat.zero_add] at hsk;refine qH Z0 ?_;simp only [go_sem];rw [qj (n:=v+qR x.Kind i) (by omega) (by omega)];refine qH (ih _ hm _ (by omega) (by omega)) ?_;simp only [go_sem];have e1:((z8 (fun i y=>qA.count y (v+qR x.Kind i)) (x.Kids.take i) 0:Nat):Int)+(qA.count x.Kids[i] (v+qR x.Kind i):Nat)=((z8 (fun i y=>qA.count y (v+qR x.Kind i)) (x.Kids.take (i+1)) 0:Nat):Int):=by omega
    rw [e1,qj (n:=((z8 (fun i y=>qA.count y (v+qR x.Kind i)) (x.Kids.take (i+1)) 0:Nat):Int)) (by omega) (by omega)];simp only [qe (show i<4611686018427387904 by omega)];refine qZ (i+1) ⟨by omega, ?_⟩ (by omega) (Can.sub (by simp [go_sem]) (by simp [go_sem]));omega
  · obtain rfl:i=x.Kids.length:=by have:=odF hc;omega
    rw [List.take_length];exact qM rfl (by rw [hce])
theorem qZJ (x:qA):∀(hz:x.sz≤1048576),Pure Gm 1124 [.ept x.enc 0] (.int .i64 x.high):=by
  induction x using qA.ind with
  | _ x ih=>
  intro hz;refine Pure.intro [] [] qcF (by kernel_rfl) rfl (by simp [AV.trees,AV.tree,go_sem]) rfl ?_;simp only [XD,qL,go_sem];have hL:=x.len_sz;obtain ⟨n0,hn0⟩:∃n0,n0=(if x.Kind=1 then x.Value else-1):=⟨_,rfl⟩;have hh:=x.high_eq;rw [←hn0] at hh;refine qD ?_ ?_<;>intro hc<;>simp only [hc,go_sem];have h0:n0=x.Value:=by rw [hn0,if_pos (odT hc)]
  rotate_left;have h0:n0= -1:=by rw [hn0,if_neg (odF hc)]
  all_goals
    refine Sem.loop (fun i:Nat=>i≤x.Kids.length∧True) (fun i=>(⟨[(0,.ept x.enc 0),(3,.int .i64 ((x.Kids.take i).foldl (fun n y=>if qA.high y<n then n else qA.high y) n0)),(4,.int .i64 (i:Nat))],[],[]⟩:VSt)) (fun i=>x.Kids.length-i) 0 (by kernel_rfl) ⟨Nat.zero_le _,by trivial⟩ (Can.sub (by simp [go_sem,h0]) (by simp [go_sem])) ?_;rintro i ⟨hi,hI⟩;simp only [go_sem];refine qD ?_ ?_<;>intro hc<;>simp only [hc,go_sem]
    · have hlt:i<x.Kids.length:=by have:=odT hc;omega
      simp only [List.getElem?_map,gEg hlt,Option.map_some,go_sem];have hm:=gMm hlt;have hk:=qA.kid_sz hm;refine qH (ih _ hm (by omega)) ?_;simp only [go_sem];refine qH c856 ?_;simp only [go_sem];rw [←Vh (fun (n:Int) (y:qA)=>if y.high<n then n else y.high) hlt];simp only [qe (show i<4611686018427387904 by omega)];refine qZ (i+1) ⟨by omega, ?_⟩ (by omega) (Can.sub (by simp [go_sem]) (by simp [go_sem]));trivial
    · obtain rfl:i=x.Kids.length:=by have:=odF hc;omega
      rw [List.take_length];exact qM rfl (by rw [hh])
theorem c387 {x:qA} (hz:x.sz≤1048576) (hd:x.dep≤1048576) (hv:x.vb 4294967296=true):Pure Gm 387 [.ept x.enc 0] ((x.shift 0 0).enc):=by
  refine Pure.intro [] [] g387 (by kernel_rfl) rfl (by simp [AV.trees,AV.tree,go_sem]) (by simp [go_sem]) ?_;simp only [X4,qL,go_sem];refine qH (c766 x 0 0 hz (by omega) (by omega) hv) ?_;simp only [go_sem];refine qK (k:=4) (by rfl) (by simp [go_sem]) (qA.isAgg _) (by decide) ?_;simp only [go_sem];exact qM (by simp [go_sem]) rfl
end Go.Ab
namespace Go.Ab
open Go
set_option maxRecDepth 10000
set_option maxHeartbeats 2000000
theorem qZI (x:qA):∀(arg:qA) (d:Int) (hz:x.sz≤1048576) (hv:x.vb 4294967296=true) (hd:0≤d∧d+x.dep≤2147483648) (haz:arg.sz≤1048576) (had:arg.dep≤1048576) (hav:arg.vb 4294967296=true),Pure Gm 1122 [.ept x.enc 0,.ept arg.enc 0,.int .i64 d] ((qA.put arg x d).enc):=by
  induction x using qA.ind with
  | _ x ih=>
  intro arg d hz hv hd haz had hav;refine Pure.intro [] [] qcD (by kernel_rfl) rfl (by simp [AV.trees,AV.tree,go_sem]) (by simp [go_sem]) ?_;simp only [XB,qL,go_sem];have hL:=x.len_sz;have hres:=qA.put_eq arg x d;refine qD ?_ ?_<;>intro hc<;>simp only [hc,go_sem]
  · have hk1:=qX6 hv (odT hc);rw [if_pos (odT hc)] at hres;refine qD ?_ ?_<;>intro hc<;>simp only [hc,go_sem]
    · rw [if_pos (odT hc)] at hres;refine qH (c766 arg d 0 haz (by omega) (by omega) hav) ?_;simp only [go_sem];refine qK (k:=4) (by rfl) (by simp [go_sem]) (qA.isAgg _) (by decide) ?_;simp only [go_sem];exact qM (by simp [go_sem]) (by rw [hres])
    rw [if_neg (odF hc)] at hres;refine qK (k:=4) (by rfl) (by rfl) (by exact ⟨_,rfl⟩) (by decide) ?_;simp only [go_sem];refine qD ?_ ?_<;>intro hc<;>simp only [hc,go_sem]
    · rw [qj (by omega) (by omega)];refine qK (k:=4) (by rfl) (by rfl) (by exact ⟨_,rfl⟩) (by decide) ?_;simp only [go_sem];rw [hres,show wP x.Value d=x.Value-1 by unfold wP;rw [if_pos (odT hc)]];exact zH QE
    · refine qK (k:=4) (by rfl) (by rfl) (by exact ⟨_,rfl⟩) (by decide) ?_;simp only [go_sem];rw [hres,show wP x.Value d=x.Value by unfold wP;rw [if_neg (odF hc)]];exact zH QE
  rw [if_neg (odF hc)] at hres;refine qH (c402 x.Data (by omega)) ?_;simp only [go_sem];refine qK (k:=4) (by rfl) (by rfl) (by exact ⟨_,rfl⟩) (by decide) ?_;simp only [go_sem];refine Sem.loop (fun i:Nat=>i≤x.Kids.length) (fun i=>(⟨[(0,.ept x.enc 0),(1,.ept arg.enc 0),(2,.int .i64 d),(9,.int .i64 (i:Nat))],[(8,.agg [.int .i64 x.Kind,.int .i64 x.Value,.lst 1 (x.Data.map qE) false,.slice 4 0 0 i false]),(6,.agg [.int .i64 0,.int .i64 0,.nils,.nils])],[.row 4 ((zC (fun i y=>qA.put arg y (d+qR x.Kind i)) (x.Kids.take i) 0).map qA.enc) true]⟩:VSt)) (fun i=>x.Kids.length-i) 0 (by kernel_rfl) (Nat.zero_le _)
    (Can.renum [none] rfl ⟨.ph,trivial⟩ ⟨⟨_,rfl,.tree (by simp [AV.tree,go_sem])⟩,⟨_,rfl,.tree (by simp [AV.tree,go_sem])⟩,⟨_,rfl,.tree rfl⟩,⟨_,rfl,.tree rfl⟩,trivial⟩
      ⟨⟨_,rfl,.agg rfl (VR2s.cons (.tree rfl) (VR2s.cons (.tree rfl) (VR2s.cons (.tree (by simp [AV.tree,qa])) (VR2s.cons (.ph rfl) VR2s.nil)))).2⟩,⟨_,rfl,.tree rfl⟩,trivial⟩) ?_
  intro i hi;simp only [go_sem];refine qD ?_ ?_<;>intro hc<;>simp only [hc,go_sem]
  · have hlt:i<x.Kids.length:=by have:=odT hc;omega
    simp only [List.getElem?_map,gEg hlt,Option.map_some,go_sem];have hm:=gMm hlt;have hk:=qA.kid_sz hm;have hp:=qA.dep_kid hm;have hb:=jI x.Kind i;refine qH Z0 ?_;simp only [go_sem];rw [qj (n:=d+qR x.Kind i) (by omega) (by omega)];refine qH (ih _ hm arg (d+qR x.Kind i) (by omega) (qR5 hv hm) (by omega) haz had hav) ?_;simp only [go_sem];refine jM (el:=(zC (fun i y=>qA.put arg y (d+qR x.Kind i)) (x.Kids.take i) 0).map qA.enc) rfl rfl (by simp [jv];omega) (by omega) ?_;simp only [go_sem];simp only [qe (show i<4611686018427387904 by omega)];refine qZ (i+1) (by omega) (by omega) ?_;refine Can.renum [some 2] rfl ⟨.row rfl (VR2s.of_eq (by rw [V4 hlt,Nat.zero_add];simp) (qr _)),trivial⟩ ⟨⟨_,rfl,.tree (by simp [AV.tree,go_sem])⟩,⟨_,rfl,.tree (by simp [AV.tree,go_sem])⟩,⟨_,rfl,.tree rfl⟩,⟨_,rfl,.tree rfl⟩,trivial⟩
      ⟨⟨_,rfl,.agg rfl (VR2s.cons (.tree rfl) (VR2s.cons (.tree rfl) (VR2s.cons (.tree (by simp [AV.tree,qa])) (VR2s.cons (.slice rfl) VR2s.nil)))).2⟩,⟨_,rfl,.tree rfl⟩,trivial⟩
  · obtain rfl:i=x.Kids.length:=by have:=odF hc;omega
    rw [List.take_length];refine qK (k:=4) (by rfl) (by rfl) (by exact ⟨_,rfl⟩) (by decide) ?_;simp only [go_sem];rw [hres];exact zH (Jm rfl (jv _ _ _))
end Go.Ab
namespace Go.Ab
open Go
set_option maxRecDepth 10000
set_option maxHeartbeats 2000000
def qA.d4:qA→Bool:=qA.fold fun x rs=>decide (x.Data.length≤4)&&rs.all id
theorem qA.d4_eq (x:qA):x.d4=(decide (x.Data.length≤4)&&x.Kids.all qA.d4):=by
  unfold qA.d4;rw [qA.fold_eq];simp
theorem qP6 {x y:qA} (h:x.d4=true) (hy:y∈x.Kids):y.d4=true:=by
  rw [x.d4_eq,bAt,List.all_eq_true] at h;exact h.2 y hy
theorem qA.sz_d4:∀x:qA,x.d4=true→x.sz+1≤5*x.size:=qA.ind fun x ih h=>by
  have h0:=h;rw [x.d4_eq,bAt,decide_eq_true_eq] at h0;rw [x.sz_eq,x.size_eq];have:∀xs:List qA,(∀y∈xs,y.sz+1≤5*y.size)→xs.length+qG qA.sz xs≤5*qG qA.size xs:=by
    intro xs
    induction xs with
    | nil=>intro _;simp [qG]
    | cons a xs ihx=>
      intro h;have h1:=h a (by simp);have h2:=ihx (fun y hy=>h y (by simp [hy]));simp only [qG,List.length_cons];omega
  have:=this x.Kids (fun y hy=>ih y hy (qP6 h hy));omega
theorem QN:∀x:qA,x.ok=true→x.d4=true:=qA.ind fun x ih h=>by
  have h0:=w3 h;unfold zo inI at h0;simp only [bAt,decide_eq_true_eq] at h0;rw [x.d4_eq,bAt,decide_eq_true_eq,List.all_eq_true];refine ⟨?_,fun y hy=>ih y hy (qv h hy)⟩;have h1:=h0.1.1.2;have:(shp x.Kind).2.2≤4:=by
    unfold shp
    repeat' split
    all_goals decide
  omega
theorem qg0:∀x:qA,x.ok=true→x.vb 255=true:=qA.ind fun x ih h=>by
  have h0:=w3 h;unfold zo at h0;simp only [bAt] at h0;rw [x.vb_eq,bAt,List.all_eq_true];refine ⟨?_,fun y hy=>ih y hy (qv h hy)⟩;by_cases hk:x.Kind=1
  · have h1:=h0.1.2;unfold jj at h1;rw [if_pos hk] at h1;rw [h1];simp
  · simp [hk]
theorem qkC {m n:Int} (hmn:m≤n):∀x:qA,x.vb m=true→x.vb n=true:=qA.ind fun x ih h=>by
  have h0:=h;rw [x.vb_eq,bAt] at h0;rw [x.vb_eq,bAt,List.all_eq_true];refine ⟨?_,fun y hy=>ih y hy (qR5 h hy)⟩;have h1:=h0.1;simp only [inI,Bool.or_eq_true,Bool.not_eq_true',decide_eq_false_iff_not,bAt,decide_eq_true_eq] at h1⊢;rcases h1 with h1 | h1
  · exact .inl h1
  · exact .inr ⟨h1.1,by omega⟩
theorem qVJ {α β:Type} {f:Nat→α→β} {p:β→Bool} {xs:List α} {k:Nat} (h:∀x∈xs,∀k,p (f k x)=true):(zC f xs k).all p=true:=by
  rw [List.all_eq_true];intro y hy;obtain ⟨x,hx,k,rfl⟩:=V3 hy;exact h x hx k
theorem qVM {α β:Type} {f:Nat→α→β} {g:β→Nat} {q:α→Nat}:∀{xs:List α} {k:Nat},(∀x∈xs,∀k,g (f k x)=q x)→qG g (zC f xs k)=qG q xs
  |[],_,_=>rfl
  | x::xs,k,h=>by
    simp only [zC,qG,h x (by simp) k];rw [qVM (fun y hy=>h y (by simp [hy]))]
@[go_sem] theorem qA.mk_kids {k v:Int} {d:List Int} {ks:List qA}:(qA.mk k v d ks).Kids=ks:=rfl
@[go_sem] theorem qA.mk_data {k v:Int} {d:List Int} {ks:List qA}:(qA.mk k v d ks).Data=d:=rfl
@[go_sem] theorem qA.mk_kind {k v:Int} {d:List Int} {ks:List qA}:(qA.mk k v d ks).Kind=k:=rfl
@[go_sem] theorem qA.mk_value {k v:Int} {d:List Int} {ks:List qA}:(qA.mk k v d ks).Value=v:=rfl
theorem qjB (a:Int):∀(x:qA) (f:Int),(x.shift a f).size=x.size:=qA.ind fun x ih f=>by
  rw [x.shift_eq,qA.size_eq,x.size_eq,qA.mk_kids,qVM (q:=qA.size) (fun y hy k=>ih y hy _)]
theorem qi7 (a:Int):∀(x:qA) (f:Int),x.d4=true→(x.shift a f).d4=true:=qA.ind fun x ih f h=>by
  have h0:=h;rw [x.d4_eq,bAt] at h0;rw [x.shift_eq,qA.d4_eq,qA.mk_data,qA.mk_kids,h0.1,qVJ (fun y hy k=>ih y hy _ (qP6 h hy))];rfl
theorem qRI {arg:qA} (ha:arg.d4=true):∀(x:qA) (d:Int),x.d4=true→(qA.put arg x d).d4=true:=qA.ind fun x ih d h=>by
  have h0:=h;rw [x.d4_eq,bAt] at h0;rw [qA.put_eq];split
  · split
    · exact qi7 _ _ _ ha
    · rw [qA.d4_eq];rfl
  · rw [qA.d4_eq,qA.mk_data,qA.mk_kids,h0.1,qVJ (fun y hy k=>ih y hy _ (qP6 h hy))];rfl
theorem QO {x:qA} (h:x.ok=true) (hk:x.Kind=1):x.Kids=[]:=by
  have h:=w3 h;unfold zo inI at h;simp only [bAt,decide_eq_true_eq] at h;obtain ⟨⟨⟨⟨h1,h2⟩,_⟩,_⟩,_⟩:=h;simp [shp,hk] at h1 h2;exact h2
theorem UK (arg:qA):∀(x:qA) (d:Int),x.ok=true→((qA.put arg x d).size:Int)=x.size+x.count d*((arg.size:Int)-1):=qA.ind fun x ih d h=>by
  rw [qA.put_eq,x.count_eq];by_cases hk:x.Kind=1
  · have hs:x.size=1:=by rw [x.size_eq,QO h hk];rfl
    rw [if_pos hk,if_pos hk,hs];by_cases hv:x.Value=d
    · rw [if_pos hv,if_pos hv,qjB];omega
    · rw [if_neg hv,if_neg hv];have:(qA.mk 1 (wP x.Value d) [] []).size=1:=by rw [qA.size_eq];rfl
      rw [this];omega
  · rw [if_neg hk,if_neg hk,qA.size_eq,x.size_eq,qA.mk_kids];have key:∀(xs:List qA) (k:Nat),(∀y∈xs,y∈x.Kids)→((qG qA.size (zC (fun i y=>qA.put arg y (d+qR x.Kind i)) xs k):Nat):Int)=(qG qA.size xs:Nat)+(z8 (fun i y=>qA.count y (d+qR x.Kind i)) xs k:Nat)*((arg.size:Int)-1):=by
      intro xs
      induction xs with
      | nil=>intro k _;simp [zC,qG,z8]
      | cons a xs ihx=>
        intro k hm;simp only [zC,qG,z8];have h1:=ih a (hm a (by simp)) (d+qR x.Kind k) (qv h (hm a (by simp)));have h2:=ihx (k+1) (fun y hy=>hm y (by simp [hy]));rw [Int.natCast_add,h1,h2,Int.natCast_add,Int.natCast_add,Int.add_mul];omega
    have:=key x.Kids 0 (fun y hy=>hy);rw [Int.natCast_add,this,Int.natCast_add];omega
theorem qA.putall {x:qA} {a b c d:AV}:(AV.agg [a,b,c,d]).put 0 x.enc=some x.enc:=by rw [qA.enc_eq];rfl
def qV:qA:=.mk 0 0 [] []
theorem wo {h:List qC}:Cv h (.agg [.int .i64 0,.int .i64 0,.nils,.nils]) qV.enc:=QE
def jA (body arg:qA):Int:=
  if 400<(body.size:Int)+body.count 0*((arg.size:Int)-1) then 4 else if 80<(qA.put arg body 0).dep then 4 else if 255<(qA.put arg body 0).high then 2 else 0
def jg (body arg:qA):qA:=if jA body arg=0 then qA.put arg body 0 else qV
theorem qVV {x:qA} (h:x.valid=true):wB x 80 400=x.size:=by
  unfold qA.valid at h;simp only [bAt,decide_eq_true_eq] at h;unfold wB;rw [if_pos ⟨h.1.1,by omega,by omega⟩]
theorem zZ {x:qA} (h:x.valid=true):x.ok=true∧x.dep≤80∧x.size≤400∧x.sz≤2000∧x.vb 4294967296=true:=by
  unfold qA.valid at h;simp only [bAt,decide_eq_true_eq] at h;have h1:=qA.sz_d4 x (QN x h.1.1);exact ⟨h.1.1,h.1.2,h.2,by omega,qkC (by omega) x (qg0 x h.1.1)⟩
theorem cv2 {h:List qC} {a b v:AV} (hc:Cv h a v) (hb:b.tree=true):Cv h (.tup [a,b]) (.tup [v,b]):=by
  refine .tup rfl ?_;simp only [List.zip_cons_cons,List.zip_nil_left,List.mem_cons,List.not_mem_nil,or_false];rintro p (rfl | rfl)
  · exact hc
  · exact .refl hb
theorem jq {h:List qC} {a b v:AV} (hc:Cv h (.tup [a,b]) v):Fin (some [a,b]) h v:=by
  unfold Fin;exact hc
theorem VG {x y:qA} (hx:x.valid=true) (hy:y.valid=true):Pure Gm 761 [.ept x.enc 0,.ept y.enc 0] (.tup [(jg x y).enc,.int .i64 (jA x y)]):=by
  refine Pure.intro [] [] g761 (by kernel_rfl) rfl (by simp [AV.trees,AV.tree,go_sem]) (by simp [AV.tree,AV.trees,go_sem]) ?_;simp only [YZ,qL,go_sem];obtain ⟨x1,x2,x3,x4,x5⟩:=zZ hx;obtain ⟨y1,y2,y3,y4,y5⟩:=zZ hy;have hc0:=x.count_size 0;refine qH (qZH x 0 (by omega) (by omega)) ?_;simp only [go_sem];refine qH (c643 x 80 400 (by omega) (by omega) (by omega)) ?_;simp only [go_sem];refine qH (c643 y 80 400 (by omega) (by omega) (by omega)) ?_;simp only [go_sem];rw [qVV hx,qVV hy];have hyp:=y.size_pos;have hP0:0≤(x.count 0:Int)*((y.size:Int)-1):=Int.mul_nonneg (by omega) (by omega);have hP1:(x.count 0:Int)*((y.size:Int)-1)≤400*400:=Int.mul_le_mul (by omega) (by omega) (by omega) (by omega);rw [qj (n:=(y.size:Int)-1) (by omega) (by omega),qj (n:=(x.count 0:Int)*((y.size:Int)-1)) (by omega) (by omega),qj (by omega) (by omega)];have hsz:=UK y x 0 x1;refine qD ?_ ?_<;>intro hc<;>simp only [hc,go_sem]
  · have hi:jA x y=4:=by unfold jA;rw [if_pos (odT hc)]
    refine qK (k:=4) (by rfl) (by rfl) (by exact ⟨_,rfl⟩) (by decide) ?_;simp only [go_sem];rw [jg,hi,if_neg (by decide)];exact jq (cv2 wo rfl)
  have h1:=odF hc;refine qH (qZI x y 0 (by omega) x5 (by omega) (by omega) (by omega) y5) ?_;simp only [go_sem];obtain ⟨o,ho⟩:∃o,o=qA.put y x 0:=⟨_,rfl⟩;have hod:=qRI (QN y y1) x 0 (QN x x1);rw [←ho] at hsz hod⊢;have hos:=qA.sz_d4 o hod;have hoz:=qA.dep_size o;refine z7 (by simp [go_sem]) rfl rfl qA.putall ?_;simp only [go_sem];have cvp:Cv [qC.row 4 [o.enc] true] (.ptr 0 0 0) (.ept o.enc 0):=.ptr rfl (by decide) rfl (.refl (by simp [go_sem]));refine z4 (vs':=[.ept o.enc 0]) (Cvs.cons cvp Cvs.nil) (qS3 o (by omega) (by omega)) rfl ?_;simp only [go_sem];refine qD ?_ ?_<;>intro hc<;>simp only [hc,go_sem]
  · have hi:jA x y=4:=by unfold jA;rw [if_neg h1,←ho,if_pos (by have:=odT hc;omega)]
    refine qK (k:=4) (by rfl) (by rfl) (by exact ⟨_,rfl⟩) (by decide) ?_;simp only [go_sem];rw [jg,hi,if_neg (by decide)];exact jq (cv2 wo rfl)
  have h2:¬80<o.dep:=by have:=odF hc;omega
  refine z4 (vs':=[.ept o.enc 0]) (Cvs.cons cvp Cvs.nil) (qZJ o (by omega)) rfl ?_;simp only [go_sem];refine qD ?_ ?_<;>intro hc<;>simp only [hc,go_sem]
  · have hi:jA x y=2:=by unfold jA;rw [if_neg h1,←ho,if_neg h2,if_pos (odT hc)]
    refine qK (k:=4) (by rfl) (by rfl) (by exact ⟨_,rfl⟩) (by decide) ?_;simp only [go_sem];rw [jg,hi,if_neg (by decide)];exact jq (cv2 wo rfl)
  · have hi:jA x y=0:=by unfold jA;rw [if_neg h1,←ho,if_neg h2,if_neg (odF hc)]
    simp only [go_sem,List.nil_append,List.cons_append,List.set_cons_zero,List.set_cons_succ];refine qK (k:=4) (by rfl) (by simp [go_sem]) (qA.isAgg _) (by decide) ?_;simp only [go_sem];rw [jg,hi,if_pos rfl,←ho];exact jq (cv2 (.refl (by simp [go_sem])) rfl)
end Go.Ab
namespace Go.Ab
open Go
set_option maxRecDepth 10000
set_option maxHeartbeats 2000000
def w32 (x:Int):Int:=IntKind.i64.wrap (IntKind.i32.wrap (IntKind.u32.wrap (IntKind.u64.wrap x)))
def opI (k a b:Int):Int:=
  if k=1 then w32 (IntKind.i64.wrap (w32 a+w32 b)) else if k=2 then w32 (IntKind.i64.wrap (w32 a-w32 b)) else if k=3 then w32 (IntKind.i64.wrap (w32 a*w32 b))
  else if k=4 then (if w32 b=0 then 0 else w32 (IntKind.i64.wrap ((w32 a).tdiv (w32 b)))) else if k=5 then (if w32 a<w32 b then 1 else 0) else if k=6 then (if w32 a=w32 b then 1 else 0) else 0
def zP (f a:qA):qA:=.mk 5 0 [] [f,a]
def wH (d:Int) (as:List qA):qA:=as.foldl zP (.mk 11 d [] [])
attribute [local simp] qr
section
variable {e:Env} {w i:Nat} {el:List AV} {v:AV} {x:Ao} {r:List (Nat×Ao)}
@[go_sem] theorem zEI {a b:AV} (h:v.cells.length=w):fil e w [a,b] 0 (some v) r=zn e w [v,b] r:=by
  show (if v.cells.length=w∧0<2 then _ else _)=_;rw [if_pos ⟨h,by omega⟩];rfl
@[go_sem] theorem zEJ {a b:AV} (h:v.cells.length=w):fil e w [a,b] 1 (some v) r=zn e w [a,v] r:=by
  show (if v.cells.length=w∧1<2 then _ else _)=_;rw [if_pos ⟨h,by omega⟩];rfl
@[go_sem] theorem rep2 {v:AV}:List.replicate 2 v=[v,v]:=nr rfl
end
theorem Qr {x:Int}:Pure Gm 1125 [.int .i64 x] (.int .i64 (w32 x)):=by
  refine Pure.intro [] [] qcG (by kernel_rfl) rfl (by simp [AV.trees,AV.tree,go_sem]) rfl ?_;simp only [XE,qL,go_sem];exact qM rfl rfl
theorem qS4 {b:Bool}:Pure Gm 1126 [.bool b] (.int .i64 (if b then 1 else 0)):=by
  refine Pure.intro [] [] qcH (by kernel_rfl) rfl (by simp [AV.trees,AV.tree,go_sem]) rfl ?_;simp only [XF,qL,go_sem];refine qD ?_ ?_<;>intro hc<;>simp only [hc,go_sem]
  · exact qM rfl rfl
  · exact qM rfl rfl
theorem c762 {k a b:Int}:Pure Gm 762 [.int .i64 k,.int .i64 a,.int .i64 b] (.int .i64 (opI k a b)):=by
  refine Pure.intro [] [] g762 (by kernel_rfl) rfl (by simp [AV.trees,AV.tree,go_sem]) rfl ?_;simp only [Ya,qL,go_sem];refine qH Qr ?_;simp only [go_sem];refine qH Qr ?_;simp only [go_sem];unfold opI;refine qD ?_ ?_<;>intro hc<;>simp only [hc,go_sem]
  · rw [if_pos (odT hc)];refine qH Qr ?_;simp only [go_sem];exact qM rfl rfl
  rw [if_neg (odF hc)];refine qD ?_ ?_<;>intro hc<;>simp only [hc,go_sem]
  · rw [if_pos (odT hc)];refine qH Qr ?_;simp only [go_sem];exact qM rfl rfl
  rw [if_neg (odF hc)];refine qD ?_ ?_<;>intro hc<;>simp only [hc,go_sem]
  · rw [if_pos (odT hc)];refine qH Qr ?_;simp only [go_sem];exact qM rfl rfl
  rw [if_neg (odF hc)];refine qD ?_ ?_<;>intro hc<;>simp only [hc,go_sem]
  · rw [if_pos (odT hc)];refine qD ?_ ?_<;>intro hc<;>simp only [hc,go_sem]
    · rw [if_pos (odT hc)];exact qM rfl rfl
    rw [if_neg (odF hc)];have hq:=odF hc;simp only [if_neg hq,go_sem];refine qH Qr ?_;simp only [go_sem];exact qM rfl rfl
  rw [if_neg (odF hc)];refine qD ?_ ?_<;>intro hc<;>simp only [hc,go_sem]
  · rw [if_pos (odT hc)];refine qH qS4 ?_;simp only [go_sem];exact qM rfl (by simp)
  rw [if_neg (odF hc)];refine qD ?_ ?_<;>intro hc<;>simp only [hc,go_sem]
  · rw [if_pos (odT hc)];refine qH qS4 ?_;simp only [go_sem];exact qM rfl (by simp)
  rw [if_neg (odF hc)];exact qM rfl rfl
theorem c381 {x:Int}:Pure Gm 381 [.int .i64 x] ((qA.mk 2 x [] []).enc):=by
  refine Pure.intro [] [] g381 (by kernel_rfl) rfl (by simp [AV.trees,AV.tree,go_sem]) (by simp [go_sem]) ?_;simp only [X1,qL,go_sem];refine qK (k:=4) (by rfl) (by rfl) (by exact ⟨_,rfl⟩) (by decide) ?_;simp only [go_sem];exact zH QE
theorem Qs {x:Int}:Pure Gm 1127 [.int .i64 x] ((qA.mk 11 x [] []).enc):=by
  refine Pure.intro [] [] qcI (by kernel_rfl) rfl (by simp [AV.trees,AV.tree,go_sem]) (by simp [go_sem]) ?_;simp only [XG,qL,go_sem];refine qK (k:=4) (by rfl) (by rfl) (by exact ⟨_,rfl⟩) (by decide) ?_;simp only [go_sem];exact zH QE
theorem c382 {k v:Int} {ks:List qA}:Pure Gm 382 [.int .i64 k,.int .i64 v,.lst 4 (ks.map qA.enc) false] ((qA.mk k v [] ks).enc):=by
  refine Pure.intro [] [] g382 (by kernel_rfl) rfl (by simp [AV.trees,AV.tree,go_sem]) (by simp [go_sem]) ?_;simp only [X2,qL,go_sem];refine qK (k:=4) (by rfl) (by simp [AV.tree,AV.trees,go_sem]) (by exact ⟨_,rfl⟩) (by decide) ?_;simp only [go_sem];exact zH (VO .nils (.refl (by simp [AV.tree,go_sem])))
theorem VE {f a:qA}:Pure Gm 1117 [f.enc,a.enc] ((zP f a).enc):=by
  refine Pure.intro [] [] qb8 (by kernel_rfl) rfl (by simp [AV.trees,AV.tree,go_sem]) (by simp [go_sem]) ?_;simp only [W6,qL,go_sem];refine qc qA.ln ?_;simp only [go_sem];refine qc qA.ln ?_;simp only [go_sem];have hc:Cv (only [0] [qC.row 4 [f.enc,a.enc] true]) (.slice 4 0 0 2 false) (.lst 4 ([f,a].map qA.enc) false):=Cv.row rfl rfl (qr _) (by decide);refine VH [0] (Cvs.cons (.refl rfl) (Cvs.cons (.refl rfl) (Cvs.cons hc Cvs.nil))) c382 ?_;simp only [go_sem];refine qK (k:=4) (by rfl) (by simp [go_sem]) (qA.isAgg _) (by decide) ?_;simp only [go_sem];exact zH (.refl (by simp [go_sem]))
def qX (x:qA):Int:=match x.Kids with
  |[]=>0
  | y::ys=>
    if x.Kind=5 then (if y.Kind=4 then 1 else if y.Kind=11 then 4 else 0)
    else if x.Kind=3 then (if y.Kind=11 then 4 else if y.Kind=2 then (match ys with | z::_=>if z.Kind=2 then 2 else if z.Kind=11 then 4 else 0 |[]=>0) else 0)
    else if x.Kind=9 then (if y.Kind=8∧y.Value<(x.Data.length:Nat) then 3 else if y.Kind=11 then 4 else 0)
    else if x.Kind=10 then (if y.Kind=2 then 3 else if y.Kind=11 then 4 else 0) else 0
theorem zi {α:Type} {xs:List α} (h:xs.length=1):∃a,xs=[a]:=by
  match xs,h with
  |[a],_=>exact ⟨a,rfl⟩
theorem ze {α:Type} {xs:List α} (h:xs.length=2):∃a b,xs=[a,b]:=by
  match xs,h with
  |[a,b],_=>exact ⟨a,b,rfl⟩
def zj (x:qA):Int:=match x.Kids with
  |[]=>0
  | y::_=>if x.Kind=10 then (if y.Value=0 then x.Data.getD 1 0 else x.Data.getD 0 0) else x.Data.getD y.Value.toNat 0
theorem ZU {x:qA} (h5:¬x.Kind=5) (h3:¬x.Kind=3) (h9:¬x.Kind=9) (h10:¬x.Kind=10):qX x=0:=by
  unfold qX;split
  · rfl
  · rw [if_neg h5,if_neg h3,if_neg h9,if_neg h10]
theorem c760 {x:qA} (ho:x.ok=true) (hz:x.sz≤1048576):Pure Gm 760 [.ept x.enc 0] (.int .i64 (qX x)):=by
  refine Pure.intro [] [] g760 (by kernel_rfl) rfl (by simp [AV.trees,AV.tree,go_sem]) rfl ?_;simp only [YY,qL,go_sem];have hd:x.Data.length<9223372036854775808:=by have:=x.sz_eq;omega
  refine qD ?_ ?_<;>intro hc<;>simp only [hc,go_sem]
  · have h5:=odT hc;obtain ⟨a,b,hK⟩:=ze ((qu ho).1 (by omega));simp only [hK,List.map_cons,List.map_nil,Option.map_some,go_sem];have hr:qX x=if a.Kind=4 then 1 else if a.Kind=11 then 4 else 0:=by unfold qX;rw [hK];simp only [];rw [if_pos h5]
    rw [hr];refine qD ?_ ?_<;>intro hc<;>simp only [hc,go_sem]
    · exact qM rfl (by rw [if_pos (odT hc)])
    rw [if_neg (odF hc)];refine qD ?_ ?_<;>intro hc<;>simp only [hc,go_sem]
    · exact qM rfl (by rw [if_pos (odT hc)])
    · exact qM rfl (by rw [if_neg (odF hc)])
  have h5:=odF hc;refine qD ?_ ?_<;>intro hc<;>simp only [hc,go_sem]
  · have h3:=odT hc;obtain ⟨a,b,hK⟩:=ze ((qu ho).1 (by omega));simp only [hK,List.map_cons,List.map_nil,Option.map_some,go_sem];have hr:qX x=if a.Kind=11 then 4 else if a.Kind=2 then (if b.Kind=2 then 2 else if b.Kind=11 then 4 else 0) else 0:=by unfold qX;rw [hK];simp only [];rw [if_neg h5,if_pos h3]
    rw [hr];refine qD ?_ ?_<;>intro hc<;>simp only [hc,go_sem]
    · exact qM rfl (by rw [if_pos (odT hc)])
    rw [if_neg (odF hc)];simp only [hK,List.map_cons,List.map_nil,Option.map_some,go_sem];refine qD ?_ ?_<;>intro hc<;>simp only [hc,hK,List.map_cons,List.map_nil,Option.map_some,go_sem]
    · rw [if_pos (odT hc)];refine qD ?_ ?_<;>intro hc<;>simp only [hc,go_sem]
      · exact qM rfl (by rw [if_pos (odT hc)])
      rw [if_neg (odF hc)];refine qD ?_ ?_<;>intro hc<;>simp only [hc,go_sem]
      · exact qM rfl (by rw [if_pos (odT hc)])
      · exact qM rfl (by rw [if_neg (odF hc)])
    · exact qM rfl (by rw [if_neg (odF hc)])
  have h3:=odF hc;refine qD ?_ ?_<;>intro hc<;>simp only [hc,go_sem]
  · have h9:=odT hc;obtain ⟨a,hK⟩:=zi ((qu ho).2 (by omega));simp only [hK,List.map_cons,List.map_nil,Option.map_some,go_sem];have hr:qX x=if a.Kind=8∧a.Value<(x.Data.length:Nat) then 3 else if a.Kind=11 then 4 else 0:=by unfold qX;rw [hK];simp only [];rw [if_neg h5,if_neg h3,if_pos h9]
    rw [hr];refine qY ?_ ?_<;>intro hc<;>simp only [hc,hK,List.map_cons,List.map_nil,Option.map_some,go_sem]
    · have h8:=odT hc;refine qD ?_ ?_<;>intro hc<;>simp only [hc,hK,List.map_cons,List.map_nil,Option.map_some,go_sem]
      · exact qM rfl (by rw [if_pos ⟨h8,odT hc⟩])
      have hv:=odF hc;rw [if_neg (fun h=>hv h.2)];refine qD ?_ ?_<;>intro hc<;>simp only [hc,hK,List.map_cons,List.map_nil,Option.map_some,go_sem]
      · exact qM rfl (by rw [if_pos (odT hc)])
      · exact qM rfl (by rw [if_neg (odF hc)])
    · have h8:=odF hc;rw [if_neg (fun h=>h8 h.1)];refine qD ?_ ?_<;>intro hc<;>simp only [hc,hK,List.map_cons,List.map_nil,Option.map_some,go_sem]
      · exact qM rfl (by rw [if_pos (odT hc)])
      · exact qM rfl (by rw [if_neg (odF hc)])
  have h9:=odF hc;refine qD ?_ ?_<;>intro hc<;>simp only [hc,go_sem]
  · have h10:=odT hc;obtain ⟨a,hK⟩:=zi ((qu ho).2 (by omega));simp only [hK,List.map_cons,List.map_nil,Option.map_some,go_sem];have hr:qX x=if a.Kind=2 then 3 else if a.Kind=11 then 4 else 0:=by unfold qX;rw [hK];simp only [];rw [if_neg h5,if_neg h3,if_neg h9,if_pos h10]
    rw [hr];refine qD ?_ ?_<;>intro hc<;>simp only [hc,go_sem]
    · exact qM rfl (by rw [if_pos (odT hc)])
    rw [if_neg (odF hc)];refine qD ?_ ?_<;>intro hc<;>simp only [hc,go_sem]
    · exact qM rfl (by rw [if_pos (odT hc)])
    · exact qM rfl (by rw [if_neg (odF hc)])
  have h10:=odF hc;exact qM rfl (by rw [ZU h5 h3 h9 h10])
theorem qA.putcore {x y:qA}:x.enc.put 0 y.enc=some y.enc:=by rw [x.enc_eq,y.enc_eq];rfl
theorem UD {x:qA} (h:x.ok=true):jj x.Kind x.Value=true:=by
  have h:=w3 h;unfold zo at h;simp only [bAt] at h;exact h.1.2
theorem ZT {x:qA} (ho:x.ok=true) (h:qX x=3):∃y,x.Kids=[y]∧((x.Kind=9∧y.Kind=8∧0≤y.Value∧y.Value<(x.Data.length:Nat))∨(x.Kind=10∧y.Kind=2∧x.Data.length=2)):=by
  have hn:=w3 ho;unfold zo inI at hn;simp only [bAt,decide_eq_true_eq] at hn;obtain ⟨⟨⟨⟨_,_⟩,h3,h4⟩,_⟩,_⟩:=hn;unfold qX at h;split at h
  · cases h
  rename_i y ys hK;have hy:y.ok=true:=qv ho (by rw [hK];simp);have hv:=UD hy;split at h
  · repeat' split at h
    all_goals cases h
  split at h
  · repeat' split at h
    all_goals cases h
  split at h
  · rename_i h9;obtain ⟨a,hK'⟩:=zi ((qu ho).2 (by omega));rw [hK'] at hK;cases hK;refine ⟨y,hK',.inl ?_⟩;split at h
    · rename_i h8;refine ⟨h9,h8.1, ?_,h8.2⟩;unfold jj inI at hv;simp [h8.1] at hv;exact hv.1
    · split at h<;>cases h
  split at h
  · rename_i h10;obtain ⟨a,hK'⟩:=zi ((qu ho).2 (by omega));rw [hK'] at hK;cases hK;refine ⟨y,hK',.inr ?_⟩;split at h
    · rename_i h8;refine ⟨h10,h8, ?_⟩;simp [shp,h10] at h3 h4;omega
    · split at h<;>cases h
  · cases h
theorem c763 {x:qA} {as:List qA} (ho:x.ok=true) (hr:qX x=3) (hz:x.sz≤1048576) (hn:as.length≤1048576) (ha:x.Kind=10→as=[]):Pure Gm 763 [.ept x.enc 0,.lst 4 (as.map qA.enc) false] ((wH (zj x) as).enc):=by
  refine Pure.intro [] [] g763 (by kernel_rfl) rfl (by simp [AV.trees,AV.tree,go_sem]) (by simp [go_sem]) ?_;simp only [Zp,qL,go_sem];have hd:x.Data.length<9223372036854775808:=by have:=x.sz_eq;omega
  have hL:=x.len_sz;obtain ⟨y,hK,h9 | h10⟩:=ZT ho hr
  · refine qD ?_ ?_<;>intro hc<;>simp only [hc,go_sem]
    · have:=odT hc;omega
    obtain ⟨n,hV⟩:∃n:Nat,y.Value=n:=⟨y.Value.toNat,by omega⟩;have hlt:n<x.Data.length:=by omega
    have hrd:zj x=x.Data[n]:=by
      unfold zj;rw [hK];simp only [];rw [if_neg (by omega),hV];simp [hlt]
    replace hK:=And.intro hK hV;simp only [hK,List.map_cons,List.map_nil,Option.map_some,go_sem];simp only [List.getElem?_map,gEg hlt,Option.map_some,go_sem];simp only [qE,go_sem];refine qH Qs ?_;simp only [go_sem];refine qK (k:=4) (by rfl) (by simp [go_sem]) (qA.isAgg _) (by decide) ?_;simp only [go_sem];refine Sem.loop (fun i:Nat=>i≤as.length∧True) (fun i=>(⟨[(0,.ept x.enc 0),(1,.lst 4 (as.map qA.enc) false),(6,.int .i64 (i:Nat))],[(5,((as.take i).foldl zP (.mk 11 x.Data[n] [] [])).enc),(4,.agg [.int .i64 0,.int .i64 0,.nils,.nils])],[]⟩:VSt)) (fun i=>as.length-i) 0 (by kernel_rfl) ⟨Nat.zero_le _,trivial⟩ (Can.sub (by simp [go_sem]) (by simp [go_sem])) ?_;rintro i ⟨hi,hI⟩;simp only [go_sem];refine qD ?_ ?_<;>intro hc<;>simp only [hc,go_sem]
    · have hlt:i<as.length:=by have:=odT hc;omega
      simp only [List.getElem?_map,gEg hlt,Option.map_some,go_sem];refine qH VE ?_;simp only [go_sem];refine Jr qA.ln qA.putcore ?_;simp only [go_sem];simp only [qe (show i<4611686018427387904 by omega)];refine qZ (i+1) ⟨by omega,trivial⟩ (by omega) (Can.sub (by simp [go_sem]) ?_);rw [List.take_succ_eq_append_getElem hlt,List.foldl_append];simp [go_sem]
    · obtain rfl:i=as.length:=by have:=odF hc;omega
      rw [List.take_length];refine qK (k:=4) (by rfl) (by simp [go_sem]) (qA.isAgg _) (by decide) ?_;simp only [go_sem];rw [hrd];exact zH (.refl (by simp [go_sem]))
  · obtain ⟨d,e,hD⟩:=ze h10.2.2;have hrd:zj x=if y.Value=0 then e else d:=by
      unfold zj;rw [hK];simp only [];rw [if_pos h10.1,hD];rfl
    refine qD ?_ ?_<;>intro hc<;>simp only [hc,go_sem]
    · replace hK:=And.intro hK hD;simp only [hK,List.map_cons,List.map_nil,Option.map_some,go_sem];rw [ha h10.1,hrd];refine qD ?_ ?_<;>intro hc<;>simp only [hc,hK,List.map_cons,List.map_nil,Option.map_some,go_sem]
      · simp only [qE,go_sem];refine qH Qs ?_;simp only [go_sem];refine qK (k:=4) (by rfl) (by simp [go_sem]) (qA.isAgg _) (by decide) ?_;simp only [go_sem];rw [if_neg (by simpa using hc)];exact zH (.refl (by simp [go_sem]))
      · simp only [qE,go_sem];refine qH Qs ?_;simp only [go_sem];refine qK (k:=4) (by rfl) (by simp [go_sem]) (qA.isAgg _) (by decide) ?_;simp only [go_sem];rw [if_pos (by simpa using hc)];exact zH (.refl (by simp [go_sem]))
    · exact absurd h10.1 (odF hc)
end Go.Ab
namespace Go.Ab
open Go
set_option maxRecDepth 10000
set_option maxHeartbeats 2000000
attribute [local simp] qr qa
def z6 (b:qF) (R:List Int) (lim:Int):AV:=.agg [.ept b.enc 0,.lst 1 (R.map qE) false,.int .i64 lim]
@[go_sem] theorem zD6 {b:qF} {R:List Int} {lim:Int}:(z6 b R lim).part 0 none=some (.ept b.enc 0):=nr rfl
@[go_sem] theorem zD7 {b:qF} {R:List Int} {lim:Int}:(z6 b R lim).part 1 none=some (.lst 1 (R.map qE) false):=nr rfl
@[go_sem] theorem zD8 {b:qF} {R:List Int} {lim:Int}:(z6 b R lim).part 2 none=some (.int .i64 lim):=nr rfl
@[go_sem] theorem qbG {b:qF} {R:List Int} {lim:Int}:(z6 b R lim).tree=true:=by simp [z6,AV.tree,AV.trees,go_sem]
def wT (b:qF) (R:List Int) (lim:Int) (x:qA) (l:Int):Bool:=match x.Kids with
  |[]=>false
  | y::_=>decide (y.Kind=11)&&match b.Defs[y.Value.toNat]? with
    | none=>false
    | some d=>decide (d.Kind=4)&& !(R.any fun k=>decide (k=y.Value))&&decide ((d.size:Int)≤lim)&&decide (l+d.boxes≤8)
theorem qUQ {b:qF} {R:List Int} {lim l:Int} {x y:qA} {ys:List qA} {n:Nat} (hK:x.Kids=y::ys) (h11:y.Kind=11) (hV:y.Value=n) (hlt:n<b.Defs.length):
    wT b R lim x l=(decide (b.Defs[n].Kind=4)&& !(R.any fun k=>decide (k=y.Value))&&decide ((b.Defs[n].size:Int)≤lim)&&decide (l+b.Defs[n].boxes≤8)):=by
  unfold wT;rw [hK];simp only [];have:y.Value.toNat=n:=by omega
  rw [this,gEg hlt,h11];rfl
theorem qS7 {b:qF} {R:List Int} {lim l:Int} {x y:qA} {ys:List qA} (hK:x.Kids=y::ys) (hv:y.Kind=11→0≤y.Value∧y.Value<(b.Defs.length:Nat)) (hz:b.sz≤1048576) (hd:∀d∈b.Defs,d.dep≤1048576) (hR:R.length≤4194304) (hl:0≤l∧l≤1048576):Pure Gm 1408 [.ept (z6 b R lim) 0,.ept x.enc 0,.int .i64 l] (.bool (wT b R lim x l)):=by
  refine Pure.intro [] [] qdD (by kernel_rfl) rfl (by simp [AV.trees,AV.tree,go_sem]) rfl ?_;simp only [Xl,qL,go_sem];have hz':b.Defs.length+qG qA.sz b.Defs≤1048576:=hz;simp only [hK,List.map_cons,List.map_nil,Option.map_some,go_sem];refine qD ?_ ?_<;>intro hc<;>simp only [hc,hK,List.map_cons,List.map_nil,Option.map_some,go_sem]
  · exact qM rfl (by unfold wT;rw [hK];simp only [];simp at hc;simp [hc])
  have h11:y.Kind=11:=by simpa using hc
  obtain ⟨n,hV⟩:∃n:Nat,y.Value=n:=⟨y.Value.toNat,by have:=hv h11;omega⟩;have hlt:n<b.Defs.length:=by have:=hv h11;omega
  have hm:=gMm hlt;have hdz:=zV (f:=qA.sz) hm;have hdd:=hd _ hm;have hr:=qUQ (R:=R) (lim:=lim) (l:=l) hK h11 hV hlt;rw [hr];replace hK:=And.intro hK hV;simp only [hK,List.map_cons,List.map_nil,Option.map_some,go_sem];simp only [List.getElem?_map,gEg hlt,Option.map_some,go_sem];refine qY ?_ ?_<;>intro hc<;>simp only [hc,go_sem];rotate_left
  · exact qM rfl (by simp)
  refine qH (qPW hR) ?_;simp only [go_sem];refine qY ?_ ?_<;>intro hc<;>simp only [hc,go_sem];rotate_left
  · exact qM rfl (by simp)
  have hbd:=b.Defs[n].boxes_dep;refine qH (qZ3 b.Defs[n] (by omega)) ?_;simp only [go_sem];refine qY ?_ ?_<;>intro hc<;>simp only [hc,go_sem];rotate_left
  · exact qM rfl (by simp)
  refine qH (qZ4 b.Defs[n] (by omega) hdd) ?_;simp only [go_sem];rw [qj (by omega) (by omega)];exact qM rfl (by simp)
def zA (a:qA):qA:=a.Kids.headD qV
def qn (a:qA) (L:List Int) (l:Int):qA×Int:=
  if L.length=0 then (a,0) else if a.Kind=2 then (a,0) else if a.Kind=6∧(zA a).Kind=2 then (zA a,0)
  else if L.length=1∧L.head?=some l then (a,0) else if L.length=1∧a.Kind=6 then (zA a,0) else (qV,3)
def zB (x:qA) (l:Int):qA×Int:=match x.Kids with
  | a::c::_=>qn a (c.levels 0 l) l
  | _=>(qV,3)
@[go_sem] theorem zG5 {w id:Nat} {cl:Bool} {k:IntKind}:idx w (some (.slice w id 0 1 cl)) (some (.int k 0))=some (.ptr id 0 0):=WI (by omega) (by omega)
theorem wi {h:List qC} {x y:qA×Int} (e:y=x):Fin (some [x.1.enc,.int .i64 x.2]) h (.tup [y.1.enc,.int .i64 y.2]):=by
  subst e;exact jq (cv2 (.refl (by simp [go_sem])) rfl)
theorem qZ0 {b:qF} {R:List Int} {lim:Int} {x a c:qA} {ks:List qA} {l:Int} (hK:x.Kids=a::c::ks) (ha:a.Kind=6→∃k kl,a.Kids=k::kl) (hz:x.sz≤1048576) (hq:x.size≤1048576) (hd:x.dep≤1048576) (hl:0≤l∧l≤1048576):Pure Gm 1409 [.ept (z6 b R lim) 0,.ept x.enc 0,.int .i64 l] (.tup [(zB x l).1.enc,.int .i64 (zB x l).2]):=by
  refine Pure.intro [] [] qUJ (by kernel_rfl) rfl (by simp [AV.trees,AV.tree,go_sem]) (by simp [AV.tree,AV.trees,go_sem]) ?_;simp only [Zn,qL,go_sem];have hcm:c∈x.Kids:=by rw [hK];simp
  have hcz:=qA.kid_sz hcm;have hcd:=qA.dep_kid hcm;have hcs:=zV (f:=qA.size) hcm;have hxs:=x.size_eq;have hll:=qA.levels_len c 0 l;have hr:zB x l=qn a (c.levels 0 l) l:=by unfold zB;rw [hK]
  rw [hr];simp only [hK,List.map_cons,List.map_nil,Option.map_some,go_sem];have hacc:=Y4 c 0 l [] (by omega) (by omega) (by omega) (by simp;omega);rw [List.nil_append] at hacc;obtain ⟨L,hL⟩:∃L,L=c.levels 0 l:=⟨_,rfl⟩;rw [←hL] at hll hacc hr⊢;refine JM hacc rfl ?_;intro h' id' hG;simp only [go_sem];refine qY ?_ ?_<;>intro hc<;>simp only [hc,go_sem];rotate_left
  · refine qK (k:=4) (by rfl) (by simp [go_sem]) (qA.isAgg _) (by decide) ?_;simp only [go_sem];exact wi (x:=(a,0)) (by unfold qn;rw [if_pos (by simp at hc;simp [hc])])
  have h0:¬L.length=0:=by have:=odF hc;omega
  refine qD ?_ ?_<;>intro hc<;>simp only [hc,go_sem]
  · refine qK (k:=4) (by rfl) (by simp [go_sem]) (qA.isAgg _) (by decide) ?_;simp only [go_sem];exact wi (x:=(a,0)) (by unfold qn;rw [if_neg h0,if_pos (odT hc)])
  have h2:=odF hc;by_cases h6:a.Kind=6
  · obtain ⟨k,kl,hk⟩:=ha h6;have hk0:zA a=k:=by unfold zA;rw [hk];rfl
    replace hK:=And.intro hK hk;refine qY ?_ ?_<;>intro hc<;>simp only [hc,go_sem];rotate_left
    · exact absurd h6 (by simpa using hc)
    simp only [hK,List.map_cons,List.map_nil,Option.map_some,go_sem];refine qD ?_ ?_<;>intro hc<;>simp only [hc,hK,List.map_cons,List.map_nil,Option.map_some,go_sem]
    · refine qK (k:=4) (by rfl) (by simp [go_sem]) (qA.isAgg _) (by decide) ?_;simp only [go_sem];exact wi (x:=(k,0)) (by unfold qn;rw [if_neg h0,if_neg h2,hk0,if_pos ⟨h6,odT hc⟩])
    have h7:¬(a.Kind=6∧(zA a).Kind=2):=by rw [hk0];exact fun h=>odF hc h.2
    refine qY ?_ ?_<;>intro hc<;>simp only [hc,go_sem];rotate_left
    · have h1:¬L.length=1:=by simp at hc;omega
      refine qK (k:=4) (by rfl) (by rfl) (by exact ⟨_,rfl⟩) (by decide) ?_;simp only [go_sem];have e:qn a L l=(qV,3):=by unfold qn;rw [if_neg h0,if_neg h2,if_neg h7,if_neg (fun h=>h1 h.1),if_neg (fun h=>h1 h.1)]
      rw [e];exact jq (cv2 wo rfl)
    have h1:=odT hc;obtain ⟨n,rfl⟩:∃n,L=[n]:=zi (by omega);simp only [go_sem];rw [hG.at'];simp only [List.map_cons,List.map_nil,qE,go_sem];refine qD ?_ ?_<;>intro hc<;>simp only [hc,go_sem]
    · refine qK (k:=4) (by rfl) (by simp [go_sem]) (qA.isAgg _) (by decide) ?_;simp only [go_sem];exact wi (x:=(a,0)) (by unfold qn;rw [if_neg h0,if_neg h2,if_neg h7,if_pos ⟨rfl,by rw [odT hc];rfl⟩])
    have h8:¬([n].length=1∧[n].head?=some l):=by rintro ⟨_,h⟩;simp at h;exact odF hc h
    refine qY ?_ ?_<;>intro hc<;>simp only [hc,go_sem];rotate_left
    · exact absurd hc (by simp)
    refine qD ?_ ?_<;>intro hc<;>simp only [hc,hK,List.map_cons,List.map_nil,Option.map_some,go_sem]
    · refine qK (k:=4) (by rfl) (by simp [go_sem]) (qA.isAgg _) (by decide) ?_;simp only [go_sem];exact wi (x:=(k,0)) (by unfold qn;rw [if_neg h0,if_neg h2,if_neg h7,if_neg h8,if_pos ⟨rfl,h6⟩,hk0])
    · exact absurd h6 (odF hc)
  · refine qY ?_ ?_<;>intro hc<;>simp only [hc,go_sem]
    · exact absurd (odT hc) h6
    have h7:¬(a.Kind=6∧(zA a).Kind=2):=fun h=>h6 h.1;refine qY ?_ ?_<;>intro hc<;>simp only [hc,go_sem];rotate_left
    · have h1:¬L.length=1:=by simp at hc;omega
      refine qK (k:=4) (by rfl) (by rfl) (by exact ⟨_,rfl⟩) (by decide) ?_;simp only [go_sem];have e:qn a L l=(qV,3):=by unfold qn;rw [if_neg h0,if_neg h2,if_neg h7,if_neg (fun h=>h1 h.1),if_neg (fun h=>h1 h.1)]
      rw [e];exact jq (cv2 wo rfl)
    have h1:=odT hc;obtain ⟨n,rfl⟩:∃n,L=[n]:=zi (by omega);simp only [go_sem];rw [hG.at'];simp only [List.map_cons,List.map_nil,qE,go_sem];refine qD ?_ ?_<;>intro hc<;>simp only [hc,go_sem]
    · refine qK (k:=4) (by rfl) (by simp [go_sem]) (qA.isAgg _) (by decide) ?_;simp only [go_sem];exact wi (x:=(a,0)) (by unfold qn;rw [if_neg h0,if_neg h2,if_neg h7,if_pos ⟨rfl,by rw [odT hc];rfl⟩])
    have h8:¬([n].length=1∧[n].head?=some l):=by rintro ⟨_,h⟩;simp at h;exact odF hc h
    refine qY ?_ ?_<;>intro hc<;>simp only [hc,go_sem];rotate_left
    · exact absurd hc (by simp)
    refine qD ?_ ?_<;>intro hc<;>simp only [hc,go_sem]
    · exact absurd (odT hc) h6
    refine qK (k:=4) (by rfl) (by rfl) (by exact ⟨_,rfl⟩) (by decide) ?_;simp only [go_sem];have e:qn a [n] l=(qV,3):=by unfold qn;rw [if_neg h0,if_neg h2,if_neg h7,if_neg h8,if_neg (fun h=>h6 h.2)]
    rw [e];exact jq (cv2 wo rfl)
end Go.Ab
namespace Go.Ab
open Go
set_option maxRecDepth 10000
set_option maxHeartbeats 2000000
attribute [local simp] qr qa
theorem zd {x y:qA} (h:x.valid=true) (hm:y∈x.Kids):y.valid=true:=by
  obtain ⟨h1,h2,h3,_,_⟩:=zZ h;have hd:=qA.dep_kid hm;have hs:=zV (f:=qA.size) hm;have hx:=x.size_eq;unfold qA.valid;simp only [bAt,decide_eq_true_eq];exact ⟨⟨qv h1 hm,by omega⟩,by omega⟩
theorem jy {n:Int} {x y:qA} (h:x.refs n=true) (hm:y∈x.Kids):y.refs n=true:=by
  rw [qA.refs_eq,bAt,List.all_eq_true] at h;exact h.2 y hm
theorem ZV {n:Int} {x:qA} (ho:x.ok=true) (h:x.refs n=true) (h11:x.Kind=11):0≤x.Value∧x.Value<n:=by
  rw [qA.refs_eq,bAt,bAt] at h;have h1:=h.1.1;have hv:=UD ho;unfold jj inI at hv;simp [h11] at h1 hv;omega
theorem WW {x:qA} (h:x.ok=true) (hk:x.Kind=2):x.Kids=[]:=by
  have h:=w3 h;unfold zo inI at h;simp only [bAt,decide_eq_true_eq] at h;obtain ⟨⟨⟨⟨h1,h2⟩,_⟩,_⟩,_⟩:=h;simp [shp,hk] at h1 h2;exact h2
theorem Qe {b:qF} (hb:b.ok=true):b.Defs.length≤24∧∀d∈b.Defs,d.valid=true∧d.refs b.Defs.length=true∧d.dep≤80:=by
  refine ⟨(QD hb).2,fun d hd=> ?_⟩;obtain ⟨h1,h2⟩:=Jj hb hd;have h3:=(Qw h1).2.1;unfold qA.closed at h1;simp only [bAt] at h1;exact ⟨h1.1,h2,h3⟩
theorem Vy {a:qA} {L:List Int} {l:Int} (hv:a.valid=true) (h:(qn a L l).2=0):(qn a L l).1.valid=true:=by
  have hk:a.Kind=6→(zA a).valid=true:=fun h6=>by
    obtain ⟨k,hk⟩:=zi ((qu (zZ hv).1).2 (by omega));have:zA a=k:=by unfold zA;rw [hk];rfl
    rw [this];exact zd hv (by rw [hk];simp)
  unfold qn at h⊢;split
  · exact hv
  split
  · exact hv
  split
  · rename_i h6;exact hk h6.1
  split
  · exact hv
  split
  · rename_i h6;exact hk h6.2
  · rw [if_neg (by assumption),if_neg (by assumption),if_neg (by assumption),if_neg (by assumption),if_neg (by assumption)] at h;cases h
abbrev j5:=qA×Int×Int
def jQ (r:j5):AV:=.tup [r.1.enc,.int .i64 r.2.1,.int .i64 r.2.2]
@[go_sem] theorem qhB {r:j5}:(jQ r).tree=true:=by simp [jQ,AV.tree,AV.trees,go_sem]
theorem jr {h:List qC} {y:j5} {g:qA} {r c:Int} (e:y=(g,r,c)):Fin (some [g.enc,.int .i64 r,.int .i64 c]) h (jQ y):=by
  subst e;unfold Fin;exact (show Cv h (jQ (g,r,c)) (jQ (g,r,c)) from .refl qhB)
theorem js {h:List qC} {y:j5} (e:y=(qV,0,0)):Fin (some [.agg [.int .i64 0,.int .i64 0,.nils,.nils],.int .i64 0,.int .i64 0]) h (jQ y):=by
  subst e;unfold Fin;refine .tup rfl ?_;simp only [List.zip_cons_cons,List.zip_nil_left,List.mem_cons,List.not_mem_nil,or_false];rintro p (rfl | rfl | rfl)
  · exact wo
  · exact .refl rfl
  · exact .refl rfl
def zF (b:qF) (R:List Int) (lim:Int) (x:qA) (l:Int):j5:=match x.Kids with
  |[]=>(qV,0,0)
  | a::ys=>
    if x.Kind=3 then (if a.Kind=2∧(ys.headD qV).Kind=2 then (.mk 2 (opI x.Value a.Value (ys.headD qV).Value) [] [],1,0) else (qV,0,0))
    else if x.Kind=10∨x.Kind=9 then (if qX x=3 then (wH (zj x) a.Kids,2,0) else (qV,0,0))
    else if x.Kind=5 then (if a.Kind=4 then (jg (zA a) (ys.headD qV),3,jA (zA a) (ys.headD qV))
      else if wT b R lim x l=true then (zP (b.Defs.getD a.Value.toNat qV) (ys.headD qV),5,0) else (qV,0,0))
    else if x.Kind=7 then (if (zB x l).2=0 then (jg (ys.headD qV) (zB x l).1,4,jA (ys.headD qV) (zB x l).1) else (qV,0,0))
    else (qV,0,0)
theorem qZN {b:qF} {R:List Int} {lim:Int} {x:qA} {l:Int} (hb:b.ok=true) (hbz:b.sz≤1048576) (hx:x.valid=true) (hf:x.refs b.Defs.length=true) (hR:R.length≤24) (hl:0≤l∧l≤1000):Pure Gm 1163 [.ept (z6 b R lim) 0,.ept x.enc 0,.int .i64 l] (jQ (zF b R lim x l)):=by
  refine Pure.intro [] [] qUI (by kernel_rfl) rfl (by simp [AV.trees,AV.tree,go_sem]) (by simp [AV.tree,AV.trees,go_sem]) ?_;simp only [Zm,qL,go_sem];obtain ⟨ho,hd,hs,hz,hv⟩:=zZ hx;refine qD ?_ ?_<;>intro hc<;>simp only [hc,go_sem]
  · have h3:=odT hc;obtain ⟨a,c,hK⟩:=ze ((qu ho).1 (by omega));have hr:zF b R lim x l=if a.Kind=2∧c.Kind=2 then (.mk 2 (opI x.Value a.Value c.Value) [] [],1,0) else (qV,0,0):=by unfold zF;rw [hK];simp only [];rw [if_pos h3];rfl
    rw [hr];simp only [hK,List.map_cons,List.map_nil,Option.map_some,go_sem];refine qY ?_ ?_<;>intro hc<;>simp only [hc,hK,List.map_cons,List.map_nil,Option.map_some,go_sem];rotate_left
    · refine qK (k:=4) (by rfl) (by rfl) (by exact ⟨_,rfl⟩) (by decide) ?_;simp only [go_sem];exact js (if_neg (fun h=>by simp [h.1] at hc))
    have ha:=odT hc;refine qD ?_ ?_<;>intro hc<;>simp only [hc,hK,List.map_cons,List.map_nil,Option.map_some,go_sem]
    · refine qH c762 ?_;simp only [go_sem];refine qH c381 ?_;simp only [go_sem];refine qK (k:=4) (by rfl) (by simp [go_sem]) (qA.isAgg _) (by decide) ?_;simp only [go_sem];rw [if_pos ⟨ha,odT hc⟩];exact jr rfl
    · refine qK (k:=4) (by rfl) (by rfl) (by exact ⟨_,rfl⟩) (by decide) ?_;simp only [go_sem];exact js (if_neg (fun h=>odF hc h.2))
  have h3:=odF hc;by_cases h10:x.Kind=10∨x.Kind=9
  · obtain ⟨a,hK⟩:=zi ((qu ho).2 (by omega));have ham:a∈x.Kids:=by rw [hK];simp
    have haz:=qA.kid_sz ham;have hal:=a.len_sz;have hr:zF b R lim x l=if qX x=3 then (wH (zj x) a.Kids,2,0) else (qV,0,0):=by unfold zF;rw [hK];simp only [];rw [if_neg h3,if_pos h10]
    rw [hr];have hak:qX x=3→x.Kind=10→a.Kids=[]:=by
      intro h h';obtain ⟨y,hy,h9 | h9⟩:=ZT ho h
      · omega
      · rw [hK] at hy;cases hy;exact WW (qv ho ham) h9.2.1
    refine qD ?_ ?_<;>intro hc<;>simp only [hc,go_sem];rotate_left;refine qD ?_ ?_<;>intro hc<;>simp only [hc,go_sem];rotate_left
    · have:=odF hc;rename_i h;have:=odF h;omega
    all_goals
      refine qH (c760 ho (by omega)) ?_;simp only [go_sem];refine qD ?_ ?_<;>intro hc<;>simp only [hc,go_sem]
      · have hk3:=odT hc;simp only [hK,List.map_cons,List.map_nil,Option.map_some,go_sem];refine qH (c763 ho hk3 (by omega) (by omega) (hak hk3)) ?_;simp only [go_sem];refine qK (k:=4) (by rfl) (by simp [go_sem]) (qA.isAgg _) (by decide) ?_;simp only [go_sem];rw [if_pos hk3];exact jr rfl
      · refine qK (k:=4) (by rfl) (by rfl) (by exact ⟨_,rfl⟩) (by decide) ?_;simp only [go_sem];exact js (if_neg (odF hc))
  refine qD ?_ ?_<;>intro hc<;>simp only [hc,go_sem]
  · exact absurd (.inl (odT hc)) h10
  refine qD ?_ ?_<;>intro hc<;>simp only [hc,go_sem]
  · exact absurd (.inr (odT hc)) h10
  refine qD ?_ ?_<;>intro hc<;>simp only [hc,go_sem]
  · have h5:=odT hc;obtain ⟨a,c,hK⟩:=ze ((qu ho).1 (by omega));have ham:a∈x.Kids:=by rw [hK];simp
    have hcm:c∈x.Kids:=by rw [hK];simp
    have hr:zF b R lim x l=if a.Kind=4 then (jg (zA a) c,3,jA (zA a) c)
      else if wT b R lim x l=true then (zP (b.Defs.getD a.Value.toNat qV) c,5,0) else (qV,0,0):=by unfold zF;rw [hK];simp only [];rw [if_neg h3,if_neg h10,if_pos h5];rfl
    rw [hr];simp only [hK,List.map_cons,List.map_nil,Option.map_some,go_sem];refine qD ?_ ?_<;>intro hc<;>simp only [hc,go_sem]
    · have h4:=odT hc;obtain ⟨k,hk⟩:=zi ((qu (qv ho ham)).2 (.inl h4));have hk0:zA a=k:=by unfold zA;rw [hk];rfl
      have hkm:k∈a.Kids:=by rw [hk];simp
      have hK0:=hK;replace hK:=And.intro hK hk;simp only [hK,List.map_cons,List.map_nil,Option.map_some,go_sem];refine qH (VG (zd (zd hx ham) hkm) (zd hx hcm)) ?_;simp only [go_sem];refine qK (k:=4) (by rfl) (by simp [go_sem]) (qA.isAgg _) (by decide) ?_;simp only [go_sem];refine qK (k:=4) (by rfl) (by simp [go_sem]) (qA.isAgg _) (by decide) ?_;simp only [go_sem];rw [if_pos h4,hk0];exact jr rfl
    have h4:=odF hc;rw [if_neg h4];have hav:a.Kind=11→0≤a.Value∧a.Value<(b.Defs.length:Nat):=ZV (qv ho ham) (jy hf ham);refine qH (qS7 hK hav hbz (fun d hd=>by have:=((Qe hb).2 d hd).2.2;omega) (by omega) (by omega)) ?_;simp only [go_sem];refine qD ?_ ?_<;>intro hc<;>simp only [hc,go_sem]
    · have hi:=hc;have h11:a.Kind=11:=by
        unfold wT at hi;rw [hK] at hi;simp only [bAt,decide_eq_true_eq] at hi;exact hi.1
      obtain ⟨n,hV⟩:∃n:Nat,a.Value=n:=⟨a.Value.toNat,by have:=hav h11;omega⟩;have hlt:n<b.Defs.length:=by have:=hav h11;omega
      replace hK:=And.intro hK hV;simp only [hK,List.map_cons,List.map_nil,Option.map_some,go_sem];simp only [List.getElem?_map,gEg hlt,Option.map_some,go_sem];simp only [hK,List.map_cons,List.map_nil,Option.map_some,go_sem];refine qH VE ?_;simp only [go_sem];refine qK (k:=4) (by rfl) (by simp [go_sem]) (qA.isAgg _) (by decide) ?_;simp only [go_sem];exact jr (by simp [hlt])
    · refine qK (k:=4) (by rfl) (by rfl) (by exact ⟨_,rfl⟩) (by decide) ?_;simp only [go_sem];exact js rfl
  have h5:=odF hc;refine qD ?_ ?_<;>intro hc<;>simp only [hc,go_sem]
  · have h7:=odT hc;obtain ⟨a,c,hK⟩:=ze ((qu ho).1 (by omega));have ham:a∈x.Kids:=by rw [hK];simp
    have hcm:c∈x.Kids:=by rw [hK];simp
    have hr:zF b R lim x l=if (zB x l).2=0 then (jg c (zB x l).1,4,jA c (zB x l).1) else (qV,0,0):=by unfold zF;rw [hK];simp only [];rw [if_neg h3,if_neg h10,if_neg h5,if_pos h7];rfl
    rw [hr];have hvl:(zB x l).2=0→(zB x l).1.valid=true:=by
      have e:zB x l=qn a (c.levels 0 l) l:=by unfold zB;rw [hK]
      rw [e];exact Vy (zd hx ham)
    refine qH (qZ0 hK (fun h6=>by obtain ⟨k,hk⟩:=zi ((qu (qv ho ham)).2 (by omega));exact ⟨k,[],hk⟩) (by omega) (by omega) (by omega) (by omega)) ?_;simp only [go_sem];refine z7 (by simp [go_sem]) rfl rfl qA.putall ?_;simp only [go_sem];refine qD ?_ ?_<;>intro hc<;>simp only [hc,go_sem]
    · have h0:=odT hc;simp only [hK,List.map_cons,List.map_nil,Option.map_some,go_sem];refine VH [0] (vs':=[.ept c.enc 0,.ept (zB x l).1.enc 0]) (Cvs.cons (.refl (by simp [AV.tree,go_sem])) (Cvs.cons (.ptr rfl (by decide) rfl (.refl (by simp [go_sem]))) Cvs.nil)) (VG (zd hx hcm) (hvl h0)) ?_;simp only [go_sem];refine qK (k:=4) (by rfl) (by simp [go_sem]) (qA.isAgg _) (by decide) ?_;simp only [go_sem];refine qK (k:=4) (by rfl) (by simp [go_sem]) (qA.isAgg _) (by decide) ?_;simp only [go_sem];rw [if_pos h0];exact jr rfl
    · refine qK (k:=4) (by rfl) (by rfl) (by exact ⟨_,rfl⟩) (by decide) ?_;simp only [go_sem];exact js (if_neg (odF hc))
  have h7:=odF hc;refine qK (k:=4) (by rfl) (by rfl) (by exact ⟨_,rfl⟩) (by decide) ?_;simp only [go_sem];exact js (by unfold zF;split;rfl;rw [if_neg h3,if_neg h10,if_neg h5,if_neg h7])
end Go.Ab
namespace Go.Ab
open Go
set_option maxRecDepth 10000
set_option maxHeartbeats 2000000
attribute [local simp] qr qa
def wK (x:qA):List (Int→j5)→Nat→Int→j5
  |[],_,_=>(qV,0,0)
  | r::rs,i,l=>if (r l).2.1=0 then wK x rs (i+1) l else (.mk x.Kind x.Value x.Data (x.Kids.set i (r l).1),(r l).2)
def jT (b:qF) (R:List Int) (lim:Int):qA→Int→j5:=qA.fold fun x rs l=>
  if (zF b R lim x l).2.1=0 then wK x rs 0 (l+qW x.Kind) else zF b R lim x l
theorem WJ (b:qF) (R:List Int) (lim:Int) (x:qA) (l:Int):jT b R lim x l=
    if (zF b R lim x l).2.1=0 then wK x (x.Kids.map (jT b R lim)) 0 (l+qW x.Kind) else zF b R lim x l:=by
  unfold jT;rw [qA.fold_eq]
theorem Q6 {x:qA} {f:qA→Int→j5} {i:Nat} {l:Int} (h:i<x.Kids.length):
    wK x ((x.Kids.drop i).map f) i l=if (f x.Kids[i] l).2.1=0 then wK x ((x.Kids.drop (i+1)).map f) (i+1) l else (.mk x.Kind x.Value x.Data (x.Kids.set i (f x.Kids[i] l).1),(f x.Kids[i] l).2):=by
  rw [List.drop_eq_getElem_cons h,List.map_cons,wK]
theorem Va {h:List qC} {v:AV} {y:j5} {g:qA} {r c:Int} (hc:Cv h v g.enc) (e:y=(g,r,c)):Fin (some [v,.int .i64 r,.int .i64 c]) h (jQ y):=by
  subst e;unfold Fin;refine .tup rfl ?_;simp only [List.zip_cons_cons,List.zip_nil_left,List.mem_cons,List.not_mem_nil,or_false];rintro p (rfl | rfl | rfl)
  · exact hc
  · exact .refl rfl
  · exact .refl rfl
theorem c836 (x:qA):∀(b:qF) (R:List Int) (lim:Int) (l:Int) (hb:b.ok=true) (hbz:b.sz≤1048576) (hx:x.valid=true) (hf:x.refs b.Defs.length=true) (hR:R.length≤24) (hl:0≤l∧l+x.dep≤1000),Pure Gm 836 [.ept (z6 b R lim) 0,.ept x.enc 0,.int .i64 l] (jQ (jT b R lim x l)):=by
  induction x using qA.ind with
  | _ x ih=>
  intro b R lim l hb hbz hx hf hR hl;refine Pure.intro [] [] g836 (by kernel_rfl) rfl (by simp [AV.trees,AV.tree,go_sem]) (by simp [AV.tree,AV.trees,go_sem]) ?_;simp only [Zq,qL,go_sem];obtain ⟨ho,hd,hs,hz,hv⟩:=zZ hx;have hL:=x.len_sz;have hres:=WJ b R lim x l;refine qH (qZN hb hbz hx hf hR (by omega)) ?_;simp only [jQ,go_sem];refine qK (k:=4) (by rfl) (by simp [go_sem]) (qA.isAgg _) (by decide) ?_;simp only [go_sem];refine qD ?_ ?_<;>intro hc<;>simp only [hc,go_sem]
  · refine qK (k:=4) (by rfl) (by simp [go_sem]) (qA.isAgg _) (by decide) ?_;simp only [go_sem];rw [hres,if_neg (by simpa using hc)];exact jr rfl
  rw [if_pos (by simpa using hc)] at hres;refine qD ?_ ?_<;>intro hc<;>simp only [hc,go_sem]
  · rw [qj (n:=l+1) (by omega) (by omega)];have hbx:qW x.Kind=1:=by unfold qW;rw [if_pos (odT hc)]
    obtain ⟨m,hm⟩:∃m,m=l+1:=⟨_,rfl⟩;rw [hbx,←hm] at hres;rw [←hm];refine Sem.loop (fun i:Nat=>i≤x.Kids.length∧jT b R lim x l=wK x ((x.Kids.drop i).map (jT b R lim)) i m) (fun i=>(⟨[(0,.ept (z6 b R lim) 0),(1,.ept x.enc 0),(2,.int .i64 m),(12,.int .i64 (i:Nat))],[(6,.agg [.int .i64 0,.int .i64 0,.nils,.nils])],[]⟩:VSt)) (fun i=>x.Kids.length-i) 0 (by kernel_rfl) ⟨Nat.zero_le _,hres⟩ (Can.sub (by simp [go_sem]) (by simp [go_sem])) ?_;rintro i ⟨hi,hI⟩;simp only [go_sem];refine qD ?_ ?_<;>intro hc<;>simp only [hc,go_sem]
    · have hlt:i<x.Kids.length:=by have:=odT hc;omega
      simp only [List.getElem?_map,gEg hlt,Option.map_some,go_sem];have hkm:=gMm hlt;have hkd:=qA.dep_kid hkm;rw [Q6 hlt] at hI;refine qH (ih _ hkm b R lim m hb hbz (zd hx hkm) (jy hf hkm) hR (by omega)) ?_;simp only [jQ,go_sem];refine qK (k:=4) (by rfl) (by simp [go_sem]) (qA.isAgg _) (by decide) ?_;simp only [go_sem];refine qD ?_ ?_<;>intro hc<;>simp only [hc,go_sem]
      · rw [if_pos (odT hc)] at hI;simp only [qe (show i<4611686018427387904 by omega)];refine qZ (i+1) ⟨by omega, ?_⟩ (by omega) (Can.sub (by simp [go_sem]) (by simp [go_sem]));exact hI
      rw [if_neg (odF hc)] at hI;refine Y7 (ys:=x.Kids.map qA.enc) Els.lst (by simp;omega) ?_;simp only [go_sem];refine qK (k:=4) (by rfl) (by rfl) (by exact ⟨_,rfl⟩) (by decide) ?_;simp only [go_sem];rw [z5 hlt];simp only [go_sem];refine z7 (by simp [go_sem]) rfl (by simp [hlt];rfl) qA.putcore ?_;simp only [go_sem];refine qK (k:=4) (by rfl) (by rfl) (by exact ⟨_,rfl⟩) (by decide) ?_;simp only [go_sem];refine Va (Jm (by simp [List.map_set]) (by simp)) hI
    · obtain rfl:i=x.Kids.length:=by have:=odF hc;omega
      refine qK (k:=4) (by rfl) (by rfl) (by exact ⟨_,rfl⟩) (by decide) ?_;simp only [go_sem];exact js (by rw [hI,List.drop_length];rfl)
  · have hbx:qW x.Kind=0:=by unfold qW;rw [if_neg (odF hc)]
    rw [hbx,Int.add_zero] at hres;obtain ⟨m,hm⟩:∃m,m=l:=⟨_,rfl⟩;rw [←hm] at hres⊢;refine Sem.loop (fun i:Nat=>i≤x.Kids.length∧jT b R lim x m=wK x ((x.Kids.drop i).map (jT b R lim)) i m) (fun i=>(⟨[(0,.ept (z6 b R lim) 0),(1,.ept x.enc 0),(2,.int .i64 m),(12,.int .i64 (i:Nat))],[(6,.agg [.int .i64 0,.int .i64 0,.nils,.nils])],[]⟩:VSt)) (fun i=>x.Kids.length-i) 0 (by kernel_rfl) ⟨Nat.zero_le _,hres⟩ (Can.sub (by simp [go_sem]) (by simp [go_sem])) ?_;rintro i ⟨hi,hI⟩;simp only [go_sem];refine qD ?_ ?_<;>intro hc<;>simp only [hc,go_sem]
    · have hlt:i<x.Kids.length:=by have:=odT hc;omega
      simp only [List.getElem?_map,gEg hlt,Option.map_some,go_sem];have hkm:=gMm hlt;have hkd:=qA.dep_kid hkm;rw [Q6 hlt] at hI;refine qH (ih _ hkm b R lim m hb hbz (zd hx hkm) (jy hf hkm) hR (by omega)) ?_;simp only [jQ,go_sem];refine qK (k:=4) (by rfl) (by simp [go_sem]) (qA.isAgg _) (by decide) ?_;simp only [go_sem];refine qD ?_ ?_<;>intro hc<;>simp only [hc,go_sem]
      · rw [if_pos (odT hc)] at hI;simp only [qe (show i<4611686018427387904 by omega)];refine qZ (i+1) ⟨by omega, ?_⟩ (by omega) (Can.sub (by simp [go_sem]) (by simp [go_sem]));exact hI
      rw [if_neg (odF hc)] at hI;refine Y7 (ys:=x.Kids.map qA.enc) Els.lst (by simp;omega) ?_;simp only [go_sem];refine qK (k:=4) (by rfl) (by rfl) (by exact ⟨_,rfl⟩) (by decide) ?_;simp only [go_sem];rw [z5 hlt];simp only [go_sem];refine z7 (by simp [go_sem]) rfl (by simp [hlt];rfl) qA.putcore ?_;simp only [go_sem];refine qK (k:=4) (by rfl) (by rfl) (by exact ⟨_,rfl⟩) (by decide) ?_;simp only [go_sem];refine Va (Jm (by simp [List.map_set]) (by simp)) hI
    · obtain rfl:i=x.Kids.length:=by have:=odF hc;omega
      refine qK (k:=4) (by rfl) (by rfl) (by exact ⟨_,rfl⟩) (by decide) ?_;simp only [go_sem];exact js (by rw [hI,List.drop_length];rfl)
end Go.Ab
namespace Go.Ab
open Go
set_option maxRecDepth 10000
set_option maxHeartbeats 2000000
attribute [local simp] qr qa
def Asc (n:Int) (xs:List Int):Prop:=xs.Pairwise (· < ·)∧∀k∈xs,0≤k∧k<n
theorem qRG:∀{xs:List Int} {n k:Int},k∈zN xs n→k=n∨k∈xs
  |[],n,k,h=>by simp [zN] at h;exact .inl h
  | x::xs,n,k,h=>by
    unfold zN at h;split at h
    · rcases List.mem_cons.1 h with rfl | h
      · simp
      · rcases qRG h with h | h
        · exact .inl h
        · simp [h]
    · split at h
      · exact .inr h
      · rcases List.mem_cons.1 h with rfl | h
        · exact .inl rfl
        · exact .inr h
theorem qV7:∀{xs:List Int} {n:Int},xs.Pairwise (· < ·)→(zN xs n).Pairwise (· < ·)
  |[],n,_=>by simp [zN]
  | x::xs,n,h=>by
    rw [List.pairwise_cons] at h;unfold zN;split
    · rw [List.pairwise_cons];refine ⟨fun k hk=> ?_,qV7 h.2⟩;rcases qRG hk with rfl | hk
      · assumption
      · exact h.1 k hk
    · split
      · rw [List.pairwise_cons];exact h
      · rw [List.pairwise_cons,List.pairwise_cons];refine ⟨fun k hk=> ?_,h⟩;rcases List.mem_cons.1 hk with rfl | hk
        · omega
        · have:=h.1 k hk;omega
theorem Asc.put {n:Int} {xs:List Int} (h:Asc n xs) {k:Int} (hk:0≤k∧k<n):Asc n (zN xs k):=
  ⟨qV7 h.1,fun j hj=>by rcases qRG hj with rfl | hj;exact hk;exact h.2 j hj⟩
theorem Asc.puts {n:Int}:∀(ds:List Int) {xs:List Int},Asc n xs→(∀k∈ds,0≤k∧k<n)→Asc n (ds.foldl zN xs)
  |[],_,h,_=>h
  | d::ds,xs,h,hd=>Asc.puts ds (xs:=zN xs d) (h.put (hd d (by simp))) (fun k hk=>hd k (by simp [hk]))
theorem qUG {α β:Type} {f:β→α→β} {P:β→Prop}:∀{xs:List α} {c:β},P c→(∀x∈xs,∀c,P c→P (f c x))→P (xs.foldl f c)
  |[],_,h,_=>h
  | x::xs,_,h,hf=>qUG (xs:=xs) (hf x (by simp) _ h) (fun y hy c hc=>hf y (by simp [hy]) c hc)
theorem qgI (n:Int):∀x:qA,x.ok=true→x.refs n=true→∀out,Asc n out→Asc n (x.names out):=qA.ind fun x ih ho hr out h=>by
  rw [qA.names_eq];refine qUG (Asc.puts _ ?_ ?_) (fun y hy c hc=>ih y hy (qv ho hy) (jy hr hy) c hc)
  · split
    · exact h.put (ZV ho hr (by assumption))
    · exact h
  · intro k hk;rw [qA.refs_eq,bAt,bAt,List.all_eq_true] at hr;have h1:=odT (hr.1.2 k hk);have hn:=w3 ho;unfold zo at hn;simp only [bAt,List.all_eq_true] at hn;have h2:=hn.2 k hk;unfold jo inI at h2;simp at h2;omega
theorem qX3 {b:qF} (hb:b.ok=true):∀ys∈zD b,Asc b.Defs.length ys:=by
  intro ys hy;unfold zD at hy;obtain ⟨c,hc,rfl⟩:=List.mem_map.1 hy;obtain ⟨h1,h2⟩:=Jj hb hc;exact qgI _ c (Qw h1).1 h2 [] ⟨List.Pairwise.nil,by simp⟩
theorem qR4 {b:qF} (hb:b.ok=true):Zu (zD b):=fun ys hy k hk=>by
  have:=(qX3 hb ys hy).2 k hk;rw [zD,List.length_map];exact this
theorem qj9 {b:qF} (hb:b.ok=true):∀ys∈zD b,ys.Nodup:=fun ys hy=>by
  refine (qX3 hb ys hy).1.imp ?_;intro a b h;omega
theorem qR3 {α:Type} {f:α→Nat} {y:α}:∀{xs:List α} {i:Nat} (h:i<xs.length),qG f (xs.set i y)+f xs[i]=qG f xs+f y
  | x::xs,0,_=>by simp [qG];omega
  | x::xs,i+1,h=>by
    have:=qR3 (f:=f) (y:=y) (xs:=xs) (i:=i) (by simpa using h);simp only [List.set_cons_succ,qG,List.getElem_cons_succ];omega
theorem qPO (f a:qA):(zP f a).sz=2+f.sz+a.sz:=by rw [qA.sz_eq];simp [zP,qG,go_sem];omega
theorem qQH:∀(as:List qA) (f:qA),(as.foldl zP f).sz≤f.sz+2*as.length+qG qA.sz as
  |[],f=>by simp [qG]
  | a::as,f=>by
    have:=qQH as (zP f a);rw [qPO] at this;simp only [List.foldl_cons,qG,List.length_cons];omega
theorem qUS {x y:qA} (hx:x.ok=true) (hy:y.ok=true):(jg x y).sz≤4100:=by
  unfold jg;split
  · rename_i h;have hs:=UK y x 0 hx;have h4:=qA.sz_d4 _ (qRI (QN y hy) x 0 (QN x hx));unfold jA at h;split at h
    · cases h
    · omega
  · have:qV.sz=0:=by rw [qA.sz_eq];rfl
    omega
theorem Ug:qV.sz=0:=by rw [qA.sz_eq];rfl
theorem qiC {b:qF} {R:List Int} {lim:Int} {x:qA} {l:Int} (hb:b.ok=true) (hx:x.valid=true):(zF b R lim x l).1.sz≤4100:=by
  obtain ⟨ho,hd,hs,hz,hv⟩:=zZ hx;have hz0:=Ug;unfold zF;split
  · show qV.sz≤_;omega
  rename_i a ys hK;have ham:a∈x.Kids:=by rw [hK];simp
  have haz:=qA.kid_sz ham;have hys:(ys.headD qV).sz≤x.sz:=by
    match ys,hK with
    |[],_=>show qV.sz≤_;omega
    | c::_,hK=>exact qA.kid_sz (by rw [hK];simp)
  split
  · split
    · show qA.sz (.mk 2 _ [] [])≤_;rw [qA.sz_eq];simp [qG,go_sem]
    · show qV.sz≤_;omega
  split
  · split
    · have:=qQH a.Kids (.mk 11 (zj x) [] []);have h1:=a.sz_eq;have h2:(qA.mk 11 (zj x) [] []).sz=0:=by rw [qA.sz_eq];simp [qG,go_sem]
      show (wH _ _).sz≤_;unfold wH;omega
    · show qV.sz≤_;omega
  split
  · split
    · rename_i h4;obtain ⟨k,hk⟩:=zi ((qu (qv ho ham)).2 (.inl h4));have hk0:zA a=k:=by unfold zA;rw [hk];rfl
      have hkm:k∈a.Kids:=by rw [hk];simp
      rw [hk0];refine qUS (qv (qv ho ham) hkm) ?_;rename_i h5 _;obtain ⟨a',c,hK'⟩:=ze ((qu ho).1 (by omega));rw [hK'] at hK;cases hK;exact qv ho (by rw [hK'];simp)
    split
    · show (zP _ _).sz≤_;rw [qPO];have:(b.Defs.getD a.Value.toNat qV).sz≤2000:=by
        rw [List.getD_eq_getElem?_getD];rcases h:b.Defs[a.Value.toNat]? with _ | d
        · show qV.sz≤_;omega
        · exact (zZ ((Qe hb).2 d (List.mem_of_getElem? h)).1).2.2.2.1
      omega
    · show qV.sz≤_;omega
  split
  · rename_i h7;split
    · rename_i h0;obtain ⟨a',c,hK'⟩:=ze ((qu ho).1 (by omega));have e:zB x l=qn a' (c.levels 0 l) l:=by unfold zB;rw [hK']
      rw [hK'] at hK;cases hK;have hv:=Vy (zd hx ham) (by rw [←e];exact h0);rw [←e] at hv;exact qUS (qv ho (by rw [hK'];simp)) (zZ hv).1
    · show qV.sz≤_;omega
  · show qV.sz≤_;omega
theorem qT1 {x:qA} {f:qA→Int→j5} {l:Int} (hf:∀y∈x.Kids,(f y l).1.sz≤y.sz+4100):∀(n i:Nat),i+n=x.Kids.length→(wK x ((x.Kids.drop i).map f) i l).1.sz≤x.sz+4100
  | 0,i,h=>by
    rw [show x.Kids.drop i=[] from List.drop_eq_nil_of_le (by omega)];show qV.sz≤_;rw [Ug];omega
  | n+1,i,h=>by
    have hlt:i<x.Kids.length:=by omega
    rw [Q6 hlt];split
    · exact qT1 hf n (i+1) (by omega)
    · show qA.sz (.mk _ _ _ _)≤_;have h1:=qR3 (f:=qA.sz) (y:=(f x.Kids[i] l).1) hlt;have h2:=hf _ (gMm hlt);have h3:=x.sz_eq;have h4:=zV (f:=qA.sz) (gMm hlt);rw [qA.sz_eq,qA.mk_data,qA.mk_kids,List.length_set];omega
theorem qdX {b:qF} {R:List Int} {lim:Int} (hb:b.ok=true):∀(x:qA) (l:Int),x.valid=true→(jT b R lim x l).1.sz≤x.sz+4100:=qA.ind fun x ih l hx=>by
  rw [WJ];split
  · exact qT1 (fun y hy=>ih y hy _ (zd hx hy)) x.Kids.length 0 (by omega)
  · have:=qiC (R:=R) (lim:=lim) (l:=l) hb hx;omega
def J4 (b:qF) (R:List Int) (lim:Int) (x:qA):j5:=
  let o:=jT b R lim x 0
  (o.1,o.2.1,if ¬o.2.1=0∧o.2.2=0∧o.1.fits=false then 4 else o.2.2)
theorem c480 {b:qF} {lim:Int} (hb:b.ok=true) (hbz:b.sz≤1048576):Pure Gm 480 [.ept b.enc 0,.int .i64 lim] (.ept (z6 b (jE (zD b) b.Defs.length) lim) 0):=by
  refine Pure.intro [] [] g480 (by kernel_rfl) rfl (by simp [AV.trees,AV.tree,go_sem]) (by simp [AV.tree,AV.trees,go_sem]) ?_;simp only [X7,qL,go_sem];refine qH (c835 hbz (Qe hb).1 (qR4 hb) (qj9 hb)) ?_;simp only [go_sem];refine wL rfl ?_;simp only [go_sem];exact zH (.ptr rfl (by decide) rfl (.refl qbG))
theorem qXF {b:qF} {c:qA} {limit budget:Int} (h:jF b c limit budget=0):b.ok=true∧c.valid=true∧c.refs b.Defs.length=true∧c.closed=true∧0≤limit∧limit≤40∧0≤budget∧budget≤2000:=by
  unfold jF at h;split at h
  · rename_i h1;simp only [bAt] at h1;have h2:c.valid=true:=by
      have:=h1.1.2;unfold qA.closed at this;simp only [bAt] at this;exact this.1
    split at h
    · split at h
      · split at h
        · rename_i h3;unfold inI at h3;simp only [bAt,decide_eq_true_eq] at h3;exact ⟨h1.1.1,h2,h1.2,h1.1.2,h3.1.1,h3.1.2,h3.2.1,h3.2.2⟩
        · cases h
      · rename_i h4;exact absurd h h4
    · cases h
  · cases h
noncomputable def zp (b:qF):List Int:=jE (zD b) b.Defs.length
end Go.Ab
namespace Go.Ab
open Go
set_option maxRecDepth 10000
set_option maxHeartbeats 2000000
attribute [local simp] qr qa
def fzp (n id:Nat) (o:Option qC) (st:VSt):VSt:=match o with
  | some (.row w [v] true)=>if w=0 then st else {s:=(n,.ept v 0)::st.s,l:=st.l,h:=st.h.set id .dead}
  | _=>st
def fzo (n:Nat) (v:Option AV) (st:VSt):VSt:=match v with
  | none=>st
  | some (.ept _ _)=>st
  | some (.lst _ _ _)=>st
  | some (.int _ _)=>st
  | some (.bool _)=>st
  | some .nils=>st
  | some (.agg _)=>st
  | some (.ptr id 0 0)=>fzp n id st.h[id]? st
  | _=>JT n st
section
variable {n id:Nat} {s m:qg} {h:List qC} {v x:AV} {st:VSt}
@[go_sem] theorem zE2:JT n ⟨s,m,h⟩=fzo n (get s n) ⟨s,m,h⟩:=by
  unfold fzo;split<;>rename_i e<;>try (simp only [JT,e];done)
  · simp only [JT,e,fzp];split<;>rename_i e2<;>simp only [e2]
    · split<;>split<;>first | rfl | omega
@[go_sem] theorem zFB:get [] n=none:=nr rfl
@[go_sem] theorem zE7:fzo n none st=st:=nr rfl
@[go_sem] theorem zE3 {j:Nat}:fzo n (some (.ept v j)) st=st:=nr rfl
@[go_sem] theorem zE5 {w:Nat} {xs:List AV} {c:Bool}:fzo n (some (.lst w xs c)) st=st:=nr rfl
@[go_sem] theorem zE6:fzo n (some .nils) st=st:=nr rfl
@[go_sem] theorem zE4 {k:IntKind} {i:Int}:fzo n (some (.int k i)) st=st:=nr rfl
@[go_sem] theorem zE8:fzo n (some (.ptr id 0 0)) ⟨s,m,h⟩=fzp n id h[id]? ⟨s,m,h⟩:=nr rfl
@[go_sem] theorem zE9 {w:Nat}:fzp n id (some (.row w [v] true)) ⟨s,m,h⟩=if w=0 then ⟨s,m,h⟩ else ⟨(n,.ept v 0)::s,m,h.set id .dead⟩:=nr rfl
end
theorem Zw {α:Type} (p:α→Bool) (xs:List α):(!xs.any fun x=> !p x)=xs.all p:=by
  induction xs with
  | nil=>rfl
  | cons x xs ih=>simp only [List.any_cons,List.all_cons,Bool.not_or,Bool.not_not,ih]
theorem Z2 {f:AV} (p:Int→Bool) (hft:f.tree=true) (xs:List Int) (hf:∀x∈xs,Y2 Gm f [qE x] (.bool (p x))) (hl:xs.length≤1048576):Pure Gm 397 [.lst 1 (xs.map qE) false,f] (.bool (xs.any p)):=
  qTN shI (gc:=774) g397 g774 f p hft xs hf hl
theorem VF {f:AV} (p:qA→Bool) (hft:f.tree=true) (xs:List qA) (hf:∀x∈xs,Y2 Gm f [x.enc] (.bool (p x))) (hl:xs.length≤1048576):Pure Gm 581 [.lst 4 (xs.map qA.enc) false,f] (.bool (xs.any p)):=
  qTN qA.isSh (gc:=958) g581 g958 f p hft xs hf hl
theorem n401 (xs:List Int) (hz:xs.length≤4194304):Fresh Gm 401 [.lst 1 (xs.map qE) false] (.lst 1 (xs.map qE) false):=
  qaJ (w:=1) g401 (lI xs) (jL (fun _=>rfl) xs) (zq shI.tree xs) (by simpa using hz)
theorem c801 {n m:Int}:Pure Gm 801 [.int .i64 n,.ept (.int .i64 m) 0] (.bool (!inI n 0 m)):=by
  refine Pure.intro [] [] g801 (by kernel_rfl) rfl (by simp [AV.trees,AV.tree,go_sem]) rfl ?_;simp only [Yg,qL,go_sem]
  repeat' (first | (refine qc rfl ?_;simp only [go_sem]) | (first | (refine qY ?_ ?_<;>intro hc<;>simp only [hc,go_sem]) | (refine qD ?_ ?_<;>intro hc<;>simp only [hc,go_sem])) | refine qM rfl ?_ | refine je (by rfl) ?_)
  all_goals ((simp only [inI,AV.bool.injEq];rw [Bool.eq_iff_iff];simp at*;try omega))
theorem c436 {m:Int} {xs:List Int} (hl:xs.length≤1048576):Pure Gm 436 [.int .i64 m,.lst 1 (xs.map qE) false] (.bool (xs.all fun n=>inI n 0 m)):=by
  refine Pure.intro [2] [] g436 (by kernel_rfl) rfl (by simp [AV.trees,AV.tree,zq shI.tree]) rfl ?_;simp only [X6,qL,go_sem];refine wL rfl ?_;simp only [go_sem,List.nil_append,List.set_cons_zero];refine qH (Z2 (f:=.fn 801 [.ept (.int .i64 m) 0]) (fun n=> !inI n 0 m) rfl xs (fun x _=>⟨801,_,rfl,c801⟩) hl) ?_;simp only [go_sem];refine qM rfl ?_;rw [Zw]
theorem c796 {n:Int}:Pure Gm 796 [.int .i64 n] (.bool (jo n)):=by
  refine Pure.intro [] [] g796 (by kernel_rfl) rfl (by simp [AV.trees,AV.tree,go_sem]) rfl ?_;simp only [Yf,qL,go_sem]
  repeat' (first | (refine qc rfl ?_;simp only [go_sem]) | (first | (refine qY ?_ ?_<;>intro hc<;>simp only [hc,go_sem]) | (refine qD ?_ ?_<;>intro hc<;>simp only [hc,go_sem])) | refine qM rfl ?_ | refine je (by rfl) ?_)
  all_goals ((simp only [jo,inI,AV.bool.injEq];rw [Bool.eq_iff_iff];simp at*;try omega))
theorem qZD {n:Int}:Pure Gm 1050 [.int .i64 n] (.bool (inI n 1 6)):=by
  refine Pure.intro [] [] qb4 (by kernel_rfl) rfl (by simp [AV.trees,AV.tree,go_sem]) rfl ?_;simp only [W1,qL,go_sem]
  repeat' (first | (refine qc rfl ?_;simp only [go_sem]) | (first | (refine qY ?_ ?_<;>intro hc<;>simp only [hc,go_sem]) | (refine qD ?_ ?_<;>intro hc<;>simp only [hc,go_sem])) | refine qM rfl ?_ | refine je (by rfl) ?_)
  all_goals ((simp only [inI,AV.bool.injEq];rw [Bool.eq_iff_iff];simp at*;try omega))
theorem qZE {n:Int}:Pure Gm 1051 [.int .i64 n] (.bool (inI n (-2147483648) 2147483647)):=by
  refine Pure.intro [] [] qb5 (by kernel_rfl) rfl (by simp [AV.trees,AV.tree,go_sem]) rfl ?_;simp only [W2,qL,go_sem]
  repeat' (first | (refine qc rfl ?_;simp only [go_sem]) | (first | (refine qY ?_ ?_<;>intro hc<;>simp only [hc,go_sem]) | (refine qD ?_ ?_<;>intro hc<;>simp only [hc,go_sem])) | refine qM rfl ?_ | refine je (by rfl) ?_)
  all_goals ((simp only [inI,AV.bool.injEq];rw [Bool.eq_iff_iff];simp at*;try omega))
theorem qZY {n:Int}:Pure Gm 1402 [.int .i64 n] (.bool (!jo n)):=by
  refine Pure.intro [] [] qdB (by kernel_rfl) rfl (by simp [AV.trees,AV.tree,go_sem]) rfl ?_;simp only [Xj,qL,go_sem]
  repeat' (first | (refine qc rfl ?_;simp only [go_sem]) | (first | (refine qY ?_ ?_<;>intro hc<;>simp only [hc,go_sem]) | (refine qD ?_ ?_<;>intro hc<;>simp only [hc,go_sem])) | (refine qH (c796) ?_;simp only [go_sem]) | refine qM rfl ?_ | refine je (by rfl) ?_)
  all_goals (simp_all<;>omega)
theorem c665 (x:qA):∀(hz:x.sz≤1048576) (hd:x.dep≤2097152) (hs:x.size≤2097152),Pure Gm 665 [x.enc] (.tup [.int .i64 (x.dep:Nat),.int .i64 (x.size:Nat)]):=by
  induction x using qA.ind with
  | _ x ih=>
  intro hz hd hs;refine Pure.intro [] [] g665 (by kernel_rfl) rfl (by simp [AV.trees,AV.tree,go_sem]) rfl ?_;simp only [YT,qL,go_sem];have hL:=x.len_sz;have hde:=x.dep_eq;have hse:=x.size_eq;refine qc qA.ln ?_;simp only [go_sem];refine Sem.loop (fun i:Nat=>i≤x.Kids.length∧True) (fun i=>(⟨[(2,.int .i64 ((1+zL qA.dep (x.Kids.take i):Nat):Int)),(3,.int .i64 ((1+qG qA.size (x.Kids.take i):Nat):Int)),(9,.lst 4 (x.Kids.map qA.enc) false),(10,.int .i64 (x.Kids.length:Nat)),(11,.int .i64 (i:Nat))],[(1,x.enc)],[]⟩:VSt)) (fun i=>x.Kids.length-i) 0 (by kernel_rfl) ⟨Nat.zero_le _,by trivial⟩ (Can.sub (by simp [go_sem]) (by simp [go_sem])) ?_;rintro i ⟨hi,hI⟩;simp only [go_sem];refine qD ?_ ?_<;>intro hc<;>simp only [hc,go_sem]
  · have hlt:i<x.Kids.length:=by have:=odT hc;omega
    simp only [List.getElem?_map,gEg hlt,Option.map_some,go_sem];have hm:=gMm hlt;have hk:=qA.kid_sz hm;have hp:=qA.dep_kid hm;refine qK (k:=4) (by rfl) (by simp [go_sem]) (qA.isAgg _) (by decide) ?_;simp only [go_sem];refine qH (ih _ hm (by omega) (by omega) (by have:=zV (f:=qA.size) hm;omega)) ?_;simp only [go_sem];have ht:=Zd (f:=qA.size) hlt;have hle:=Wm qA.size x.Kids (i+1);have e1:((1+qG qA.size (x.Kids.take i):Nat):Int)+x.Kids[i].size=((1+qG qA.size (x.Kids.take (i+1)):Nat):Int):=by omega
    have e2:max ((1+zL qA.dep (x.Kids.take i):Nat):Int) ((x.Kids[i].dep:Int)+1)=((1+zL qA.dep (x.Kids.take (i+1)):Nat):Int):=by rw [WU hlt];omega
    rw [qj (n:=(x.Kids[i].dep:Int)+1) (by omega) (by omega),e1,e2,qj (n:=((1+qG qA.size (x.Kids.take (i+1)):Nat):Int)) (by omega) (by omega)];simp only [qe (show i<4611686018427387904 by omega)];refine qZ (i+1) ⟨by omega, ?_⟩ (by omega) (Can.sub (by simp [go_sem]) (by simp [go_sem]));trivial
  · obtain rfl:i=x.Kids.length:=by have:=odF hc;omega
    rw [List.take_length,←hde,←hse];exact je (by rfl) rfl
theorem c495 {x:qA} (hz:x.sz≤1048576) (hd:x.dep≤2097152) (hs:x.size≤2097152):Pure Gm 495 [x.enc] (.bool x.fits):=by
  refine Pure.intro [] [] g495 (by kernel_rfl) rfl (by simp [AV.trees,AV.tree,go_sem]) rfl ?_;simp only [YB,qL,go_sem];refine qc qA.ln ?_;simp only [go_sem];refine qH (c665 x hz hd hs) ?_;simp only [go_sem];refine qY ?_ ?_<;>intro hc<;>simp only [hc,go_sem]
  · exact qM rfl (by unfold qA.fits;rw [decide_eq_true (p:=x.dep≤80) (by have:=odT hc;omega),Bool.and_true];simp;omega)
  · exact qM rfl (by unfold qA.fits;rw [decide_eq_false (p:=x.dep≤80) (by simp at hc;omega),Bool.and_false])
theorem qZL {x:qA} (hz:x.sz≤1048576):Pure Gm 1130 [x.enc] (.bool (zo x)):=by
  refine Pure.intro [] [] qcL (by kernel_rfl) rfl (by simp [AV.trees,AV.tree,go_sem]) rfl ?_;simp only [XJ,qL,go_sem];have hL:=x.len_sz;refine qc qA.ln ?_;simp only [go_sem]
  repeat' (first | (first | (refine qY ?_ ?_<;>intro hc<;>simp only [hc,go_sem]) | (refine qD ?_ ?_<;>intro hc<;>simp only [hc,go_sem])) | (refine qH qZE ?_;simp only [go_sem]) | (refine qH qZD ?_;simp only [go_sem]) | (refine qH c796 ?_;simp only [go_sem]) | (refine qH (Z2 (f:=.fn 1402 []) (fun n=> !jo n) rfl x.Data (fun y _=>⟨1402,[],rfl,qZY⟩) (by omega)) ?_;simp only [go_sem]) | refine qM rfl ?_)
  all_goals (try rw [Zw])
  all_goals (refine congrArg AV.bool ?_;unfold zo jj shp;simp_all [inI,jo]<;>first | omega | (intros;omega))
end Go.Ab
namespace Go.Ab
open Go
set_option maxRecDepth 10000
set_option maxHeartbeats 2000000
attribute [local simp] qr qa
def Jb (x:qA):AV:=if x.ok=true then .tup [.int .i64 (x.dep:Nat),.int .i64 (x.size:Nat),.bool true] else .tup [.int .i64 0,.int .i64 0,.bool false]
theorem qi6 (x:qA):(Jb x).tree=true:=by unfold Jb;split<;>rfl
theorem qX5 (x:qA):x.valid=(x.ok&&x.fits):=by
  unfold qA.valid qA.fits;cases x.ok<;>cases decide (x.dep≤80)<;>cases decide (x.size≤400)<;>rfl
theorem c770 (x:qA):∀(hz:x.sz≤1048576) (hd:x.dep≤2097152) (hs:x.size≤2097152),Pure Gm 770 [x.enc] (Jb x):=by
  induction x using qA.ind with
  | _ x ih=>
  intro hz hd hs;refine Pure.intro [] [] g770 (by kernel_rfl) rfl (by simp [AV.trees,AV.tree,go_sem]) (by exact qi6 _) ?_;simp only [Ye,qL,go_sem];have hL:=x.len_sz;have hde:=x.dep_eq;have hse:=x.size_eq;have hoe:=x.ok_eq;refine qc qA.ln ?_;simp only [go_sem];refine qH (qZL hz) ?_;simp only [go_sem];refine qD ?_ ?_<;>intro hc<;>simp only [hc,go_sem]
  · have hn:x.ok=false:=by rw [hoe];simp at hc;simp [hc]
    rw [show Jb x=_ from if_neg (by simp [hn])];exact je (by rfl) rfl
  have hn:x.ok=x.Kids.all qA.ok:=by rw [hoe];simp at hc;simp [hc]
  refine Sem.loop (fun i:Nat=>i≤x.Kids.length∧x.ok=(x.Kids.drop i).all qA.ok) (fun i=>(⟨[(2,.int .i64 ((1+zL qA.dep (x.Kids.take i):Nat):Int)),(3,.int .i64 ((1+qG qA.size (x.Kids.take i):Nat):Int)),(14,.lst 4 (x.Kids.map qA.enc) false),(15,.int .i64 (x.Kids.length:Nat)),(16,.int .i64 (i:Nat))],[(1,x.enc)],[]⟩:VSt)) (fun i=>x.Kids.length-i) 0 (by kernel_rfl) ⟨Nat.zero_le _,by simp [hn]⟩ (Can.sub (by simp [go_sem]) (by simp [go_sem])) ?_;rintro i ⟨hi,hI⟩;simp only [go_sem];refine qD ?_ ?_<;>intro hc<;>simp only [hc,go_sem]
  · have hlt:i<x.Kids.length:=by have:=odT hc;omega
    simp only [List.getElem?_map,gEg hlt,Option.map_some,go_sem];have hm:=gMm hlt;have hk:=qA.kid_sz hm;have hp:=qA.dep_kid hm;rw [List.drop_eq_getElem_cons hlt,List.all_cons] at hI;refine qK (k:=4) (by rfl) (by simp [go_sem]) (qA.isAgg _) (by decide) ?_;simp only [go_sem];refine qH (ih _ hm (by omega) (by omega) (by have:=zV (f:=qA.size) hm;omega)) ?_;cases hko:x.Kids[i].ok
    · rw [hko,Bool.false_and] at hI;simp only [Jb,hko,go_sem];rw [if_neg (by simp [hI])];exact je (by rfl) rfl
    · rw [hko,Bool.true_and] at hI;simp only [Jb,hko,go_sem];have ht:=Zd (f:=qA.size) hlt;have hle:=Wm qA.size x.Kids (i+1);have e1:((1+qG qA.size (x.Kids.take i):Nat):Int)+x.Kids[i].size=((1+qG qA.size (x.Kids.take (i+1)):Nat):Int):=by omega
      have e2:max ((1+zL qA.dep (x.Kids.take i):Nat):Int) ((x.Kids[i].dep:Int)+1)=((1+zL qA.dep (x.Kids.take (i+1)):Nat):Int):=by rw [WU hlt];omega
      rw [qj (n:=(x.Kids[i].dep:Int)+1) (by omega) (by omega),e1,e2,qj (n:=((1+qG qA.size (x.Kids.take (i+1)):Nat):Int)) (by omega) (by omega)];simp only [qe (show i<4611686018427387904 by omega)];refine qZ (i+1) ⟨by omega, ?_⟩ (by omega) (Can.sub (by simp [go_sem]) (by simp [go_sem]));exact hI
  · obtain rfl:i=x.Kids.length:=by have:=odF hc;omega
    rw [List.take_length,←hde,←hse];rw [show Jb x=_ from if_pos (by rw [hI];simp)];exact je (by rfl) rfl
theorem c391 {x:qA} (hz:x.sz≤1048576) (hd:x.dep≤2097152) (hs:x.size≤2097152):Pure Gm 391 [x.enc] (.bool x.valid):=by
  refine Pure.intro [] [] g391 (by kernel_rfl) rfl (by simp [AV.trees,AV.tree,go_sem]) rfl ?_;simp only [X5,qL,go_sem];refine qc qA.ln ?_;simp only [go_sem];refine qH (c770 x hz hd hs) ?_;cases hko:x.ok
  · simp only [Jb,hko,go_sem];exact qM rfl (by rw [qX5,hko];rfl)
  · simp only [Jb,hko,go_sem];refine qH (c495 hz hd hs) ?_;simp only [go_sem];exact qM rfl (by rw [qX5,hko];rfl)
theorem w7 {b:Bool}:Pure Gm 566 [.bool b] (.int .i64 (if b then 1 else 0)):=by
  refine Pure.intro [] [] g566 (by kernel_rfl) rfl (by simp [AV.trees,AV.tree,go_sem]) rfl ?_;simp only [YK,qL,go_sem];refine qD ?_ ?_<;>intro hc<;>simp only [hc,go_sem]
  · exact qM rfl rfl
  · exact qM rfl rfl
theorem Z1 {x:qA} {i:Nat}:Pure Gm 1193 [x.enc,.int .i64 (i:Int)] (.int .i64 (qR x.Kind i)):=by
  refine Pure.intro [] [] qcT (by kernel_rfl) rfl (by simp [AV.trees,AV.tree,go_sem]) rfl ?_;simp only [XR,qL,go_sem];refine qc qA.ln ?_;simp only [go_sem]
  repeat' (first | (first | (refine qY ?_ ?_<;>intro hc<;>simp only [hc,go_sem]) | (refine qD ?_ ?_<;>intro hc<;>simp only [hc,go_sem])) | (refine qH w7 ?_;simp only [go_sem]) | refine qM rfl ?_)
  all_goals (simp_all [qR]<;>omega)
theorem c880 (x:qA):∀(d:Int) (ho:x.ok=true) (hz:x.sz≤1048576) (hd:0≤d∧d+x.dep≤4194304),Pure Gm 880 [x.enc,.int .i64 d] (.bool (!x.above d)):=by
  induction x using qA.ind with
  | _ x ih=>
  intro d ho hz hd;refine Pure.intro [] [] g880 (by kernel_rfl) rfl (by simp [AV.trees,AV.tree,go_sem]) rfl ?_;simp only [Yq,qL,go_sem];have hL:=x.len_sz;have hae:=x.above_eq d;refine qc qA.ln ?_;simp only [go_sem];refine qY ?_ ?_<;>intro hc<;>simp only [hc,go_sem]
  · have h1:=odT hc;rw [if_pos h1] at hae;refine qD ?_ ?_<;>intro hc<;>simp only [hc,go_sem]
    · exact qM rfl (by rw [hae,decide_eq_true (by have:=odT hc;omega)];rfl)
    have hg:x.above d=jH (fun i y=>y.above (d+qR x.Kind i)) x.Kids 0:=by
      rw [hae,QO ho h1,decide_eq_false (by have:=odF hc;omega)];rfl
    refine Sem.loop (fun i:Nat=>i≤x.Kids.length∧x.above d=jH (fun i y=>y.above (d+qR x.Kind i)) (x.Kids.drop i) i) (fun i=>(⟨[(1,.int .i64 d),(17,.lst 4 (x.Kids.map qA.enc) false),(18,.int .i64 (x.Kids.length:Nat)),(19,.int .i64 (i:Nat))],[(2,x.enc)],[]⟩:VSt)) (fun i=>x.Kids.length-i) 0 (by kernel_rfl) ⟨Nat.zero_le _,by simpa using hg⟩ (Can.sub (by simp [go_sem]) (by simp [go_sem])) ?_;rintro i ⟨hi,hI⟩;simp only [go_sem];refine qD ?_ ?_<;>intro hc<;>simp only [hc,go_sem]
    · have hlt:i<x.Kids.length:=by have:=odT hc;omega
      simp only [List.getElem?_map,gEg hlt,Option.map_some,go_sem];refine qK (k:=4) (by rfl) (by simp [go_sem]) (qA.isAgg _) (by decide) ?_;simp only [go_sem];refine qH Z1 ?_;simp only [go_sem];have hm:=gMm hlt;have hk:=qA.kid_sz hm;have hp:=qA.dep_kid hm;have hb:=jI x.Kind i;rw [qj (n:=d+qR x.Kind i) (by omega) (by omega)];refine qH (ih _ hm _ (qv ho hm) (by omega) (by omega)) ?_;simp only [go_sem];rw [j7 hlt,jH] at hI;refine qD ?_ ?_<;>intro hc<;>simp only [hc,go_sem]
      · exact qM rfl (by rw [hI];simp at hc;simp [hc])
      · simp only [qe (show i<4611686018427387904 by omega)];refine qZ (i+1) ⟨by omega, ?_⟩ (by omega) (Can.sub (by simp [go_sem]) (by simp [go_sem]));rw [hI];simp at hc;simp [hc]
    · obtain rfl:i=x.Kids.length:=by have:=odF hc;omega
      exact qM rfl (by rw [hI];simp [jH])
  · rw [if_neg (by simpa using hc)] at hae;have hg:=hae;refine Sem.loop (fun i:Nat=>i≤x.Kids.length∧x.above d=jH (fun i y=>y.above (d+qR x.Kind i)) (x.Kids.drop i) i) (fun i=>(⟨[(1,.int .i64 d),(17,.lst 4 (x.Kids.map qA.enc) false),(18,.int .i64 (x.Kids.length:Nat)),(19,.int .i64 (i:Nat))],[(2,x.enc)],[]⟩:VSt)) (fun i=>x.Kids.length-i) 0 (by kernel_rfl) ⟨Nat.zero_le _,by simpa using hg⟩ (Can.sub (by simp [go_sem]) (by simp [go_sem])) ?_;rintro i ⟨hi,hI⟩;simp only [go_sem];refine qD ?_ ?_<;>intro hc<;>simp only [hc,go_sem]
    · have hlt:i<x.Kids.length:=by have:=odT hc;omega
      simp only [List.getElem?_map,gEg hlt,Option.map_some,go_sem];refine qK (k:=4) (by rfl) (by simp [go_sem]) (qA.isAgg _) (by decide) ?_;simp only [go_sem];refine qH Z1 ?_;simp only [go_sem];have hm:=gMm hlt;have hk:=qA.kid_sz hm;have hp:=qA.dep_kid hm;have hb:=jI x.Kind i;rw [qj (n:=d+qR x.Kind i) (by omega) (by omega)];refine qH (ih _ hm _ (qv ho hm) (by omega) (by omega)) ?_;simp only [go_sem];rw [j7 hlt,jH] at hI;refine qD ?_ ?_<;>intro hc<;>simp only [hc,go_sem]
      · exact qM rfl (by rw [hI];simp at hc;simp [hc])
      · simp only [qe (show i<4611686018427387904 by omega)];refine qZ (i+1) ⟨by omega, ?_⟩ (by omega) (Can.sub (by simp [go_sem]) (by simp [go_sem]));rw [hI];simp at hc;simp [hc]
    · obtain rfl:i=x.Kids.length:=by have:=odF hc;omega
      exact qM rfl (by rw [hI];simp [jH])
theorem c521 {x:qA} (hz:x.sz≤1048576) (hd:x.dep≤2097152) (hs:x.size≤2097152):Pure Gm 521 [x.enc] (.bool x.closed):=by
  refine Pure.intro [] [] g521 (by kernel_rfl) rfl (by simp [AV.trees,AV.tree,go_sem]) rfl ?_;simp only [YI,qL,go_sem];refine qc qA.ln ?_;simp only [go_sem];refine qH (c391 hz hd hs) ?_;simp only [go_sem];refine qY ?_ ?_<;>intro hc<;>simp only [hc,go_sem]
  · refine qH (c880 x 0 (zZ hc).1 hz (by omega)) ?_;simp only [go_sem];exact qM rfl (by unfold qA.closed;rw [hc];rfl)
  · exact qM rfl (by unfold qA.closed;rw [hc];rfl)
end Go.Ab
namespace Go.Ab
open Go
set_option maxRecDepth 10000
set_option maxHeartbeats 2000000
attribute [local simp] qr qa
def Qn (p:qA→Bool):qA→Bool:=qA.fold fun x rs=>p x || rs.any id
theorem qPM (p:qA→Bool) (x:qA):Qn p x=(p x || x.Kids.any (Qn p)):=by
  unfold Qn;rw [qA.fold_eq];simp
@[go_sem] theorem zEZ {g:Nat} {cs:List AV}:(AV.fn g cs).part 0 none=some (.fn g cs):=nr rfl
def qYH (g:Nat) (cs:List AV) (p:qA→Bool):Prop:=∀y:qA,y.sz≤1048576→Pure Gm g (y.enc::cs) (.bool (p y))
theorem c993 {g:Nat} {cs:List AV} {y:qA} {b:Bool} (ht:AV.trees cs=true) (h:Pure Gm 615 [y.enc,.fn g cs] (.bool b)):Pure Gm 993 [y.enc,.ept (.fn g cs) 0] (.bool b):=by
  refine Pure.intro [] [] g993 (by kernel_rfl) rfl (by simp [AV.trees,AV.tree,go_sem,ht]) rfl ?_;simp only [Yw,qL,go_sem];refine qc qA.ln ?_;simp only [go_sem];refine qH h ?_;simp only [go_sem];exact qM rfl rfl
theorem c615 (x:qA):∀(g:Nat) (cs:List AV) (p:qA→Bool) (ht:AV.trees cs=true) (hp:qYH g cs p) (hz:x.sz≤1048576),Pure Gm 615 [x.enc,.fn g cs] (.bool (Qn p x)):=by
  induction x using qA.ind with
  | _ x ih=>
  intro g cs p ht hp hz;refine Pure.intro [3] [] g615 (by kernel_rfl) rfl (by simp [AV.trees,AV.tree,go_sem,ht]) rfl ?_;simp only [YN,qL,go_sem];have hL:=x.len_sz;refine qc qA.ln ?_;simp only [go_sem];refine wL rfl ?_;simp only [go_sem];simp only [go_sem,List.nil_append,List.cons_append,List.set_cons_zero,List.set_cons_succ];refine qH (hp x hz) ?_;simp only [go_sem];refine qY ?_ ?_<;>intro hc<;>simp only [hc,go_sem]
  · refine qH (VF (f:=.fn 993 [.ept (.fn g cs) 0]) (Qn p) (by simp [AV.trees,AV.tree,ht]) x.Kids (fun y hy=>⟨993,_,rfl,c993 ht (ih y hy g cs p ht hp (by have:=qA.kid_sz hy;omega))⟩) (by omega)) ?_;simp only [go_sem];exact qM rfl (by rw [qPM,hc];rfl)
  · exact qM rfl (by rw [qPM];simp at hc;simp [hc])
theorem qS5 {n m:Int}:Pure Gm 1169 [.int .i64 n,.ept (.int .i64 m) 0] (.bool (decide (m≤n))):=by
  refine Pure.intro [] [] qcP (by kernel_rfl) rfl (by simp [AV.trees,AV.tree,go_sem]) rfl ?_;simp only [XN,qL,go_sem];exact qM rfl rfl
def QM (n:Int) (x:qA):Bool:=(decide (x.Kind=11)&&decide (n≤x.Value)) || x.Data.any fun k=>decide (n≤k)
theorem qYS (n:Int) (xs:List Int):(xs.all fun k=>decide (k<n))= !(xs.any fun k=>decide (n≤k)):=by
  induction xs with
  | nil=>rfl
  | cons a xs ih=>
    simp only [List.all_cons,List.any_cons,ih,Bool.not_or];congr 1;rw [Bool.eq_iff_iff];simp
theorem qSF {α:Type} {p q:α→Bool}:∀{xs:List α},(∀x∈xs,p x= !q x)→xs.all p= !xs.any q
  |[],_=>rfl
  | x::xs,h=>by simp only [List.all_cons,List.any_cons,Bool.not_or];rw [h x (by simp),qSF (fun y hy=>h y (by simp [hy]))]
theorem qh4 (n:Int):∀x:qA,x.refs n= !Qn (QM n) x:=qA.ind fun x ih=>by
  rw [qA.refs_eq,qPM,QM,qYS,Bool.not_or,Bool.not_or,qSF ih]
theorem qZP {x:qA} {m:Int} (hz:x.sz≤1048576):Pure Gm 1168 [x.enc,.ept (.int .i64 m) 0] (.bool (QM m x)):=by
  refine Pure.intro [] [] qcO (by kernel_rfl) rfl (by simp [AV.trees,AV.tree,go_sem]) rfl ?_;simp only [XM,qL,go_sem];have hL:=x.len_sz;refine qc qA.ln ?_;simp only [go_sem];refine qY ?_ ?_<;>intro hc<;>simp only [hc,go_sem]
  · have h11:=hc;refine qY ?_ ?_<;>intro hc<;>simp only [hc,go_sem]
    · refine qH (Z2 (f:=.fn 1169 [.ept (.int .i64 m) 0]) (fun n=>decide (m≤n)) rfl x.Data (fun y _=>⟨1169,_,rfl,qS5⟩) (by omega)) ?_;simp only [go_sem];exact qM rfl (by unfold QM;rw [h11,hc];rfl)
    · exact qM rfl (by unfold QM;rw [h11];simp at hc;simp [hc])
  · refine qH (Z2 (f:=.fn 1169 [.ept (.int .i64 m) 0]) (fun n=>decide (m≤n)) rfl x.Data (fun y _=>⟨1169,_,rfl,qS5⟩) (by omega)) ?_;simp only [go_sem];exact qM rfl (by unfold QM;simp at hc;simp [hc])
theorem c847 {x:qA} {n:Int} (hz:x.sz≤1048576):Pure Gm 847 [x.enc,.int .i64 n] (.bool (x.refs n)):=by
  refine Pure.intro [3] [] g847 (by kernel_rfl) rfl (by simp [AV.trees,AV.tree,go_sem]) rfl ?_;simp only [Yj,qL,go_sem];refine qc qA.ln ?_;simp only [go_sem];refine wL rfl ?_;simp only [go_sem];simp only [go_sem,List.nil_append,List.cons_append,List.set_cons_zero,List.set_cons_succ];refine qH (c615 x 1168 [.ept (.int .i64 n) 0] (QM n) rfl (fun y hy=>qZP hy) hz) ?_;simp only [go_sem];exact qM rfl (by rw [qh4])
theorem c851 {x:qA} {b:qF} (hz:x.sz≤1048576) (hd:x.dep≤2097152) (hs:x.size≤2097152):Pure Gm 851 [x.enc,.ept b.enc 0] (.bool (!(x.closed&&x.refs b.Defs.length))):=by
  refine Pure.intro [] [] g851 (by kernel_rfl) rfl (by simp [AV.trees,AV.tree,go_sem]) rfl ?_;simp only [Yn,qL,go_sem];refine qc qA.ln ?_;simp only [go_sem];refine qH (c521 hz hd hs) ?_;simp only [go_sem];refine qY ?_ ?_<;>intro hc<;>simp only [hc,go_sem]
  · refine qH (c847 hz) ?_;simp only [go_sem];exact qM rfl (by simp at hc;simp [hc])
  · exact qM rfl (by simp at hc;simp [hc])
theorem c498 {b:qF} (hz:b.sz≤1048576):Pure Gm 498 [b.enc] (.bool b.ok):=by
  refine Pure.intro [1] [] g498 (by kernel_rfl) rfl (by simp [AV.trees,AV.tree,go_sem]) rfl ?_;simp only [YE,qL,go_sem];have hz':b.Defs.length+qG qA.sz b.Defs≤1048576:=hz;refine wL rfl ?_;simp only [go_sem];simp only [go_sem,List.nil_append,List.cons_append,List.set_cons_zero,List.set_cons_succ];refine qY ?_ ?_<;>intro hc<;>simp only [hc,go_sem]
  · have h1:=odF hc;refine qD ?_ ?_<;>intro hc<;>simp only [hc,go_sem]
    · exact qM rfl (by have:=odT hc;unfold qF.ok inI;rw [decide_eq_false (p:=(b.Defs.length:Int)≤24) (by omega)];simp)
    have h2:=odF hc;refine qH (VF (f:=.fn 851 [.ept b.enc 0]) (fun x=> !(x.closed&&x.refs b.Defs.length)) (by simp [AV.trees,AV.tree,go_sem]) b.Defs (fun y hy=>⟨851,_,rfl,c851 (by have:=zV (f:=qA.sz) hy;omega) (by have:=zV (f:=qA.sz) hy;have:=y.dep_size;have:=y.size_sz;omega) (by have:=zV (f:=qA.sz) hy;have:=y.size_sz;omega)⟩) (by omega)) ?_;simp only [go_sem];exact qM rfl (by unfold qF.ok inI;rw [Zw,decide_eq_true (p:=(1:Int)≤b.Defs.length) (by omega),decide_eq_true (p:=(b.Defs.length:Int)≤24) (by omega)];rfl)
  · exact qM rfl (by simp at hc;unfold qF.ok inI;rw [decide_eq_false (p:=(1:Int)≤b.Defs.length) (by omega)];simp)
end Go.Ab
namespace Go.Ab
open Go
set_option maxRecDepth 10000
set_option maxHeartbeats 2000000
attribute [local simp] qr qa
theorem Zz (k:Int):(if decide (k=6)=true then (1:Int) else 0)=qW k:=by unfold qW;simp
theorem Qp (k:Int):0≤qW k∧qW k≤1:=by unfold qW;split<;>omega
theorem qPK (x:qA):∀(v l:Int) (xs:List Int) (_:x.ok=true) (_:x.sz≤1048576) (_:0≤v∧v+x.dep≤4194304) (_:0≤l∧l+x.dep≤4194304) (_:xs.length+x.size≤4194304),
    Acc Gm 1194 [x.enc,.int .i64 v,.int .i64 l] 1 (xs.map qE) ((xs++x.levels v l).map qE):=by
  induction x using qA.ind with
  | _ x ih=>
  intro v l xs hok hz hv hl hx h id K ho hK;have hL:=x.len_sz;have hid:id<h.length:=(List.getElem?_eq_some_iff.1 ho).1;refine SCall.run [] [] qcU (by kernel_rfl) rfl ?_;simp only [List.cons_append,List.nil_append,XS,qL,go_sem];refine qc qA.ln ?_;simp only [go_sem];have fin:x.levels v l=qi (fun i y=>qA.levels y (v+qR x.Kind i) (l+qW x.Kind)) x.Kids 0→True:=fun _=>trivial;have hb0:=Qp x.Kind;refine qY ?_ ?_<;>intro hc<;>simp only [hc,go_sem]
  · have hk:=odT hc;refine qD ?_ ?_<;>intro hc<;>simp only [hc,go_sem]
    · refine jM (el:=xs.map qE) ja (by rw [List.getElem?_append_left hid];exact ho) (by simp) (by omega) ?_;simp only [go_sem];have e:x.levels v l=[l]:=by rw [x.levels_eq];simp_all
      rw [e] at hK;have:=hK _ _ (zJ.ofApp (X:=[.row 1 [.int .i64 l] true]) (zJ.app (by rw [List.getElem?_append_left hid];exact ho)) hid);simpa [qE] using this
    have hk1:x.levels v l=qi (fun i y=>qA.levels y (v+qR x.Kind i) (l+qW x.Kind)) x.Kids 0:=by
      rw [x.levels_eq,if_pos hk,if_neg (odF hc),QO hok hk];rfl
    refine Sem.loop (fun a:Nat×List qC×Nat=>a.1≤x.Kids.length∧zJ h id 1 ((xs++qi (fun i y=>qA.levels y (v+qR x.Kind i) (l+qW x.Kind)) (x.Kids.take a.1) 0).map qE) a.2.1 a.2.2)
      (fun a=>(⟨[(1,.int .i64 v),(2,.int .i64 l),(3,.slice 1 a.2.2 0 (xs.length+(qi (fun i y=>qA.levels y (v+qR x.Kind i) (l+qW x.Kind)) (x.Kids.take a.1) 0).length) false),(25,.lst 4 (x.Kids.map qA.enc) false),(26,.int .i64 (x.Kids.length:Nat)),(27,.int .i64 (a.1:Nat))],[(4,x.enc)],a.2.1⟩:VSt)) (fun a=>x.Kids.length-a.1) (0,h,id) (by kernel_rfl) ⟨Nat.zero_le _,by simpa [qi] using zJ.refl ho⟩
      (Can.sub (by simp [go_sem,qi]) (by simp [go_sem])) ?_
    rintro ⟨i,h',id'⟩ ⟨hi,hG⟩;simp only at hi hG;simp only [go_sem];have hfl:=Q8 x v l i;refine qD ?_ ?_<;>intro hc<;>simp only [hc,go_sem]
    · have hlt:i<x.Kids.length:=by have:=odT hc;omega
      simp only [List.getElem?_map,gEg hlt,Option.map_some,go_sem];have hm:=gMm hlt;have hk:=qA.kid_sz hm;have hp:=qA.dep_kid hm;have hb:=jI x.Kind i;have hft:=Vf (f:=fun i y=>qA.levels y (v+qR x.Kind i) (l+qW x.Kind)) (k:=0) hlt;have hfl2:=Q8 x v l (i+1);rw [hft,Nat.zero_add,lAp] at hfl2;refine qK (k:=4) (by rfl) (by simp [go_sem]) (qA.isAgg _) (by decide) ?_;simp only [go_sem];refine qH Z1 ?_;simp only [go_sem];refine qH w7 ?_;simp only [go_sem];rw [Zz,qj (n:=v+qR x.Kind i) (by omega) (by omega),qj (n:=l+qW x.Kind) (by omega) (by omega)];have hsz:=qA.size_kid hlt v l;refine Z3 (ih _ hm (v+qR x.Kind i) (l+qW x.Kind) (xs++qi (fun i y=>qA.levels y (v+qR x.Kind i) (l+qW x.Kind)) (x.Kids.take i) 0) (qv hok hm) (by omega) (by omega) (by omega) (by rw [lAp];omega)) hG.at' (by simp) rfl ?_;intro h2 id2 hG2;simp only [go_sem];simp only [qe (show i<4611686018427387904 by omega)];refine qZ (i+1,h2,id2) ⟨by omega, ?_⟩ (by simp only;omega) (Can.sub ?_ (by simp [go_sem]))
      · rw [hft,Nat.zero_add,←List.append_assoc];exact hG.trans hG2
      · simp only [hft,Nat.zero_add];simp [go_sem,Nat.add_assoc]
    · have e:i=x.Kids.length:=by have:=odF hc;omega
      subst e;rw [List.take_length] at hG⊢;rw [hk1] at hK;have:=hK _ _ hG;simpa using this
  · have hk1:x.levels v l=qi (fun i y=>qA.levels y (v+qR x.Kind i) (l+qW x.Kind)) x.Kids 0:=by rw [x.levels_eq,if_neg (by simpa using hc)]
    refine Sem.loop (fun a:Nat×List qC×Nat=>a.1≤x.Kids.length∧zJ h id 1 ((xs++qi (fun i y=>qA.levels y (v+qR x.Kind i) (l+qW x.Kind)) (x.Kids.take a.1) 0).map qE) a.2.1 a.2.2)
      (fun a=>(⟨[(1,.int .i64 v),(2,.int .i64 l),(3,.slice 1 a.2.2 0 (xs.length+(qi (fun i y=>qA.levels y (v+qR x.Kind i) (l+qW x.Kind)) (x.Kids.take a.1) 0).length) false),(25,.lst 4 (x.Kids.map qA.enc) false),(26,.int .i64 (x.Kids.length:Nat)),(27,.int .i64 (a.1:Nat))],[(4,x.enc)],a.2.1⟩:VSt)) (fun a=>x.Kids.length-a.1) (0,h,id) (by kernel_rfl) ⟨Nat.zero_le _,by simpa [qi] using zJ.refl ho⟩
      (Can.sub (by simp [go_sem,qi]) (by simp [go_sem])) ?_
    rintro ⟨i,h',id'⟩ ⟨hi,hG⟩;simp only at hi hG;simp only [go_sem];have hfl:=Q8 x v l i;refine qD ?_ ?_<;>intro hc<;>simp only [hc,go_sem]
    · have hlt:i<x.Kids.length:=by have:=odT hc;omega
      simp only [List.getElem?_map,gEg hlt,Option.map_some,go_sem];have hm:=gMm hlt;have hk:=qA.kid_sz hm;have hp:=qA.dep_kid hm;have hb:=jI x.Kind i;have hft:=Vf (f:=fun i y=>qA.levels y (v+qR x.Kind i) (l+qW x.Kind)) (k:=0) hlt;have hfl2:=Q8 x v l (i+1);rw [hft,Nat.zero_add,lAp] at hfl2;refine qK (k:=4) (by rfl) (by simp [go_sem]) (qA.isAgg _) (by decide) ?_;simp only [go_sem];refine qH Z1 ?_;simp only [go_sem];refine qH w7 ?_;simp only [go_sem];rw [Zz,qj (n:=v+qR x.Kind i) (by omega) (by omega),qj (n:=l+qW x.Kind) (by omega) (by omega)];have hsz:=qA.size_kid hlt v l;refine Z3 (ih _ hm (v+qR x.Kind i) (l+qW x.Kind) (xs++qi (fun i y=>qA.levels y (v+qR x.Kind i) (l+qW x.Kind)) (x.Kids.take i) 0) (qv hok hm) (by omega) (by omega) (by omega) (by rw [lAp];omega)) hG.at' (by simp) rfl ?_;intro h2 id2 hG2;simp only [go_sem];simp only [qe (show i<4611686018427387904 by omega)];refine qZ (i+1,h2,id2) ⟨by omega, ?_⟩ (by simp only;omega) (Can.sub ?_ (by simp [go_sem]))
      · rw [hft,Nat.zero_add,←List.append_assoc];exact hG.trans hG2
      · simp only [hft,Nat.zero_add];simp [go_sem,Nat.add_assoc]
    · have e:i=x.Kids.length:=by have:=odF hc;omega
      subst e;rw [List.take_length] at hG⊢;rw [hk1] at hK;have:=hK _ _ hG;simpa using this
end Go.Ab
namespace Go.Ab
open Go
set_option maxRecDepth 10000
set_option maxHeartbeats 2000000
def za (s:List Int×Option Int) (x:Int):List Int×Option Int:=(if s.2=some x then s.1 else s.1++[x],some x)
def comp (xs:List Int):List Int:=(xs.foldl za ([],none)).1
theorem qTH:∀(xs:List Int) (s:List Int×Option Int),(xs.foldl za s).2=match xs.getLast? with | some y=>some y | none=>s.2
  |[],_=>rfl
  | x::xs,s=>by
    rw [List.foldl_cons,qTH xs (za s x)];rw [List.getLast?_cons];cases xs.getLast?<;>rfl
theorem qP4 {xs:List Int} {i:Nat} (h:i+1<xs.length):comp (xs.take (i+2))=if xs[i]'(by omega)=xs[i+1] then comp (xs.take (i+1)) else comp (xs.take (i+1))++[xs[i+1]]:=by
  unfold comp;rw [List.take_succ_eq_append_getElem h,List.foldl_append];simp only [List.foldl_cons,List.foldl_nil];have e:(List.foldl za ([],none) (xs.take (i+1))).2=some (xs[i]'(by omega)):=by
    rw [qTH,List.getLast?_eq_getElem?];simp only [List.length_take];rw [List.getElem?_take];simp [show min (i+1) xs.length-1=i by omega,show i<xs.length by omega]
  generalize List.foldl za ([],none) (xs.take (i+1))=s at e⊢;simp only [za,e,Option.some.injEq]
theorem qaP {xs:List Int} (h:1≤xs.length):comp (xs.take 1)=xs.take 1:=by
  match xs,h with
  | x::xs,_=>rfl
theorem qaQ {xs:List Int} (h:xs.length<2):comp xs=xs:=by
  match xs,h with
  |[],_=>rfl
  |[x],_=>rfl
theorem qW6 {h:List qC} {id:Nat} {o:qC} (ho:h[id]?=some o):h.set id o=h:=List.ext_getElem? fun i=>by
  rw [List.getElem?_set];split
  · rename_i e;subst e;split
    · rw [ho]
    · rename_i hn;rw [List.getElem?_eq_none (by omega)]
  · rfl
theorem qRC {h:List qC} {id p:Nat} {xs:List Int} (ho:h[id]?=some (.row 1 (xs.map qE) true)) (hp:p<xs.length):wC none 0 p h[id]?=some (.int .i64 xs[p]):=by
  rw [ho];simp only [wC,List.getElem?_map,gEg hp,Option.map_some,qE];rfl
theorem UF {h:List qC} {id p:Nat} {xs:List Int} {v:Int} (ho:h[id]?=some (.row 1 (xs.map qE) true)) (hp:xs[p]?=some v):wC none 0 p h[id]?=some (.int .i64 v):=by
  rw [ho];simp only [wC,List.getElem?_map,hp,Option.map_some,qE];rfl
theorem qQA {α:Type} {zs xs:List α} {m:Nat} (h:zs.drop m=xs.drop m) {i:Nat} (hi:m≤i):zs[i]?=xs[i]?:=by
  have:=congrArg (fun l:List α=>l[i-m]?) h;simp only [List.getElem?_drop] at this;rwa [show m+(i-m)=i by omega] at this
theorem qRS {h:List qC} {id:Nat} {xs:List Int} {K:AV→List qC→Prop} (ho:h[id]?=some (.row 1 (xs.map qE) true)) (hl:xs.length≤4194304)
    (hK:K (.slice 1 id 0 (comp xs).length false) (h.set id (.row 1 ((comp xs).map qE) true))):SCall Gm 1042 [.slice 1 id 0 xs.length false] h K:=by
  refine SCall.cut id (comp xs).length 1 ?_;refine SCall.run [] [] qb3 (by kernel_rfl) rfl ?_;simp only [W0,qL,go_sem];have hid:id<h.length:=(List.getElem?_eq_some_iff.1 ho).1;have same:comp xs=xs→∃el,h[id]?=some (qC.row 1 el true)∧K (.slice 1 id 0 xs.length false) (h.set id (qC.row 1 (el.take (comp xs).length) true)):=by
    intro e;refine ⟨_,ho, ?_⟩;rw [e] at hK⊢;rwa [List.take_of_length_le (by simp)]
  refine qD ?_ ?_<;>intro hc<;>simp only [hc,go_sem]
  · exact same (qaQ (by have:=odT hc;omega))
  have hn:=odF hc;refine Sem.loop (fun j:Nat=>j+1≤xs.length∧comp (xs.take (j+1))=xs.take (j+1)) (fun j=>(⟨[(0,.slice 1 id 0 xs.length false),(3,.int .i64 ((j+1:Nat):Int))],[],h⟩:VSt)) (fun j=>xs.length-j) 0 (by kernel_rfl) ⟨by omega,qaP (by omega)⟩ (Can.sub (by simp [go_sem]) (by simp [go_sem])) ?_;rintro j ⟨hj,hI⟩;simp only [go_sem];refine qD ?_ ?_<;>intro hc<;>simp only [hc,go_sem]
  · have hlt:j+1<xs.length:=by have:=odT hc;omega
    have hj0:j<xs.length:=by omega
    rw [z5 hlt];simp only [Nat.zero_add,go_sem];rw [qRC ho hlt];simp only [go_sem];rw [show ((j+1:Nat):Int)-1=(j:Int) by omega,qj (n:=(j:Int)) (by omega) (by omega),z5 hj0];simp only [Nat.zero_add,go_sem];rw [qRC ho hj0];simp only [go_sem];refine qD ?_ ?_<;>intro hc<;>simp only [hc,go_sem]
    · have hd:=odT hc;refine QU (v:=.slice 1 id (j+1) (xs.length-(j+1)) false) (by simp [val,bnd,go_sem,show (0:Int)≤(j:Int)+1∧(j:Int)+1≤(xs.length:Int) by omega]) ?_;simp only [go_sem];have hcp:comp (xs.take (j+2))=xs.take (j+1):=by rw [qP4 hlt,if_pos hd.symm,hI]
      refine Sem.loop (fun a:Nat×List Int×Nat×List qC=>j+1+a.1+1≤xs.length∧a.2.1.length=xs.length∧a.2.1.drop (j+1+a.1)=xs.drop (j+1+a.1)∧a.2.1.take a.2.2.1=comp (xs.take (j+1+a.1+1))∧a.2.2.1≤j+1+a.1∧a.2.2.2=h.set id (.row 1 (a.2.1.map qE) true))
        (fun a=>(⟨[(0,.slice 1 id 0 xs.length false),(3,.int .i64 (a.2.2.1:Nat)),(4,.slice 1 id (j+1) (xs.length-(j+1)) false),(5,.int .i64 ((a.1+1:Nat):Int))],[],a.2.2.2⟩:VSt)) (fun a=>xs.length-a.1) (0,xs,j+1,h) (by kernel_rfl) ⟨by first | omega | (simp only;omega),rfl,rfl,hcp.symm,Nat.le_refl _,(qW6 ho).symm⟩ (Can.sub (by simp [go_sem]) (by simp [go_sem])) ?_
      rintro ⟨q,zs,k,h'⟩ ⟨hq,hzl,hzd,hzt,hkq,hh⟩;simp only at hq hzl hzd hzt hkq hh⊢;subst hh;have ho':(h.set id (qC.row 1 (zs.map qE) true))[id]?=some (.row 1 (zs.map qE) true):=by simp [hid]
      simp only [go_sem];refine qD ?_ ?_<;>intro hc<;>simp only [hc,go_sem]
      · have hq2:q+1<xs.length-(j+1):=by have:=odT hc;omega
        have hx1:j+1+q+1<xs.length:=by omega
        have hx0:j+1+q<xs.length:=by omega
        rw [z5 hq2];simp only [go_sem];rw [UF (v:=xs[j+1+q+1]) ho' (by rw [show j+1+(q+1)=j+1+q+1 by omega,qQA hzd (by omega),gEg hx1])];simp only [go_sem];rw [show ((q+1:Nat):Int)-1=(q:Int) by omega,qj (n:=(q:Int)) (by omega) (by omega),z5 (n:=q) (by omega)];simp only [go_sem];rw [UF (v:=xs[j+1+q]) ho' (by rw [qQA hzd (by omega),gEg hx0])];simp only [go_sem];have hcs:=qP4 (xs:=xs) (i:=j+1+q) hx1;refine qD ?_ ?_<;>intro hc<;>simp only [hc,go_sem]
        · have hne:¬xs[j+1+q]=xs[j+1+q+1]:=by simp at hc;exact fun e=>hc e.symm
          rw [if_neg hne] at hcs;have hk:k<zs.length:=by omega
          rw [z5 hq2];simp only [go_sem];rw [UF (v:=xs[j+1+q+1]) ho' (by rw [show j+1+(q+1)=j+1+q+1 by omega,qQA hzd (by omega),gEg hx1])];simp only [go_sem];rw [z5 (n:=k) (by omega)];simp only [Nat.zero_add,go_sem];refine z7 (by rfl) ho' (by rw [List.getElem?_map,gEg hk];rfl) (by rfl) ?_;simp only [go_sem];have hm:(zs.map qE).set k (.int .i64 xs[j+1+q+1])=(zs.set k xs[j+1+q+1]).map qE:=by simp [List.map_set,qE]
          rw [List.set_set,hm,qj (n:=((q+1:Nat):Int)+1) (by omega) (by omega),qj (n:=(k:Int)+1) (by omega) (by omega)];refine qZ (q+1,zs.set k xs[j+1+q+1],k+1,h.set id (.row 1 ((zs.set k xs[j+1+q+1]).map qE) true)) ⟨by first | omega | (simp only;omega),by simpa using hzl, ?_, ?_,by first | omega | (simp only;omega),rfl⟩ (by first | omega | (simp only;omega)) (Can.sub (by simp [go_sem]) (by simp [go_sem]))
          · simp only;rw [List.drop_set_of_lt (by omega)];have:=congrArg (List.drop 1) hzd;simpa [List.drop_drop,Nat.add_assoc] using this
          · simp only;rw [show j+1+(q+1)+1=j+1+q+2 by omega,hcs,←hzt,List.take_succ_eq_append_getElem (by simpa using hk),List.take_set_of_le (Nat.le_refl _)];simp
        · have heq:xs[j+1+q]=xs[j+1+q+1]:=by simp at hc;exact hc.symm
          rw [if_pos heq] at hcs;rw [qj (n:=((q+1:Nat):Int)+1) (by omega) (by omega)];refine qZ (q+1,zs,k,h.set id (.row 1 (zs.map qE) true)) ⟨by first | omega | (simp only;omega),hzl, ?_, ?_,by first | omega | (simp only;omega),rfl⟩ (by first | omega | (simp only;omega)) (Can.sub (by simp [go_sem]) (by simp [go_sem]))
          · simp only;have:=congrArg (List.drop 1) hzd;simpa [List.drop_drop,Nat.add_assoc] using this
          · simp only;rw [show j+1+(q+1)+1=j+1+q+2 by omega,hcs,←hzt]
      · have hqe:j+1+q+1=xs.length:=by have:=odF hc;omega
        rw [hqe,List.take_length] at hzt;have hkl:(comp xs).length=k:=by rw [←hzt];simp;omega
        refine QU (v:=.slice 1 id k (xs.length-k) false) (by simp [val,bnd,go_sem,show k≤xs.length by omega]) ?_;simp only [go_sem];refine qaM ho' (by simp;omega) (by simp;omega) ?_;simp only [go_sem];refine QU (v:=.slice 1 id 0 k false) (by simp [val,bnd,go_sem,show k≤xs.length by omega]) ?_;simp only [go_sem];have hlen:(List.take k (List.map qE zs)).length=k:=by simp;omega
        refine ⟨_,by rw [List.set_set,List.getElem?_set_self hid], ?_⟩;rw [List.set_set,List.set_set,hkl,List.take_append_of_le_length (by omega),List.take_of_length_le (by omega),←List.map_take,hzt];rw [hkl] at hK;exact hK
    · rw [qj (n:=((j+1:Nat):Int)+1) (by omega) (by omega)];have hd:=odF hc;refine qZ (j+1) ⟨by omega, ?_⟩ (by omega) (Can.sub (by simp [go_sem]) (by simp [go_sem]));rw [show j+1+1=j+2 from rfl,qP4 hlt,if_neg (fun e=>hd e.symm),hI,←List.take_succ_eq_append_getElem hlt]
  · have e:j+1=xs.length:=by have:=odF hc;omega
    rw [e,List.take_length] at hI;exact same hI
end Go.Ab
namespace Go.Ab
open Go
set_option maxRecDepth 10000
set_option maxHeartbeats 2000000
attribute [local simp] qr qa
theorem qZT {x y:qA} {l:Int} {b:Bool} (hl:0≤l∧l≤100) (h:Pure Gm 881 [y.enc,.int .i64 (l+qW x.Kind)] (.bool b)):Pure Gm 1195 [y.enc,.ept (.int .i64 l) 0,.ept x.enc 0] (.bool (!b)):=by
  refine Pure.intro [] [] qcV (by kernel_rfl) rfl (by simp [AV.trees,AV.tree,go_sem]) rfl ?_;simp only [XT,qL,go_sem];refine qc qA.ln ?_;simp only [go_sem];have hb:=Qp x.Kind;refine qH w7 ?_;simp only [go_sem];rw [Zz,qj (by omega) (by omega)];refine qH h ?_;simp only [go_sem];exact qM rfl rfl
theorem qaO:∀(xs:List Int),decide ((comp xs).length≤1)=xs.all fun k=>decide (some k=xs.head?):=by
  have key:∀(xs acc:List Int) (o:Option Int),acc.length≤(xs.foldl za (acc,o)).1.length:=by
    intro xs
    induction xs with
    | nil=>intro acc o;exact Nat.le_refl _
    | cons x xs ih=>
      intro acc o;rw [List.foldl_cons];unfold za;split
      · exact ih _ _
      · refine Nat.le_trans ?_ (ih _ _);simp
  have k2:∀(xs:List Int) (n:Int),decide ((xs.foldl za ([n],some n)).1.length≤1)=xs.all fun k=>decide (k=n):=by
    intro xs n
    induction xs with
    | nil=>rfl
    | cons x xs ih=>
      rw [List.foldl_cons,List.all_cons];by_cases e:x=n
      · subst e;rw [show za ([x],some x) x=([x],some x) by simp [za],ih];simp
      · rw [show za ([n],some n) x=([n,x],some x) by simp [za,Ne.symm e]];have:=key xs [n,x] (some x);rw [decide_eq_false (by simp at this;omega),decide_eq_false e];rfl
  intro xs;cases xs with
  | nil=>rfl
  | cons x xs=>
    unfold comp;rw [List.foldl_cons,show za ([],none) x=([x],some x) by simp [za],k2];simp
theorem qaN (n:Int) (L:List Int):∃r,comp (n::L)=n::r:=by
  have key:∀(xs acc:List Int) (o:Option Int),∃r,(xs.foldl za (acc,o)).1=acc++r:=by
    intro xs
    induction xs with
    | nil=>intro acc o;exact ⟨[],by simp⟩
    | cons x xs ih=>
      intro acc o;rw [List.foldl_cons];unfold za;split
      · exact ih _ _
      · obtain ⟨r,hr⟩:=ih (acc++[x]) (some x);refine ⟨x::r, ?_⟩;show (List.foldl za (acc++[x],some x) xs).1=_;rw [hr];simp
  obtain ⟨r,hr⟩:=key L [n] (some n);refine ⟨r, ?_⟩;unfold comp;rw [List.foldl_cons,show za ([],none) n=([n],some n) by simp [za],hr];rfl
theorem lv7 {L:List Int} {l:Int}:(L.all (fun n=>decide (n=l)) || L.all (fun n=>decide (n=l+1)))=(decide ((comp L).length≤1)&&(match L with |[]=>true | n::_=>decide (n=l) || decide (n=l+1))):=by
  rw [qaO];cases L with
  | nil=>rfl
  | cons n L=>
    simp only [List.all_cons,List.head?_cons,Option.some.injEq,decide_true,Bool.true_and];by_cases e:n=l
    · subst e;simp;intro h;omega
    · by_cases e2:n=l+1
      · subst e2;simp [e]
      · simp [e,e2]
theorem QG {h:List qC} {id:Nat} {n:Int} {L:List Int} (ho:h[id]?=some (.row 1 ((n::L).map qE) true)):wC none 0 0 h[id]?=some (.int .i64 n):=UF ho rfl
theorem c881 (x:qA):∀(l:Int) (ho:x.ok=true) (hz:x.sz≤1048576) (hl:0≤l∧l≤9) (hd:x.dep≤1000) (hq:x.size≤2097152),Pure Gm 881 [x.enc,.int .i64 l] (.bool (x.strat l)):=by
  induction x using qA.ind with
  | _ x ih=>
  intro l ho hz hl hd hq;refine Pure.intro [2,3] [] g881 (by kernel_rfl) rfl (by simp [AV.trees,AV.tree,go_sem]) rfl ?_;simp only [Yr,qL,go_sem];have hL:=x.len_sz;have h01:∀{y:qA},y∈x.Kids→y.sz≤1048576∧y.dep≤1000∧y.size≤2097152:=fun hy=>by
    have:=qA.kid_sz hy;have:=qA.dep_kid hy;have:=zV (f:=qA.size) hy;have:=x.size_eq;omega
  have hb:=Qp x.Kind;have bad:∀{h:List qC},x.strat l=false→Fin (some [.bool false]) h (.bool (x.strat l)):=fun h=>qM rfl (by rw [h]);refine wL qA.ln ?_;simp only [go_sem];refine wL rfl ?_;simp only [go_sem];simp only [go_sem,List.nil_append,List.cons_append,List.set_cons_zero,List.set_cons_succ];refine qD ?_ ?_<;>intro hc<;>simp only [hc,go_sem]
  · exact bad (by rw [x.strat_eq,decide_eq_false (by have:=odT hc;omega)];rfl)
  have h8:decide (l≤8)=true:=decide_eq_true (by have:=odF hc;omega);have hl8:=odT h8;have lvb:∀{h:List qC},zM x l=false→Fin (some [.bool false]) h (.bool (x.strat l)):=fun h=>bad (by rw [x.strat_eq,h];simp);have hP:=VF (f:=.fn 1195 [.ept (.int .i64 l) 0,.ept x.enc 0]) (fun y=> !(y.strat (l+qW x.Kind))) (by simp [AV.trees,AV.tree,go_sem]) x.Kids (fun y hy=>⟨1195,_,rfl,qZT (by omega) (ih y hy (l+qW x.Kind) (qv ho hy) (h01 hy).1 (by omega) (h01 hy).2.1 (h01 hy).2.2)⟩) (by omega);have good:∀{h:List qC},zM x l=true→Fin (some [.bool (!(x.Kids.any fun y=> !(y.strat (l+qW x.Kind))))]) h (.bool (x.strat l)):=fun h=>qM rfl (by rw [Zw,x.strat_eq,h8,h];rfl);refine qD ?_ ?_<;>intro hc<;>simp only [hc,go_sem]
  · have hk4:=odT hc;obtain ⟨a,hK⟩:=zi ((qu ho).2 (.inl hk4));have ham:a∈x.Kids:=by rw [hK];simp
    have hlv:zM x l=(decide ((a.levels 0 l).length≤1)&&(a.levels 0 l).all (fun n=>decide (n=l))):=by unfold zM;rw [if_pos hk4,hK];rfl
    simp only [hK,List.map_cons,List.map_nil,Option.map_some,go_sem];have hacc:=qPK a 0 l [] (qv ho ham) (h01 ham).1 (by have:=(h01 ham).2.1;omega) (by have:=(h01 ham).2.1;omega) (by simp;have:=(h01 ham).2.2;omega);have hll:=qA.levels_len a 0 l;have hqa:=(h01 ham).2.2;rw [List.nil_append] at hacc;generalize a.levels 0 l=L at hlv hacc hll;refine JM hacc rfl ?_;intro h' id' hG;simp only [go_sem];refine qY ?_ ?_<;>intro hc<;>simp only [hc,go_sem]
    · have h1:=odF hc;refine qY ?_ ?_<;>intro hc<;>simp only [hc,go_sem]
      · obtain ⟨n,rfl⟩:=zi (xs:=L) (by have:=odT hc;omega);simp only [go_sem];rw [QG hG.at'];simp only [go_sem];refine qD ?_ ?_<;>intro hc<;>simp only [hc,go_sem]
        · exact lvb (by rw [hlv];simp at hc;simp [hc])
        · refine qH hP ?_;simp only [go_sem];exact good (by rw [hlv];simp at hc;simp [hc])
      · have h2:L=[]:=List.length_eq_zero_iff.1 (by simp at hc;omega);subst h2;refine qH hP ?_;simp only [go_sem];exact good (by rw [hlv];rfl)
    · exact lvb (by rw [hlv,decide_eq_false (by simp at hc;omega)];rfl)
  refine qD ?_ ?_<;>intro hc<;>simp only [hc,go_sem]
  · have hk7:=odT hc;obtain ⟨a,c,hK⟩:=ze ((qu ho).1 (by omega));have hcm:c∈x.Kids:=by rw [hK];simp
    have hlv:zM x l=(decide ((comp (c.levels 0 l)).length≤1)&&(match c.levels 0 l with |[]=>true | n::_=>decide (n=l) || decide (n=l+1))):=by
      rw [←lv7];unfold zM;rw [if_neg (by omega),if_pos hk7,hK];rfl
    simp only [hK,List.map_cons,List.map_nil,Option.map_some,go_sem];have hacc:=qPK c 0 l [] (qv ho hcm) (h01 hcm).1 (by have:=(h01 hcm).2.1;omega) (by have:=(h01 hcm).2.1;omega) (by simp;have:=(h01 hcm).2.2;omega);have hll:=qA.levels_len c 0 l;have hqa:=(h01 hcm).2.2;rw [List.nil_append] at hacc;generalize c.levels 0 l=L at hlv hacc hll;refine JM hacc rfl ?_;intro h' id' hG;simp only [go_sem];refine zK (qRS hG.at' (by omega) ?_);simp only [go_sem];refine qY ?_ ?_<;>intro hc<;>simp only [hc,go_sem];rotate_left
    · exact lvb (by rw [hlv,decide_eq_false (by simp at hc;omega)];rfl)
    have h1:decide ((comp L).length≤1)=true:=decide_eq_true (by have:=odF hc;omega);rw [h1,Bool.true_and] at hlv;refine qY ?_ ?_<;>intro hc<;>simp only [hc,go_sem];rotate_left
    · have h2:L=[]:=List.length_eq_zero_iff.1 (by simp at hc;rw [hc];rfl);refine qH hP ?_;simp only [go_sem];exact good (by rw [hlv,h2])
    obtain ⟨n,L',hLn⟩:∃n L',L=n::L':=by
      cases L with
      | nil=>exact absurd hc (by simp)
      | cons n L=>exact ⟨n,L,rfl⟩
    obtain ⟨r,hr⟩:=qaN n L';have ho2:(h'.set id' (qC.row 1 ((comp L).map qE) true))[id']?=some (.row 1 ((n::r).map qE) true):=by rw [List.getElem?_set_self hG.lt,hLn,hr]
    have hp0:=odT hc;rw [WI (by omega) (by omega)];simp only [go_sem];rw [show (0+(0:Int).toNat)=0 from rfl,QG ho2];simp only [go_sem];refine qY ?_ ?_<;>intro hc<;>simp only [hc,go_sem]
    · rw [WI (by omega) (by omega)];simp only [go_sem];rw [show (0+(0:Int).toNat)=0 from rfl,QG ho2];simp only [go_sem];rw [qj (by omega) (by omega)];refine qD ?_ ?_<;>intro hc<;>simp only [hc,go_sem]
      · exact lvb (by rw [hlv,hLn];simp at hc;rename_i h;simp at h;simp [hc,h])
      · refine qH hP ?_;simp only [go_sem];exact good (by rw [hlv,hLn];simp at hc;simp [hc])
    · refine qH hP ?_;simp only [go_sem];exact good (by rw [hlv,hLn];simp at hc;simp [hc])
  · refine qH hP ?_;simp only [go_sem];exact good (by unfold zM;rename_i h4;rw [if_neg (odF h4),if_neg (odF hc)])
theorem c522 {x:qA} (hz:x.sz≤1048576) (hs:x.size≤2097152):Pure Gm 522 [x.enc] (.bool (x.closed&&x.strat 0)):=by
  refine Pure.intro [] [] g522 (by kernel_rfl) rfl (by simp [AV.trees,AV.tree,go_sem]) rfl ?_;simp only [YJ,qL,go_sem];have hds:=x.dep_size;have hss:=x.size_sz;refine qc qA.ln ?_;simp only [go_sem];refine qH (c521 hz (by omega) hs) ?_;simp only [go_sem];refine qY ?_ ?_<;>intro hc<;>simp only [hc,go_sem]
  · obtain ⟨h1,h2,h3⟩:=Qw hc;refine qH (c881 x 0 h1 hz (by omega) (by omega) hs) ?_;simp only [go_sem];exact qM rfl rfl
  · exact qM rfl rfl
theorem qZQ {x:qA} (hz:x.sz≤1048576) (hs:x.size≤2097152):Pure Gm 1170 [x.enc] (.bool (!(x.closed&&x.strat 0))):=by
  refine Pure.intro [] [] qcQ (by kernel_rfl) rfl (by simp [AV.trees,AV.tree,go_sem]) rfl ?_;simp only [XO,qL,go_sem];refine qc qA.ln ?_;simp only [go_sem];refine qH (c522 hz hs) ?_;simp only [go_sem];exact qM rfl rfl
theorem c848 {b:qF} (hz:b.sz≤1048576):Pure Gm 848 [b.enc] (.bool (b.Defs.all fun x=>x.closed&&x.strat 0)):=by
  refine Pure.intro [] [] g848 (by kernel_rfl) rfl (by simp [AV.trees,AV.tree,go_sem]) rfl ?_;simp only [Yk,qL,go_sem];have hz':b.Defs.length+qG qA.sz b.Defs≤1048576:=hz;refine qc rfl ?_;simp only [go_sem];refine qH (VF (f:=.fn 1170 []) (fun x=> !(x.closed&&x.strat 0)) rfl b.Defs (fun y hy=>⟨1170,_,rfl,qZQ (by have:=zV (f:=qA.sz) hy;omega) (by have:=zV (f:=qA.sz) hy;have:=y.size_sz;omega)⟩) (by omega)) ?_;simp only [go_sem];exact qM rfl (by rw [Zw])
end Go.Ab
namespace Go.Ab
open Go
set_option maxRecDepth 10000
set_option maxHeartbeats 2000000
attribute [local simp] qr qa
theorem c834 {xs:List Int} {n:Int} (hl:xs.length≤4194304):Pure Gm 834 [.lst 1 (xs.map qE) false,.int .i64 n] (.int .i64 (wM (fun k=>decide (n=k)) xs 0)):=by
  refine Pure.intro [] [] g834 (by kernel_rfl) rfl (by simp [AV.trees,AV.tree,go_sem]) rfl ?_;simp only [Yh,qL,go_sem];refine Sem.loop (fun i:Nat=>i≤xs.length∧wM (fun k=>decide (n=k)) xs 0=wM (fun k=>decide (n=k)) (xs.drop i) i) (fun i=>(⟨[(0,.lst 1 (xs.map qE) false),(1,.int .i64 n),(7,.int .i64 (xs.length:Nat)),(8,.int .i64 (i:Nat))],[],[]⟩:VSt)) (fun i=>xs.length-i) 0 (by kernel_rfl) ⟨Nat.zero_le _,by simp⟩ (Can.sub (by simp [go_sem]) (by simp [go_sem])) ?_;rintro i ⟨hi,hI⟩;simp only [go_sem];refine qD ?_ ?_<;>intro hc<;>simp only [hc,go_sem]
  · have hlt:i<xs.length:=by have:=odT hc;omega
    simp only [List.getElem?_map,gEg hlt,Option.map_some,go_sem];rw [List.drop_eq_getElem_cons hlt,wM] at hI;simp only [qE,go_sem];refine qD ?_ ?_<;>intro hc<;>simp only [hc,go_sem]
    · exact qM rfl (by rw [hI,hc];rfl)
    · rw [hc] at hI;simp only [qe (show i<4611686018427387904 by omega)];refine qZ (i+1) ⟨by omega, ?_⟩ (by omega) (Can.sub (by simp [go_sem]) (by simp [go_sem]));exact hI
  · obtain rfl:i=xs.length:=by have:=odF hc;omega
    exact qM rfl (by rw [hI,List.drop_length];rfl)
theorem c647 {xs:List Int} {n:Int} (hl:xs.length≤4194304):Pure Gm 647 [.lst 1 (xs.map qE) false,.int .i64 n] (.bool (xs.any fun k=>decide (n=k))):=by
  refine Pure.intro [] [] g647 (by kernel_rfl) rfl (by simp [AV.trees,AV.tree,go_sem]) rfl ?_;simp only [YQ,qL,go_sem];simp only [Qz,qL,go_sem];refine qH (c834 hl) ?_;simp only [go_sem];exact qM rfl (by rw [qQN])
theorem qX7 (x:Int):w32 x=IntKind.i64.wrap (IntKind.i32.wrap x):=by
  unfold w32;congr 1;simp only [IntKind.wrap,IntKind.bits,IntKind.signed];simp
theorem Qt {x:Int}:Pure Gm 1400 [.int .i64 x] (.int .i64 (w32 x)):=by
  refine Pure.intro [] [] qc9 (by kernel_rfl) rfl (by simp [AV.trees,AV.tree,go_sem]) rfl ?_;simp only [Xh,qL,go_sem];exact qM rfl (by rw [qX7])
theorem qPX {x:Int}:Pure Gm 1120 [.int .i64 x] ((qA.mk 11 x [] []).enc):=by
  refine Pure.intro [] [] qcB (by kernel_rfl) rfl (by simp [AV.trees,AV.tree,go_sem]) (by simp [go_sem]) ?_;simp only [W9,qL,go_sem];refine qK (k:=4) (by rfl) (by rfl) (by exact ⟨_,rfl⟩) (by decide) ?_;simp only [go_sem];exact zH QE
theorem c726 {x:Int}:Pure Gm 726 [.int .i64 x] ((qA.mk 2 x [] []).enc):=by
  refine Pure.intro [] [] g726 (by kernel_rfl) rfl (by simp [AV.trees,AV.tree,go_sem]) (by simp [go_sem]) ?_;simp only [YW,qL,go_sem];refine qK (k:=4) (by rfl) (by rfl) (by exact ⟨_,rfl⟩) (by decide) ?_;simp only [go_sem];exact zH QE
theorem qZX {f a:qA}:Pure Gm 1401 [f.enc,a.enc] ((zP f a).enc):=by
  refine Pure.intro [] [] qdA (by kernel_rfl) rfl (by simp [AV.trees,AV.tree,go_sem]) (by simp [go_sem]) ?_;simp only [Xi,qL,go_sem];refine qc qA.ln ?_;simp only [go_sem];refine qc qA.ln ?_;simp only [go_sem];refine qK (k:=4) (by rfl) (by rfl) (by exact ⟨_,rfl⟩) (by decide) ?_;simp only [go_sem];exact zH (VO .nils (Cv.row rfl rfl (qr [f,a]) (by decide)))
theorem qZF {k a b:Int}:Pure Gm 1118 [.int .i64 k,.int .i64 a,.int .i64 b] (.int .i64 (opI k a b)):=by
  refine Pure.intro [] [] qb9 (by kernel_rfl) rfl (by simp [AV.trees,AV.tree,go_sem]) rfl ?_;simp only [W7,qL,go_sem];refine qH Qt ?_;simp only [go_sem];refine qH Qt ?_;simp only [go_sem];unfold opI;refine qD ?_ ?_<;>intro hc<;>simp only [hc,go_sem]
  · rw [if_pos (odT hc)];refine qH Qt ?_;simp only [go_sem];exact qM rfl rfl
  rw [if_neg (odF hc)];refine qD ?_ ?_<;>intro hc<;>simp only [hc,go_sem]
  · rw [if_pos (odT hc)];refine qH Qt ?_;simp only [go_sem];exact qM rfl rfl
  rw [if_neg (odF hc)];refine qD ?_ ?_<;>intro hc<;>simp only [hc,go_sem]
  · rw [if_pos (odT hc)];refine qH Qt ?_;simp only [go_sem];exact qM rfl rfl
  rw [if_neg (odF hc)];refine qD ?_ ?_<;>intro hc<;>simp only [hc,go_sem]
  · rw [if_pos (odT hc)];refine qD ?_ ?_<;>intro hc<;>simp only [hc,go_sem]
    · rw [if_pos (odT hc)];exact qM rfl rfl
    rw [if_neg (odF hc)];have hq:=odF hc;simp only [if_neg hq,go_sem];refine qH Qt ?_;simp only [go_sem];exact qM rfl rfl
  rw [if_neg (odF hc)];refine qD ?_ ?_<;>intro hc<;>simp only [hc,go_sem]
  · rw [if_pos (odT hc)];refine qH w7 ?_;simp only [go_sem];exact qM rfl (by simp)
  rw [if_neg (odF hc)];refine qD ?_ ?_<;>intro hc<;>simp only [hc,go_sem]
  · rw [if_pos (odT hc)];refine qH w7 ?_;simp only [go_sem];exact qM rfl (by simp)
  rw [if_neg (odF hc)];exact qM rfl rfl
theorem qZG {d:Int} {as:List qA} (hn:as.length≤1048576):Pure Gm 1119 [.int .i64 d,.lst 4 (as.map qA.enc) false] ((wH d as).enc):=by
  refine Pure.intro [] [] qcA (by kernel_rfl) rfl (by simp [AV.trees,AV.tree,go_sem]) (by simp [go_sem]) ?_;simp only [W8,qL,go_sem];refine qH qPX ?_;simp only [go_sem];refine qK (k:=4) (by rfl) (by simp [go_sem]) (qA.isAgg _) (by decide) ?_;simp only [go_sem];refine Sem.loop (fun i:Nat=>i≤as.length∧True) (fun i=>(⟨[(10,.lst 4 (as.map qA.enc) false),(11,.int .i64 (as.length:Nat)),(12,.int .i64 (i:Nat))],[(5,((as.take i).foldl zP (.mk 11 d [] [])).enc),(4,.agg [.int .i64 0,.int .i64 0,.nils,.nils])],[]⟩:VSt)) (fun i=>as.length-i) 0 (by kernel_rfl) ⟨Nat.zero_le _,trivial⟩ (Can.sub (by simp [go_sem]) (by simp [go_sem])) ?_;rintro i ⟨hi,hI⟩;simp only [go_sem];refine qD ?_ ?_<;>intro hc<;>simp only [hc,go_sem]
  · have hlt:i<as.length:=by have:=odT hc;omega
    simp only [List.getElem?_map,gEg hlt,Option.map_some,go_sem];refine qK (k:=4) (by rfl) (by simp [go_sem]) (qA.isAgg _) (by decide) ?_;simp only [go_sem];refine qH qZX ?_;simp only [go_sem];refine Jr qA.ln qA.putcore ?_;simp only [go_sem];simp only [qe (show i<4611686018427387904 by omega)];refine qZ (i+1) ⟨by omega,trivial⟩ (by omega) (Can.sub (by simp [go_sem]) ?_);rw [List.take_succ_eq_append_getElem hlt,List.foldl_append];simp [go_sem]
  · obtain rfl:i=as.length:=by have:=odF hc;omega
    rw [List.take_length];refine qK (k:=4) (by rfl) (by simp [go_sem]) (qA.isAgg _) (by decide) ?_;simp only [go_sem];exact zH (.refl (by simp [go_sem]))
theorem c758 {x:qA} (hz:x.sz≤1048576) (ho:x.ok=true):Pure Gm 758 [x.enc] (.int .i64 (qX x)):=by
  refine Pure.intro [] [] g758 (by kernel_rfl) rfl (by simp [AV.trees,AV.tree,go_sem]) rfl ?_;simp only [YX,qL,go_sem];have hL:=x.len_sz;refine qc qA.ln ?_;simp only [go_sem];refine qD ?_ ?_<;>intro hc<;>simp only [hc,go_sem]
  · have:x.Kids=[]:=List.length_eq_zero_iff.1 (by have:=odT hc;omega);exact qM rfl (by unfold qX;rw [this])
  have hne:¬x.Kids.length=0:=by have:=odF hc;omega
  by_cases h5:x.Kind=5
  · obtain ⟨a,b,hK⟩:=ze ((qu ho).1 (by omega));have hr:qX x=if a.Kind=4 then 1 else if a.Kind=11 then 4 else 0:=by unfold qX;rw [hK];simp only [];rw [if_pos h5]
    simp only [hK,List.map_cons,List.map_nil,Option.map_some,go_sem];refine qK (k:=4) (by rfl) (by simp [go_sem]) (qA.isAgg _) (by decide) ?_;simp only [go_sem];rw [hr,h5];simp only [go_sem];refine qD ?_ ?_<;>intro hc<;>simp only [hc,go_sem]
    · exact qM rfl (by rw [if_pos (odT hc)])
    rw [if_neg (odF hc)];refine qD ?_ ?_<;>intro hc<;>simp only [hc,go_sem]
    · exact qM rfl (by rw [if_pos (odT hc)])
    · exact qM rfl (by rw [if_neg (odF hc)])
  by_cases h3:x.Kind=3
  · obtain ⟨a,b,hK⟩:=ze ((qu ho).1 (by omega));have hr:qX x=if a.Kind=11 then 4 else if a.Kind=2 then (if b.Kind=2 then 2 else if b.Kind=11 then 4 else 0) else 0:=by unfold qX;rw [hK];simp only [];rw [if_neg h5,if_pos h3]
    have hr2:qX x=if a.Kind=2∧b.Kind=2 then 2 else if a.Kind=11 then 4 else if a.Kind=2∧b.Kind=11 then 4 else 0:=by
      rw [hr];by_cases e1:a.Kind=11
      · simp [e1]
      · by_cases e2:a.Kind=2
        · simp [e2]
        · simp [e1,e2]
    simp only [hK,List.map_cons,List.map_nil,Option.map_some,go_sem];refine qK (k:=4) (by rfl) (by simp [go_sem]) (qA.isAgg _) (by decide) ?_;simp only [go_sem];rw [hr2];refine qD ?_ ?_<;>intro hc<;>simp only [hc,go_sem]
    · exact absurd (odT hc) h5
    refine qD ?_ ?_<;>intro hc<;>simp only [hc,go_sem];rotate_left
    · exact absurd h3 (odF hc)
    simp only [hK,List.map_cons,List.map_nil,Option.map_some,go_sem];refine qK (k:=4) (by rfl) (by simp [go_sem]) (qA.isAgg _) (by decide) ?_;simp only [go_sem]
    repeat' (first | (first | (refine qY ?_ ?_<;>intro hc<;>simp only [hc,go_sem]) | (refine qD ?_ ?_<;>intro hc<;>simp only [hc,go_sem])) | refine qM rfl ?_)
    all_goals (refine congrArg (AV.int IntKind.i64) ?_;simp_all<;>omega)
  obtain ⟨a,ys,hK⟩:∃a ys,x.Kids=a::ys:=by
    cases h:x.Kids with
    | nil=>rw [h] at hne;exact absurd rfl hne
    | cons a ys=>exact ⟨a,ys,rfl⟩
  simp only [hK,List.map_cons,List.map_nil,Option.map_some,go_sem];refine qK (k:=4) (by rfl) (by simp [go_sem]) (qA.isAgg _) (by decide) ?_;simp only [go_sem];refine qD ?_ ?_<;>intro hc<;>simp only [hc,go_sem]
  · exact absurd (odT hc) h5
  refine qD ?_ ?_<;>intro hc<;>simp only [hc,go_sem]
  · exact absurd (odT hc) h3
  by_cases h9:x.Kind=9
  · have hr:qX x=if a.Kind=8∧a.Value<(x.Data.length:Nat) then 3 else if a.Kind=11 then 4 else 0:=by unfold qX;rw [hK];simp only [];rw [if_neg h5,if_neg h3,if_pos h9]
    rw [hr]
    repeat' (first | (first | (refine qY ?_ ?_<;>intro hc<;>simp only [hc,go_sem]) | (refine qD ?_ ?_<;>intro hc<;>simp only [hc,go_sem])) | refine qM rfl ?_)
    all_goals (refine congrArg (AV.int IntKind.i64) ?_;simp_all<;>omega)
  by_cases h10:x.Kind=10
  · have hr:qX x=if a.Kind=2 then 3 else if a.Kind=11 then 4 else 0:=by unfold qX;rw [hK];simp only [];rw [if_neg h5,if_neg h3,if_neg h9,if_pos h10]
    rw [hr]
    repeat' (first | (first | (refine qY ?_ ?_<;>intro hc<;>simp only [hc,go_sem]) | (refine qD ?_ ?_<;>intro hc<;>simp only [hc,go_sem])) | refine qM rfl ?_)
    all_goals (refine congrArg (AV.int IntKind.i64) ?_;simp_all<;>omega)
  refine qD ?_ ?_<;>intro hc<;>simp only [hc,go_sem]
  · exact absurd (odT hc) h9
  refine qD ?_ ?_<;>intro hc<;>simp only [hc,go_sem]
  · exact absurd (odT hc) h10
  exact qM rfl (by rw [ZU h5 h3 h9 h10])
end Go.Ab
namespace Go.Ab
open Go
set_option maxRecDepth 10000
set_option maxHeartbeats 2000000
attribute [local simp] qr qa
theorem qVO {α:Type} {f:α→Nat} {b:Nat}:∀{xs:List α},xs≠[]→zL (fun y=>f y+b) xs=zL f xs+b
  |[x],_=>by simp [zL]
  | x::y::xs,_=>by
    have:=qVO (f:=f) (b:=b) (xs:=y::xs) (by simp);simp only [zL,Nat.max_def] at this⊢
    repeat' split at this
    all_goals (repeat' split)
    all_goals omega
theorem qY7 {x:qA} (h:x.ok=true):zL (fun y=>qA.boxes y+(if x.Kind=6 then 1 else 0)) x.Kids=x.boxes:=by
  rw [x.boxes_eq];by_cases e:x.Kids=[]
  · rw [e];have:¬x.Kind=6:=fun h6=>by
      have:=(qu h).2 (.inr (.inl h6));rw [e] at this;cases this
    rw [if_neg this];rfl
  · exact qVO e
theorem qY6 (k:Int):qW k=((if k=6 then 1 else 0:Nat):Int):=by unfold qW;split<;>rfl
theorem qZR (x:qA):∀(ho:x.ok=true) (hz:x.sz≤1048576) (hd:x.dep≤2097152),Pure Gm 1171 [x.enc] (.int .i64 (x.boxes:Nat)):=by
  induction x using qA.ind with
  | _ x ih=>
  intro ho hz hd;refine Pure.intro [] [] qcR (by kernel_rfl) rfl (by simp [AV.trees,AV.tree,go_sem]) rfl ?_;simp only [XP,qL,go_sem];have hL:=x.len_sz;have hbd:=x.boxes_dep;refine qc qA.ln ?_;simp only [go_sem];refine Sem.loop (fun i:Nat=>i≤x.Kids.length∧True) (fun i=>(⟨[(3,.int .i64 ((zL (fun y=>qA.boxes y+(if x.Kind=6 then 1 else 0)) (x.Kids.take i):Nat):Int)),(7,.lst 4 (x.Kids.map qA.enc) false),(8,.int .i64 (x.Kids.length:Nat)),(9,.int .i64 (i:Nat))],[(1,x.enc)],[]⟩:VSt)) (fun i=>x.Kids.length-i) 0 (by kernel_rfl) ⟨Nat.zero_le _,by trivial⟩ (Can.sub (by simp [go_sem]) (by simp [go_sem])) ?_;rintro i ⟨hi,hI⟩;simp only [go_sem];refine qD ?_ ?_<;>intro hc<;>simp only [hc,go_sem]
  · have hlt:i<x.Kids.length:=by have:=odT hc;omega
    simp only [List.getElem?_map,gEg hlt,Option.map_some,go_sem];have hm:=gMm hlt;have hk:=qA.kid_sz hm;have hp:=qA.dep_kid hm;have hb:=Qp x.Kind;have hkb:=x.Kids[i].boxes_dep;refine qK (k:=4) (by rfl) (by simp [go_sem]) (qA.isAgg _) (by decide) ?_;simp only [go_sem];refine qH (ih _ hm (qv ho hm) (by omega) (by omega)) ?_;simp only [go_sem];refine qH w7 ?_;simp only [go_sem];rw [Zz,qj (n:=(x.Kids[i].boxes:Int)+qW x.Kind) (by omega) (by omega)];have e2:max ((zL (fun y=>qA.boxes y+(if x.Kind=6 then 1 else 0)) (x.Kids.take i):Nat):Int) ((x.Kids[i].boxes:Int)+qW x.Kind)=((zL (fun y=>qA.boxes y+(if x.Kind=6 then 1 else 0)) (x.Kids.take (i+1)):Nat):Int):=by rw [WU hlt,qY6];omega
    rw [e2];simp only [qe (show i<4611686018427387904 by omega)];refine qZ (i+1) ⟨by omega, ?_⟩ (by omega) (Can.sub (by simp [go_sem]) (by simp [go_sem]));trivial
  · obtain rfl:i=x.Kids.length:=by have:=odF hc;omega
    rw [List.take_length,qY7 ho];exact qM rfl rfl
end Go.Ab
namespace Go.Ab
open Go
set_option maxRecDepth 10000
set_option maxHeartbeats 2000000
attribute [local simp] qr qa
def Jx (φ:qA→Int→qA):qA→Int→qA:=qA.fold fun x rs d=>if x.Kind=1 then φ x d else .mk x.Kind x.Value x.Data (zC (fun i (r:Int→qA)=>r (d+qR x.Kind i)) rs 0)
theorem qQ6 (φ:qA→Int→qA) (x:qA) (d:Int):Jx φ x d=if x.Kind=1 then φ x d else .mk x.Kind x.Value x.Data (zC (fun i y=>Jx φ y (d+qR x.Kind i)) x.Kids 0):=by
  unfold Jx;rw [qA.fold_eq,V2]
def qYI (g:Nat) (cs:List AV) (φ:qA→Int→qA):Prop:=∀(y:qA) (d:Int),y.Kind=1→y.ok=true→0≤d∧d≤1048576→Pure Gm g (y.enc::.int .i64 d::cs) (φ y d).enc
theorem qS6 (x:qA):∀(g:Nat) (cs:List AV) (φ:qA→Int→qA) (d:Int) (ht:AV.trees cs=true) (hp:qYI g cs φ) (ho:x.ok=true) (hz:x.sz≤1048576) (hd:0≤d∧d+x.dep≤1048576),Pure Gm 1316 [x.enc,.int .i64 d,.fn g cs] ((Jx φ x d).enc):=by
  induction x using qA.ind with
  | _ x ih=>
  intro g cs φ d ht hp ho hz hd;refine Pure.intro [] [] qcW (by kernel_rfl) rfl (by simp [AV.trees,AV.tree,go_sem,ht]) (by simp [go_sem]) ?_;simp only [XU,qL,go_sem];have hL:=x.len_sz;have hres:=qQ6 φ x d;refine qc qA.ln ?_;simp only [go_sem];refine qD ?_ ?_<;>intro hc<;>simp only [hc,go_sem]
  · have h1:=odT hc;rw [if_pos h1] at hres;refine qH (hp x d h1 ho (by omega)) ?_;simp only [go_sem];refine qK (k:=4) (by rfl) (by simp [go_sem]) (qA.isAgg _) (by decide) ?_;simp only [go_sem];rw [hres];exact zH (.refl (by simp [go_sem]))
  rw [if_neg (odF hc)] at hres;refine wg (n401 x.Data (by omega)) ?_;simp only [go_sem];simp only [lay,lI,go_sem,List.nil_append,List.cons_append];refine qK (k:=4) (by rfl) (by rfl) (by exact ⟨_,rfl⟩) (by decide) ?_;simp only [go_sem];refine Sem.loop (fun i:Nat=>i≤x.Kids.length) (fun i=>(⟨[(1,.int .i64 d),(2,.fn g cs),(26,.lst 4 (x.Kids.map qA.enc) false),(27,.int .i64 (x.Kids.length:Nat)),(28,.int .i64 (i:Nat))],[(3,x.enc),(7,.agg [.int .i64 x.Kind,.int .i64 x.Value,.slice 1 0 0 x.Data.length false,.slice 4 1 0 i false]),(6,.agg [.int .i64 0,.int .i64 0,.nils,.nils])],[.row 1 (x.Data.map qE) true,.row 4 ((zC (fun i y=>Jx φ y (d+qR x.Kind i)) (x.Kids.take i) 0).map qA.enc) true]⟩:VSt)) (fun i=>x.Kids.length-i) 0 (by kernel_rfl) (Nat.zero_le _)
    (Can.renum [some 0,none] rfl ⟨.row rfl (VR2s.of_eq rfl (by simp [qa])),.ph,trivial⟩ ⟨⟨_,rfl,.tree rfl⟩,⟨_,rfl,.tree (by simp [AV.tree,ht])⟩,⟨_,rfl,.tree (by simp [AV.tree,go_sem])⟩,⟨_,rfl,.tree rfl⟩,⟨_,rfl,.tree rfl⟩,trivial⟩
      ⟨⟨_,rfl,.tree (by simp [go_sem])⟩,⟨_,rfl,.agg rfl (VR2s.cons (.tree rfl) (VR2s.cons (.tree rfl) (VR2s.cons (.slice rfl) (VR2s.cons (.ph rfl) VR2s.nil)))).2⟩,⟨_,rfl,.tree rfl⟩,trivial⟩) ?_
  intro i hi;simp only [go_sem];refine qD ?_ ?_<;>intro hc<;>simp only [hc,go_sem]
  · have hlt:i<x.Kids.length:=by have:=odT hc;omega
    simp only [List.getElem?_map,gEg hlt,Option.map_some,go_sem];have hm:=gMm hlt;have hk:=qA.kid_sz hm;have hkd:=qA.dep_kid hm;have hb:=jI x.Kind i;refine qK (k:=4) (by rfl) (by simp [go_sem]) (qA.isAgg _) (by decide) ?_;simp only [go_sem];refine qH Z1 ?_;simp only [go_sem];rw [qj (n:=d+qR x.Kind i) (by omega) (by omega)];refine qH (ih _ hm g cs φ (d+qR x.Kind i) ht hp (qv ho hm) (by omega) (by omega)) ?_;simp only [go_sem];refine jM (el:=(zC (fun i y=>Jx φ y (d+qR x.Kind i)) (x.Kids.take i) 0).map qA.enc) rfl rfl (by simp [jv];omega) (by omega) ?_;simp only [go_sem];simp only [qe (show i<4611686018427387904 by omega)];refine qZ (i+1) (by omega) (by omega) ?_;refine Can.renum [some 0,some 3] rfl ⟨.row rfl (VR2s.of_eq rfl (by simp [qa])),.row rfl (VR2s.of_eq (by rw [V4 hlt,Nat.zero_add];simp) (qr _)),trivial⟩ ⟨⟨_,rfl,.tree rfl⟩,⟨_,rfl,.tree (by simp [AV.tree,ht])⟩,⟨_,rfl,.tree (by simp [AV.tree,go_sem])⟩,⟨_,rfl,.tree rfl⟩,⟨_,rfl,.tree rfl⟩,trivial⟩
      ⟨⟨_,rfl,.tree (by simp [go_sem])⟩,⟨_,rfl,.agg rfl (VR2s.cons (.tree rfl) (VR2s.cons (.tree rfl) (VR2s.cons (.slice rfl) (VR2s.cons (.slice rfl) VR2s.nil)))).2⟩,⟨_,rfl,.tree rfl⟩,trivial⟩
  · obtain rfl:i=x.Kids.length:=by have:=odF hc;omega
    rw [List.take_length];refine qK (k:=4) (by rfl) (by rfl) (by exact ⟨_,rfl⟩) (by decide) ?_;simp only [go_sem];rw [hres];exact zH (VO (d:=x.Data) (D:=.slice 1 0 0 x.Data.length false) (K:=.slice 4 1 0 x.Kids.length false) (Cv.row rfl (by simp) (by simp [qa]) (by decide)) (Cv.row rfl (by simp [jv]) (qr _) (by decide)))
end Go.Ab
namespace Go.Ab
open Go
set_option maxRecDepth 10000
set_option maxHeartbeats 2000000
attribute [local simp] qr qa
theorem qQ5 {α β:Type} {f g:Nat→α→β}:∀{xs:List α} {k:Nat},(∀x∈xs,∀k,f k x=g k x)→zC f xs k=zC g xs k
  |[],_,_=>rfl
  | x::xs,k,h=>by simp only [zC];rw [h x (by simp) k,qQ5 (fun y hy=>h y (by simp [hy]))]
def Wg (a f:Int) (y:qA) (d:Int):qA:=if d+f≤y.Value then .mk y.Kind (y.Value+a) y.Data y.Kids else y
theorem qA.putval {y:qA} {n:Int}:y.enc.put 1 (.int .i64 n)=some (qA.mk y.Kind n y.Data y.Kids).enc:=by rw [qA.enc_eq,qA.enc_eq];rfl
theorem qgD (a f:Int):∀(x:qA) (d:Int),x.ok=true→Jx (Wg a f) x d=x.shift a (f+d):=qA.ind fun x ih d ho=>by
  rw [qQ6,qA.shift_eq];split
  · rename_i h1;have hk:=QO ho h1;unfold Wg jY;rw [hk];by_cases h:d+f≤x.Value
    · rw [if_pos h,if_pos ⟨h1,by omega⟩];rfl
    · rw [if_neg h,if_neg (fun q=>h (by omega))];have:=qA.eta x;rw [hk] at this;rw [←this];rfl
  · rename_i h1;unfold jY;rw [if_neg (fun q=>h1 q.1)];congr 1;refine qQ5 fun y hy k=> ?_;rw [ih y hy _ (qv ho hy)];congr 1;omega
def WZ (arg:qA) (y:qA) (d:Int):qA:=if y.Value=d then arg.shift d 0 else if d<y.Value then .mk y.Kind (y.Value-1) y.Data y.Kids else y
theorem qZ1 {y:qA} {d a f:Int} (h1:y.Kind=1) (ho:y.ok=true) (hd:0≤d∧d≤1048576) (ha:0≤a∧a≤1048576) (hf:0≤f∧f≤1048576):Pure Gm 1462 [y.enc,.int .i64 d,.ept (.int .i64 f) 0,.ept (.int .i64 a) 0] ((Wg a f y d).enc):=by
  refine Pure.intro [] [] qdE (by kernel_rfl) rfl (by simp [AV.trees,AV.tree,go_sem]) (by simp [go_sem]) ?_;simp only [Xm,qL,go_sem];have hv:=UD ho;unfold jj inI at hv;simp [h1] at hv;refine qc qA.ln ?_;simp only [go_sem];rw [qj (n:=d+f) (by omega) (by omega)];unfold Wg;refine qD ?_ ?_<;>intro hc<;>simp only [hc,go_sem]
  · rw [if_pos (by have:=odT hc;omega),qj (n:=y.Value+a) (by omega) (by omega)];refine Jr (by rfl) qA.putval ?_;simp only [go_sem];refine qK (k:=4) (by rfl) (by simp [go_sem]) (qA.isAgg _) (by decide) ?_;simp only [go_sem];exact zH (.refl (by simp [go_sem]))
  · rw [if_neg (by have:=odF hc;omega)];refine qK (k:=4) (by rfl) (by simp [go_sem]) (qA.isAgg _) (by decide) ?_;simp only [go_sem];exact zH (.refl (by simp [go_sem]))
theorem qZV {x:qA} {a f:Int} (ho:x.ok=true) (hz:x.sz≤1048576) (hd:x.dep≤1048576) (ha:0≤a∧a≤1048576) (hf:0≤f∧f≤1048576):Pure Gm 1318 [x.enc,.int .i64 a,.int .i64 f] ((x.shift a f).enc):=by
  refine Pure.intro [4,5] [] qcY (by kernel_rfl) rfl (by simp [AV.trees,AV.tree,go_sem]) (by simp [go_sem]) ?_;simp only [XW,qL,go_sem];refine qc qA.ln ?_;simp only [go_sem];refine wL rfl ?_;simp only [go_sem];refine wL rfl ?_;simp only [go_sem];simp only [go_sem,List.nil_append,List.cons_append,List.set_cons_zero,List.set_cons_succ];refine qH (qS6 x 1462 [.ept (.int .i64 f) 0,.ept (.int .i64 a) 0] (Wg a f) 0 rfl (fun y d h1 ho hd=>qZ1 h1 ho hd ha hf) ho hz (by omega)) ?_;simp only [go_sem];refine qK (k:=4) (by rfl) (by simp [go_sem]) (qA.isAgg _) (by decide) ?_;simp only [go_sem];rw [qgD a f x 0 ho,Int.add_zero];exact zH (.refl (by simp [go_sem]))
theorem qZU {y arg:qA} {d:Int} (h1:y.Kind=1) (ho:y.ok=true) (hd:0≤d∧d≤1048576) (hao:arg.ok=true) (haz:arg.sz≤1048576) (had:arg.dep≤1048576):Pure Gm 1317 [y.enc,.int .i64 d,.ept arg.enc 0] ((WZ arg y d).enc):=by
  refine Pure.intro [] [] qcX (by kernel_rfl) rfl (by simp [AV.trees,AV.tree,go_sem]) (by simp [go_sem]) ?_;simp only [XV,qL,go_sem];have hv:=UD ho;unfold jj inI at hv;simp [h1] at hv;refine qc qA.ln ?_;simp only [go_sem];unfold WZ;refine qD ?_ ?_<;>intro hc<;>simp only [hc,go_sem]
  · rw [if_pos (odT hc)];refine qH (qZV hao haz had hd (by omega)) ?_;simp only [go_sem];refine qK (k:=4) (by rfl) (by simp [go_sem]) (qA.isAgg _) (by decide) ?_;simp only [go_sem];exact zH (.refl (by simp [go_sem]))
  rw [if_neg (odF hc)];refine qD ?_ ?_<;>intro hc<;>simp only [hc,go_sem]
  · rw [if_pos (by have:=odT hc;omega),qj (n:=y.Value-1) (by omega) (by omega)];refine Jr (by rfl) qA.putval ?_;simp only [go_sem];refine qK (k:=4) (by rfl) (by simp [go_sem]) (qA.isAgg _) (by decide) ?_;simp only [go_sem];exact zH (.refl (by simp [go_sem]))
  · rw [if_neg (by have:=odF hc;omega)];refine qK (k:=4) (by rfl) (by simp [go_sem]) (qA.isAgg _) (by decide) ?_;simp only [go_sem];exact zH (.refl (by simp [go_sem]))
theorem qgZ {x:qA} (h:x.ok=true) (hk:x.Kind=1):x.Data=[]:=by
  have h:=w3 h;unfold zo inI at h;simp only [bAt,decide_eq_true_eq] at h;obtain ⟨⟨⟨_,h1,h2⟩,_⟩,_⟩:=h;simp [shp,hk] at h1 h2;exact h2
theorem qgC (arg:qA):∀(x:qA) (d:Int),x.ok=true→Jx (WZ arg) x d=qA.put arg x d:=qA.ind fun x ih d ho=>by
  rw [qQ6,qA.put_eq];split
  · rename_i h1;have hk:=QO ho h1;have hd:=qgZ ho h1;unfold WZ;split
    · rfl
    rename_i h2;have e:qA.mk 1 x.Value [] []=x:=by
      have:=qA.eta x;rwa [hk,hd,h1] at this
    unfold wP;split
    · rename_i h3;rw [h1,hk,hd]
    · rename_i h3;exact e.symm
  · congr 1;exact qQ5 fun y hy k=>ih y hy _ (qv ho hy)
theorem Jk {x arg:qA} (ho:x.ok=true) (hz:x.sz≤1048576) (hd:x.dep≤1048576) (hao:arg.ok=true) (haz:arg.sz≤1048576) (had:arg.dep≤1048576):Pure Gm 992 [x.enc,arg.enc] ((qA.put arg x 0).enc):=by
  refine Pure.intro [3] [] g992 (by kernel_rfl) rfl (by simp [AV.trees,AV.tree,go_sem]) (by simp [go_sem]) ?_;simp only [Yv,qL,go_sem];refine qc qA.ln ?_;simp only [go_sem];refine wL qA.ln ?_;simp only [go_sem];simp only [go_sem,List.nil_append,List.cons_append,List.set_cons_zero,List.set_cons_succ];refine qH (qS6 x 1317 [.ept arg.enc 0] (WZ arg) 0 (by simp [AV.trees,AV.tree,go_sem]) (fun y d h1 ho hd=>qZU h1 ho hd hao haz had) ho hz (by omega)) ?_;simp only [go_sem];refine qK (k:=4) (by rfl) (by simp [go_sem]) (qA.isAgg _) (by decide) ?_;simp only [go_sem];rw [qgC arg x 0 ho];exact zH (.refl (by simp [go_sem]))
end Go.Ab
namespace Go.Ab
open Go
set_option maxRecDepth 10000
set_option maxHeartbeats 2000000
attribute [local simp] qr qa
@[go_sem] theorem d21:decide ((2:Int)=1)=false:=nr rfl
@[go_sem] theorem d31:decide ((3:Int)=1)=false:=nr rfl
@[go_sem] theorem d32:decide ((3:Int)=2)=false:=nr rfl
@[go_sem] theorem d41:decide ((4:Int)=1)=false:=nr rfl
@[go_sem] theorem d42:decide ((4:Int)=2)=false:=nr rfl
@[go_sem] theorem d43:decide ((4:Int)=3)=false:=nr rfl
theorem s769 {h:List qC} {xs:List qA} {K:AV→List qC→Prop} (hne:xs≠[]) (hl:xs.length≤4194304) (hK:K (.slice 4 h.length 0 xs.length false) (h++[.row 4 (xs.map qA.enc) true])):SCall Gm 769 [.lst 4 (xs.map qA.enc) false] h K:=by
  refine SCall.run [] [] g769 (by kernel_rfl) rfl ?_
  match xs,hne with
  | x::xs,_=>
  simp only [Yd,Z4,qL,List.map_cons,go_sem];refine Zx Els.lst (by simp only [List.length_cons,List.length_map] at hl⊢;omega) ?_;simp only [go_sem];simpa using hK
theorem qZ6 {b:qF} {x a c k:qA} (hx:x.valid=true) (hK:x.Kids=[a,c]) (hk:a.Kids=[k]):Pure Gm 759 [b.enc,.int .i64 1,x.enc] ((qA.put c k 0).enc):=by
  refine Pure.intro [] [] Vj (by kernel_rfl) rfl (by simp [AV.trees,AV.tree,go_sem]) (by simp [go_sem]) ?_;simp only [QB,qL,go_sem];have ham:a∈x.Kids:=by rw [hK];simp
  have hcm:c∈x.Kids:=by rw [hK];simp
  have hkm:k∈a.Kids:=by rw [hk];simp
  obtain ⟨c1,c2,c3,c4,c5⟩:=zZ (zd hx hcm);obtain ⟨k1,k2,k3,k4,k5⟩:=zZ (zd (zd hx ham) hkm);refine qc rfl ?_;simp only [go_sem];refine qc qA.ln ?_;simp only [go_sem];replace hK:=And.intro hK hk;simp only [hK,List.map_cons,List.map_nil,Option.map_some,go_sem];refine qH (Jk k1 (by omega) (by omega) c1 (by omega) (by omega)) ?_;simp only [go_sem];refine qK (k:=4) (by rfl) (by simp [go_sem]) (qA.isAgg _) (by decide) ?_;simp only [go_sem];exact zH (.refl (by simp [go_sem]))
theorem qZ7 {b:qF} {x a c:qA} (hK:x.Kids=[a,c]):Pure Gm 759 [b.enc,.int .i64 2,x.enc] ((qA.mk 2 (opI x.Value a.Value c.Value) [] []).enc):=by
  refine Pure.intro [] [] Vj (by kernel_rfl) rfl (by simp [AV.trees,AV.tree,go_sem]) (by simp [go_sem]) ?_;simp only [QB,qL,go_sem];refine qc rfl ?_;simp only [go_sem];refine qc qA.ln ?_;simp only [go_sem];simp only [hK,List.map_cons,List.map_nil,Option.map_some,go_sem];refine qH qZF ?_;simp only [go_sem];refine qH c726 ?_;simp only [go_sem];refine qK (k:=4) (by rfl) (by simp [go_sem]) (qA.isAgg _) (by decide) ?_;simp only [go_sem];exact zH (.refl (by simp [go_sem]))
theorem qZ8 {b:qF} {x a:qA} (ho:x.ok=true) (hz:x.sz≤1048576) (hK:x.Kids=[a]) (hr:qX x=3):Pure Gm 759 [b.enc,.int .i64 3,x.enc] ((wH (zj x) a.Kids).enc):=by
  refine Pure.intro [] [] Vj (by kernel_rfl) rfl (by simp [AV.trees,AV.tree,go_sem]) (by simp [go_sem]) ?_;simp only [QB,qL,go_sem];have ham:a∈x.Kids:=by rw [hK];simp
  have haz:=qA.kid_sz ham;have hal:=a.len_sz;have hd:x.Data.length<9223372036854775808:=by have:=x.sz_eq;omega
  obtain ⟨y,hK',h9 | h10⟩:=ZT ho hr
  · rw [hK'] at hK;cases hK;have hK:=hK';refine qc rfl ?_;simp only [go_sem];refine qc qA.ln ?_;simp only [go_sem];refine qD ?_ ?_<;>intro hc<;>simp only [hc,go_sem];rotate_left
    · exact absurd h9.1 (odF hc)
    obtain ⟨n,hV⟩:∃n:Nat,a.Value=n:=⟨a.Value.toNat,by omega⟩;have hlt:n<x.Data.length:=by omega
    have hrd:zj x=x.Data[n]:=by
      unfold zj;rw [hK];simp only [];rw [if_neg (by omega),hV];simp [hlt]
    replace hK:=And.intro hK hV;simp only [hK,List.map_cons,List.map_nil,Option.map_some,go_sem];simp only [List.getElem?_map,gEg hlt,Option.map_some,go_sem];simp only [qE,go_sem];simp only [hK,List.map_cons,List.map_nil,Option.map_some,go_sem];refine qH (qZG (by omega)) ?_;simp only [go_sem];refine qK (k:=4) (by rfl) (by simp [go_sem]) (qA.isAgg _) (by decide) ?_;simp only [go_sem];rw [hrd];exact zH (.refl (by simp [go_sem]))
  · rw [hK'] at hK;cases hK;have hK:=hK';obtain ⟨d,e,hD⟩:=ze h10.2.2;have hrd:zj x=if a.Value=0 then e else d:=by
      unfold zj;rw [hK];simp only [];rw [if_pos h10.1,hD];rfl
    have hyk:a.Kids=[]:=WW (qv ho ham) h10.2.1;refine qc rfl ?_;simp only [go_sem];refine qc qA.ln ?_;simp only [go_sem];refine qD ?_ ?_<;>intro hc<;>simp only [hc,go_sem]
    · have:=odT hc;omega
    replace hK:=And.intro hK hD;simp only [hK,List.map_cons,List.map_nil,Option.map_some,go_sem];refine qH w7 ?_;simp only [go_sem];rw [hyk,hrd];by_cases h0:a.Value=0
    · rw [if_pos h0];simp only [h0,hD,List.map_cons,List.map_nil,go_sem];simp only [Option.map_some,qE,go_sem];refine qH qPX ?_;simp only [go_sem];refine qK (k:=4) (by rfl) (by simp [go_sem]) (qA.isAgg _) (by decide) ?_;simp only [go_sem];exact zH (.refl (by simp [go_sem]))
    · rw [if_neg h0];simp only [show decide (a.Value=0)=false from decide_eq_false h0,go_sem];simp only [Option.map_some,qE,go_sem];refine qH qPX ?_;simp only [go_sem];refine qK (k:=4) (by rfl) (by simp [go_sem]) (qA.isAgg _) (by decide) ?_;simp only [go_sem];exact zH (.refl (by simp [go_sem]))
theorem qZ9 {b:qF} {x a c:qA} {n:Nat} (ho:x.ok=true) (hz:x.sz≤1048576) (h5:x.Kind=5) (hK:x.Kids=[a,c]) (h11:a.Kind=11) (hV:a.Value=n) (hlt:n<b.Defs.length):Pure Gm 759 [b.enc,.int .i64 4,x.enc] ((zP b.Defs[n] c).enc):=by
  refine Pure.intro [] [] Vj (by kernel_rfl) rfl (by simp [AV.trees,AV.tree,go_sem]) (by simp [go_sem]) ?_;simp only [QB,qL,go_sem];refine qc rfl ?_;simp only [go_sem];refine qc qA.ln ?_;simp only [go_sem];refine zK (s769 (by rw [hK];simp) (by rw [hK];simp) ?_);simp only [go_sem];refine qK (k:=4) (by rfl) (by rfl) (by exact ⟨_,rfl⟩) (by decide) ?_;simp only [go_sem];have e11:decide (a.Kind=11)=true:=decide_eq_true h11;replace hK:=And.intro hK hV;simp only [hK,List.map_cons,List.map_nil,Option.map_some,go_sem];simp only [e11,go_sem];refine qH w7 ?_;simp only [go_sem];simp only [hK,List.map_cons,List.map_nil,Option.map_some,go_sem];simp only [List.getElem?_map,gEg hlt,Option.map_some,go_sem];rw [WI (by omega) (by omega)];simp only [go_sem];refine z7 (by simp [go_sem]) rfl rfl qA.putcore ?_;simp only [go_sem];refine qK (k:=4) (by rfl) (by rfl) (by exact ⟨_,rfl⟩) (by decide) ?_;simp only [go_sem];have hn:=w3 ho;unfold zo jj inI at hn;simp [shp,h5] at hn;have e:zP b.Defs[n] c=qA.mk x.Kind x.Value x.Data [b.Defs[n],c]:=by
    unfold zP;rw [h5,hn.1.2,hn.1.1.2]
  rw [e];exact zH (Jm rfl rfl)
end Go.Ab
namespace Go.Ab
open Go
set_option maxRecDepth 10000
set_option maxHeartbeats 2000000
attribute [local simp] qr qa
def w6 (p:Bool):AV:=.bool p
theorem zW (I:List Bool):AV.trees (I.map w6)=true:=zq (enc:=w6) (fun _=>rfl) I
attribute [local simp] zW
def j3 (b:qF) (lim:Int) (I:List Bool):AV:=.agg [.lst 4 (b.Defs.map qA.enc) false,.int .i64 lim,.lst 1 (I.map w6) false]
@[go_sem] theorem zKS {b:qF} {lim:Int} {I:List Bool}:(j3 b lim I).part 0 (some 1)=some b.enc:=nr rfl
@[go_sem] theorem zKT {b:qF} {lim:Int} {I:List Bool}:(j3 b lim I).part 0 none=some (.lst 4 (b.Defs.map qA.enc) false):=nr rfl
@[go_sem] theorem zKU {b:qF} {lim:Int} {I:List Bool}:(j3 b lim I).part 2 none=some (.lst 1 (I.map w6) false):=nr rfl
@[go_sem] theorem zKV {b:qF} {lim:Int} {I:List Bool}:(j3 b lim I).tree=true:=by simp [j3,AV.tree,AV.trees,qr,zW]
def jC (x c:qA) (l:Int):qA×Bool:=if (zB x l).2=0 then (qA.put (zB x l).1 c 0,true) else (qV,false)
theorem qbQ {h:List qC} {y:qA×Bool} (e:y=(qV,false)):Fin (some [.agg [.int .i64 0,.int .i64 0,.nils,.nils],.bool false]) h (.tup [y.1.enc,.bool y.2]):=by
  subst e;exact jq (cv2 wo rfl)
theorem qbR {h:List qC} {x:qA} {p:Bool} {y:qA×Bool} (e:y=(x,p)):Fin (some [x.enc,.bool p]) h (.tup [y.1.enc,.bool y.2]):=by
  subst e;exact jq (cv2 (.refl (by simp [go_sem])) rfl)
theorem qZS {b:qF} {lim:Int} {I:List Bool} {x a c:qA} {l:Int} (hx:x.valid=true) (h7:x.Kind=7) (hK:x.Kids=[a,c]) (hs:zM x l=true) (hl:0≤l∧l≤1000):Pure Gm 1172 [.ept (j3 b lim I) 0,x.enc,.int .i64 l] (.tup [(jC x c l).1.enc,.bool (jC x c l).2]):=by
  refine Pure.intro [] [] qcS (by kernel_rfl) rfl (by simp [AV.trees,AV.tree,go_sem]) (by simp [AV.tree,AV.trees,go_sem]) ?_;simp only [XQ,qL,go_sem];have ham:a∈x.Kids:=by rw [hK];simp
  have hcm:c∈x.Kids:=by rw [hK];simp
  have hav:=zd hx ham;have hcv:=zd hx hcm;obtain ⟨a1,a2,a3,a4,a5⟩:=zZ hav;obtain ⟨c1,c2,c3,c4,c5⟩:=zZ hcv;have hr:zB x l=qn a (c.levels 0 l) l:=by unfold zB;rw [hK]
  have hlv:(match c.levels 0 l with |[]=>true | n::_=>decide (n=l) || decide (n=l+1))=true:=by
    have:=hs;unfold zM at this;rw [if_neg (by omega),if_pos h7,hK] at this;simp only [List.getElem?_cons_succ,List.getElem?_cons_zero] at this;rw [lv7,bAt] at this;exact this.2
  have ok:∀{h:List qC} {y:qA},qn a (c.levels 0 l) l=(y,0)→Fin (some [(qA.put y c 0).enc,.bool true]) h (.tup [(jC x c l).1.enc,.bool (jC x c l).2]):=fun e=>qbR (by unfold jC;rw [hr,e,if_pos rfl]);have bad:∀{h:List qC},qn a (c.levels 0 l) l=(qV,3)→Fin (some [.agg [.int .i64 0,.int .i64 0,.nils,.nils],.bool false]) h (.tup [(jC x c l).1.enc,.bool (jC x c l).2]):=fun e=>qbQ (by unfold jC;rw [hr,e];rfl);refine qc qA.ln ?_;simp only [go_sem];simp only [hK,List.map_cons,List.map_nil,Option.map_some,go_sem];refine qK (k:=4) (by rfl) (by simp [go_sem]) (qA.isAgg _) (by decide) ?_;simp only [go_sem];refine qK (k:=4) (by rfl) (by simp [go_sem]) (qA.isAgg _) (by decide) ?_;simp only [go_sem];refine qK (k:=4) (by rfl) (by simp [go_sem]) (qA.isAgg _) (by decide) ?_;simp only [go_sem];have hacc:=qPK c 0 l [] c1 (by omega) (by omega) (by omega) (by simp;omega);have hll:=qA.levels_len c 0 l;rw [List.nil_append] at hacc;generalize c.levels 0 l=L at hlv hacc hll ok bad hr;by_cases h6:a.Kind=6
  · obtain ⟨k,hk⟩:=zi ((qu a1).2 (by omega));have hkm:k∈a.Kids:=by rw [hk];simp
    obtain ⟨k1,k2,k3,k4,k5⟩:=zZ (zd hav hkm);have hk0:zA a=k:=by unfold zA;rw [hk];rfl
    refine qD ?_ ?_<;>intro hc<;>simp only [hc,go_sem];rotate_left
    · exact absurd h6 (odF hc)
    replace hK:=And.intro hK hk;simp only [hK,List.map_cons,List.map_nil,Option.map_some,go_sem];refine Jr qA.ln qA.putcore ?_;simp only [go_sem];refine JM hacc rfl ?_;intro h' id' hG;simp only [go_sem];refine qD ?_ ?_<;>intro hc<;>simp only [hc,go_sem]
    · refine qH (Jk c1 (by omega) (by omega) a1 (by omega) (by omega)) ?_;simp only [go_sem];refine qK (k:=4) (by rfl) (by simp [go_sem]) (qA.isAgg _) (by decide) ?_;simp only [go_sem];exact ok (by unfold qn;rw [if_pos (by have:=odT hc;omega)])
    have h0:¬L.length=0:=by have:=odF hc;omega
    refine qD ?_ ?_<;>intro hc<;>simp only [hc,go_sem]
    · refine qH (Jk c1 (by omega) (by omega) k1 (by omega) (by omega)) ?_;simp only [go_sem];refine qK (k:=4) (by rfl) (by simp [go_sem]) (qA.isAgg _) (by decide) ?_;simp only [go_sem];exact ok (by unfold qn;rw [if_neg h0,if_neg (by omega),hk0,if_pos ⟨h6,odT hc⟩])
    have hn2:¬a.Kind=2:=by omega
    have hn6:¬(a.Kind=6∧(zA a).Kind=2):=by rw [hk0];exact fun h=>odF hc h.2
    refine qY ?_ ?_<;>intro hc<;>simp only [hc,go_sem];rotate_left
    · have h1:¬L.length=1:=by simp at hc;omega
      refine qK (k:=4) (by rfl) (by rfl) (by exact ⟨_,rfl⟩) (by decide) ?_;simp only [go_sem];exact bad (by unfold qn;rw [if_neg h0,if_neg hn2,if_neg hn6,if_neg (fun h=>h1 h.1),if_neg (fun h=>h1 h.1)])
    have h1:=odT hc;obtain ⟨n,rfl⟩:∃n,L=[n]:=zi (by omega);simp only [go_sem];rw [QG hG.at'];simp only [go_sem];refine qD ?_ ?_<;>intro hc<;>simp only [hc,go_sem]
    · have hnl:=odT hc;refine qH (Jk c1 (by omega) (by omega) a1 (by omega) (by omega)) ?_;simp only [go_sem];refine qK (k:=4) (by rfl) (by simp [go_sem]) (qA.isAgg _) (by decide) ?_;simp only [go_sem];exact ok (by unfold qn;rw [if_neg h0,if_neg hn2,if_neg hn6,if_pos ⟨rfl,by rw [hnl];rfl⟩])
    have hnl:=odF hc;have hn1:n=l+1:=by simp [hnl] at hlv;exact hlv
    have h8:¬([n].length=1∧[n].head?=some l):=by rintro ⟨_,h⟩;simp at h;exact hnl h
    refine qY ?_ ?_<;>intro hc<;>simp only [hc,go_sem];rotate_left
    · exact absurd hc (by simp)
    rw [QG hG.at'];simp only [go_sem];rw [qj (by omega) (by omega)];refine qY ?_ ?_<;>intro hc<;>simp only [hc,go_sem];rotate_left
    · exact absurd hn1 (by simpa using hc)
    refine qD ?_ ?_<;>intro hc<;>simp only [hc,go_sem]
    · refine qH (Jk c1 (by omega) (by omega) k1 (by omega) (by omega)) ?_;simp only [go_sem];refine qK (k:=4) (by rfl) (by simp [go_sem]) (qA.isAgg _) (by decide) ?_;simp only [go_sem];exact ok (by unfold qn;rw [if_neg h0,if_neg hn2,if_neg hn6,if_neg h8,if_pos ⟨rfl,h6⟩,hk0])
    · exact absurd h6 (odF hc)
  · refine qD ?_ ?_<;>intro hc<;>simp only [hc,go_sem]
    · exact absurd (odT hc) h6
    refine JM hacc rfl ?_;intro h' id' hG;simp only [go_sem];refine qD ?_ ?_<;>intro hc<;>simp only [hc,go_sem]
    · refine qH (Jk c1 (by omega) (by omega) a1 (by omega) (by omega)) ?_;simp only [go_sem];refine qK (k:=4) (by rfl) (by simp [go_sem]) (qA.isAgg _) (by decide) ?_;simp only [go_sem];exact ok (by unfold qn;rw [if_pos (by have:=odT hc;omega)])
    have h0:¬L.length=0:=by have:=odF hc;omega
    refine qD ?_ ?_<;>intro hc<;>simp only [hc,go_sem]
    · refine qH (Jk c1 (by omega) (by omega) a1 (by omega) (by omega)) ?_;simp only [go_sem];refine qK (k:=4) (by rfl) (by simp [go_sem]) (qA.isAgg _) (by decide) ?_;simp only [go_sem];exact ok (by unfold qn;rw [if_neg h0,if_pos (odT hc)])
    have hn2:¬a.Kind=2:=odF hc;have hn6:¬(a.Kind=6∧(zA a).Kind=2):=fun h=>h6 h.1;refine qY ?_ ?_<;>intro hc<;>simp only [hc,go_sem];rotate_left
    · have h1:¬L.length=1:=by simp at hc;omega
      refine qK (k:=4) (by rfl) (by rfl) (by exact ⟨_,rfl⟩) (by decide) ?_;simp only [go_sem];exact bad (by unfold qn;rw [if_neg h0,if_neg hn2,if_neg hn6,if_neg (fun h=>h1 h.1),if_neg (fun h=>h1 h.1)])
    have h1:=odT hc;obtain ⟨n,rfl⟩:∃n,L=[n]:=zi (by omega);simp only [go_sem];rw [QG hG.at'];simp only [go_sem];refine qD ?_ ?_<;>intro hc<;>simp only [hc,go_sem]
    · have hnl:=odT hc;refine qH (Jk c1 (by omega) (by omega) a1 (by omega) (by omega)) ?_;simp only [go_sem];refine qK (k:=4) (by rfl) (by simp [go_sem]) (qA.isAgg _) (by decide) ?_;simp only [go_sem];exact ok (by unfold qn;rw [if_neg h0,if_neg hn2,if_neg hn6,if_pos ⟨rfl,by rw [hnl];rfl⟩])
    have hnl:=odF hc;have hn1:n=l+1:=by simp [hnl] at hlv;exact hlv
    have h8:¬([n].length=1∧[n].head?=some l):=by rintro ⟨_,h⟩;simp at h;exact hnl h
    refine qY ?_ ?_<;>intro hc<;>simp only [hc,go_sem];rotate_left
    · exact absurd hc (by simp)
    rw [QG hG.at'];simp only [go_sem];rw [qj (by omega) (by omega)];refine qY ?_ ?_<;>intro hc<;>simp only [hc,go_sem];rotate_left
    · exact absurd hn1 (by simpa using hc)
    refine qD ?_ ?_<;>intro hc<;>simp only [hc,go_sem]
    · exact absurd (odT hc) h6
    refine qK (k:=4) (by rfl) (by rfl) (by exact ⟨_,rfl⟩) (by decide) ?_;simp only [go_sem];exact bad (by unfold qn;rw [if_neg h0,if_neg hn2,if_neg hn6,if_neg h8,if_neg (fun h=>h6 h.2)])
end Go.Ab
namespace Go.Ab
open Go
set_option maxRecDepth 10000
set_option maxHeartbeats 2000000
attribute [local simp] qr qa zW
def at1 (b:qF) (I:List Bool) (x a c:qA) (l:Int):qA×Int:=
  if qX x=2 then (.mk 2 (opI x.Value a.Value c.Value) [] [],1) else if qX x=3 then (wH (zj x) a.Kids,2)
  else if qX x=1 then (qA.put c (zA a) 0,3)
  else if x.Kind=5∧a.Kind=11∧I.getD a.Value.toNat false=true∧l+(b.Defs.getD a.Value.toNat qV).boxes≤8 then (zP (b.Defs.getD a.Value.toNat qV) c,5)
  else if x.Kind=7∧(jC x c l).2=true then ((jC x c l).1,4) else (qV,0)
def atC (b:qF) (I:List Bool) (x:qA) (l:Int):qA×Int:=match x.Kids with
  |[]=>(qV,0)
  | a::ys=>at1 b I x a (ys.headD qV) l
theorem Jh {b:qF} {I:List Bool} {x a:qA} {ys:List qA} {l:Int} (hK:x.Kids=a::ys):atC b I x l=at1 b I x a (ys.headD qV) l:=by unfold atC;rw [hK]
theorem Y8 {b:qF} {I:List Bool} {x a c:qA} {l:Int} (hK:x.Kids=[a,c]):atC b I x l=at1 b I x a c l:=by
  rw [Jh hK,List.headD_cons]
theorem qh1 {x a:qA} {ys:List qA} (h5:x.Kind=5) (hK:x.Kids=a::ys) (h11:a.Kind=11):qX x=4:=by
  unfold qX;rw [hK];simp only [];rw [if_pos h5,if_neg (by omega),if_pos h11]
theorem Q4 {h:List qC} {x:qA} {p:Int} {y:qA×Int} (e:y=(x,p)):Fin (some [x.enc,.int .i64 p]) h (.tup [y.1.enc,.int .i64 y.2]):=by
  subst e;exact jq (cv2 (.refl (by simp [go_sem])) rfl)
theorem Q5 {h:List qC} {y:qA×Int} (e:y=(qV,0)):Fin (some [.agg [.int .i64 0,.int .i64 0,.nils,.nils],.int .i64 0]) h (.tup [y.1.enc,.int .i64 y.2]):=by
  subst e;exact jq (cv2 wo rfl)
theorem qRO {x:qA} (ho:x.ok=true):qX x=0∨(qX x=1∧x.Kind=5∧∃a c k,x.Kids=[a,c]∧a.Kind=4∧a.Kids=[k])∨(qX x=2∧x.Kind=3∧∃a c,x.Kids=[a,c]∧a.Kind=2∧c.Kind=2)∨(qX x=3∧∃a,x.Kids=[a])∨(qX x=4∧∃a ys,x.Kids=a::ys∧(x.Kind=5→a.Kind=11)):=by
  by_cases h5:x.Kind=5
  · obtain ⟨a,c,hK⟩:=ze ((qu ho).1 (by omega));have ham:a∈x.Kids:=by rw [hK];simp
    have hr:qX x=if a.Kind=4 then 1 else if a.Kind=11 then 4 else 0:=by unfold qX;rw [hK];simp only [];rw [if_pos h5]
    by_cases h4:a.Kind=4
    · obtain ⟨k,hk⟩:=zi ((qu (qv ho ham)).2 (.inl h4));exact .inr (.inl ⟨by rw [hr,if_pos h4],h5,a,c,k,hK,h4,hk⟩)
    · by_cases h11:a.Kind=11
      · exact .inr (.inr (.inr (.inr ⟨by rw [hr,if_neg h4,if_pos h11],a,[c],hK,fun _=>h11⟩)))
      · exact .inl (by rw [hr,if_neg h4,if_neg h11])
  by_cases h3:x.Kind=3
  · obtain ⟨a,c,hK⟩:=ze ((qu ho).1 (by omega));have hr:qX x=if a.Kind=11 then 4 else if a.Kind=2 then (if c.Kind=2 then 2 else if c.Kind=11 then 4 else 0) else 0:=by unfold qX;rw [hK];simp only [];rw [if_neg h5,if_pos h3]
    by_cases h11:a.Kind=11
    · exact .inr (.inr (.inr (.inr ⟨by rw [hr,if_pos h11],a,[c],hK,fun h=>absurd h h5⟩)))
    · by_cases h2:a.Kind=2
      · by_cases c2:c.Kind=2
        · exact .inr (.inr (.inl ⟨by rw [hr,if_neg h11,if_pos h2,if_pos c2],h3,a,c,hK,h2,c2⟩))
        · by_cases c11:c.Kind=11
          · exact .inr (.inr (.inr (.inr ⟨by rw [hr,if_neg h11,if_pos h2,if_neg c2,if_pos c11],a,[c],hK,fun h=>absurd h h5⟩)))
          · exact .inl (by rw [hr,if_neg h11,if_pos h2,if_neg c2,if_neg c11])
      · exact .inl (by rw [hr,if_neg h11,if_neg h2])
  by_cases h9:x.Kind=9∨x.Kind=10
  · obtain ⟨a,hK⟩:=zi ((qu ho).2 (by omega));by_cases e0:qX x=0
    · exact .inl e0
    by_cases e3:qX x=3
    · exact .inr (.inr (.inr (.inl ⟨e3,a,hK⟩)))
    · refine .inr (.inr (.inr (.inr ⟨?_,a,[],hK,fun h=>absurd h h5⟩)));unfold qX at e0 e3⊢;rw [hK] at e0 e3⊢;simp only [] at e0 e3⊢;rw [if_neg h5,if_neg h3] at e0 e3⊢;split at e0<;>rename_i hh
      · rw [if_pos hh] at e3⊢;split at e0<;>simp_all
      · rw [if_neg hh] at e3⊢;split at e0<;>simp_all
  · exact .inl (ZU h5 h3 (fun h=>h9 (.inl h)) (fun h=>h9 (.inr h)))
theorem c850 {b:qF} {lim:Int} {I:List Bool} {x:qA} {l:Int} (hb:b.ok=true) (hbz:b.sz≤1048576) (hx:x.valid=true) (hf:x.refs b.Defs.length=true) (hI:I.length=b.Defs.length) (hs:x.strat l=true) (hl:0≤l∧l≤1000):Pure Gm 850 [.ept (j3 b lim I) 0,x.enc,.int .i64 l] (.tup [(atC b I x l).1.enc,.int .i64 (atC b I x l).2]):=by
  refine Pure.intro [] [] g850 (by kernel_rfl) rfl (by simp [AV.trees,AV.tree,go_sem]) (by simp [AV.tree,AV.trees,go_sem]) ?_;simp only [Ym,qL,go_sem];obtain ⟨ho,hd,hsz,hz,hv⟩:=zZ hx;have hlv:zM x l=true:=by
    rw [x.strat_eq] at hs;simp only [bAt] at hs;exact hs.1.2
  refine qc qA.ln ?_;simp only [go_sem];refine qH (c758 (by omega) ho) ?_;simp only [go_sem];rcases qRO ho with h0 | ⟨h1,h5,a,c,k,hK,h4,hk⟩ | ⟨h2,h3,a,c,hK,ha,hc2⟩ | ⟨h3,a,hK⟩ | ⟨h4,a,ys,hK,h11⟩
  · rw [h0];simp only [show decide ((0:Int)=2)=false from rfl,show decide ((0:Int)=3)=false from rfl,show decide ((0:Int)=1)=false from rfl,show decide ((0:Int)=4)=false from rfl,go_sem];refine qD ?_ ?_<;>intro hc<;>simp only [hc,go_sem]
    · have h7:=odT hc;obtain ⟨a,c,hK⟩:=ze ((qu ho).1 (by omega));refine qH (qZS hx h7 hK hlv hl) ?_;simp only [go_sem];refine qK (k:=4) (by rfl) (by simp [go_sem]) (qA.isAgg _) (by decide) ?_;simp only [go_sem];have hat:atC b I x l=if (jC x c l).2=true then ((jC x c l).1,4) else (qV,0):=by
        rw [Y8 hK];unfold at1;rw [if_neg (by omega),if_neg (by omega),if_neg (by omega),if_neg (by omega)];by_cases e:(jC x c l).2=true
        · rw [if_pos ⟨h7,e⟩,if_pos e]
        · rw [if_neg (fun h=>e h.2),if_neg e]
      refine qD ?_ ?_<;>intro hc<;>simp only [hc,go_sem]
      · refine qK (k:=4) (by rfl) (by simp [go_sem]) (qA.isAgg _) (by decide) ?_;simp only [go_sem];exact Q4 (by rw [hat,if_pos hc])
      · refine qK (k:=4) (by rfl) (by rfl) (by exact ⟨_,rfl⟩) (by decide) ?_;simp only [go_sem];exact Q5 (by rw [hat,if_neg (by simp [hc])])
    · have h7:=odF hc;refine qK (k:=4) (by rfl) (by rfl) (by exact ⟨_,rfl⟩) (by decide) ?_;simp only [go_sem];exact Q5 (by
        cases hK:x.Kids with
        | nil=>unfold atC;rw [hK]
        | cons a ys=>
          rw [Jh hK];unfold at1;rw [if_neg (by omega),if_neg (by omega),if_neg (by omega),if_neg (fun h=>by have:=qh1 h.1 hK h.2.1;omega),if_neg (fun h=>h7 h.1)])
  · rw [h1];simp only [show decide ((1:Int)=2)=false from rfl,show decide ((1:Int)=3)=false from rfl,go_sem];refine qH (qZ6 hx hK hk) ?_;simp only [go_sem];refine qK (k:=4) (by rfl) (by simp [go_sem]) (qA.isAgg _) (by decide) ?_;simp only [go_sem];exact Q4 (by rw [Y8 hK];unfold at1;rw [if_neg (by omega),if_neg (by omega),if_pos h1];unfold zA;rw [hk];rfl)
  · rw [h2];simp only [go_sem];refine qH (qZ7 hK) ?_;simp only [go_sem];refine qK (k:=4) (by rfl) (by simp [go_sem]) (qA.isAgg _) (by decide) ?_;simp only [go_sem];exact Q4 (by rw [Y8 hK];unfold at1;rw [if_pos h2])
  · rw [h3];simp only [show decide ((3:Int)=2)=false from rfl,go_sem];refine qH (qZ8 ho (by omega) hK h3) ?_;simp only [go_sem];refine qK (k:=4) (by rfl) (by simp [go_sem]) (qA.isAgg _) (by decide) ?_;simp only [go_sem];exact Q4 (by rw [Jh hK];unfold at1;rw [if_neg (by omega),if_pos h3])
  · rw [h4];simp only [show decide ((4:Int)=2)=false from rfl,show decide ((4:Int)=3)=false from rfl,show decide ((4:Int)=1)=false from rfl,go_sem];simp only [hK,List.map_cons,List.map_nil,Option.map_some,go_sem];refine qY ?_ ?_<;>intro hc<;>simp only [hc,go_sem]
    · have h5:=odT hc;have ham:a∈x.Kids:=by rw [hK];simp
      have hav:=ZV (qv ho ham) (jy hf ham) (h11 h5);obtain ⟨n,hV⟩:∃n:Nat,a.Value=n:=⟨a.Value.toNat,by omega⟩;have hlt:n<b.Defs.length:=by omega
      have hltI:n<I.length:=by omega
      obtain ⟨c,hy⟩:∃c,ys=[c]:=by
        obtain ⟨u,v,hK'⟩:=ze ((qu ho).1 (by omega));rw [hK'] at hK;cases hK;exact ⟨_,rfl⟩
      subst hy;have hat:atC b I x l=if I[n]=true∧l+b.Defs[n].boxes≤8 then (zP b.Defs[n] c,5) else (qV,0):=by
        rw [Y8 hK];unfold at1;rw [if_neg (by omega),if_neg (by omega),if_neg (by omega),hV];simp only [Int.toNat_natCast,List.getD_eq_getElem?_getD,gEg hltI,gEg hlt,Option.getD_some];by_cases e:I[n]=true∧l+b.Defs[n].boxes≤8
        · rw [if_pos e,if_pos ⟨h5,h11 h5,e⟩]
        · rw [if_neg e,if_neg (fun h=>e h.2.2),if_neg (fun h=>by omega)]
      have hK0:=hK;replace hK:=And.intro hK hV;simp only [hK,List.map_cons,List.map_nil,Option.map_some,go_sem];simp only [List.getElem?_map,gEg hltI,Option.map_some,go_sem];simp only [w6,go_sem];have hdv:=zZ ((Qe hb).2 _ (gMm hlt)).1;have hbd:=b.Defs[n].boxes_dep;refine qY ?_ ?_<;>intro hc<;>simp only [hc,go_sem]
      · have hi:=hc;simp only [List.getElem?_map,gEg hlt,Option.map_some,go_sem];refine qH (qZR b.Defs[n] hdv.1 (by omega) (by omega)) ?_;simp only [go_sem];rw [qj (by omega) (by omega)];refine qD ?_ ?_<;>intro hc<;>simp only [hc,go_sem]
        · refine qH (qZ9 ho (by omega) h5 hK0 (h11 h5) hV hlt) ?_;simp only [go_sem];refine qK (k:=4) (by rfl) (by simp [go_sem]) (qA.isAgg _) (by decide) ?_;simp only [go_sem];exact Q4 (by rw [hat,if_pos ⟨hi,odT hc⟩])
        have hn:=odF hc;refine qD ?_ ?_<;>intro hc<;>simp only [hc,go_sem]
        · have:=odT hc;omega
        refine qK (k:=4) (by rfl) (by rfl) (by exact ⟨_,rfl⟩) (by decide) ?_;simp only [go_sem];exact Q5 (by rw [hat,if_neg (fun h=>hn h.2)])
      · have hn:¬I[n]=true:=by simp at hc;simp [hc]
        refine qD ?_ ?_<;>intro hc<;>simp only [hc,go_sem]
        · have:=odT hc;omega
        refine qK (k:=4) (by rfl) (by rfl) (by exact ⟨_,rfl⟩) (by decide) ?_;simp only [go_sem];exact Q5 (by rw [hat,if_neg (fun h=>hn h.1)])
    · have h5:¬x.Kind=5:=by simpa using hc
      have h7:¬x.Kind=7:=fun h=>by have:=ZU (x:=x) (by omega) (by omega) (by omega) (by omega);omega
      refine qD ?_ ?_<;>intro hc<;>simp only [hc,go_sem]
      · exact absurd (odT hc) h7
      refine qK (k:=4) (by rfl) (by rfl) (by exact ⟨_,rfl⟩) (by decide) ?_;simp only [go_sem];exact Q5 (by rw [Jh hK];unfold at1;rw [if_neg (by omega),if_neg (by omega),if_neg (by omega),if_neg (fun h=>h5 h.1),if_neg (fun h=>h7 h.1)])
end Go.Ab
namespace Go.Ab
open Go
set_option maxRecDepth 10000
set_option maxHeartbeats 2000000
attribute [local simp] qr qa zW
def jf (x:qA):List (Int→qA×Int)→Nat→Int→qA×Int
  |[],_,_=>(qV,0)
  | r::rs,i,l=>if (r l).2=0 then jf x rs (i+1) l else (.mk x.Kind x.Value x.Data (x.Kids.set i (r l).1),(r l).2)
def zU (b:qF) (I:List Bool):qA→Int→qA×Int:=qA.fold fun x rs l=>
  if (atC b I x l).2=0 then jf x rs 0 (l+qW x.Kind) else atC b I x l
theorem Za (b:qF) (I:List Bool) (x:qA) (l:Int):zU b I x l=
    if (atC b I x l).2=0 then jf x (x.Kids.map (zU b I)) 0 (l+qW x.Kind) else atC b I x l:=by
  unfold zU;rw [qA.fold_eq]
theorem Vc {x:qA} {f:qA→Int→qA×Int} {i:Nat} {l:Int} (h:i<x.Kids.length):
    jf x ((x.Kids.drop i).map f) i l=if (f x.Kids[i] l).2=0 then jf x ((x.Kids.drop (i+1)).map f) (i+1) l else (.mk x.Kind x.Value x.Data (x.Kids.set i (f x.Kids[i] l).1),(f x.Kids[i] l).2):=by
  rw [List.drop_eq_getElem_cons h,List.map_cons,jf]
theorem qbS {h:List qC} {v:AV} {g:qA} {p:Int} {y:qA×Int} (hc:Cv h v g.enc) (e:y=(g,p)):Fin (some [v,.int .i64 p]) h (.tup [y.1.enc,.int .i64 y.2]):=by
  subst e;exact jq (cv2 hc rfl)
theorem c494 (x:qA):∀(b:qF) (lim:Int) (I:List Bool) (l:Int) (hb:b.ok=true) (hbz:b.sz≤1048576) (hx:x.valid=true) (hf:x.refs b.Defs.length=true) (hIl:I.length=b.Defs.length) (hs:x.strat l=true) (hl:0≤l∧l≤1000),Pure Gm 494 [.ept (j3 b lim I) 0,x.enc,.int .i64 l] (.tup [(zU b I x l).1.enc,.int .i64 (zU b I x l).2]):=by
  induction x using qA.ind with
  | _ x ih=>
  intro b lim I l hb hbz hx hf hIl hs hl;refine Pure.intro [] [] g494 (by kernel_rfl) rfl (by simp [AV.trees,AV.tree,go_sem]) (by simp [AV.tree,AV.trees,go_sem]) ?_;simp only [YA,qL,go_sem];obtain ⟨ho,hd,hsz,hz,hv⟩:=zZ hx;have hL:=x.len_sz;have hres:=Za b I x l;have hbx:=Qp x.Kind;have hst:l≤8∧∀y∈x.Kids,y.strat (l+qW x.Kind)=true:=by
    rw [x.strat_eq] at hs;simp only [bAt,List.all_eq_true,decide_eq_true_eq] at hs;exact ⟨hs.1.1,hs.2⟩
  refine qc qA.ln ?_;simp only [go_sem];refine qH (c850 hb hbz hx hf hIl hs hl) ?_;simp only [go_sem];refine qK (k:=4) (by rfl) (by simp [go_sem]) (qA.isAgg _) (by decide) ?_;simp only [go_sem];refine qD ?_ ?_<;>intro hc<;>simp only [hc,go_sem]
  · refine qK (k:=4) (by rfl) (by simp [go_sem]) (qA.isAgg _) (by decide) ?_;simp only [go_sem];rw [if_neg (by simpa using hc)] at hres;exact Q4 (by rw [hres])
  rw [if_pos (by simpa using hc)] at hres;refine Sem.loop (fun i:Nat=>i≤x.Kids.length∧zU b I x l=jf x ((x.Kids.drop i).map (zU b I)) i (l+qW x.Kind)) (fun i=>(⟨[(0,.ept (j3 b lim I) 0),(2,.int .i64 l),(27,.lst 4 (x.Kids.map qA.enc) false),(28,.int .i64 (x.Kids.length:Nat)),(29,.int .i64 (i:Nat))],[(4,x.enc),(6,.agg [.int .i64 0,.int .i64 0,.nils,.nils])],[]⟩:VSt)) (fun i=>x.Kids.length-i) 0 (by kernel_rfl) ⟨Nat.zero_le _,hres⟩ (Can.sub (by simp [go_sem]) (by simp [go_sem])) ?_;rintro i ⟨hi,hI⟩;simp only [go_sem];refine qD ?_ ?_<;>intro hc<;>simp only [hc,go_sem]
  · have hlt:i<x.Kids.length:=by have:=odT hc;omega
    simp only [List.getElem?_map,gEg hlt,Option.map_some,go_sem];have hkm:=gMm hlt;refine qK (k:=4) (by rfl) (by simp [go_sem]) (qA.isAgg _) (by decide) ?_;simp only [go_sem];refine qH w7 ?_;simp only [go_sem];rw [Zz,qj (n:=l+qW x.Kind) (by omega) (by omega)];refine qH (ih _ hkm b lim I (l+qW x.Kind) hb hbz (zd hx hkm) (jy hf hkm) hIl (hst.2 _ hkm) (by omega)) ?_;simp only [go_sem];refine qK (k:=4) (by rfl) (by simp [go_sem]) (qA.isAgg _) (by decide) ?_;simp only [go_sem];rw [Vc hlt] at hI;refine qD ?_ ?_<;>intro hc<;>simp only [hc,go_sem]
    · rw [if_neg (by simpa using hc)] at hI;refine zK (s769 (by intro e;rw [e] at hlt;simp at hlt) (by omega) ?_);simp only [go_sem];refine qK (k:=4) (by rfl) (by rfl) (by exact ⟨_,rfl⟩) (by decide) ?_;simp only [go_sem];rw [z5 hlt];simp only [Nat.zero_add,go_sem];refine z7 (by simp [go_sem]) rfl (by simp [hlt];rfl) qA.putcore ?_;simp only [go_sem];refine qK (k:=4) (by rfl) (by rfl) (by exact ⟨_,rfl⟩) (by decide) ?_;simp only [go_sem];exact qbS (Jm (by simp [List.map_set]) (by simp)) hI
    · rw [if_pos (by simpa using hc)] at hI;simp only [qe (show i<4611686018427387904 by omega)];refine qZ (i+1) ⟨by omega, ?_⟩ (by omega) (Can.sub (by simp [go_sem]) (by simp [go_sem]));exact hI
  · obtain rfl:i=x.Kids.length:=by have:=odF hc;omega
    refine qK (k:=4) (by rfl) (by rfl) (by exact ⟨_,rfl⟩) (by decide) ?_;simp only [go_sem];exact Q5 (by rw [hI,List.drop_length];rfl)
end Go.Ab
namespace Go.Ab
open Go
set_option maxRecDepth 10000
set_option maxHeartbeats 2000000
def RW (h:List qC) (id:Nat) (ys:List Int):List qC:=h.set id (.row 1 (ys.map qE) true)
def gI (ys:List Int) (e:Int):Int:=ys.getD e.toNat 0
def swI (ys:List Int) (i j:Int):List Int:=(ys.set i.toNat (gI ys j)).set j.toNat (gI ys i)
theorem qjZ {ys:List Int} {i j:Int}:(swI ys i j).length=ys.length:=by simp [swI]
theorem jZ {ys:List Int} {i j:Int} (hi:0≤i) (hi2:i<ys.length) (hj:0≤j) (hj2:j<ys.length):(swI ys i j).Perm ys:=by
  have h1:i.toNat<ys.length:=by omega
  have h2:j.toNat<ys.length:=by omega
  have:=List.set_set_perm h1 h2;unfold swI gI;rwa [List.getD_eq_getElem?_getD,List.getD_eq_getElem?_getD,gEg h1,gEg h2]
theorem Ql {h:List qC} {id:Nat} {ys:List Int}:(RW h id ys).length=h.length:=by simp [RW]
theorem qPI {h:List qC} {id:Nat} {ys:List Int} (hid:id<h.length):(RW h id ys)[id]?=some (.row 1 (ys.map qE) true):=by simp [RW,hid]
theorem qYL {h:List qC} {id:Nat} {ys zs:List Int}:(RW h id ys).set id (.row 1 (zs.map qE) true)=RW h id zs:=by simp [RW]
theorem Qk {h ex:List qC} {id:Nat} {ys:List Int} (hid:id<h.length):RW h id ys++ex=RW (h++ex) id ys:=by simp [RW,List.set_append_left,hid]
theorem qPJ {h:List qC} {id:Nat} {ys:List Int} (ho:h[id]?=some (.row 1 (ys.map qE) true)):RW h id ys=h:=qW6 ho
theorem qT {w id len:Nat} {k:IntKind} {n:Int} (h0:0≤n) (h:n<len):idx w (some (.slice w id 0 len false)) (some (.int k n))=some (.ptr id n.toNat 0):=by rw [WI h0 h,Nat.zero_add]
theorem qU {h:List qC} {id:Nat} {ys:List Int} {e:Int} (hid:id<h.length) (h0:0≤e) (he:e<ys.length):wC none 0 e.toNat (RW h id ys)[id]?=some (.int .i64 (gI ys e)):=by
  have h1:e.toNat<ys.length:=by omega
  rw [qPI hid,gI,List.getD_eq_getElem?_getD,gEg h1];simp only [wC,List.getElem?_map,gEg h1,Option.map_some,qE,Option.getD_some];rfl
section
variable {E:Ev} {ks:List Fr1} {s m:qg} {h:List qC} {Q:qb→VSt→Prop} {l:List qB}
theorem zI {id:Nat} {ys:List Int} {e v:Int} (hid:id<h.length) (h0:0≤e) (he:e<ys.length):
    R E (.ops l::ks) ⟨s,m,RW h id (ys.set e.toNat v)⟩ Q→Sto E 1 (some (.ptr id e.toNat 0)) (some (.int .i64 v)) l ks ⟨s,m,RW h id ys⟩ Q:=by
  intro hr;have h1:e.toNat<ys.length:=by omega
  refine z7 (by rfl) (qPI hid) (by rw [List.getElem?_map,gEg h1];rfl) (by rfl) ?_;have hm:(ys.map qE).set e.toNat (.int .i64 v)=(ys.set e.toNat v).map qE:=by simp [List.map_set,qE]
  rw [hm,qYL];exact hr
theorem qQ {n:Int} (h: -9223372036854775808≤n) (h':n≤9223372036854775807):IntKind.i64.wrap n=n:=qj h h'
end
theorem qZO (a:Int):Pure Gm 1167 [.int .i64 a] (.bool false):=by
  refine Pure.intro [] [] qcN (by kernel_rfl) rfl (by simp [AV.trees,AV.tree,go_sem]) rfl ?_;simp only [XL,qL,go_sem]
  repeat' (first | (refine qc rfl ?_;simp only [go_sem]) | (first | (refine qY ?_ ?_<;>intro hc<;>simp only [hc,go_sem]) | (refine qD ?_ ?_<;>intro hc<;>simp only [hc,go_sem])) | refine qM rfl ?_ | refine je (by rfl) ?_)
  all_goals (simp_all<;>omega)
theorem jd (a b:Int):Pure Gm 1345 [.int .i64 a,.int .i64 b] (.bool (decide (a<b))):=by
  refine Pure.intro [] [] qc5 (by kernel_rfl) rfl (by simp [AV.trees,AV.tree,go_sem]) rfl ?_;simp only [Xd,qL,go_sem];refine qH (qZO _) ?_;simp only [go_sem];exact qM rfl rfl
theorem qiN {h:List qC} {id n:Nat} {xs:List Int} {a b:Int} {K:AV→List qC→Prop} (hid:id<h.length) (hn:xs.length=n) (hl:n≤4194304) (hab:0≤a∧a≤b∧b≤n)
    (hK:∀ys,ys.Perm xs→K (.tup []) (RW h id ys)):SCall Gm 1339 [.slice 1 id 0 n false,.int .i64 a,.int .i64 b] (RW h id xs) K:=by
  refine SCall.run [] [] qcZ (by kernel_rfl) rfl ?_;simp only [XX,qL,go_sem];rw [qQ (by omega) (by omega)];refine Sem.loop (fun q:Int×List Int=>a+1≤q.1∧q.1≤max b (a+1)∧q.2.Perm xs) (fun q=>(⟨[(0,.slice 1 id 0 n false),(1,.int .i64 a),(2,.int .i64 b),(6,.int .i64 q.1)],[],RW h id q.2⟩:VSt)) (fun q=>(b-q.1).toNat) (a+1,xs) (by kernel_rfl) ⟨by simp only;omega,by simp only;omega,.refl _⟩ (Can.sub (by simp [go_sem]) (by simp [go_sem])) ?_;rintro ⟨i,ys⟩ ⟨h1,h2,h3⟩;simp only at h1 h2 h3⊢;have hyl:=h3.length_eq;simp only [go_sem];refine qD ?_ ?_<;>intro hc<;>simp only [hc,go_sem]
  · have hib:=odT hc;refine Sem.loop (fun q:Int×List Int=>a≤q.1∧q.1≤i∧q.2.Perm xs) (fun q=>(⟨[(0,.slice 1 id 0 n false),(1,.int .i64 a),(2,.int .i64 b),(6,.int .i64 i),(7,.int .i64 q.1)],[],RW h id q.2⟩:VSt)) (fun q=>(q.1-a).toNat) (i,ys) (by kernel_rfl) ⟨by simp only;omega,by simp only;omega,h3⟩ (Can.sub (by simp [go_sem]) (by simp [go_sem])) ?_;rintro ⟨j,zs⟩ ⟨g1,g2,g3⟩;simp only at g1 g2 g3⊢;have hzl:=g3.length_eq;simp only [go_sem];refine qY ?_ ?_<;>intro hc<;>simp only [hc,go_sem]
    · have hja:=odT hc;simp (disch:=omega) only [go_sem,qQ,qT,qU];refine qH (jd _ _) ?_;simp only [go_sem];refine qD ?_ ?_<;>intro hc<;>simp only [hc,go_sem]
      · simp (disch:=omega) only [go_sem,qQ,qT,qU];refine zI hid (by omega) (by omega) ?_;simp (disch:=omega) only [go_sem,qQ,qT,qU];refine zI hid (by omega) (by rw [List.length_set];omega) ?_;simp (disch:=omega) only [go_sem,qQ,qT,qU];refine qZ (j-1,swI zs j (j-1)) ⟨by simp only;omega,by simp only;omega,(jZ (by omega) (by omega) (by omega) (by omega)).trans g3⟩ (by simp only;omega) (Can.sub (by simp [go_sem]) (by simp [go_sem]))
      · simp (disch:=omega) only [go_sem,qQ,qT,qU];refine qZ (i+1,zs) ⟨by simp only;omega,by simp only;omega,g3⟩ (by simp only;omega) (Can.sub (by simp [go_sem]) (by simp [go_sem]))
    · simp (disch:=omega) only [go_sem,qQ,qT,qU];refine qZ (i+1,zs) ⟨by simp only;omega,by simp only;omega,g3⟩ (by simp only;omega) (Can.sub (by simp [go_sem]) (by simp [go_sem]))
  · exact hK _ h3
end Go.Ab
namespace Go.Ab
open Go
set_option maxRecDepth 10000
set_option maxHeartbeats 2000000
theorem qiR {h:List qC} {id n:Nat} {xs:List Int} {a b:Int} {K:AV→List qC→Prop} (hid:id<h.length) (hn:xs.length=n) (hl:n≤4194304) (hab:0≤a∧a≤b∧b≤n)
    (hK:∀ys,ys.Perm xs→K (.tup []) (RW h id ys)):SCall Gm 1343 [.slice 1 id 0 n false,.int .i64 a,.int .i64 b] (RW h id xs) K:=by
  refine SCall.run [] [] qc3 (by kernel_rfl) rfl ?_;simp only [Xb,qL,go_sem];simp (config:={maxSteps:=2000000}) (disch:=omega) only [go_sem,qQ,qT,qU,Int.reduceEq];refine Sem.loop (fun q:Int×Int×List Int=>a≤q.1∧q.2.1≤b-1∧q.2.2.Perm xs) (fun q=>(⟨[(0,.slice 1 id 0 n false),(6,.int .i64 q.1),(7,.int .i64 q.2.1)],[],RW h id q.2.2⟩:VSt)) (fun q=>(b-q.1).toNat) (a,b-1,xs) (by kernel_rfl) ⟨(by simp only;omega),(by simp only;omega),.refl _⟩ (Can.sub (by simp [go_sem]) (by simp [go_sem])) ?_;rintro ⟨i,j,ys⟩ ⟨h1,h2,h3⟩;simp only at h1 h2 h3⊢;have hyl:=h3.length_eq;simp only [go_sem];refine qD ?_ ?_<;>intro hc<;>simp only [hc,go_sem]
  · have hij:=odT hc;simp (config:={maxSteps:=2000000}) (disch:=omega) only [go_sem,qQ,qT,qU,Int.reduceEq];refine zI hid (by omega) (by omega) ?_;simp (config:={maxSteps:=2000000}) (disch:=omega) only [go_sem,qQ,qT,qU,Int.reduceEq];refine zI hid (by omega) (by rw [List.length_set];omega) ?_;simp (maxSteps:=2000000) (disch:=omega) only [go_sem,qQ,qT,qU,Int.reduceEq];refine qZ (i+1,j-1,swI ys i j) ⟨(by simp only;omega),(by simp only;omega),(jZ (by omega) (by omega) (by omega) (by omega)).trans h3⟩ (by simp only;omega) (Can.sub (by simp [go_sem]) (by simp [go_sem]))
  · exact hK _ h3
theorem qW1 {h:List qC} {id n:Nat} {xs:List Int} {lo hi fi:Int} {K:AV→List qC→Prop} (hid:id<h.length) (hn:xs.length=n) (hl:n≤4194304) (hab:0≤lo∧lo≤n∧0≤hi∧0≤fi∧fi+hi≤n)
    (hK:∀ys,ys.Perm xs→K (.tup []) (RW h id ys)):SCall Gm 1476 [.slice 1 id 0 n false,.int .i64 lo,.int .i64 hi,.int .i64 fi] (RW h id xs) K:=by
  refine SCall.run [] [] qdF (by kernel_rfl) rfl ?_;simp only [Xn,qL,go_sem];refine Sem.loop (fun q:Int×List Int=>0≤q.1∧q.1≤n∧q.2.Perm xs) (fun q=>(⟨[(0,.slice 1 id 0 n false),(2,.int .i64 hi),(3,.int .i64 fi),(8,.int .i64 q.1)],[],RW h id q.2⟩:VSt)) (fun q=>(n-q.1).toNat) (lo,xs) (by kernel_rfl) ⟨(by simp only;omega),(by simp only;omega),.refl _⟩ (Can.sub (by simp [go_sem]) (by simp [go_sem])) ?_;rintro ⟨i,ys⟩ ⟨h1,h2,h3⟩;simp only at h1 h2 h3⊢;have hyl:=h3.length_eq;simp (config:={maxSteps:=2000000}) (disch:=omega) only [go_sem,qQ,qT,qU,Int.reduceEq];refine qD ?_ ?_<;>intro hc<;>simp only [hc,go_sem]
  · exact hK _ h3
  have hch:=odF hc;simp (config:={maxSteps:=2000000}) (disch:=omega) only [go_sem,qQ,qT,qU,Int.reduceEq]
  --the greater child
  have key:∀(c:Int) (p:qg),c=2*i+1∨(c=2*i+2∧c<hi)→True:=fun _ _ _=>trivial;refine qY ?_ ?_<;>intro hc<;>simp only [hc,go_sem]
  · have hc2:=odT hc;simp (config:={maxSteps:=2000000}) (disch:=omega) only [go_sem,qQ,qT,qU,Int.reduceEq];refine qH (jd _ _) ?_;simp only [go_sem];refine qD ?_ ?_<;>intro hc<;>simp only [hc,go_sem]
    · simp (config:={maxSteps:=2000000}) (disch:=omega) only [go_sem,qQ,qT,qU,Int.reduceEq];refine qH (jd _ _) ?_;simp only [go_sem];refine qD ?_ ?_<;>intro hc<;>simp only [hc,go_sem]
      · exact hK _ h3
      · simp (config:={maxSteps:=2000000}) (disch:=omega) only [go_sem,qQ,qT,qU,Int.reduceEq];refine zI hid (by omega) (by omega) ?_;simp (config:={maxSteps:=2000000}) (disch:=omega) only [go_sem,qQ,qT,qU,Int.reduceEq];refine zI hid (by omega) (by rw [List.length_set];omega) ?_;simp (maxSteps:=2000000) (disch:=omega) only [go_sem,qQ,qT,qU,Int.reduceEq];refine qZ (2*i+1+1,swI ys (fi+i) (fi+(2*i+1+1))) ⟨(by simp only;omega),(by simp only;omega),(jZ (by omega) (by omega) (by omega) (by omega)).trans h3⟩ (by simp only;omega) (Can.sub (by simp [go_sem]) (by simp [go_sem]))
    · simp (config:={maxSteps:=2000000}) (disch:=omega) only [go_sem,qQ,qT,qU,Int.reduceEq];refine qH (jd _ _) ?_;simp only [go_sem];refine qD ?_ ?_<;>intro hc<;>simp only [hc,go_sem]
      · exact hK _ h3
      · simp (config:={maxSteps:=2000000}) (disch:=omega) only [go_sem,qQ,qT,qU,Int.reduceEq];refine zI hid (by omega) (by omega) ?_;simp (config:={maxSteps:=2000000}) (disch:=omega) only [go_sem,qQ,qT,qU,Int.reduceEq];refine zI hid (by omega) (by rw [List.length_set];omega) ?_;simp (maxSteps:=2000000) (disch:=omega) only [go_sem,qQ,qT,qU,Int.reduceEq];refine qZ (2*i+1,swI ys (fi+i) (fi+(2*i+1))) ⟨(by simp only;omega),(by simp only;omega),(jZ (by omega) (by omega) (by omega) (by omega)).trans h3⟩ (by simp only;omega) (Can.sub (by simp [go_sem]) (by simp [go_sem]))
  · simp (config:={maxSteps:=2000000}) (disch:=omega) only [go_sem,qQ,qT,qU,Int.reduceEq];refine qH (jd _ _) ?_;simp only [go_sem];refine qD ?_ ?_<;>intro hc<;>simp only [hc,go_sem]
    · exact hK _ h3
    · simp (config:={maxSteps:=2000000}) (disch:=omega) only [go_sem,qQ,qT,qU,Int.reduceEq];refine zI hid (by omega) (by omega) ?_;simp (config:={maxSteps:=2000000}) (disch:=omega) only [go_sem,qQ,qT,qU,Int.reduceEq];refine zI hid (by omega) (by rw [List.length_set];omega) ?_;simp (maxSteps:=2000000) (disch:=omega) only [go_sem,qQ,qT,qU,Int.reduceEq];refine qZ (2*i+1,swI ys (fi+i) (fi+(2*i+1))) ⟨(by simp only;omega),(by simp only;omega),(jZ (by omega) (by omega) (by omega) (by omega)).trans h3⟩ (by simp only;omega) (Can.sub (by simp [go_sem]) (by simp [go_sem]))
theorem td2 {x:Int} (h: -1≤x):0≤x.tdiv 2∧x.tdiv 2≤max x 0:=by
  by_cases h0:0≤x
  · rw [Int.tdiv_eq_ediv_of_nonneg h0];omega
  · rw [show x= -1 by omega];decide
theorem qiO {h:List qC} {id n:Nat} {xs:List Int} {a b:Int} {K:AV→List qC→Prop} (hid:id<h.length) (hn:xs.length=n) (hl:n≤4194304) (hab:0≤a∧a≤b∧b≤n)
    (hK:∀ys,ys.Perm xs→K (.tup []) (RW h id ys)):SCall Gm 1340 [.slice 1 id 0 n false,.int .i64 a,.int .i64 b] (RW h id xs) K:=by
  refine SCall.run [] [] qc0 (by kernel_rfl) rfl ?_;simp only [XY,qL,go_sem];have ht:=td2 (x:=b-a-1) (by omega);simp (config:={maxSteps:=2000000}) (disch:=omega) only [go_sem,qQ,qT,qU,Int.reduceEq];refine j9 (fun q:Int×List Int=> -1≤q.1∧q.1≤b-a∧q.2.Perm xs) (fun q=>(⟨[(0,.slice 1 id 0 n false),(6,.int .i64 a),(7,.int .i64 0),(8,.int .i64 (b-a)),(9,.int .i64 q.1)],[],RW h id q.2⟩:VSt)) (fun q=>(q.1+1).toNat) ((b-a-1).tdiv 2,xs)
    (fun zs:List Int=>zs.Perm xs) (fun zs=>(⟨[(0,.slice 1 id 0 n false),(6,.int .i64 a),(7,.int .i64 0),(8,.int .i64 (b-a))],[],RW h id zs⟩:VSt)) (by kernel_rfl) ⟨(by simp only;omega),(by simp only;omega),.refl _⟩ (Can.sub (by simp [go_sem]) (by simp [go_sem])) ?_ ?_
  · rintro ⟨i,ys⟩ ⟨h1,h2,h3⟩;simp only at h1 h2 h3⊢;have hyl:=h3.length_eq;simp only [go_sem];refine qD ?_ ?_<;>intro hc<;>simp only [hc,go_sem]
    · have hc2:=odT hc;refine zK (qW1 hid (by omega) hl (by omega) fun zs hz=> ?_);simp (config:={maxSteps:=2000000}) (disch:=omega) only [go_sem,qQ,qT,qU,Int.reduceEq];exact jO (i-1,zs) ⟨(by simp only;omega),(by simp only;omega),hz.trans h3⟩ (by simp only;omega) (Can.sub (by simp [go_sem]) (by simp [go_sem]))
    · exact zx ys h3 (Can.sub (by simp [go_sem]) (by simp [go_sem]))
  · intro ys h3;have hyl:=h3.length_eq;simp (config:={maxSteps:=2000000}) (disch:=omega) only [go_sem,qQ,qT,qU,Int.reduceEq];refine Sem.loop (fun q:Int×List Int=> -1≤q.1∧q.1≤b-a-1∧q.2.Perm xs) (fun q=>(⟨[(0,.slice 1 id 0 n false),(6,.int .i64 a),(7,.int .i64 0),(10,.int .i64 q.1)],[],RW h id q.2⟩:VSt)) (fun q=>(q.1+1).toNat) (b-a-1,ys) (by kernel_rfl) ⟨(by simp only;omega),(by simp only;omega),h3⟩ (Can.sub (by simp [go_sem]) (by simp [go_sem])) ?_;rintro ⟨i,zs⟩ ⟨g1,g2,g3⟩;simp only at g1 g2 g3⊢;have hzl:=g3.length_eq;simp only [go_sem];refine qD ?_ ?_<;>intro hc<;>simp only [hc,go_sem]
    · have hc2:=odT hc;simp (config:={maxSteps:=2000000}) (disch:=omega) only [go_sem,qQ,qT,qU,Int.reduceEq];refine zI hid (by omega) (by omega) ?_;simp (config:={maxSteps:=2000000}) (disch:=omega) only [go_sem,qQ,qT,qU,Int.reduceEq];refine zI hid (by omega) (by rw [List.length_set];omega) ?_;simp (maxSteps:=2000000) (disch:=omega) only [go_sem,qQ,qT,qU,Int.reduceEq];refine zK (qW1 (xs:=swI zs a (a+i)) hid (by rw [qjZ];omega) hl (by omega) fun us hu=> ?_);simp (config:={maxSteps:=2000000}) (disch:=omega) only [go_sem,qQ,qT,qU,Int.reduceEq];exact qZ (i-1,us) ⟨(by simp only;omega),(by simp only;omega),hu.trans ((jZ (by omega) (by omega) (by omega) (by omega)).trans g3)⟩ (by simp only;omega) (Can.sub (by simp [go_sem]) (by simp [go_sem]))
    · exact hK _ g3
end Go.Ab
namespace Go.Ab
open Go
set_option maxRecDepth 10000
set_option maxHeartbeats 2000000
def bx (k:IntKind) (x:Int):qC:=.row 1 [.int k x] true
theorem qSD {h:List qC} {o:qC} {id:Nat} {ys:List Int} (hid:id<h.length):(RW (h++[o]) id ys)[h.length]?=some o:=by
  unfold RW;rw [List.getElem?_set_ne (by omega),List.getElem?_append_right (Nat.le_refl _),Nat.sub_self];rfl
theorem qYJ {h:List qC} {o o':qC} {id:Nat} {ys:List Int} (hid:id<h.length):(RW (h++[o]) id ys).set h.length o'=RW (h++[o']) id ys:=by
  unfold RW;rw [List.set_comm _ _ (by omega)];congr 1;simp
theorem qU7 {h:List qC} {o:qC} {id:Nat} (hid:id<h.length):id<(h++[o]).length:=by simp;omega
theorem QP {h:List qC} {id:Nat} {ys:List Int} {k:IntKind} {x:Int} (hid:id<h.length):wC none 0 0 (RW (h++[bx k x]) id ys)[h.length]?=some (.int k x):=by
  rw [qSD hid];rfl
theorem Wl {E:Ev} {ks:List Fr1} {s m:qg} {h:List qC} {Q:qb→VSt→Prop} {l:List qB} {id:Nat} {ys:List Int} {k:IntKind} {x y:Int} (hid:id<h.length)
    (hr:R E (.ops l::ks) ⟨s,m,RW (h++[bx k y]) id ys⟩ Q):Sto E 1 (some (.ptr h.length 0 0)) (some (.int k y)) l ks ⟨s,m,RW (h++[bx k x]) id ys⟩ Q:=by
  refine z7 (by rfl) (qSD hid) (by rfl) (by rfl) ?_;rw [show (qC.row 1 (([AV.int k x]).set 0 (AV.int k y)) true)=bx k y from rfl,qYJ hid];exact hr
theorem qRV {h:List qC} {id n:Nat} {xs:List Int} {a b x:Int} {K:AV→List qC→Prop} (hid:id<h.length) (hn:xs.length=n) (hab:0≤a∧a<n∧0≤b∧b<n)
    (hK:∀(p q y:Int),((p=a∧q=b)∨(p=b∧q=a))→K (.tup [.int .i64 p,.int .i64 q]) (RW (h++[bx .i64 y]) id xs)):SCall Gm 1529 [.slice 1 id 0 n false,.int .i64 a,.int .i64 b,.ptr h.length 0 0] (RW (h++[bx .i64 x]) id xs) K:=by
  refine SCall.run [] [] qdM (by kernel_rfl) rfl ?_;have hid':=qU7 (o:=bx .i64 x) hid;simp only [Xu,qL,go_sem];simp (config:={maxSteps:=2000000}) (disch:=omega) only [go_sem,qQ,qT,qU,Int.reduceEq];refine qH (jd _ _) ?_;simp only [go_sem];refine qD ?_ ?_<;>intro hc<;>simp only [hc,go_sem]
  · rw [QP hid];simp only [go_sem];refine Wl hid ?_;simp only [go_sem];exact hK _ _ _ (.inr ⟨rfl,rfl⟩)
  · exact hK _ _ _ (.inl ⟨rfl,rfl⟩)
theorem qRU {h:List qC} {id n:Nat} {xs:List Int} {a b c x:Int} {K:AV→List qC→Prop} (hid:id<h.length) (hn:xs.length=n) (hab:0≤a∧a<n∧0≤b∧b<n∧0≤c∧c<n)
    (hK:∀(p y:Int),(p=a∨p=b∨p=c)→K (.int .i64 p) (RW (h++[bx .i64 y]) id xs)):SCall Gm 1480 [.slice 1 id 0 n false,.int .i64 a,.int .i64 b,.int .i64 c,.ptr h.length 0 0] (RW (h++[bx .i64 x]) id xs) K:=by
  refine SCall.run [] [] qdJ (by kernel_rfl) rfl ?_;simp only [Xr,qL,go_sem];refine zK (qRV hid hn (by omega) fun p q y hpq=> ?_);simp only [go_sem];refine zK (qRV hid hn (by omega) fun p2 q2 y2 hpq2=> ?_);simp only [go_sem];refine zK (qRV hid hn (by omega) fun p3 q3 y3 hpq3=> ?_);simp only [go_sem];exact hK _ _ (by omega)
theorem qRT {h:List qC} {id n:Nat} {xs:List Int} {a x:Int} {K:AV→List qC→Prop} (hid:id<h.length) (hn:xs.length=n) (hl:n≤4194304) (hab:1≤a∧a+1<n)
    (hK:∀(p y:Int),(a-1≤p∧p≤a+1)→K (.int .i64 p) (RW (h++[bx .i64 y]) id xs)):SCall Gm 1479 [.slice 1 id 0 n false,.int .i64 a,.ptr h.length 0 0] (RW (h++[bx .i64 x]) id xs) K:=by
  refine SCall.run [] [] qdI (by kernel_rfl) rfl ?_;simp only [Xq,qL,go_sem];simp (config:={maxSteps:=2000000}) (disch:=omega) only [go_sem,qQ,qT,qU,Int.reduceEq];refine zK (qRU hid hn (by omega) fun p y hpq=> ?_);simp only [go_sem];exact hK _ _ (by omega)
theorem qiQ {h:List qC} {id n:Nat} {xs:List Int} {a b:Int} {K:AV→List qC→Prop} (hid:id<h.length) (hn:xs.length=n) (hl:n≤4194304) (hab:0≤a∧a+8≤b∧b≤n)
    (hK:∀(p t y:Int),(a≤p∧p<b)→K (.tup [.int .i64 p,.int .i64 t]) (RW (h++[bx .i64 y]) id xs)):SCall Gm 1342 [.slice 1 id 0 n false,.int .i64 a,.int .i64 b] (RW h id xs) K:=by
  refine SCall.run [] [] qc2 (by kernel_rfl) rfl ?_;simp only [Xa,qL,go_sem];have ht:(b-a).tdiv 4=(b-a)/4:=Int.tdiv_eq_ediv_of_nonneg (by omega);have hb:(RW h id xs).length=h.length:=Ql;have hx:RW h id xs++[qC.row 1 [AV.int .i64 0] true]=RW (h++[bx .i64 0]) id xs:=Qk hid;simp (disch:=omega) only [go_sem,qQ,Int.reduceEq,ht,hb,hx];have h8:decide ((8:Int)≤b-a)=true:=decide_eq_true (by omega);simp only [h8,go_sem]
  --the choice by the number of changes
  refine qD ?_ ?_<;>intro hc<;>simp only [hc,go_sem]
  · have h50:=odT hc;refine zK (qRT hid hn hl (by omega) fun p y hp=> ?_);simp only [go_sem];refine zK (qRT hid hn hl (by omega) fun p2 y2 hp2=> ?_);simp only [go_sem];refine zK (qRT hid hn hl (by omega) fun p3 y3 hp3=> ?_);simp only [go_sem];refine zK (qRU hid hn (by omega) fun q y hq=> ?_);simp only [go_sem];rw [QP hid];simp only [go_sem];refine qD ?_ ?_<;>intro hc<;>simp only [hc,go_sem]
    · exact hK _ _ _ (by omega)
    · refine qD ?_ ?_<;>intro hc<;>simp only [hc,go_sem]
      · exact hK _ _ _ (by omega)
      · exact hK _ _ _ (by omega)
  · refine zK (qRU hid hn (by omega) fun q y hq=> ?_);simp only [go_sem];rw [QP hid];simp only [go_sem];refine qD ?_ ?_<;>intro hc<;>simp only [hc,go_sem]
    · exact hK _ _ _ (by omega)
    · refine qD ?_ ?_<;>intro hc<;>simp only [hc,go_sem]
      · exact hK _ _ _ (by omega)
      · exact hK _ _ _ (by omega)
end Go.Ab
namespace Go.Ab
open Go
set_option maxRecDepth 10000
set_option maxHeartbeats 2000000
def ZF:List UInt8:=[0,1,2,2,3,3,3,3,4,4,4,4,4,4,4,4,5,5,5,5,5,5,5,5,5,5,5,5,5,5,5,5,6,6,6,6,6,6,6,6,6,6,6,6,6,6,6,6,6,6,6,6,6,6,6,6,6,6,6,6,6,6,6,6,7,7,7,7,7,7,7,7,7,7,7,7,7,7,7,7,7,7,7,7,7,7,7,7,7,7,7,7,7,7,7,7,7,7,7,7,7,7,7,7,7,7,7,7,7,7,7,7,7,7,7,7,7,7,7,7,7,7,7,7,7,7,7,7,8,8,8,8,8,8,8,8,8,8,8,8,8,8,8,8,8,8,8,8,8,8,8,8,8,8,8,8,8,8,8,8,8,8,8,8,8,8,8,8,8,8,8,8,8,8,8,8,8,8,8,8,8,8,8,8,8,8,8,8,8,8,8,8,8,8,8,8,8,8,8,8,8,8,8,8,8,8,8,8,8,8,8,8,8,8,8,8,8,8,8,8,8,8,8,8,8,8,8,8,8,8,8,8,8,8,8,8,8,8,8,8,8,8,8,8,8,8,8,8,8,8,8,8,8,8,8,8]
def tb (n:Int):Int:=((ZF.getD n.toNat 0).toNat:Int)
theorem qXX:∀n:_root_.Fin 256,(ZF[n.1]?).isSome=true∧(ZF.getD n.1 0).toNat≤8∧(1≤n.1→2^(ZF.getD n.1 0).toNat≤2*n.1):=by decide
theorem J6 {n:Int} (h:0≤n∧n≤255):0≤tb n∧tb n≤8∧(1≤n→(2:Int)^(tb n).toNat≤2*n):=by
  have:=qXX ⟨n.toNat,by omega⟩;simp only at this;unfold tb;refine ⟨by omega,by omega,fun h1=> ?_⟩;have h2:=this.2.2 (by omega);rw [Int.toNat_natCast];have h3:((2^(ZF.getD n.toNat 0).toNat:Nat):Int)≤((2*n.toNat:Nat):Int):=Int.ofNat_le.2 h2;rw [Int.natCast_pow] at h3;simpa [Int.toNat_of_nonneg h.1] using h3
theorem Ua {n:Int} (h:0≤n∧n≤255):Wh (some (.str ZF)) (some (.int .u8 n))=some (.int .u8 (tb n)):=by
  have:=(qXX ⟨n.toNat,by omega⟩).1;simp only [Wh,h.1,if_true];simp only at this;obtain ⟨b,hb⟩:=Option.isSome_iff_exists.1 this;unfold tb;rw [hb,List.getD_eq_getElem?_getD,hb];rfl
def jt (x:Int):Int:=if 65536≤x then (if 256≤x/65536 then 24+tb (x/65536/256) else 16+tb (x/65536)) else if 256≤x then 8+tb (x/256) else tb x
theorem qRF {a:Nat} {b:Int} {y:Int} (hb:0≤b) (h:(2:Int)^b.toNat≤2*y):(2:Int)^((a:Int)+b).toNat≤2*(y*2^a):=by
  rw [Int.toNat_add (by omega) hb,Int.toNat_natCast,Int.pow_add];have h2:(0:Int)≤2^a:=Int.le_of_lt (Int.pow_pos (by omega));have:=Int.mul_le_mul_of_nonneg_left h h2
  calc (2:Int)^a*2^b.toNat≤2^a*(2*y):=this
    _=2*(y*2^a):=by rw [Int.mul_comm,Int.mul_assoc]
theorem qU8 {x:Int} (h:0≤x∧x<4294967296):0≤jt x∧jt x≤32∧(1≤x→(2:Int)^(jt x).toNat≤2*x):=by
  unfold jt;by_cases h1:65536≤x
  · rw [if_pos h1];by_cases h2:256≤x/65536
    · rw [if_pos h2];have:=J6 (n:=x/65536/256) (by omega);refine ⟨by omega,by omega,fun _=> ?_⟩;have:=qRF (a:=24) this.1 (this.2.2 (by omega));refine Int.le_trans this ?_;simp only [show ((2:Int)^24)=16777216 from rfl];omega
    · rw [if_neg h2];have:=J6 (n:=x/65536) (by omega);refine ⟨by omega,by omega,fun _=> ?_⟩;have:=qRF (a:=16) this.1 (this.2.2 (by omega));refine Int.le_trans this ?_;simp only [show ((2:Int)^16)=65536 from rfl];omega
  · rw [if_neg h1];by_cases h2:256≤x
    · rw [if_pos h2];have:=J6 (n:=x/256) (by omega);refine ⟨by omega,by omega,fun _=> ?_⟩;have:=qRF (a:=8) this.1 (this.2.2 (by omega));refine Int.le_trans this ?_;simp only [show ((2:Int)^8)=256 from rfl];omega
    · rw [if_neg h2];have:=J6 (n:=x) (by omega);exact ⟨by omega,by omega,fun _=>this.2.2 (by omega)⟩
def shf2 (op:BinOp):Option AV→Option AV→Option AV
  | some (.int k a),some (.int _ b)=>wE op k a b
  | _,_=>none
section
variable {E:Ev} {ks:List Fr1} {s m:qg} {h:List qC} {Q:qb→VSt→Prop} {l:List qB} {i:Nat} {d:Option Nat} {g:Option (Nat×Bool)} {ck:List qB} {x y:Ao} {op:BinOp}
@[go_sem] theorem zGD:Go1 E (.mk i d g (.shft op x y) ck) l ks ⟨s,m,h⟩ Q=Put E (shf2 op (ev (toE s) x) (ev (toE s) y)) d l ks ⟨s,m,h⟩ Q:=by
  rw [zb rfl fun _=>rfl];congr 1
@[go_sem] theorem zKQ {k k':IntKind} {a b:Int}:shf2 op (some (.int k a)) (some (.int k' b))=wE op k a b:=nr rfl
end
theorem qXB {k:IntKind} {a b:Int} (h0:0≤b):wE .shr k a b=some (.int k (a.fdiv (2^(min b.toNat k.bits)))):=by unfold wE;rw [if_neg (by omega)]
theorem qjE {k:IntKind} {a b:Int} (h0:0≤b):wE .shl k a b=some (.int k (k.wrap (a*2^(min b.toNat k.bits)))):=by unfold wE;rw [if_neg (by omega)]
theorem qjF {a:Int} (h:0≤a):wE .shr .u64 a 16=some (.int .u64 (a/65536)):=by
  rw [qXB (by omega),Int.fdiv_eq_ediv_of_nonneg _ (by decide)];rfl
theorem shr8 {a:Int} (h:0≤a):wE .shr .u64 a 8=some (.int .u64 (a/256)):=by
  rw [qXB (by omega),Int.fdiv_eq_ediv_of_nonneg _ (by decide)];rfl
theorem Ue {n:Int} (h:0≤n∧n≤255):IntKind.u8.wrap n=n:=IntWalk.u8_in n h
theorem Zg {n:Int} (h:0≤n∧n≤18446744073709551615):IntKind.u64.wrap n=n:=IntWalk.u64_in n h
theorem qZW {x:Int} (h:0≤x∧x<4294967296):Pure Gm 1349 [.int .u64 x] (.int .i64 (jt x)):=by
  refine Pure.intro [] [] qc8 (by kernel_rfl) rfl (by simp [AV.trees,AV.tree,go_sem]) rfl ?_;simp only [Xg,qL,go_sem];have h0:decide ((4294967296:Int)≤x)=false:=decide_eq_false (by omega);simp only [h0,go_sem];refine qD ?_ ?_<;>intro hc<;>simp only [hc,go_sem]
  · have h1:=odT hc;simp (disch:=omega) only [qjF,qQ,go_sem];refine qD ?_ ?_<;>intro hc<;>simp only [hc,go_sem]
    · have h2:=odT hc;have tl:=J6 (n:=x/65536/256) (by omega);simp (disch:=omega) only [shr8,qQ,Ue,go_sem];refine QU (Ua (n:=x/65536/256) (by omega)) ?_;simp (disch:=omega) only [qQ,go_sem];exact qM rfl (by unfold jt;rw [if_pos h1,if_pos h2];rfl)
    · have h2:=odF hc;have tl:=J6 (n:=x/65536) (by omega);simp (disch:=omega) only [qQ,Ue,go_sem];refine QU (Ua (n:=x/65536) (by omega)) ?_;simp (disch:=omega) only [qQ,go_sem];exact qM rfl (by unfold jt;rw [if_pos h1,if_neg h2,Int.zero_add])
  · have h1:=odF hc;refine qD ?_ ?_<;>intro hc<;>simp only [hc,go_sem]
    · have h2:=odT hc;have tl:=J6 (n:=x/256) (by omega);simp (disch:=omega) only [shr8,qQ,Ue,go_sem];refine QU (Ua (n:=x/256) (by omega)) ?_;simp (disch:=omega) only [qQ,go_sem];exact qM rfl (by unfold jt;rw [if_neg h1,if_pos h2];rfl)
    · have h2:=odF hc;have tl:=J6 (n:=x) (by omega);simp (disch:=omega) only [qQ,Ue,go_sem];refine QU (Ua (n:=x) (by omega)) ?_;simp (disch:=omega) only [qQ,go_sem];exact qM rfl (by unfold jt;rw [if_neg h1,if_neg h2,Int.zero_add])
theorem qS2 {x:Int} (h:0≤x∧x<4294967296):Pure Gm 1054 [.int .u64 x] (.int .i64 (jt x)):=by
  refine Pure.intro [] [] qb7 (by kernel_rfl) rfl (by simp [AV.trees,AV.tree,go_sem]) rfl ?_;simp only [W5,qL,go_sem];refine qH (qZW h) ?_;simp only [go_sem];exact qM rfl rfl
theorem qZ2 {x:Int} (h:1≤x∧x<1073741824):Pure Gm 1477 [.int .i64 x] (.int .u64 (2^(jt x).toNat)):=by
  refine Pure.intro [] [] qdG (by kernel_rfl) rfl (by simp [AV.trees,AV.tree,go_sem]) rfl ?_;simp only [Xo,qL,go_sem];have tl:=qU8 (x:=x) (by omega);simp (disch:=omega) only [Zg,go_sem];refine qH (qS2 (by omega)) ?_;simp only [go_sem];have hm:min (jt x).toNat IntKind.u64.bits=(jt x).toNat:=Nat.min_eq_left (by show _≤64;omega);have hp:=tl.2.2 (by omega);have hp0:(0:Int)≤2^(jt x).toNat:=Int.le_of_lt (Int.pow_pos (by omega));rw [qjE (by omega),hm,Int.one_mul,Zg (by omega)];simp only [go_sem];exact qM rfl rfl
theorem qiV {h:List qC} {id:Nat} {xs:List Int} {x:Int} {K:AV→List qC→Prop} (hid:id<h.length)
    (hK:∀y:Int,K (.int .u64 y) (RW (h++[bx .u64 y]) id xs)):SCall Gm 1478 [.ptr h.length 0 0] (RW (h++[bx .u64 x]) id xs) K:=by
  refine SCall.run [] [] qdH (by kernel_rfl) rfl ?_;simp only [Xp,qL,go_sem];have sl:∀a:Int,wE .shl .u64 a 13=some (.int .u64 (IntKind.u64.wrap (a*2^13))):=fun a=>rfl;have sr:∀a:Int,wE .shr .u64 a 7=some (.int .u64 (a.fdiv (2^7))):=fun a=>rfl;have sl2:∀a:Int,wE .shl .u64 a 17=some (.int .u64 (IntKind.u64.wrap (a*2^17))):=fun a=>rfl;have xo:∀a b:Int,∃c:Int,jU .xor .u64 a b=some (.int .u64 c):=fun a b=>⟨_,rfl⟩;simp only [QP hid,sl,go_sem];obtain ⟨c1,e1⟩:=xo x (IntKind.u64.wrap (x*2^13));simp only [e1,go_sem];refine Wl hid ?_;simp only [QP hid,sr,go_sem];obtain ⟨c2,e2⟩:=xo c1 (c1.fdiv (2^7));simp only [e2,go_sem];refine Wl hid ?_;simp only [QP hid,sl2,go_sem];obtain ⟨c3,e3⟩:=xo c2 (IntKind.u64.wrap (c2*2^17));simp only [e3,go_sem];refine Wl hid ?_;simp only [QP hid,go_sem];exact hK _
theorem qYR {a c:Int} (hc:0≤c∧c<9223372036854775808):∃o:Int,jU .and .u64 a c=some (.int .u64 o)∧0≤o∧o≤c:=by
  refine ⟨_,rfl, ?_⟩;have h1:(BitVec.ofInt IntKind.u64.bits a&&&BitVec.ofInt IntKind.u64.bits c).toNat≤c.toNat:=by
    rw [BitVec.toNat_and];refine Nat.le_trans Nat.and_le_right ?_;rw [BitVec.toNat_ofInt];show (c%((2^64:Nat):Int)).toNat≤_;omega
  rw [Zg (by omega)];omega
theorem qiP {h:List qC} {id n:Nat} {xs:List Int} {a b:Int} {K:AV→List qC→Prop} (hid:id<h.length) (hn:xs.length=n) (hl:n≤4194304) (hab:0≤a∧a+8≤b∧b≤n)
    (hK:∀(ys:List Int) (y:Int),ys.Perm xs→K (.tup []) (RW (h++[bx .u64 y]) id ys)):SCall Gm 1341 [.slice 1 id 0 n false,.int .i64 a,.int .i64 b] (RW h id xs) K:=by
  refine SCall.run [] [] qc1 (by kernel_rfl) rfl ?_;simp only [XZ,qL,go_sem];have ht:(b-a).tdiv 4=(b-a)/4:=Int.tdiv_eq_ediv_of_nonneg (by omega);have hb:(RW h id xs).length=h.length:=Ql;have hx:RW h id xs++[qC.row 1 [AV.int .u64 0] true]=RW (h++[bx .u64 0]) id xs:=Qk hid;have h8:decide ((8:Int)≤b-a)=true:=decide_eq_true (by omega);simp (disch:=omega) only [go_sem,qQ,h8];simp (disch:=omega) only [go_sem,qQ,Zg,Int.reduceEq,ht,hb,hx];refine Wl hid ?_;simp only [go_sem];have tl:=qU8 (x:=b-a) (by omega);have hp:=tl.2.2 (by omega);have hp0:(0:Int)<2^(jt (b-a)).toNat:=Int.pow_pos (by omega);refine qH (qZ2 (by omega)) ?_;generalize (2:Int)^(jt (b-a)).toNat=P at hp hp0;simp (disch:=omega) only [go_sem,qQ,Int.reduceEq,ht];refine Sem.loop (fun q:Int×Int×List Int=>a+(b-a)/4*2-1≤q.1∧q.1≤a+(b-a)/4*2+2∧q.2.2.Perm xs) (fun q=>(⟨[(0,.slice 1 id 0 n false),(1,.int .i64 a),(6,.int .i64 (b-a)),(7,.ptr h.length 0 0),(8,.int .u64 P),(9,.int .i64 q.1)],[],RW (h++[bx .u64 q.2.1]) id q.2.2⟩:VSt)) (fun q=>(a+(b-a)/4*2+2-q.1).toNat) (a+(b-a)/4*2-1,b-a,xs) (by kernel_rfl) ⟨(by first | omega | (simp only;omega)),(by first | omega | (simp only;omega)),.refl _⟩ (Can.sub (by simp [go_sem]) (by simp [go_sem])) ?_;rintro ⟨i,y,ys⟩ ⟨h1,h2,h3⟩;simp only at h1 h2 h3⊢;have hyl:=h3.length_eq;simp (disch:=omega) only [go_sem,qQ,Int.reduceEq,ht];refine qD ?_ ?_<;>intro hc<;>simp only [hc,go_sem]
  · have hle:=odT hc;refine zK (qiV hid fun y2=> ?_);have hid':=qU7 (o:=bx .u64 y2) hid;simp (disch:=omega) only [go_sem,Zg];obtain ⟨o,e,o1,o2⟩:=qYR (a:=y2) (c:=P-1) (by omega);simp (disch:=omega) only [e,go_sem,qQ];refine qD ?_ ?_<;>intro hc<;>simp only [hc,go_sem]
    · have hge:=odT hc;simp (config:={maxSteps:=2000000}) (disch:=omega) only [go_sem,qQ,qT,qU,Int.reduceEq];refine zI hid' (by omega) (by omega) ?_;simp (config:={maxSteps:=2000000}) (disch:=omega) only [go_sem,qQ,qT,qU,Int.reduceEq];refine zI hid' (by omega) (by rw [List.length_set];omega) ?_;simp (maxSteps:=2000000) (disch:=omega) only [go_sem,qQ,qT,qU,Int.reduceEq];exact qZ (i+1,y2,swI ys i (a+(o-(b-a)))) ⟨(by first | omega | (simp only;omega)),(by first | omega | (simp only;omega)),(jZ (by omega) (by omega) (by omega) (by omega)).trans h3⟩ (by first | omega | (simp only;omega)) (Can.sub (by simp [go_sem]) (by simp [go_sem]))
    · have hlt:=odF hc;simp (config:={maxSteps:=2000000}) (disch:=omega) only [go_sem,qQ,qT,qU,Int.reduceEq];refine zI hid' (by omega) (by omega) ?_;simp (config:={maxSteps:=2000000}) (disch:=omega) only [go_sem,qQ,qT,qU,Int.reduceEq];refine zI hid' (by omega) (by rw [List.length_set];omega) ?_;simp (maxSteps:=2000000) (disch:=omega) only [go_sem,qQ,qT,qU,Int.reduceEq];exact qZ (i+1,y2,swI ys i (a+o)) ⟨(by first | omega | (simp only;omega)),(by first | omega | (simp only;omega)),(jZ (by omega) (by omega) (by omega) (by omega)).trans h3⟩ (by first | omega | (simp only;omega)) (Can.sub (by simp [go_sem]) (by simp [go_sem]))
  · exact hK _ _ h3
end Go.Ab
namespace Go.Ab
open Go
set_option maxRecDepth 10000
set_option maxHeartbeats 2000000
theorem qiT {h:List qC} {id n:Nat} {xs:List Int} {a b p:Int} {K:AV→List qC→Prop} (hid:id<h.length) (hn:xs.length=n) (hl:n≤4194304) (hab:0≤a∧a<b∧b≤n∧a≤p∧p<b)
    (hK:∀(ys:List Int) (m:Int),ys.Perm xs→a+1≤m→m≤b→K (.int .i64 m) (RW h id ys)):SCall Gm 1346 [.slice 1 id 0 n false,.int .i64 a,.int .i64 b,.int .i64 p] (RW h id xs) K:=by
  refine SCall.run [] [] qc6 (by kernel_rfl) rfl ?_;simp only [Xe,qL,go_sem];simp (config:={maxSteps:=2000000}) (disch:=omega) only [go_sem,qQ,qT,qU,Int.reduceEq];refine zI hid (by omega) (by omega) ?_;simp (config:={maxSteps:=2000000}) (disch:=omega) only [go_sem,qQ,qT,qU,Int.reduceEq];refine zI hid (by omega) (by rw [List.length_set];omega) ?_;simp (maxSteps:=2000000) (disch:=omega) only [go_sem,qQ,qT,qU,Int.reduceEq];refine j9 (fun q:Int×Int×List Int=>a+1≤q.1∧q.2.1≤b-1∧q.1≤b∧q.2.2.Perm xs) (fun q=>(⟨[(0,.slice 1 id 0 n false),(1,.int .i64 a),(9,.int .i64 q.1),(10,.int .i64 q.2.1)],[],RW h id q.2.2⟩:VSt)) (fun q=>(q.2.1+1-q.1).toNat) (a+1,b-1,swI xs a p)
    (fun q:Int×List Int=>a+1≤q.1∧q.1≤b∧q.2.Perm xs) (fun q=>(⟨[(9,.int .i64 q.1)],[],RW h id q.2⟩:VSt)) (by kernel_rfl) ⟨(by first | omega | (simp only;omega)),(by first | omega | (simp only;omega)),(by first | omega | (simp only;omega)),jZ (by omega) (by omega) (by omega) (by omega)⟩ (Can.sub (by simp [go_sem]) (by simp [go_sem])) ?_ ?_
  · rintro ⟨i,j,ys⟩ ⟨h1,h2,h3,h4⟩;simp only at h1 h2 h3 h4⊢;have hyl:=h4.length_eq;simp only [go_sem];refine j9 (fun i':Int=>i≤i'∧i'≤max i (j+1)) (fun i'=>(⟨[(0,.slice 1 id 0 n false),(1,.int .i64 a),(9,.int .i64 i'),(10,.int .i64 j)],[],RW h id ys⟩:VSt)) (fun i'=>(j+1-i').toNat) i
      (fun i':Int=>i≤i'∧i'≤max i (j+1)) (fun i'=>(⟨[(0,.slice 1 id 0 n false),(1,.int .i64 a),(9,.int .i64 i'),(10,.int .i64 j)],[],RW h id ys⟩:VSt)) (by kernel_rfl) ⟨(by first | omega | (simp only;omega)),(by first | omega | (simp only;omega))⟩ (Can.sub (by simp [go_sem]) (by simp [go_sem])) ?_ ?_
    · rintro i' ⟨k1,k2⟩;simp only [go_sem];refine qY ?_ ?_<;>intro hc<;>simp only [hc,go_sem]
      · have hle:=odT hc;simp (config:={maxSteps:=2000000}) (disch:=omega) only [go_sem,qQ,qT,qU,Int.reduceEq];refine qH (jd _ _) ?_;simp only [go_sem];refine qD ?_ ?_<;>intro hc<;>simp only [hc,go_sem]
        · simp (config:={maxSteps:=2000000}) (disch:=omega) only [go_sem,qQ,qT,qU,Int.reduceEq];exact jO (i'+1) ⟨(by first | omega | (simp only;omega)),(by first | omega | (simp only;omega))⟩ (by first | omega | (simp only;omega)) (Can.sub (by simp [go_sem]) (by simp [go_sem]))
        · exact zx i' ⟨by omega,by omega⟩ (Can.sub (by simp [go_sem]) (by simp [go_sem]))
      · exact zx i' ⟨by omega,by omega⟩ (Can.sub (by simp [go_sem]) (by simp [go_sem]))
    rintro i' ⟨k1,k2⟩;simp only [go_sem];refine j9 (fun j':Int=>j'≤j) (fun j'=>(⟨[(0,.slice 1 id 0 n false),(1,.int .i64 a),(9,.int .i64 i'),(10,.int .i64 j')],[],RW h id ys⟩:VSt)) (fun j'=>(j'+1).toNat) j
      (fun j':Int=>j'≤j) (fun j'=>(⟨[(0,.slice 1 id 0 n false),(1,.int .i64 a),(9,.int .i64 i'),(10,.int .i64 j')],[],RW h id ys⟩:VSt)) (by kernel_rfl) (by first | omega | (simp only;omega)) (Can.sub (by simp [go_sem]) (by simp [go_sem])) ?_ ?_
    · rintro j' m2;simp only [go_sem];refine qY ?_ ?_<;>intro hc<;>simp only [hc,go_sem]
      · have hle:=odT hc;simp (config:={maxSteps:=2000000}) (disch:=omega) only [go_sem,qQ,qT,qU,Int.reduceEq];refine qH (jd _ _) ?_;simp only [go_sem];refine qD ?_ ?_<;>intro hc<;>simp only [hc,go_sem]
        · simp (config:={maxSteps:=2000000}) (disch:=omega) only [go_sem,qQ,qT,qU,Int.reduceEq];exact jO (j'-1) (by first | omega | (simp only;omega)) (by first | omega | (simp only;omega)) (Can.sub (by simp [go_sem]) (by simp [go_sem]))
        · exact zx j' (by omega) (Can.sub (by simp [go_sem]) (by simp [go_sem]))
      · exact zx j' (by omega) (Can.sub (by simp [go_sem]) (by simp [go_sem]))
    rintro j' m2;simp only [go_sem];refine qD ?_ ?_<;>intro hc<;>simp only [hc,go_sem]
    · exact zx (i',ys) ⟨(by first | omega | (simp only;omega)),(by first | omega | (simp only;omega)),h4⟩ (Can.sub (by simp [go_sem]) (by simp [go_sem]))
    · have hle:=odF hc;simp (config:={maxSteps:=2000000}) (disch:=omega) only [go_sem,qQ,qT,qU,Int.reduceEq];refine zI hid (by omega) (by omega) ?_;simp (config:={maxSteps:=2000000}) (disch:=omega) only [go_sem,qQ,qT,qU,Int.reduceEq];refine zI hid (by omega) (by rw [List.length_set];omega) ?_;simp (maxSteps:=2000000) (disch:=omega) only [go_sem,qQ,qT,qU,Int.reduceEq];exact jO (i'+1,j'-1,swI ys i' j') ⟨(by first | omega | (simp only;omega)),(by first | omega | (simp only;omega)),(by first | omega | (simp only;omega)),(jZ (by omega) (by omega) (by omega) (by omega)).trans h4⟩ (by first | omega | (simp only;omega)) (Can.sub (by simp [go_sem]) (by simp [go_sem]))
  · rintro ⟨i,ys⟩ ⟨h1,h2,h3⟩;simp only [go_sem];exact hK _ _ h3 h1 h2
end Go.Ab
namespace Go.Ab
open Go
set_option maxRecDepth 10000
set_option maxHeartbeats 2000000
theorem qiU {h:List qC} {id n:Nat} {xs:List Int} {a b p:Int} {K:AV→List qC→Prop} (hid:id<h.length) (hn:xs.length=n) (hl:n≤4194304) (hab:0≤a∧a<b∧b≤n∧a≤p∧p<b)
    (hK:∀(ys:List Int) (m:Int) (r:Bool),ys.Perm xs→a≤m→m<b→K (.tup [.int .i64 m,.bool r]) (RW h id ys)):SCall Gm 1347 [.slice 1 id 0 n false,.int .i64 a,.int .i64 b,.int .i64 p] (RW h id xs) K:=by
  refine SCall.run [] [] qc7 (by kernel_rfl) rfl ?_;simp only [Xf,qL,go_sem];simp (config:={maxSteps:=2000000}) (disch:=omega) only [go_sem,qQ,qT,qU,Int.reduceEq];refine zI hid (by omega) (by omega) ?_;simp (config:={maxSteps:=2000000}) (disch:=omega) only [go_sem,qQ,qT,qU,Int.reduceEq];refine zI hid (by omega) (by rw [List.length_set];omega) ?_;simp (maxSteps:=2000000) (disch:=omega) only [go_sem,qQ,qT,qU,Int.reduceEq];have hp1:(swI xs a p).Perm xs:=jZ (by omega) (by omega) (by omega) (by omega);show Sem _ _ ⟨_,_,RW h id (swI xs a p)⟩ _;have hb:(RW h id xs).length=h.length:=Ql;rw [hb];generalize swI xs a p=ys at hp1⊢;have hyl:=hp1.length_eq;refine j9 (fun i':Int=>a+1≤i') (fun i'=>(⟨[(0,.slice 1 id 0 n false),(1,.int .i64 a),(10,.int .i64 i'),(11,.int .i64 (b-1))],[],RW h id ys⟩:VSt)) (fun i'=>(b-i').toNat) (a+1)
      (fun i':Int=>a+1≤i') (fun i'=>(⟨[(0,.slice 1 id 0 n false),(1,.int .i64 a),(10,.int .i64 i'),(11,.int .i64 (b-1))],[],RW h id ys⟩:VSt)) (by kernel_rfl) (by first | omega | (simp only;omega)) (Can.sub (by simp [go_sem]) (by simp [go_sem])) ?_ ?_
  · rintro i' k1;simp only [go_sem];refine qY ?_ ?_<;>intro hc<;>simp only [hc,go_sem]
    · have hle:=odT hc;simp (config:={maxSteps:=2000000}) (disch:=omega) only [go_sem,qQ,qT,qU,Int.reduceEq];refine qH (jd _ _) ?_;simp only [go_sem];refine qD ?_ ?_<;>intro hc<;>simp only [hc,go_sem]
      · simp (config:={maxSteps:=2000000}) (disch:=omega) only [go_sem,qQ,qT,qU,Int.reduceEq];exact jO (i'+1) (by first | omega | (simp only;omega)) (by first | omega | (simp only;omega)) (Can.sub (by simp [go_sem]) (by simp [go_sem]))
      · exact zx i' (by omega) (Can.sub (by simp [go_sem]) (by simp [go_sem]))
    · exact zx i' (by omega) (Can.sub (by simp [go_sem]) (by simp [go_sem]))
  rintro i' k1;simp only [go_sem];refine j9 (fun j':Int=>a≤j'∧j'≤b-1) (fun j'=>(⟨[(0,.slice 1 id 0 n false),(1,.int .i64 a),(10,.int .i64 i'),(11,.int .i64 j')],[],RW h id ys⟩:VSt)) (fun j'=>(j'+1).toNat) (b-1)
      (fun j':Int=>a≤j'∧j'≤b-1) (fun j'=>(⟨[(0,.slice 1 id 0 n false),(1,.int .i64 a),(10,.int .i64 i'),(11,.int .i64 j')],[],RW h id ys⟩:VSt)) (by kernel_rfl) ⟨(by first | omega | (simp only;omega)),(by first | omega | (simp only;omega))⟩ (Can.sub (by simp [go_sem]) (by simp [go_sem])) ?_ ?_
  · rintro j' ⟨m1,m2⟩;simp only [go_sem];refine qY ?_ ?_<;>intro hc<;>simp only [hc,go_sem]
    · have hle:=odT hc;simp (config:={maxSteps:=2000000}) (disch:=omega) only [go_sem,qQ,qT,qU,Int.reduceEq];refine qH (jd _ _) ?_;simp only [go_sem];refine qD ?_ ?_<;>intro hc<;>simp only [hc,go_sem]
      · simp (config:={maxSteps:=2000000}) (disch:=omega) only [go_sem,qQ,qT,qU,Int.reduceEq];exact jO (j'-1) ⟨(by first | omega | (simp only;omega)),(by first | omega | (simp only;omega))⟩ (by first | omega | (simp only;omega)) (Can.sub (by simp [go_sem]) (by simp [go_sem]))
      · exact zx j' ⟨by omega,by omega⟩ (Can.sub (by simp [go_sem]) (by simp [go_sem]))
    · exact zx j' ⟨by omega,by omega⟩ (Can.sub (by simp [go_sem]) (by simp [go_sem]))
  rintro j' ⟨m1,m2⟩;simp only [go_sem];refine qD ?_ ?_<;>intro hc<;>simp only [hc,go_sem]
  · simp (config:={maxSteps:=2000000}) (disch:=omega) only [go_sem,qQ,qT,qU,Int.reduceEq];refine zI hid (by omega) (by omega) ?_;simp (config:={maxSteps:=2000000}) (disch:=omega) only [go_sem,qQ,qT,qU,Int.reduceEq];refine zI hid (by omega) (by rw [List.length_set];omega) ?_;simp (maxSteps:=2000000) (disch:=omega) only [go_sem,qQ,qT,qU,Int.reduceEq];exact hK _ _ _ ((jZ (by omega) (by omega) (by omega) (by omega)).trans hp1) m1 (by omega)
  have hle:=odF hc;simp (config:={maxSteps:=2000000}) (disch:=omega) only [go_sem,qQ,qT,qU,Int.reduceEq];refine zI hid (by omega) (by omega) ?_;simp (config:={maxSteps:=2000000}) (disch:=omega) only [go_sem,qQ,qT,qU,Int.reduceEq];refine zI hid (by omega) (by rw [List.length_set];omega) ?_;simp (maxSteps:=2000000) (disch:=omega) only [go_sem,qQ,qT,qU,Int.reduceEq];have hp2:(swI ys i' j').Perm xs:=(jZ (by omega) (by omega) (by omega) (by omega)).trans hp1;refine j9 (fun q:Int×Int×List Int=>a+1≤q.1∧a≤q.2.1∧q.2.1≤b-1∧q.2.2.Perm xs) (fun q=>(⟨[(0,.slice 1 id 0 n false),(1,.int .i64 a),(10,.int .i64 q.1),(11,.int .i64 q.2.1)],[],RW h id q.2.2⟩:VSt)) (fun q=>(q.2.1+1-q.1).toNat) (i'+1,j'-1,swI ys i' j')
    (fun q:Int×List Int=>a≤q.1∧q.1≤b-1∧q.2.Perm xs) (fun q=>(⟨[(0,.slice 1 id 0 n false),(1,.int .i64 a),(11,.int .i64 q.1)],[],RW h id q.2⟩:VSt)) (by kernel_rfl) ⟨(by first | omega | (simp only;omega)),(by first | omega | (simp only;omega)),(by first | omega | (simp only;omega)),hp2⟩ (Can.sub (by simp [go_sem]) (by simp [go_sem])) ?_ ?_
  · clear hp2 hp1 k1 m1 m2 hle hyl hc;rintro ⟨i,j,zs⟩ ⟨h1,h2,h3,h4⟩;simp only at h1 h2 h3 h4⊢;have hzl:=h4.length_eq;simp only [go_sem];refine j9 (fun i':Int=>i≤i') (fun i'=>(⟨[(0,.slice 1 id 0 n false),(1,.int .i64 a),(10,.int .i64 i'),(11,.int .i64 j)],[],RW h id zs⟩:VSt)) (fun i'=>(j+1-i').toNat) i
      (fun i':Int=>i≤i') (fun i'=>(⟨[(0,.slice 1 id 0 n false),(1,.int .i64 a),(10,.int .i64 i'),(11,.int .i64 j)],[],RW h id zs⟩:VSt)) (by kernel_rfl) (by first | omega | (simp only;omega)) (Can.sub (by simp [go_sem]) (by simp [go_sem])) ?_ ?_
    · rintro i' k1;simp only [go_sem];refine qY ?_ ?_<;>intro hc<;>simp only [hc,go_sem]
      · have hle:=odT hc;simp (config:={maxSteps:=2000000}) (disch:=omega) only [go_sem,qQ,qT,qU,Int.reduceEq];refine qH (jd _ _) ?_;simp only [go_sem];refine qD ?_ ?_<;>intro hc<;>simp only [hc,go_sem]
        · simp (config:={maxSteps:=2000000}) (disch:=omega) only [go_sem,qQ,qT,qU,Int.reduceEq];exact jO (i'+1) (by first | omega | (simp only;omega)) (by first | omega | (simp only;omega)) (Can.sub (by simp [go_sem]) (by simp [go_sem]))
        · exact zx i' (by omega) (Can.sub (by simp [go_sem]) (by simp [go_sem]))
      · exact zx i' (by omega) (Can.sub (by simp [go_sem]) (by simp [go_sem]))
    rintro i' k1;simp only [go_sem];refine j9 (fun j':Int=>a≤j'∧j'≤j) (fun j'=>(⟨[(0,.slice 1 id 0 n false),(1,.int .i64 a),(10,.int .i64 i'),(11,.int .i64 j')],[],RW h id zs⟩:VSt)) (fun j'=>(j'+1).toNat) j
      (fun j':Int=>a≤j'∧j'≤j) (fun j'=>(⟨[(0,.slice 1 id 0 n false),(1,.int .i64 a),(10,.int .i64 i'),(11,.int .i64 j')],[],RW h id zs⟩:VSt)) (by kernel_rfl) ⟨(by first | omega | (simp only;omega)),(by first | omega | (simp only;omega))⟩ (Can.sub (by simp [go_sem]) (by simp [go_sem])) ?_ ?_
    · rintro j' ⟨m1,m2⟩;simp only [go_sem];refine qY ?_ ?_<;>intro hc<;>simp only [hc,go_sem]
      · have hle:=odT hc;simp (config:={maxSteps:=2000000}) (disch:=omega) only [go_sem,qQ,qT,qU,Int.reduceEq];refine qH (jd _ _) ?_;simp only [go_sem];refine qD ?_ ?_<;>intro hc<;>simp only [hc,go_sem]
        · simp (config:={maxSteps:=2000000}) (disch:=omega) only [go_sem,qQ,qT,qU,Int.reduceEq];exact jO (j'-1) ⟨(by first | omega | (simp only;omega)),(by first | omega | (simp only;omega))⟩ (by first | omega | (simp only;omega)) (Can.sub (by simp [go_sem]) (by simp [go_sem]))
        · exact zx j' ⟨by omega,by omega⟩ (Can.sub (by simp [go_sem]) (by simp [go_sem]))
      · exact zx j' ⟨by omega,by omega⟩ (Can.sub (by simp [go_sem]) (by simp [go_sem]))
    rintro j' ⟨m1,m2⟩;simp only [go_sem];refine qD ?_ ?_<;>intro hc<;>simp only [hc,go_sem]
    · exact zx (j',zs) ⟨(by first | omega | (simp only;omega)),(by first | omega | (simp only;omega)),h4⟩ (Can.sub (by simp [go_sem]) (by simp [go_sem]))
    · have hle:=odF hc;simp (config:={maxSteps:=2000000}) (disch:=omega) only [go_sem,qQ,qT,qU,Int.reduceEq];refine zI hid (by omega) (by omega) ?_;simp (config:={maxSteps:=2000000}) (disch:=omega) only [go_sem,qQ,qT,qU,Int.reduceEq];refine zI hid (by omega) (by rw [List.length_set];omega) ?_;simp (maxSteps:=2000000) (disch:=omega) only [go_sem,qQ,qT,qU,Int.reduceEq];exact jO (i'+1,j'-1,swI zs i' j') ⟨(by first | omega | (simp only;omega)),(by first | omega | (simp only;omega)),(by first | omega | (simp only;omega)),(jZ (by omega) (by omega) (by omega) (by omega)).trans h4⟩ (by first | omega | (simp only;omega)) (Can.sub (by simp [go_sem]) (by simp [go_sem]))
  · rintro ⟨j,zs⟩ ⟨h1,h2,h3⟩;have hzl:=h3.length_eq;simp only at h1 h2 h3 hzl⊢;simp (config:={maxSteps:=2000000}) (disch:=omega) only [go_sem,qQ,qT,qU,Int.reduceEq];refine zI hid (by omega) (by omega) ?_;simp (config:={maxSteps:=2000000}) (disch:=omega) only [go_sem,qQ,qT,qU,Int.reduceEq];refine zI hid (by omega) (by rw [List.length_set];omega) ?_;simp (maxSteps:=2000000) (disch:=omega) only [go_sem,qQ,qT,qU,Int.reduceEq];exact hK _ _ _ ((jZ (by omega) (by omega) (by omega) (by omega)).trans h3) h1 (by omega)
end Go.Ab
