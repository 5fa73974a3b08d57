/- Texts Cor11 .. Cor43: the abstract machine, its laws and contracts of functions: lemmas for the statement. No condition. -/
import Derived.Test.YteekllacfpafoaaGreatP6
set_option linter.unusedSimpArgs false
set_option linter.unusedVariables false
namespace Go.Ab
open Go
set_option maxRecDepth 10000
set_option maxHeartbeats 2000000
theorem qQM {xs:List Int} {c:Bool} {n:Nat}:(lay (.lst 1 (xs.map qE) c) n).1=.slice 1 n 0 xs.length false:=by simp [lay]
theorem qQN {xs:List Int} {c:Bool} {n:Nat}:(lay (.lst 1 (xs.map qE) c) n).2=[.row 1 (xs.map qE) true]:=by simp [lay,lI]
theorem qQK {w id len i:Nat} {c:Bool} {k:IntKind} (h:i<len):idx w (some (.slice w id 0 len c)) (some (.int k (i:Int)))=some (.ptr id i 0):=by
  unfold idx;simp [h]
theorem ji.start {U:List (List Int)} (hU:Zq U) {d:Nat} (hd:d<U.length) (hn:U[d].Nodup):ji U d 0 U[d] where
  nd:=hn
  rng:=fun s hs=>hU _ (gMm hd) s hs
  rch:=fun s hs=>.single (by unfold Ed;rw [List.getD_eq_getElem?_getD,Int.toNat_natCast,gEg hd];exact hs)
  beg:=fun s hs=>by unfold Ed at hs;rw [List.getD_eq_getElem?_getD,Int.toNat_natCast,gEg hd] at hs;exact hs
  cls:=fun j hj=>by omega
theorem c835 {b:qI} (hz:b.sz≤1048576) (hn:b.Defs.length≤24) (hU:Zq (zC b)) (hN:∀ys∈zC b,ys.Nodup):Pure Gm 835 [.ept b.enc 0] (.lst 1 ((jF (zC b) b.Defs.length).map qE) false):=by
  refine Pure.intro [] [] g835 (by kernel_rfl) rfl (by simp [AV.trees,AV.tree,go_sem]) (by simp [AV.tree,qb]) ?_;simp only [Yd,qM,go_sem];have hul:(zC b).length=b.Defs.length:=by simp [zC]
  have hus:∀ys∈zC b,ys.length≤2097152:=by
    intro ys hy;simp only [zC,List.mem_map] at hy;obtain ⟨c,hc,rfl⟩:=hy;have h1:=qA.names_len c [];have h2:=zV (f:=qA.sz) hc;have h3:b.Defs.length+qG qA.sz b.Defs≤1048576:=hz;simp at h1;omega
  refine qF (qY9 hz) ?_;simp only [go_sem];generalize zC b=U at hU hul hus hN⊢;refine Sem.loop (fun i:Nat=>i≤b.Defs.length) (fun i=>(⟨[(0,.ept b.enc 0),(3,.lst 1 (U.map (j4 1 qE)) false),(4,.slice 1 0 0 (jF U i).length false),(5,.int .i64 (i:Nat))],[],[.row 1 ((jF U i).map qE) true]⟩:VSt)) (fun i=>b.Defs.length-i) 0 (by kernel_rfl) (Nat.zero_le _)
    (Can.renum [none] rfl ⟨.ph,trivial⟩ ⟨⟨_,rfl,.tree (by simp [AV.tree,go_sem])⟩,⟨_,rfl,.tree (by simp [AV.tree,QY])⟩,⟨_,rfl,.ph2 rfl⟩,⟨_,rfl,.tree rfl⟩,trivial⟩ trivial) ?_
  intro d hd;simp only [go_sem];refine qD ?_ ?_<;>intro hc<;>simp only [hc,go_sem]
  · have hlt:d<b.Defs.length:=by have:=odT hc;omega
    have hltU:d<U.length:=by omega
    simp only [List.getElem?_map,gEg hltU,Option.map_some,j4,go_sem];refine wQ (n402 U[d] (by have:=hus _ (gMm hltU);omega)) ?_;simp only [go_sem,qQM,qQN,List.nil_append,List.cons_append];refine Sem.loop (fun a:Nat×List Int=>a.1≤a.2.length∧ji U d a.1 a.2) (fun a=>(⟨[(0,.ept b.enc 0),(3,.lst 1 (U.map (j4 1 qE)) false),(4,.slice 1 0 0 (jF U d).length false),(5,.int .i64 (d:Nat)),(6,.slice 1 1 0 a.2.length false),(7,.int .i64 (a.1:Nat))],[],[.row 1 ((jF U d).map qE) true,.row 1 (a.2.map qE) true]⟩:VSt)) (fun a=>U.length-a.1) (0,U[d]) (by kernel_rfl) ⟨Nat.zero_le _,ji.start hU hltU (hN _ (gMm hltU))⟩
      (Can.sub (by simp [go_sem]) (by simp [go_sem])) ?_
    rintro ⟨i,seen⟩ ⟨hi,hS⟩;simp only at hi hS;simp only [go_sem];have hsl:=hS.len;refine qD ?_ ?_<;>intro hc<;>simp only [hc,go_sem]
    · have hlti:i<seen.length:=by have:=odT hc;omega
      have he:=hS.rng _ (gMm hlti);have hme:=gMm hlti;obtain ⟨e,hE⟩:∃e:Nat,seen[i]=(e:Int):=⟨seen[i].toNat,by omega⟩;have hltE:e<U.length:=by omega
      have hEd:∀k,Ed U (e:Int) k↔k∈U[e]:=by intro k;unfold Ed;rw [List.getD_eq_getElem?_getD,Int.toNat_natCast,gEg hltE];rfl
      have hue:=hus _ (gMm hltE);refine Sem.loop (fun a:Nat×List Int=>a.1≤U[e].length∧i<a.2.length∧a.2[i]?=some (e:Int)∧ji U d i a.2∧∀y∈U[e].take a.1,y∈a.2) (fun a=>(⟨[(0,.ept b.enc 0),(3,.lst 1 (U.map (j4 1 qE)) false),(4,.slice 1 0 0 (jF U d).length false),(5,.int .i64 (d:Nat)),(6,.slice 1 1 0 a.2.length false),(7,.int .i64 (i:Nat)),(8,.int .i64 (a.1:Nat))],[],[.row 1 ((jF U d).map qE) true,.row 1 (a.2.map qE) true]⟩:VSt)) (fun a=>U[e].length-a.1) (0,seen) (by kernel_rfl) ⟨Nat.zero_le _,hlti,by rw [gEg hlti,hE],hS,by simp⟩
        (Can.sub (by simp [go_sem]) (by simp [go_sem])) ?_
      rintro ⟨k,sn⟩ ⟨hk,hi2,hse,hS2,hin⟩;simp only at hk hi2 hse hS2 hin;simp only [go_sem];simp only [qQK hi2,List.getElem?_map,hse,Option.map_some,qE,gEg hltE,j4,go_sem];refine qD ?_ ?_<;>intro hc<;>simp only [hc,go_sem]
      · have hltk:k<U[e].length:=by have:=odT hc;omega
        simp only [qQK hi2,List.getElem?_map,hse,Option.map_some,qE,gEg hltE,j4,gEg hltk,go_sem];have hsl2:=hS2.len;have hky:Ed U (e:Int) U[e][k]:=(hEd _).2 (gMm hltk);have htk:∀(sn':List Int),(∀y∈sn,y∈sn')→U[e][k]∈sn'→∀y∈U[e].take (k+1),y∈sn':=by
          intro sn' h1 h2 y hy;rw [List.take_add_one,gEg hltk] at hy;rcases List.mem_append.1 hy with hy | hy
          · exact h1 y (hin y hy)
          · simp at hy;subst hy;exact h2
        refine zy (vs':=[.lst 1 (sn.map qE) false,.int .i64 U[e][k]]) (Cvs.cons (Cv.row rfl (by simp) (qb _) (by decide)) (Cvs.cons (.refl rfl) Cvs.nil)) (qPT (by omega)) rfl ?_;simp only [go_sem];refine qD ?_ ?_<;>intro hc<;>simp only [hc,go_sem]
        · simp only [qQK hi2,List.getElem?_map,hse,Option.map_some,qE,gEg hltE,j4,gEg hltk,go_sem];have hnm:U[e][k]∉sn:=by
            intro hm;have h2:(sn.any fun q=>decide (q=U[e][k]))=true:=List.any_eq_true.2 ⟨_,hm,by simp⟩;have h3:=nt hc;rw [h2] at h3;cases h3
          refine jX (el:=sn.map qE) rfl rfl (by simp) (by omega) ?_;simp only [go_sem];simp only [qe (show k<4611686018427387904 by omega)];refine qZ (k+1,sn++[U[e][k]]) ⟨by simp only;omega,by simp;omega,by simp only;rw [List.getElem?_append_left hi2];exact hse,ji.push hU hS2 (by omega) (List.mem_of_getElem? hse) hky hnm,htk _ (fun y hy=>by simp [hy]) (by simp)⟩ (by simp only;omega) ?_;simp only [lAp,List.length_cons,List.length_nil,Nat.zero_add];exact Can.renum [some 0,some 3] rfl ⟨.row rfl (VR2s.of_eq rfl (qb _)),.row rfl (VR2s.of_eq (by simp [qE]) (qb _)),trivial⟩ ⟨⟨_,rfl,.tree (by simp [AV.tree,go_sem])⟩,⟨_,rfl,.tree (by simp [AV.tree,QY])⟩,⟨_,rfl,.slice rfl⟩,⟨_,rfl,.tree rfl⟩,⟨_,rfl,.slice rfl⟩,⟨_,rfl,.tree rfl⟩,⟨_,rfl,.tree rfl⟩,trivial⟩ trivial
        · have hmm:U[e][k]∈sn:=by
            have h2:=nf hc;simp only [List.any_eq_true,decide_eq_true_eq] at h2;obtain ⟨q,hq,rfl⟩:=h2;exact hq
          simp only [qe (show k<4611686018427387904 by omega)];exact qZ (k+1,sn) ⟨by simp only;omega,hi2,hse,hS2,htk _ (fun y hy=>hy) hmm⟩ (by simp only;omega) (Can.sub (by simp [go_sem]) (by simp [go_sem]))
      · have ek:k=U[e].length:=by have:=odF hc;omega
        subst ek;rw [List.take_length] at hin;have hsl2:=hS2.len;simp only [qe (show i<4611686018427387904 by omega)];refine qZ (i+1,sn) ⟨by simp only;omega,hS2.next hse (fun y hy=>hin y ((hEd y).1 hy))⟩ (by simp only;omega) (Can.sub (by simp [go_sem]) (by simp [go_sem]))
    · have e:i=seen.length:=by have:=odF hc;omega
      subst e;refine zy (vs':=[.lst 1 (seen.map qE) false,.int .i64 (d:Int)]) (Cvs.cons (Cv.row rfl (by simp) (qb _) (by decide)) (Cvs.cons (.refl rfl) Cvs.nil)) (qPT (by omega)) rfl ?_;simp only [go_sem];rw [hS.done];refine qD ?_ ?_<;>intro hc<;>simp only [hc,go_sem]
      · refine jX (el:=(jF U d).map qE) rfl rfl (by simp) (by have:=qV9 U d;omega) ?_;simp only [go_sem];simp only [qe (show d<4611686018427387904 by omega)];refine qZ (d+1) (by omega) (by omega) ?_;rw [show jF U (d+1)=jF U d++[(d:Int)] by rw [qWA,if_pos hc]];simp only [lAp,List.length_cons,List.length_nil,Nat.zero_add];exact Can.renum [some 3] rfl ⟨.row rfl (VR2s.of_eq (by simp [qE]) (qb _)),trivial⟩ ⟨⟨_,rfl,.tree (by simp [AV.tree,go_sem])⟩,⟨_,rfl,.tree (by simp [AV.tree,QY])⟩,⟨_,rfl,.slice rfl⟩,⟨_,rfl,.tree rfl⟩,trivial⟩ trivial
      · simp only [qe (show d<4611686018427387904 by omega)];refine qZ (d+1) (by omega) (by omega) ?_;rw [show jF U (d+1)=jF U d by rw [qWA,if_neg (by rw [hc];decide)]];exact Can.renum [some 0] rfl ⟨.row rfl (VR2s.of_eq rfl (qb _)),trivial⟩ ⟨⟨_,rfl,.tree (by simp [AV.tree,go_sem])⟩,⟨_,rfl,.tree (by simp [AV.tree,QY])⟩,⟨_,rfl,.slice rfl⟩,⟨_,rfl,.tree rfl⟩,trivial⟩ trivial
  · have e:d=b.Defs.length:=by have:=odF hc;omega
    subst e;exact zG (Cv.row rfl (by simp) (qb _) (by decide))
end Go.Ab
namespace Go.Ab
open Go
set_option maxRecDepth 10000
set_option maxHeartbeats 2000000
def zB {α β:Type} (f:Nat→α→β):List α→Nat→List β
  |[],_=>[]
  | x::xs,i=>f i x::zB f xs (i+1)
theorem V1 {α β γ:Type} (f:Nat→β→γ) (g:α→β):∀(xs:List α) (i:Nat),zB f (xs.map g) i=zB (fun k x=>f k (g x)) xs i
  |[],_=>rfl
  | x::xs,i=>by simp [zB,V1 f g xs]
theorem js {α β:Type} (f:Nat→α→β):∀(xs:List α) (i:Nat),(zB f xs i).length=xs.length
  |[],_=>rfl
  | x::xs,i=>by simp [zB,js f xs]
theorem V3 {α β:Type} {f:Nat→α→β}:∀{xs:List α} {i k:Nat} (h:i<xs.length),zB f (xs.take (i+1)) k=zB f (xs.take i) k++[f (k+i) xs[i]]
  |[],i,k,h=>by simp at h
  | x::xs,0,k,h=>by simp [zB]
  | x::xs,i+1,k,h=>by
    simp only [List.take_succ_cons,zB,List.getElem_cons_succ,List.cons_append];rw [V3 (i:=i) (k:=k+1) (by simpa using h)];congr 3;congr 1;omega
theorem V2 {α β:Type} {f:Nat→α→β}:∀{xs:List α} {i:Nat} {y:β},y∈zB f xs i→∃x∈xs,∃k,y=f k x
  |[],_,_,h=>by simp [zB] at h
  | x::xs,i,y,h=>by
    simp only [zB,List.mem_cons] at h;rcases h with rfl | h
    · exact ⟨x,by simp,i,rfl⟩
    · obtain ⟨z,hz,k,e⟩:=V2 h;exact ⟨z,by simp [hz],k,e⟩
def qA.vb (m:Int):qA→Bool:=qA.fold fun x rs=>(!decide (x.Kind=1) || inI x.Value 0 m)&&rs.all id
theorem qA.vb_eq (m:Int) (x:qA):x.vb m=((!decide (x.Kind=1) || inI x.Value 0 m)&&x.Kids.all (qA.vb m)):=by
  unfold qA.vb;rw [qA.fold_eq];simp
theorem qRX {x y:qA} {m:Int} (h:x.vb m=true) (hy:y∈x.Kids):y.vb m=true:=by
  rw [x.vb_eq,bAt,List.all_eq_true] at h;exact h.2 y hy
theorem qXS {x:qA} {m:Int} (h:x.vb m=true) (hk:x.Kind=1):0≤x.Value∧x.Value≤m:=by
  rw [x.vb_eq,bAt] at h;have:=h.1;simp [hk,inI] at this;exact this
def jV (k v a f:Int):Int:=if k=1∧f≤v then v+a else v
def qA.shift (a:Int):qA→Int→qA:=qA.fold fun x rs f=>.mk x.Kind (jV x.Kind x.Value a f) x.Data (zB (fun i (r:Int→qA)=>r (f+qQ x.Kind i)) rs 0)
theorem qA.shift_eq (a:Int) (x:qA) (f:Int):x.shift a f=.mk x.Kind (jV x.Kind x.Value a f) x.Data (zB (fun i y=>y.shift a (f+qQ x.Kind i)) x.Kids 0):=by
  unfold qA.shift;rw [qA.fold_eq,V1]
theorem Jm {h:List qC} {id n:Nat} {k v:Int} {d:List Int} {ks:List qA} (ho:h[id]?=some (.row 4 (ks.map qA.enc) true)) (hn:ks.length=n):
    Cv h (.agg [.int .i64 k,.int .i64 v,.lst 1 (d.map qE) false,.slice 4 id 0 n false]) (qA.mk k v d ks).enc:=by
  rw [qA.enc_eq];refine .agg rfl ?_;simp only [List.zip_cons_cons,List.zip_nil_left,List.mem_cons,List.not_mem_nil,or_false,qA.Kind,qA.Value,qA.Data,qA.Kids];rintro p (rfl | rfl | rfl | rfl)
  · exact .refl rfl
  · exact .refl rfl
  · exact .refl (by simp [AV.tree,qb])
  · exact Cv.row ho (by simpa using hn) (zu qA.isSh.tree _) (by decide)
theorem qv (xs:List qA):AV.trees (xs.map qA.enc)=true:=zu qA.isSh.tree xs
theorem c766 (x:qA):∀(a f:Int) (hz:x.sz≤1048576) (ha:0≤a∧a≤4294967296) (hf:0≤f∧f+x.dep≤4294967296) (hv:x.vb 4294967296=true),Pure Gm 766 [.ept x.enc 0,.int .i64 a,.int .i64 f] ((x.shift a f).enc):=by
  induction x using qA.ind with
  | _ x ih=>
  intro a f hz ha hf hv;refine Pure.intro [] [] g766 (by kernel_rfl) rfl (by simp [AV.trees,AV.tree,go_sem]) (by simp [go_sem]) ?_;simp only [YX,qM,go_sem];have hL:=x.len_sz;refine qF (c402 x.Data (by omega)) ?_;simp only [go_sem];refine qK (k:=4) (by rfl) (by rfl) (by exact ⟨_,rfl⟩) (by decide) ?_;simp only [go_sem];obtain ⟨w,hw⟩:∃w,w=jV x.Kind x.Value a f:=⟨_,rfl⟩;have hres:=x.shift_eq a f;rw [←hw] at hres;refine qY ?_ ?_<;>intro hc<;>simp only [hc,go_sem];refine qD ?_ ?_<;>intro hc<;>simp only [hc,go_sem];have hk1:=qXS hv (odT (by assumption));rw [qj (by omega) (by omega)];have h0:x.Value+a=w:=by
    rename_i h1;rw [hw,jV,if_pos ⟨odT h1,odT hc⟩]
  rotate_left;have h0:x.Value=w:=by
    rw [hw,jV,if_neg (fun q=>absurd q.2 (odF hc))]
  rotate_left;have h0:x.Value=w:=by
    rw [hw,jV,if_neg (fun q=>absurd q.1 (odF hc))]
  all_goals
    rw [h0];refine Sem.loop (fun i:Nat=>i≤x.Kids.length) (fun i=>(⟨[(0,.ept x.enc 0),(1,.int .i64 a),(2,.int .i64 f),(8,.int .i64 (i:Nat))],[(7,.agg [.int .i64 x.Kind,.int .i64 w,.lst 1 (x.Data.map qE) false,.slice 4 0 0 i false]),(6,.agg [.int .i64 0,.int .i64 0,.nils,.nils])],[.row 4 ((zB (fun i y=>qA.shift a y (f+qQ x.Kind i)) (x.Kids.take i) 0).map qA.enc) true]⟩:VSt)) (fun i=>x.Kids.length-i) 0 (by kernel_rfl) (Nat.zero_le _)
      (Can.renum [none] rfl ⟨.ph,trivial⟩ ⟨⟨_,rfl,.tree (by simp [AV.tree,go_sem])⟩,⟨_,rfl,.tree rfl⟩,⟨_,rfl,.tree rfl⟩,⟨_,rfl,.tree rfl⟩,trivial⟩
        ⟨⟨_,rfl,.agg rfl (VR2s.cons (.tree rfl) (VR2s.cons (.tree rfl) (VR2s.cons (.tree (by simp [AV.tree,qb])) (VR2s.cons (.ph rfl) VR2s.nil)))).2⟩,⟨_,rfl,.tree rfl⟩,trivial⟩) ?_
    intro i hi;simp only [go_sem];refine qD ?_ ?_<;>intro hc<;>simp only [hc,go_sem]
    · have hlt:i<x.Kids.length:=by have:=odT hc;omega
      simp only [List.getElem?_map,gEg hlt,Option.map_some,go_sem];have hm:=gMm hlt;have hk:=qA.kid_sz hm;have hp:=qA.dep_kid hm;have hb:=jI x.Kind i;refine qF Zw ?_;simp only [go_sem];rw [qj (n:=f+qQ x.Kind i) (by omega) (by omega)];refine qF (ih _ hm a (f+qQ x.Kind i) (by omega) ha (by omega) (qRX hv hm)) ?_;simp only [go_sem];refine jX (el:=(zB (fun i y=>qA.shift a y (f+qQ x.Kind i)) (x.Kids.take i) 0).map qA.enc) rfl rfl (by simp [js];omega) (by omega) ?_;simp only [go_sem];simp only [qe (show i<4611686018427387904 by omega)];refine qZ (i+1) (by omega) (by omega) ?_;refine Can.renum [some 2] rfl ⟨.row rfl (VR2s.of_eq (by rw [V3 hlt,Nat.zero_add];simp) (qv _)),trivial⟩ ⟨⟨_,rfl,.tree (by simp [AV.tree,go_sem])⟩,⟨_,rfl,.tree rfl⟩,⟨_,rfl,.tree rfl⟩,⟨_,rfl,.tree rfl⟩,trivial⟩
        ⟨⟨_,rfl,.agg rfl (VR2s.cons (.tree rfl) (VR2s.cons (.tree rfl) (VR2s.cons (.tree (by simp [AV.tree,qb])) (VR2s.cons (.slice rfl) VR2s.nil)))).2⟩,⟨_,rfl,.tree rfl⟩,trivial⟩
    · obtain rfl:i=x.Kids.length:=by have:=odF hc;omega
      rw [List.take_length];refine qK (k:=4) (by rfl) (by rfl) (by exact ⟨_,rfl⟩) (by decide) ?_;simp only [go_sem];rw [hres];exact zG (Jm rfl (js _ _ _))
end Go.Ab
namespace Go.Ab
open Go
set_option maxRecDepth 10000
set_option maxHeartbeats 2000000
theorem WP {α:Type} {f:α→Nat} {xs:List α} {i:Nat} (h:i<xs.length):zK f (xs.take (i+1))=max (zK f (xs.take i)) (f xs[i]):=by
  induction xs generalizing i with
  | nil=>simp at h
  | cons a xs ih=>
    cases i with
    | zero=>simp [zK]
    | succ i=>
      simp only [List.take_succ_cons,zK,List.getElem_cons_succ,ih (by simpa using h)];show max _ _=max (max _ _) _;rw [Nat.max_assoc]
theorem Wh {α:Type} (f:α→Nat):∀(xs:List α) (i:Nat),qG f (xs.take i)≤qG f xs
  |[],i=>by simp
  | a::xs,0=>by simp [qG]
  | a::xs,i+1=>by simp only [List.take_succ_cons,qG];have:=Wh f xs i;omega
@[go_sem] theorem zHR {α:Type} (f:α→Nat):zK f []=0:=rfl
theorem qVC (a b:Nat):(if (b:Int)<(a:Int) then (a:Int) else (b:Int))=((max a b:Nat):Int):=by
  split<;>omega
theorem qA.dep_size:∀x:qA,x.dep≤x.size:=qA.ind fun x ih=>by
  rw [x.dep_eq,x.size_eq];have:∀xs:List qA,(∀y∈xs,y.dep≤y.size)→zK qA.dep xs≤qG qA.size xs:=by
    intro xs
    induction xs with
    | nil=>intro _;simp [zK]
    | cons a xs ihx=>
      intro h;have h1:=h a (by simp);have h2:=ihx (fun y hy=>h y (by simp [hy]));simp only [zK,qG];show max _ _≤_;omega
  have:=this _ ih;omega
def qA.fits (x:qA):Bool:=decide (x.size≤400)&&decide (x.dep≤80)
def qA.left:qA→Int→Int:=qA.fold fun _ rs l=>rs.foldl (fun l (r:Int→Int)=>if l<0 then l else r l) (l-1)
theorem qA.left_eq (x:qA) (l:Int):x.left l=x.Kids.foldl (fun l y=>if l<0 then l else y.left l) (l-1):=by
  unfold qA.left;rw [qA.fold_eq,Vc]
theorem qQT:∀(ks:List qA) (l:Int),l<0→ks.foldl (fun l y=>if l<0 then l else qA.left y l) l=l
  |[],_,_=>rfl
  | k::ks,l,h=>by simp only [List.foldl_cons,if_pos h];exact qQT ks l h
theorem qA.left_spec:∀(x:qA) (l:Int),0≤l→(0≤x.left l↔(x.size:Int)≤l)∧(0≤x.left l→x.left l=l-x.size)∧-1≤x.left l:=qA.ind fun x ih l hl=>by
  rw [x.left_eq,x.size_eq];have key:∀(ks:List qA),(∀y∈ks,∀l:Int,0≤l→(0≤y.left l↔(y.size:Int)≤l)∧(0≤y.left l→y.left l=l-y.size)∧-1≤y.left l)→∀m:Int,-1≤m→
      (0≤ks.foldl (fun l y=>if l<0 then l else qA.left y l) m↔(qG qA.size ks:Int)≤m∧0≤m)∧(0≤ks.foldl (fun l y=>if l<0 then l else qA.left y l) m→ks.foldl (fun l y=>if l<0 then l else qA.left y l) m=m-qG qA.size ks)∧
      -1≤ks.foldl (fun l y=>if l<0 then l else qA.left y l) m:=by
    intro ks
    induction ks with
    | nil=>intro _ m hm;simp [qG];omega
    | cons a ks ihk=>
      intro h m hm;by_cases h0:m<0
      · rw [qQT _ _ h0];refine ⟨⟨fun q=>by omega,fun q=>by omega⟩,fun q=>by omega,hm⟩
      · simp only [List.foldl_cons,if_neg h0,qG];have h1:=h a (by simp) m (by omega);have h2:=ihk (fun y hy=>h y (by simp [hy])) (a.left m) h1.2.2;refine ⟨⟨fun q=> ?_,fun q=> ?_⟩,fun q=> ?_,h2.2.2⟩
        · have h3:=h2.1.1 q;have h4:=h1.2.1 h3.2;omega
        · refine h2.1.2 ?_;have h4:=h1.1.2 (by omega);have h5:=h1.2.1 h4;omega
        · have h3:=h2.1.1 q;have h4:=h1.2.1 h3.2;rw [h2.2.1 q];omega
  have:=key x.Kids ih (l-1) (by omega);refine ⟨⟨fun q=> ?_,fun q=> ?_⟩,fun q=> ?_,this.2.2⟩
  · have:=this.1.1 q;omega
  · exact this.1.2 (by omega)
  · rw [this.2.1 q];omega
def qA.boxes:qA→Nat:=qA.fold fun x rs=>zK id rs+if x.Kind=6 then 1 else 0
theorem qA.boxes_eq (x:qA):x.boxes=zK qA.boxes x.Kids+if x.Kind=6 then 1 else 0:=by
  unfold qA.boxes;rw [qA.fold_eq,qQ1];rfl
theorem qA.boxes_dep:∀x:qA,x.boxes≤x.dep:=qA.ind fun x ih=>by
  rw [x.boxes_eq,x.dep_eq];have:zK qA.boxes x.Kids≤zK qA.dep x.Kids:=by
    rw [ZF];intro y hy;exact Nat.le_trans (ih y hy) ((ZF qA.dep _ x.Kids).1 (Nat.le_refl _) y hy)
  split<;>omega
theorem c856 {a b:Int}:Pure Gm 856 [.int .i64 a,.int .i64 b] (.int .i64 (if b<a then a else b)):=by
  refine Pure.intro [] [] g856 (by kernel_rfl) rfl (by simp [AV.trees,AV.tree,go_sem]) rfl ?_;simp only [Yj,qM,go_sem]
  repeat' (first | (refine qc rfl ?_;simp only [go_sem]) | (first | (refine qY ?_ ?_<;>intro hc<;>simp only [hc,go_sem]) | (refine qD ?_ ?_<;>intro hc<;>simp only [hc,go_sem])) | refine qL rfl ?_ | refine jd (by rfl) ?_)
  all_goals (simp_all<;>omega)
theorem qST (x:qA):∀(hz:x.sz≤1048576) (hd:x.dep≤1048576),Pure Gm 1123 [.ept x.enc 0] (.int .i64 (x.dep:Nat)):=by
  induction x using qA.ind with
  | _ x ih=>
  intro hz hd;refine Pure.intro [] [] qb1 (by kernel_rfl) rfl (by simp [AV.trees,AV.tree,go_sem]) rfl ?_;simp only [W8,qM,go_sem];have hL:=x.len_sz;have hde:=x.dep_eq;refine Sem.loop (fun i:Nat=>i≤x.Kids.length∧True) (fun i=>(⟨[(0,.ept x.enc 0),(3,.int .i64 (zK qA.dep (x.Kids.take i):Nat)),(4,.int .i64 (i:Nat))],[],[]⟩:VSt)) (fun i=>x.Kids.length-i) 0 (by kernel_rfl) ⟨Nat.zero_le _,by trivial⟩ (Can.sub (by simp [go_sem]) (by simp [go_sem])) ?_;rintro i ⟨hi,hI⟩;simp only [go_sem];refine qD ?_ ?_<;>intro hc<;>simp only [hc,go_sem]
  · have hlt:i<x.Kids.length:=by have:=odT hc;omega
    simp only [List.getElem?_map,gEg hlt,Option.map_some,go_sem];have hm:=gMm hlt;have hk:=qA.kid_sz hm;have hp:=qA.dep_kid hm;refine qF (ih _ hm (by omega) (by omega)) ?_;simp only [go_sem];refine qF c856 ?_;simp only [go_sem];rw [qVC,←WP hlt];simp only [qe (show i<4611686018427387904 by omega)];refine qZ (i+1) ⟨by omega, ?_⟩ (by omega) (Can.sub (by simp [go_sem]) (by simp [go_sem]));trivial
  · obtain rfl:i=x.Kids.length:=by have:=odF hc;omega
    rw [List.take_length,qj (by omega) (by omega)];exact qL rfl (by rw [hde];simp;omega)
theorem qZQ (x:qA):∀(hz:x.sz≤1048576),Pure Gm 1504 [.ept x.enc 0] (.int .i64 (x.size:Nat)):=by
  induction x using qA.ind with
  | _ x ih=>
  intro hz;refine Pure.intro [] [] qc7 (by kernel_rfl) rfl (by simp [AV.trees,AV.tree,go_sem]) rfl ?_;simp only [Xo,qM,go_sem];have hL:=x.len_sz;have hde:=x.size_eq;have hsz:=x.size_sz;refine Sem.loop (fun i:Nat=>i≤x.Kids.length∧True) (fun i=>(⟨[(0,.ept x.enc 0),(3,.int .i64 ((1+qG qA.size (x.Kids.take i):Nat):Int)),(4,.int .i64 (i:Nat))],[],[]⟩:VSt)) (fun i=>x.Kids.length-i) 0 (by kernel_rfl) ⟨Nat.zero_le _,by trivial⟩ (Can.sub (by simp [go_sem]) (by simp [go_sem])) ?_;rintro i ⟨hi,hI⟩;simp only [go_sem];refine qD ?_ ?_<;>intro hc<;>simp only [hc,go_sem]
  · have hlt:i<x.Kids.length:=by have:=odT hc;omega
    simp only [List.getElem?_map,gEg hlt,Option.map_some,go_sem];have hm:=gMm hlt;have hk:=qA.kid_sz hm;have ht:=ZY (f:=qA.size) hlt;have hle:=Wh qA.size x.Kids (i+1);refine qF (ih _ hm (by omega)) ?_;simp only [go_sem];have e1:((1+qG qA.size (x.Kids.take i):Nat):Int)+x.Kids[i].size=((1+qG qA.size (x.Kids.take (i+1)):Nat):Int):=by omega
    rw [e1,qj (n:=((1+qG qA.size (x.Kids.take (i+1)):Nat):Int)) (by omega) (by omega)];simp only [qe (show i<4611686018427387904 by omega)];refine qZ (i+1) ⟨by omega, ?_⟩ (by omega) (Can.sub (by simp [go_sem]) (by simp [go_sem]));trivial
  · obtain rfl:i=x.Kids.length:=by have:=odF hc;omega
    rw [List.take_length];exact qL rfl (by rw [hde])
theorem qZR (x:qA):∀(hz:x.sz≤1048576) (hd:x.dep≤1048576),Pure Gm 1505 [.ept x.enc 0] (.int .i64 (x.boxes:Nat)):=by
  induction x using qA.ind with
  | _ x ih=>
  intro hz hd;refine Pure.intro [] [] qc8 (by kernel_rfl) rfl (by simp [AV.trees,AV.tree,go_sem]) rfl ?_;simp only [Xp,qM,go_sem];have hL:=x.len_sz;have hde:=x.boxes_eq;have hbd:=x.boxes_dep;refine Sem.loop (fun i:Nat=>i≤x.Kids.length∧True) (fun i=>(⟨[(0,.ept x.enc 0),(3,.int .i64 (zK qA.boxes (x.Kids.take i):Nat)),(4,.int .i64 (i:Nat))],[],[]⟩:VSt)) (fun i=>x.Kids.length-i) 0 (by kernel_rfl) ⟨Nat.zero_le _,by trivial⟩ (Can.sub (by simp [go_sem]) (by simp [go_sem])) ?_;rintro i ⟨hi,hI⟩;simp only [go_sem];refine qD ?_ ?_<;>intro hc<;>simp only [hc,go_sem]
  · have hlt:i<x.Kids.length:=by have:=odT hc;omega
    simp only [List.getElem?_map,gEg hlt,Option.map_some,go_sem];have hm:=gMm hlt;have hk:=qA.kid_sz hm;have hp:=qA.dep_kid hm;refine qF (ih _ hm (by omega) (by omega)) ?_;simp only [go_sem];refine qF c856 ?_;simp only [go_sem];rw [qVC,←WP hlt];simp only [qe (show i<4611686018427387904 by omega)];refine qZ (i+1) ⟨by omega, ?_⟩ (by omega) (Can.sub (by simp [go_sem]) (by simp [go_sem]));trivial
  · obtain rfl:i=x.Kids.length:=by have:=odF hc;omega
    rw [List.take_length];refine qD ?_ ?_<;>intro hc<;>simp only [hc,go_sem]
    · rw [if_pos (odT hc)] at hde;rw [qj (by omega) (by omega)];exact qL rfl (by rw [hde];simp)
    · rw [if_neg (odF hc)] at hde;exact qL rfl (by rw [hde];simp)
theorem qY7 (x:qA):∀(l:Int) (hz:x.sz≤1048576) (hl:0≤l∧l≤1048576),Pure Gm 1128 [.ept x.enc 0,.int .i64 l] (.int .i64 (x.left l)):=by
  induction x using qA.ind with
  | _ x ih=>
  intro l hz hl;refine Pure.intro [] [] qb6 (by kernel_rfl) rfl (by simp [AV.trees,AV.tree,go_sem]) rfl ?_;simp only [XD,qM,go_sem];have hL:=x.len_sz;rw [qj (by omega) (by omega)];refine Sem.loop (fun i:Nat=>i≤x.Kids.length∧-1≤(x.Kids.take i).foldl (fun l y=>if l<0 then l else qA.left y l) (l-1)∧(x.Kids.take i).foldl (fun l y=>if l<0 then l else qA.left y l) (l-1)≤1048576) (fun i=>(⟨[(0,.ept x.enc 0),(1,.int .i64 ((x.Kids.take i).foldl (fun l y=>if l<0 then l else qA.left y l) (l-1))),(5,.int .i64 (i:Nat))],[],[]⟩:VSt)) (fun i=>x.Kids.length-i) 0 (by kernel_rfl) ⟨Nat.zero_le _,by simp;omega⟩ (Can.sub (by simp [go_sem]) (by simp [go_sem])) ?_;rintro i ⟨hi,hI,hI2⟩;simp only [go_sem];obtain ⟨m,hm0⟩:∃m,m=(x.Kids.take i).foldl (fun l y=>if l<0 then l else qA.left y l) (l-1):=⟨_,rfl⟩;have hrest:x.left l=(x.Kids.drop i).foldl (fun l y=>if l<0 then l else qA.left y l) m:=by
    rw [x.left_eq,hm0,←List.foldl_append,List.take_append_drop]
  refine qY ?_ ?_<;>intro hc<;>simp only [hc,go_sem]
  · have hlt:i<x.Kids.length:=by have:=odT hc;omega
    rw [←hm0];rw [←hm0] at hI hI2;refine qD ?_ ?_<;>intro hc<;>simp only [hc,go_sem]
    · have h0:=odT hc;simp only [List.getElem?_map,gEg hlt,Option.map_some,go_sem];have hm:=gMm hlt;have hk:=qA.kid_sz hm;refine qF (ih _ hm m (by omega) (by omega)) ?_;simp only [go_sem];have hs:=x.Kids[i].left_spec m (by omega);have hp:=x.Kids[i].size_pos;have hf:(x.Kids.take (i+1)).foldl (fun l y=>if l<0 then l else qA.left y l) (l-1)=x.Kids[i].left m:=by
        rw [Vd (fun (l:Int) (y:qA)=>if l<0 then l else y.left l) hlt,←hm0,if_neg (by omega)]
      simp only [qe (show i<4611686018427387904 by omega)];refine qZ (i+1) ⟨by omega,by rw [hf];exact hs.2.2, ?_⟩ (by omega) (Can.sub (by simp [go_sem,hf]) (by simp [go_sem]));rw [hf];by_cases hq:0≤x.Kids[i].left m
      · rw [hs.2.1 hq];omega
      · omega
    · have h0:=odF hc;exact qL rfl (by rw [hrest,qQT _ _ (by omega)])
  · have e:i=x.Kids.length:=by have:=odF hc;omega
    rw [←hm0];exact qL rfl (by rw [hrest,e,List.drop_length];rfl)
theorem c765 {x:qA} (hz:x.sz≤1048576) (hd:x.dep≤1048576):Pure Gm 765 [.ept x.enc 0] (.bool x.fits):=by
  refine Pure.intro [] [] g765 (by kernel_rfl) rfl (by simp [AV.trees,AV.tree,go_sem]) rfl ?_;simp only [YW,qM,go_sem];refine qF (qY7 x 400 hz (by omega)) ?_;simp only [go_sem];have h1:=(x.left_spec 400 (by omega)).1;refine qY ?_ ?_<;>intro hc<;>simp only [hc,go_sem]
  · refine qF (qST x hz hd) ?_;simp only [go_sem];have h2:x.size≤400:=by have:=h1.1 (odT hc);omega
    exact qL rfl (by unfold qA.fits;rw [decide_eq_true h2];simp;omega)
  · have h2:¬x.size≤400:=by intro h;have:=h1.2 (by omega);exact absurd this (odF hc)
    exact qL rfl (by unfold qA.fits;rw [decide_eq_false h2];rfl)
end Go.Ab
namespace Go.Ab
open Go
set_option maxRecDepth 10000
set_option maxHeartbeats 2000000
def jA {α:Type} (f:Nat→α→Nat):List α→Nat→Nat
  |[],_=>0
  | x::xs,i=>f i x+jA f xs (i+1)
theorem qXC {α β:Type} (f:Nat→β→Nat) (g:α→β):∀(xs:List α) (i:Nat),jA f (xs.map g) i=jA (fun k x=>f k (g x)) xs i
  |[],_=>rfl
  | x::xs,i=>by simp [jA,qXC f g xs]
theorem qXD {α:Type} {f:Nat→α→Nat}:∀{xs:List α} {i k:Nat} (h:i<xs.length),jA f (xs.take (i+1)) k=jA f (xs.take i) k+f (k+i) xs[i]
  |[],i,k,h=>by simp at h
  | x::xs,0,k,h=>by simp [jA]
  | x::xs,i+1,k,h=>by
    simp only [List.take_succ_cons,jA,List.getElem_cons_succ];rw [qXD (i:=i) (k:=k+1) (by simpa using h),show k+1+i=k+(i+1) by omega];omega
theorem qXB {α:Type} {f:Nat→α→Nat} {g:α→Nat}:∀{xs:List α} {k:Nat},(∀x∈xs,∀k,f k x≤g x)→jA f xs k≤qG g xs
  |[],_,_=>by simp [jA]
  | x::xs,k,h=>by
    simp only [jA,qG];have:=h x (by simp) k;have:=qXB (f:=f) (g:=g) (xs:=xs) (k:=k+1) (fun y hy=>h y (by simp [hy]));omega
@[go_sem] theorem zKJ {α:Type} (f:Nat→α→Nat) (k:Nat):jA f [] k=0:=rfl
def qA.count:qA→Int→Nat:=qA.fold fun x rs v=>if x.Kind=1 then (if x.Value=v then 1 else 0) else jA (fun i (r:Int→Nat)=>r (v+qQ x.Kind i)) rs 0
theorem qA.count_eq (x:qA) (v:Int):x.count v=if x.Kind=1 then (if x.Value=v then 1 else 0) else jA (fun i y=>y.count (v+qQ x.Kind i)) x.Kids 0:=by
  unfold qA.count;rw [qA.fold_eq,qXC]
theorem qA.count_size:∀(x:qA) (v:Int),x.count v≤x.size:=qA.ind fun x ih v=>by
  rw [x.count_eq,x.size_eq];split
  · split<;>omega
  · have:=qXB (f:=fun i y=>qA.count y (v+qQ x.Kind i)) (g:=qA.size) (xs:=x.Kids) (k:=0) (fun y hy k=>ih y hy _);omega
def qA.high:qA→Int:=qA.fold fun x rs=>rs.foldl (fun n (r:Int)=>if r<n then n else r) (if x.Kind=1 then x.Value else-1)
theorem qA.high_eq (x:qA):x.high=x.Kids.foldl (fun n y=>if y.high<n then n else y.high) (if x.Kind=1 then x.Value else-1):=by
  unfold qA.high;rw [qA.fold_eq,Vc]
def wN (v d:Int):Int:=if d<v then v-1 else v
def qA.put (arg:qA):qA→Int→qA:=qA.fold fun x rs d=>
  if x.Kind=1 then (if x.Value=d then arg.shift d 0 else .mk 1 (wN x.Value d) [] []) else .mk x.Kind x.Value x.Data (zB (fun i (r:Int→qA)=>r (d+qQ x.Kind i)) rs 0)
theorem qA.put_eq (arg x:qA) (d:Int):qA.put arg x d=if x.Kind=1 then (if x.Value=d then arg.shift d 0 else .mk 1 (wN x.Value d) [] []) else .mk x.Kind x.Value x.Data (zB (fun i y=>qA.put arg y (d+qQ x.Kind i)) x.Kids 0):=by
  unfold qA.put;rw [qA.fold_eq,V1]
theorem VJ {h:List qC} {k v:Int} {d:List Int} {ks:List qA} {D K:AV} (hd:Cv h D (.lst 1 (d.map qE) false)) (hk:Cv h K (.lst 4 (ks.map qA.enc) false)):
    Cv h (.agg [.int .i64 k,.int .i64 v,D,K]) (qA.mk k v d ks).enc:=by
  rw [qA.enc_eq];refine .agg rfl ?_;simp only [List.zip_cons_cons,List.zip_nil_left,List.mem_cons,List.not_mem_nil,or_false,qA.Kind,qA.Value,qA.Data,qA.Kids];rintro p (rfl | rfl | rfl | rfl)
  · exact .refl rfl
  · exact .refl rfl
  · exact hd
  · exact hk
theorem qA.isAgg (x:qA):∃cs,x.enc=.agg cs:=⟨_,x.enc_eq⟩
theorem QE {h:List qC} {k v:Int}:Cv h (.agg [.int .i64 k,.int .i64 v,.nils,.nils]) (qA.mk k v [] []).enc:=VJ .nils .nils
theorem qY4 (x:qA):∀(v:Int) (hz:x.sz≤1048576) (hv:0≤v∧v+x.dep≤4294967296),Pure Gm 1121 [.ept x.enc 0,.int .i64 v] (.int .i64 (x.count v:Nat)):=by
  induction x using qA.ind with
  | _ x ih=>
  intro v hz hv;refine Pure.intro [] [] qbZ (by kernel_rfl) rfl (by simp [AV.trees,AV.tree,go_sem]) rfl ?_;simp only [W6,qM,go_sem];have hL:=x.len_sz;have hce:=x.count_eq v;have hcs:=x.count_size v;have hsz:=x.size_sz;refine qD ?_ ?_<;>intro hc<;>simp only [hc,go_sem]
  · rw [if_pos (odT hc)] at hce;refine qD ?_ ?_<;>intro hc<;>simp only [hc,go_sem]
    · rw [if_pos (odT hc)] at hce;exact qL rfl (by rw [hce];rfl)
    · rw [if_neg (odF hc)] at hce;exact qL rfl (by rw [hce];rfl)
  rw [if_neg (odF hc)] at hce;refine Sem.loop (fun i:Nat=>i≤x.Kids.length∧jA (fun i y=>qA.count y (v+qQ x.Kind i)) (x.Kids.take i) 0≤qG qA.size (x.Kids.take i)) (fun i=>(⟨[(0,.ept x.enc 0),(1,.int .i64 v),(5,.int .i64 (jA (fun i y=>qA.count y (v+qQ x.Kind i)) (x.Kids.take i) 0:Nat)),(6,.int .i64 (i:Nat))],[],[]⟩:VSt)) (fun i=>x.Kids.length-i) 0 (by kernel_rfl) ⟨Nat.zero_le _,by simp [jA]⟩ (Can.sub (by simp [go_sem]) (by simp [go_sem])) ?_;rintro i ⟨hi,hI⟩;simp only [go_sem];refine qD ?_ ?_<;>intro hc<;>simp only [hc,go_sem]
  · have hlt:i<x.Kids.length:=by have:=odT hc;omega
    simp only [List.getElem?_map,gEg hlt,Option.map_some,go_sem];have hm:=gMm hlt;have hk:=qA.kid_sz hm;have hp:=qA.dep_kid hm;have hb:=jI x.Kind i;have hse:=x.size_eq;have hst:=ZY (f:=qA.size) hlt;have hsl:=Wh qA.size x.Kids (i+1);have hkc:=qA.count_size x.Kids[i] (v+qQ x.Kind i);have hsk:=qXD (f:=fun i y=>qA.count y (v+qQ x.Kind i)) (k:=0) hlt;rw [Nat.zero_add] at hsk;refine qF Zw ?_;simp only [go_sem];rw [qj (n:=v+qQ x.Kind i) (by omega) (by omega)];refine qF (ih _ hm _ (by omega) (by omega)) ?_;simp only [go_sem];have e1:((jA (fun i y=>qA.count y (v+qQ x.Kind i)) (x.Kids.take i) 0:Nat):Int)+(qA.count x.Kids[i] (v+qQ x.Kind i):Nat)=((jA (fun i y=>qA.count y (v+qQ x.Kind i)) (x.Kids.take (i+1)) 0:Nat):Int):=by omega
    rw [e1,qj (n:=((jA (fun i y=>qA.count y (v+qQ x.Kind i)) (x.Kids.take (i+1)) 0:Nat):Int)) (by omega) (by omega)];simp only [qe (show i<4611686018427387904 by omega)];refine qZ (i+1) ⟨by omega, ?_⟩ (by omega) (Can.sub (by simp [go_sem]) (by simp [go_sem]));omega
  · obtain rfl:i=x.Kids.length:=by have:=odF hc;omega
    rw [List.take_length];exact qL rfl (by rw [hce])
theorem qY6 (x:qA):∀(hz:x.sz≤1048576),Pure Gm 1124 [.ept x.enc 0] (.int .i64 x.high):=by
  induction x using qA.ind with
  | _ x ih=>
  intro hz;refine Pure.intro [] [] qb2 (by kernel_rfl) rfl (by simp [AV.trees,AV.tree,go_sem]) rfl ?_;simp only [W9,qM,go_sem];have hL:=x.len_sz;obtain ⟨n0,hn0⟩:∃n0,n0=(if x.Kind=1 then x.Value else-1):=⟨_,rfl⟩;have hh:=x.high_eq;rw [←hn0] at hh;refine qD ?_ ?_<;>intro hc<;>simp only [hc,go_sem];have h0:n0=x.Value:=by rw [hn0,if_pos (odT hc)]
  rotate_left;have h0:n0= -1:=by rw [hn0,if_neg (odF hc)]
  all_goals
    refine Sem.loop (fun i:Nat=>i≤x.Kids.length∧True) (fun i=>(⟨[(0,.ept x.enc 0),(3,.int .i64 ((x.Kids.take i).foldl (fun n y=>if qA.high y<n then n else qA.high y) n0)),(4,.int .i64 (i:Nat))],[],[]⟩:VSt)) (fun i=>x.Kids.length-i) 0 (by kernel_rfl) ⟨Nat.zero_le _,by trivial⟩ (Can.sub (by simp [go_sem,h0]) (by simp [go_sem])) ?_;rintro i ⟨hi,hI⟩;simp only [go_sem];refine qD ?_ ?_<;>intro hc<;>simp only [hc,go_sem]
    · have hlt:i<x.Kids.length:=by have:=odT hc;omega
      simp only [List.getElem?_map,gEg hlt,Option.map_some,go_sem];have hm:=gMm hlt;have hk:=qA.kid_sz hm;refine qF (ih _ hm (by omega)) ?_;simp only [go_sem];refine qF c856 ?_;simp only [go_sem];rw [←Vd (fun (n:Int) (y:qA)=>if y.high<n then n else y.high) hlt];simp only [qe (show i<4611686018427387904 by omega)];refine qZ (i+1) ⟨by omega, ?_⟩ (by omega) (Can.sub (by simp [go_sem]) (by simp [go_sem]));trivial
    · obtain rfl:i=x.Kids.length:=by have:=odF hc;omega
      rw [List.take_length];exact qL rfl (by rw [hh])
theorem c387 {x:qA} (hz:x.sz≤1048576) (hd:x.dep≤1048576) (hv:x.vb 4294967296=true):Pure Gm 387 [.ept x.enc 0] ((x.shift 0 0).enc):=by
  refine Pure.intro [] [] g387 (by kernel_rfl) rfl (by simp [AV.trees,AV.tree,go_sem]) (by simp [go_sem]) ?_;simp only [Xz,qM,go_sem];refine qF (c766 x 0 0 hz (by omega) (by omega) hv) ?_;simp only [go_sem];refine qK (k:=4) (by rfl) (by simp [go_sem]) (qA.isAgg _) (by decide) ?_;simp only [go_sem];exact qL (by simp [go_sem]) rfl
end Go.Ab
namespace Go.Ab
open Go
set_option maxRecDepth 10000
set_option maxHeartbeats 2000000
theorem qY5 (x:qA):∀(arg:qA) (d:Int) (hz:x.sz≤1048576) (hv:x.vb 4294967296=true) (hd:0≤d∧d+x.dep≤2147483648) (haz:arg.sz≤1048576) (had:arg.dep≤1048576) (hav:arg.vb 4294967296=true),Pure Gm 1122 [.ept x.enc 0,.ept arg.enc 0,.int .i64 d] ((qA.put arg x d).enc):=by
  induction x using qA.ind with
  | _ x ih=>
  intro arg d hz hv hd haz had hav;refine Pure.intro [] [] qb0 (by kernel_rfl) rfl (by simp [AV.trees,AV.tree,go_sem]) (by simp [go_sem]) ?_;simp only [W7,qM,go_sem];have hL:=x.len_sz;have hres:=qA.put_eq arg x d;refine qD ?_ ?_<;>intro hc<;>simp only [hc,go_sem]
  · have hk1:=qXS hv (odT hc);rw [if_pos (odT hc)] at hres;refine qD ?_ ?_<;>intro hc<;>simp only [hc,go_sem]
    · rw [if_pos (odT hc)] at hres;refine qF (c766 arg d 0 haz (by omega) (by omega) hav) ?_;simp only [go_sem];refine qK (k:=4) (by rfl) (by simp [go_sem]) (qA.isAgg _) (by decide) ?_;simp only [go_sem];exact qL (by simp [go_sem]) (by rw [hres])
    rw [if_neg (odF hc)] at hres;refine qK (k:=4) (by rfl) (by rfl) (by exact ⟨_,rfl⟩) (by decide) ?_;simp only [go_sem];refine qD ?_ ?_<;>intro hc<;>simp only [hc,go_sem]
    · rw [qj (by omega) (by omega)];refine qK (k:=4) (by rfl) (by rfl) (by exact ⟨_,rfl⟩) (by decide) ?_;simp only [go_sem];rw [hres,show wN x.Value d=x.Value-1 by unfold wN;rw [if_pos (odT hc)]];exact zG QE
    · refine qK (k:=4) (by rfl) (by rfl) (by exact ⟨_,rfl⟩) (by decide) ?_;simp only [go_sem];rw [hres,show wN x.Value d=x.Value by unfold wN;rw [if_neg (odF hc)]];exact zG QE
  rw [if_neg (odF hc)] at hres;refine qF (c402 x.Data (by omega)) ?_;simp only [go_sem];refine qK (k:=4) (by rfl) (by rfl) (by exact ⟨_,rfl⟩) (by decide) ?_;simp only [go_sem];refine Sem.loop (fun i:Nat=>i≤x.Kids.length) (fun i=>(⟨[(0,.ept x.enc 0),(1,.ept arg.enc 0),(2,.int .i64 d),(9,.int .i64 (i:Nat))],[(8,.agg [.int .i64 x.Kind,.int .i64 x.Value,.lst 1 (x.Data.map qE) false,.slice 4 0 0 i false]),(6,.agg [.int .i64 0,.int .i64 0,.nils,.nils])],[.row 4 ((zB (fun i y=>qA.put arg y (d+qQ x.Kind i)) (x.Kids.take i) 0).map qA.enc) true]⟩:VSt)) (fun i=>x.Kids.length-i) 0 (by kernel_rfl) (Nat.zero_le _)
    (Can.renum [none] rfl ⟨.ph,trivial⟩ ⟨⟨_,rfl,.tree (by simp [AV.tree,go_sem])⟩,⟨_,rfl,.tree (by simp [AV.tree,go_sem])⟩,⟨_,rfl,.tree rfl⟩,⟨_,rfl,.tree rfl⟩,trivial⟩
      ⟨⟨_,rfl,.agg rfl (VR2s.cons (.tree rfl) (VR2s.cons (.tree rfl) (VR2s.cons (.tree (by simp [AV.tree,qb])) (VR2s.cons (.ph rfl) VR2s.nil)))).2⟩,⟨_,rfl,.tree rfl⟩,trivial⟩) ?_
  intro i hi;simp only [go_sem];refine qD ?_ ?_<;>intro hc<;>simp only [hc,go_sem]
  · have hlt:i<x.Kids.length:=by have:=odT hc;omega
    simp only [List.getElem?_map,gEg hlt,Option.map_some,go_sem];have hm:=gMm hlt;have hk:=qA.kid_sz hm;have hp:=qA.dep_kid hm;have hb:=jI x.Kind i;refine qF Zw ?_;simp only [go_sem];rw [qj (n:=d+qQ x.Kind i) (by omega) (by omega)];refine qF (ih _ hm arg (d+qQ x.Kind i) (by omega) (qRX hv hm) (by omega) haz had hav) ?_;simp only [go_sem];refine jX (el:=(zB (fun i y=>qA.put arg y (d+qQ x.Kind i)) (x.Kids.take i) 0).map qA.enc) rfl rfl (by simp [js];omega) (by omega) ?_;simp only [go_sem];simp only [qe (show i<4611686018427387904 by omega)];refine qZ (i+1) (by omega) (by omega) ?_;refine Can.renum [some 2] rfl ⟨.row rfl (VR2s.of_eq (by rw [V3 hlt,Nat.zero_add];simp) (qv _)),trivial⟩ ⟨⟨_,rfl,.tree (by simp [AV.tree,go_sem])⟩,⟨_,rfl,.tree (by simp [AV.tree,go_sem])⟩,⟨_,rfl,.tree rfl⟩,⟨_,rfl,.tree rfl⟩,trivial⟩
      ⟨⟨_,rfl,.agg rfl (VR2s.cons (.tree rfl) (VR2s.cons (.tree rfl) (VR2s.cons (.tree (by simp [AV.tree,qb])) (VR2s.cons (.slice rfl) VR2s.nil)))).2⟩,⟨_,rfl,.tree rfl⟩,trivial⟩
  · obtain rfl:i=x.Kids.length:=by have:=odF hc;omega
    rw [List.take_length];refine qK (k:=4) (by rfl) (by rfl) (by exact ⟨_,rfl⟩) (by decide) ?_;simp only [go_sem];rw [hres];exact zG (Jm rfl (js _ _ _))
end Go.Ab
namespace Go.Ab
open Go
set_option maxRecDepth 10000
set_option maxHeartbeats 2000000
def qA.d4:qA→Bool:=qA.fold fun x rs=>decide (x.Data.length≤4)&&rs.all id
theorem qA.d4_eq (x:qA):x.d4=(decide (x.Data.length≤4)&&x.Kids.all qA.d4):=by
  unfold qA.d4;rw [qA.fold_eq];simp
theorem qP3 {x y:qA} (h:x.d4=true) (hy:y∈x.Kids):y.d4=true:=by
  rw [x.d4_eq,bAt,List.all_eq_true] at h;exact h.2 y hy
theorem qA.sz_d4:∀x:qA,x.d4=true→x.sz+1≤5*x.size:=qA.ind fun x ih h=>by
  have h0:=h;rw [x.d4_eq,bAt,decide_eq_true_eq] at h0;rw [x.sz_eq,x.size_eq];have:∀xs:List qA,(∀y∈xs,y.sz+1≤5*y.size)→xs.length+qG qA.sz xs≤5*qG qA.size xs:=by
    intro xs
    induction xs with
    | nil=>intro _;simp [qG]
    | cons a xs ihx=>
      intro h;have h1:=h a (by simp);have h2:=ihx (fun y hy=>h y (by simp [hy]));simp only [qG,List.length_cons];omega
  have:=this x.Kids (fun y hy=>ih y hy (qP3 h hy));omega
theorem QM:∀x:qA,x.ok=true→x.d4=true:=qA.ind fun x ih h=>by
  have h0:=w3 h;unfold zr inI at h0;simp only [bAt,decide_eq_true_eq] at h0;rw [x.d4_eq,bAt,decide_eq_true_eq,List.all_eq_true];refine ⟨?_,fun y hy=>ih y hy (qu h hy)⟩;have h1:=h0.1.1.2;have:(shp x.Kind).2.2≤4:=by
    unfold shp
    repeat' split
    all_goals decide
  omega
theorem qgN:∀x:qA,x.ok=true→x.vb 255=true:=qA.ind fun x ih h=>by
  have h0:=w3 h;unfold zr at h0;simp only [bAt] at h0;rw [x.vb_eq,bAt,List.all_eq_true];refine ⟨?_,fun y hy=>ih y hy (qu h hy)⟩;by_cases hk:x.Kind=1
  · have h1:=h0.1.2;unfold jg at h1;rw [if_pos hk] at h1;rw [h1];simp
  · simp [hk]
theorem qjV {m n:Int} (hmn:m≤n):∀x:qA,x.vb m=true→x.vb n=true:=qA.ind fun x ih h=>by
  have h0:=h;rw [x.vb_eq,bAt] at h0;rw [x.vb_eq,bAt,List.all_eq_true];refine ⟨?_,fun y hy=>ih y hy (qRX h hy)⟩;have h1:=h0.1;simp only [inI,Bool.or_eq_true,Bool.not_eq_true',decide_eq_false_iff_not,bAt,decide_eq_true_eq] at h1⊢;rcases h1 with h1 | h1
  · exact .inl h1
  · exact .inr ⟨h1.1,by omega⟩
theorem qU6 {α β:Type} {f:Nat→α→β} {p:β→Bool} {xs:List α} {k:Nat} (h:∀x∈xs,∀k,p (f k x)=true):(zB f xs k).all p=true:=by
  rw [List.all_eq_true];intro y hy;obtain ⟨x,hx,k,rfl⟩:=V2 hy;exact h x hx k
theorem qU9 {α β:Type} {f:Nat→α→β} {g:β→Nat} {q:α→Nat}:∀{xs:List α} {k:Nat},(∀x∈xs,∀k,g (f k x)=q x)→qG g (zB f xs k)=qG q xs
  |[],_,_=>rfl
  | x::xs,k,h=>by
    simp only [zB,qG,h x (by simp) k];rw [qU9 (fun y hy=>h y (by simp [hy]))]
@[go_sem] theorem qA.mk_kids {k v:Int} {d:List Int} {ks:List qA}:(qA.mk k v d ks).Kids=ks:=rfl
@[go_sem] theorem qA.mk_data {k v:Int} {d:List Int} {ks:List qA}:(qA.mk k v d ks).Data=d:=rfl
@[go_sem] theorem qA.mk_kind {k v:Int} {d:List Int} {ks:List qA}:(qA.mk k v d ks).Kind=k:=rfl
@[go_sem] theorem qA.mk_value {k v:Int} {d:List Int} {ks:List qA}:(qA.mk k v d ks).Value=v:=rfl
theorem qiW (a:Int):∀(x:qA) (f:Int),(x.shift a f).size=x.size:=qA.ind fun x ih f=>by
  rw [x.shift_eq,qA.size_eq,x.size_eq,qA.mk_kids,qU9 (q:=qA.size) (fun y hy k=>ih y hy _)]
theorem qiS (a:Int):∀(x:qA) (f:Int),x.d4=true→(x.shift a f).d4=true:=qA.ind fun x ih f h=>by
  have h0:=h;rw [x.d4_eq,bAt] at h0;rw [x.shift_eq,qA.d4_eq,qA.mk_data,qA.mk_kids,h0.1,qU6 (fun y hy k=>ih y hy _ (qP3 h hy))];rfl
theorem qRB {arg:qA} (ha:arg.d4=true):∀(x:qA) (d:Int),x.d4=true→(qA.put arg x d).d4=true:=qA.ind fun x ih d h=>by
  have h0:=h;rw [x.d4_eq,bAt] at h0;rw [qA.put_eq];split
  · split
    · exact qiS _ _ _ ha
    · rw [qA.d4_eq];rfl
  · rw [qA.d4_eq,qA.mk_data,qA.mk_kids,h0.1,qU6 (fun y hy k=>ih y hy _ (qP3 h hy))];rfl
theorem QN {x:qA} (h:x.ok=true) (hk:x.Kind=1):x.Kids=[]:=by
  have h:=w3 h;unfold zr inI at h;simp only [bAt,decide_eq_true_eq] at h;obtain ⟨⟨⟨⟨h1,h2⟩,_⟩,_⟩,_⟩:=h;simp [shp,hk] at h1 h2;exact h2
theorem UJ (arg:qA):∀(x:qA) (d:Int),x.ok=true→((qA.put arg x d).size:Int)=x.size+x.count d*((arg.size:Int)-1):=qA.ind fun x ih d h=>by
  rw [qA.put_eq,x.count_eq];by_cases hk:x.Kind=1
  · have hs:x.size=1:=by rw [x.size_eq,QN h hk];rfl
    rw [if_pos hk,if_pos hk,hs];by_cases hv:x.Value=d
    · rw [if_pos hv,if_pos hv,qiW];omega
    · rw [if_neg hv,if_neg hv];have:(qA.mk 1 (wN x.Value d) [] []).size=1:=by rw [qA.size_eq];rfl
      rw [this];omega
  · rw [if_neg hk,if_neg hk,qA.size_eq,x.size_eq,qA.mk_kids];have key:∀(xs:List qA) (k:Nat),(∀y∈xs,y∈x.Kids)→((qG qA.size (zB (fun i y=>qA.put arg y (d+qQ x.Kind i)) xs k):Nat):Int)=(qG qA.size xs:Nat)+(jA (fun i y=>qA.count y (d+qQ x.Kind i)) xs k:Nat)*((arg.size:Int)-1):=by
      intro xs
      induction xs with
      | nil=>intro k _;simp [zB,qG,jA]
      | cons a xs ihx=>
        intro k hm;simp only [zB,qG,jA];have h1:=ih a (hm a (by simp)) (d+qQ x.Kind k) (qu h (hm a (by simp)));have h2:=ihx (k+1) (fun y hy=>hm y (by simp [hy]));rw [Int.natCast_add,h1,h2,Int.natCast_add,Int.natCast_add,Int.add_mul];omega
    have:=key x.Kids 0 (fun y hy=>hy);rw [Int.natCast_add,this,Int.natCast_add];omega
theorem qA.putall {x:qA} {a b c d:AV}:(AV.agg [a,b,c,d]).put 0 x.enc=some x.enc:=by rw [qA.enc_eq];rfl
def qS:qA:=.mk 0 0 [] []
theorem wc {h:List qC}:Cv h (.agg [.int .i64 0,.int .i64 0,.nils,.nils]) qS.enc:=QE
def jC (body arg:qA):Int:=
  if 400<(body.size:Int)+body.count 0*((arg.size:Int)-1) then 4 else if 80<(qA.put arg body 0).dep then 4 else if 255<(qA.put arg body 0).high then 2 else 0
def jf (body arg:qA):qA:=if jC body arg=0 then qA.put arg body 0 else qS
theorem qVI {x:qA} (h:x.valid=true):j9 x 80 400=x.size:=by
  unfold qA.valid at h;simp only [bAt,decide_eq_true_eq] at h;unfold j9;rw [if_pos ⟨h.1.1,by omega,by omega⟩]
theorem zY {x:qA} (h:x.valid=true):x.ok=true∧x.dep≤80∧x.size≤400∧x.sz≤2000∧x.vb 4294967296=true:=by
  unfold qA.valid at h;simp only [bAt,decide_eq_true_eq] at h;have h1:=qA.sz_d4 x (QM x h.1.1);exact ⟨h.1.1,h.1.2,h.2,by omega,qjV (by omega) x (qgN x h.1.1)⟩
theorem cv2 {h:List qC} {a b v:AV} (hc:Cv h a v) (hb:b.tree=true):Cv h (.tup [a,b]) (.tup [v,b]):=by
  refine .tup rfl ?_;simp only [List.zip_cons_cons,List.zip_nil_left,List.mem_cons,List.not_mem_nil,or_false];rintro p (rfl | rfl)
  · exact hc
  · exact .refl hb
theorem jn {h:List qC} {a b v:AV} (hc:Cv h (.tup [a,b]) v):Fin (some [a,b]) h v:=by
  unfold Fin;exact hc
theorem VB {x y:qA} (hx:x.valid=true) (hy:y.valid=true):Pure Gm 761 [.ept x.enc 0,.ept y.enc 0] (.tup [(jf x y).enc,.int .i64 (jC x y)]):=by
  refine Pure.intro [] [] g761 (by kernel_rfl) rfl (by simp [AV.trees,AV.tree,go_sem]) (by simp [AV.tree,AV.trees,go_sem]) ?_;simp only [YU,qM,go_sem];obtain ⟨x1,x2,x3,x4,x5⟩:=zY hx;obtain ⟨y1,y2,y3,y4,y5⟩:=zY hy;have hc0:=x.count_size 0;refine qF (qY4 x 0 (by omega) (by omega)) ?_;simp only [go_sem];refine qF (c643 x 80 400 (by omega) (by omega) (by omega)) ?_;simp only [go_sem];refine qF (c643 y 80 400 (by omega) (by omega) (by omega)) ?_;simp only [go_sem];rw [qVI hx,qVI hy];have hyp:=y.size_pos;have hP0:0≤(x.count 0:Int)*((y.size:Int)-1):=Int.mul_nonneg (by omega) (by omega);have hP1:(x.count 0:Int)*((y.size:Int)-1)≤400*400:=Int.mul_le_mul (by omega) (by omega) (by omega) (by omega);rw [qj (n:=(y.size:Int)-1) (by omega) (by omega),qj (n:=(x.count 0:Int)*((y.size:Int)-1)) (by omega) (by omega),qj (by omega) (by omega)];have hsz:=UJ y x 0 x1;refine qD ?_ ?_<;>intro hc<;>simp only [hc,go_sem]
  · have hi:jC x y=4:=by unfold jC;rw [if_pos (odT hc)]
    refine qK (k:=4) (by rfl) (by rfl) (by exact ⟨_,rfl⟩) (by decide) ?_;simp only [go_sem];rw [jf,hi,if_neg (by decide)];exact jn (cv2 wc rfl)
  have h1:=odF hc;refine qF (qY5 x y 0 (by omega) x5 (by omega) (by omega) (by omega) y5) ?_;simp only [go_sem];obtain ⟨o,ho⟩:∃o,o=qA.put y x 0:=⟨_,rfl⟩;have hod:=qRB (QM y y1) x 0 (QM x x1);rw [←ho] at hsz hod⊢;have hos:=qA.sz_d4 o hod;have hoz:=qA.dep_size o;refine z9 (by simp [go_sem]) rfl rfl qA.putall ?_;simp only [go_sem];have cvp:Cv [qC.row 4 [o.enc] true] (.ptr 0 0 0) (.ept o.enc 0):=.ptr rfl (by decide) rfl (.refl (by simp [go_sem]));refine zy (vs':=[.ept o.enc 0]) (Cvs.cons cvp Cvs.nil) (qST o (by omega) (by omega)) rfl ?_;simp only [go_sem];refine qD ?_ ?_<;>intro hc<;>simp only [hc,go_sem]
  · have hi:jC x y=4:=by unfold jC;rw [if_neg h1,←ho,if_pos (by have:=odT hc;omega)]
    refine qK (k:=4) (by rfl) (by rfl) (by exact ⟨_,rfl⟩) (by decide) ?_;simp only [go_sem];rw [jf,hi,if_neg (by decide)];exact jn (cv2 wc rfl)
  have h2:¬80<o.dep:=by have:=odF hc;omega
  refine zy (vs':=[.ept o.enc 0]) (Cvs.cons cvp Cvs.nil) (qY6 o (by omega)) rfl ?_;simp only [go_sem];refine qD ?_ ?_<;>intro hc<;>simp only [hc,go_sem]
  · have hi:jC x y=2:=by unfold jC;rw [if_neg h1,←ho,if_neg h2,if_pos (odT hc)]
    refine qK (k:=4) (by rfl) (by rfl) (by exact ⟨_,rfl⟩) (by decide) ?_;simp only [go_sem];rw [jf,hi,if_neg (by decide)];exact jn (cv2 wc rfl)
  · have hi:jC x y=0:=by unfold jC;rw [if_neg h1,←ho,if_neg h2,if_neg (odF hc)]
    simp only [go_sem,List.nil_append,List.cons_append,List.set_cons_zero,List.set_cons_succ];refine qK (k:=4) (by rfl) (by simp [go_sem]) (qA.isAgg _) (by decide) ?_;simp only [go_sem];rw [jf,hi,if_pos rfl,←ho];exact jn (cv2 (.refl (by simp [go_sem])) rfl)
end Go.Ab
namespace Go.Ab
open Go
set_option maxRecDepth 10000
set_option maxHeartbeats 2000000
def w32 (x:Int):Int:=IntKind.i64.wrap (IntKind.i32.wrap (IntKind.u32.wrap (IntKind.u64.wrap x)))
def opI (k a b:Int):Int:=
  if k=1 then w32 (IntKind.i64.wrap (w32 a+w32 b)) else if k=2 then w32 (IntKind.i64.wrap (w32 a-w32 b)) else if k=3 then w32 (IntKind.i64.wrap (w32 a*w32 b))
  else if k=4 then (if w32 b=0 then 0 else w32 (IntKind.i64.wrap ((w32 a).tdiv (w32 b)))) else if k=5 then (if w32 a<w32 b then 1 else 0) else if k=6 then (if w32 a=w32 b then 1 else 0) else 0
def zO (f a:qA):qA:=.mk 5 0 [] [f,a]
def wF (d:Int) (as:List qA):qA:=as.foldl zO (.mk 11 d [] [])
attribute [local simp] qv
section
variable {e:Env} {w i:Nat} {el:List AV} {v:AV} {x:Ao} {r:List (Nat×Ao)}
@[go_sem] theorem zD0 {a b:AV} (h:v.cells.length=w):fil e w [a,b] 0 (some v) r=zp e w [v,b] r:=by
  show (if v.cells.length=w∧0<2 then _ else _)=_;rw [if_pos ⟨h,by omega⟩];rfl
@[go_sem] theorem zD1 {a b:AV} (h:v.cells.length=w):fil e w [a,b] 1 (some v) r=zp e w [a,v] r:=by
  show (if v.cells.length=w∧1<2 then _ else _)=_;rw [if_pos ⟨h,by omega⟩];rfl
@[go_sem] theorem rep2 {v:AV}:List.replicate 2 v=[v,v]:=nr rfl
end
theorem Qp {x:Int}:Pure Gm 1125 [.int .i64 x] (.int .i64 (w32 x)):=by
  refine Pure.intro [] [] qb3 (by kernel_rfl) rfl (by simp [AV.trees,AV.tree,go_sem]) rfl ?_;simp only [XA,qM,go_sem];exact qL rfl rfl
theorem qSU {b:Bool}:Pure Gm 1126 [.bool b] (.int .i64 (if b then 1 else 0)):=by
  refine Pure.intro [] [] qb4 (by kernel_rfl) rfl (by simp [AV.trees,AV.tree,go_sem]) rfl ?_;simp only [XB,qM,go_sem];refine qD ?_ ?_<;>intro hc<;>simp only [hc,go_sem]
  · exact qL rfl rfl
  · exact qL rfl rfl
theorem c762 {k a b:Int}:Pure Gm 762 [.int .i64 k,.int .i64 a,.int .i64 b] (.int .i64 (opI k a b)):=by
  refine Pure.intro [] [] g762 (by kernel_rfl) rfl (by simp [AV.trees,AV.tree,go_sem]) rfl ?_;simp only [YV,qM,go_sem];refine qF Qp ?_;simp only [go_sem];refine qF Qp ?_;simp only [go_sem];unfold opI;refine qD ?_ ?_<;>intro hc<;>simp only [hc,go_sem]
  · rw [if_pos (odT hc)];refine qF Qp ?_;simp only [go_sem];exact qL rfl rfl
  rw [if_neg (odF hc)];refine qD ?_ ?_<;>intro hc<;>simp only [hc,go_sem]
  · rw [if_pos (odT hc)];refine qF Qp ?_;simp only [go_sem];exact qL rfl rfl
  rw [if_neg (odF hc)];refine qD ?_ ?_<;>intro hc<;>simp only [hc,go_sem]
  · rw [if_pos (odT hc)];refine qF Qp ?_;simp only [go_sem];exact qL rfl rfl
  rw [if_neg (odF hc)];refine qD ?_ ?_<;>intro hc<;>simp only [hc,go_sem]
  · rw [if_pos (odT hc)];refine qD ?_ ?_<;>intro hc<;>simp only [hc,go_sem]
    · rw [if_pos (odT hc)];exact qL rfl rfl
    rw [if_neg (odF hc)];have hq:=odF hc;simp only [if_neg hq,go_sem];refine qF Qp ?_;simp only [go_sem];exact qL rfl rfl
  rw [if_neg (odF hc)];refine qD ?_ ?_<;>intro hc<;>simp only [hc,go_sem]
  · rw [if_pos (odT hc)];refine qF qSU ?_;simp only [go_sem];exact qL rfl (by simp)
  rw [if_neg (odF hc)];refine qD ?_ ?_<;>intro hc<;>simp only [hc,go_sem]
  · rw [if_pos (odT hc)];refine qF qSU ?_;simp only [go_sem];exact qL rfl (by simp)
  rw [if_neg (odF hc)];exact qL rfl rfl
theorem c381 {x:Int}:Pure Gm 381 [.int .i64 x] ((qA.mk 2 x [] []).enc):=by
  refine Pure.intro [] [] g381 (by kernel_rfl) rfl (by simp [AV.trees,AV.tree,go_sem]) (by simp [go_sem]) ?_;simp only [Xw,qM,go_sem];refine qK (k:=4) (by rfl) (by rfl) (by exact ⟨_,rfl⟩) (by decide) ?_;simp only [go_sem];exact zG QE
theorem Qq {x:Int}:Pure Gm 1127 [.int .i64 x] ((qA.mk 11 x [] []).enc):=by
  refine Pure.intro [] [] qb5 (by kernel_rfl) rfl (by simp [AV.trees,AV.tree,go_sem]) (by simp [go_sem]) ?_;simp only [XC,qM,go_sem];refine qK (k:=4) (by rfl) (by rfl) (by exact ⟨_,rfl⟩) (by decide) ?_;simp only [go_sem];exact zG QE
theorem c382 {k v:Int} {ks:List qA}:Pure Gm 382 [.int .i64 k,.int .i64 v,.lst 4 (ks.map qA.enc) false] ((qA.mk k v [] ks).enc):=by
  refine Pure.intro [] [] g382 (by kernel_rfl) rfl (by simp [AV.trees,AV.tree,go_sem]) (by simp [go_sem]) ?_;simp only [Xx,qM,go_sem];refine qK (k:=4) (by rfl) (by simp [AV.tree,AV.trees,go_sem]) (by exact ⟨_,rfl⟩) (by decide) ?_;simp only [go_sem];exact zG (VJ .nils (.refl (by simp [AV.tree,go_sem])))
theorem Y9 {f a:qA}:Pure Gm 1117 [f.enc,a.enc] ((zO f a).enc):=by
  refine Pure.intro [] [] qbV (by kernel_rfl) rfl (by simp [AV.trees,AV.tree,go_sem]) (by simp [go_sem]) ?_;simp only [W2,qM,go_sem];refine qc qA.ln ?_;simp only [go_sem];refine qc qA.ln ?_;simp only [go_sem];have hc:Cv (only [0] [qC.row 4 [f.enc,a.enc] true]) (.slice 4 0 0 2 false) (.lst 4 ([f,a].map qA.enc) false):=Cv.row rfl rfl (qv _) (by decide);refine VC [0] (Cvs.cons (.refl rfl) (Cvs.cons (.refl rfl) (Cvs.cons hc Cvs.nil))) c382 ?_;simp only [go_sem];refine qK (k:=4) (by rfl) (by simp [go_sem]) (qA.isAgg _) (by decide) ?_;simp only [go_sem];exact zG (.refl (by simp [go_sem]))
def qX (x:qA):Int:=match x.Kids with
  |[]=>0
  | y::ys=>
    if x.Kind=5 then (if y.Kind=4 then 1 else if y.Kind=11 then 4 else 0)
    else if x.Kind=3 then (if y.Kind=11 then 4 else if y.Kind=2 then (match ys with | z::_=>if z.Kind=2 then 2 else if z.Kind=11 then 4 else 0 |[]=>0) else 0)
    else if x.Kind=9 then (if y.Kind=8∧y.Value<(x.Data.length:Nat) then 3 else if y.Kind=11 then 4 else 0)
    else if x.Kind=10 then (if y.Kind=2 then 3 else if y.Kind=11 then 4 else 0) else 0
theorem zj {α:Type} {xs:List α} (h:xs.length=1):∃a,xs=[a]:=by
  match xs,h with
  |[a],_=>exact ⟨a,rfl⟩
theorem zf {α:Type} {xs:List α} (h:xs.length=2):∃a b,xs=[a,b]:=by
  match xs,h with
  |[a,b],_=>exact ⟨a,b,rfl⟩
def zk (x:qA):Int:=match x.Kids with
  |[]=>0
  | y::_=>if x.Kind=10 then (if y.Value=0 then x.Data.getD 1 0 else x.Data.getD 0 0) else x.Data.getD y.Value.toNat 0
theorem ZP {x:qA} (h5:¬x.Kind=5) (h3:¬x.Kind=3) (h9:¬x.Kind=9) (h10:¬x.Kind=10):qX x=0:=by
  unfold qX;split
  · rfl
  · rw [if_neg h5,if_neg h3,if_neg h9,if_neg h10]
theorem c760 {x:qA} (ho:x.ok=true) (hz:x.sz≤1048576):Pure Gm 760 [.ept x.enc 0] (.int .i64 (qX x)):=by
  refine Pure.intro [] [] g760 (by kernel_rfl) rfl (by simp [AV.trees,AV.tree,go_sem]) rfl ?_;simp only [YT,qM,go_sem];have hd:x.Data.length<9223372036854775808:=by have:=x.sz_eq;omega
  refine qD ?_ ?_<;>intro hc<;>simp only [hc,go_sem]
  · have h5:=odT hc;obtain ⟨a,b,hK⟩:=zf ((qt ho).1 (by omega));simp only [hK,List.map_cons,List.map_nil,Option.map_some,go_sem];have hr:qX x=if a.Kind=4 then 1 else if a.Kind=11 then 4 else 0:=by unfold qX;rw [hK];simp only [];rw [if_pos h5]
    rw [hr];refine qD ?_ ?_<;>intro hc<;>simp only [hc,go_sem]
    · exact qL rfl (by rw [if_pos (odT hc)])
    rw [if_neg (odF hc)];refine qD ?_ ?_<;>intro hc<;>simp only [hc,go_sem]
    · exact qL rfl (by rw [if_pos (odT hc)])
    · exact qL rfl (by rw [if_neg (odF hc)])
  have h5:=odF hc;refine qD ?_ ?_<;>intro hc<;>simp only [hc,go_sem]
  · have h3:=odT hc;obtain ⟨a,b,hK⟩:=zf ((qt ho).1 (by omega));simp only [hK,List.map_cons,List.map_nil,Option.map_some,go_sem];have hr:qX x=if a.Kind=11 then 4 else if a.Kind=2 then (if b.Kind=2 then 2 else if b.Kind=11 then 4 else 0) else 0:=by unfold qX;rw [hK];simp only [];rw [if_neg h5,if_pos h3]
    rw [hr];refine qD ?_ ?_<;>intro hc<;>simp only [hc,go_sem]
    · exact qL rfl (by rw [if_pos (odT hc)])
    rw [if_neg (odF hc)];simp only [hK,List.map_cons,List.map_nil,Option.map_some,go_sem];refine qD ?_ ?_<;>intro hc<;>simp only [hc,hK,List.map_cons,List.map_nil,Option.map_some,go_sem]
    · rw [if_pos (odT hc)];refine qD ?_ ?_<;>intro hc<;>simp only [hc,go_sem]
      · exact qL rfl (by rw [if_pos (odT hc)])
      rw [if_neg (odF hc)];refine qD ?_ ?_<;>intro hc<;>simp only [hc,go_sem]
      · exact qL rfl (by rw [if_pos (odT hc)])
      · exact qL rfl (by rw [if_neg (odF hc)])
    · exact qL rfl (by rw [if_neg (odF hc)])
  have h3:=odF hc;refine qD ?_ ?_<;>intro hc<;>simp only [hc,go_sem]
  · have h9:=odT hc;obtain ⟨a,hK⟩:=zj ((qt ho).2 (by omega));simp only [hK,List.map_cons,List.map_nil,Option.map_some,go_sem];have hr:qX x=if a.Kind=8∧a.Value<(x.Data.length:Nat) then 3 else if a.Kind=11 then 4 else 0:=by unfold qX;rw [hK];simp only [];rw [if_neg h5,if_neg h3,if_pos h9]
    rw [hr];refine qY ?_ ?_<;>intro hc<;>simp only [hc,hK,List.map_cons,List.map_nil,Option.map_some,go_sem]
    · have h8:=odT hc;refine qD ?_ ?_<;>intro hc<;>simp only [hc,hK,List.map_cons,List.map_nil,Option.map_some,go_sem]
      · exact qL rfl (by rw [if_pos ⟨h8,odT hc⟩])
      have hv:=odF hc;rw [if_neg (fun h=>hv h.2)];refine qD ?_ ?_<;>intro hc<;>simp only [hc,hK,List.map_cons,List.map_nil,Option.map_some,go_sem]
      · exact qL rfl (by rw [if_pos (odT hc)])
      · exact qL rfl (by rw [if_neg (odF hc)])
    · have h8:=odF hc;rw [if_neg (fun h=>h8 h.1)];refine qD ?_ ?_<;>intro hc<;>simp only [hc,hK,List.map_cons,List.map_nil,Option.map_some,go_sem]
      · exact qL rfl (by rw [if_pos (odT hc)])
      · exact qL rfl (by rw [if_neg (odF hc)])
  have h9:=odF hc;refine qD ?_ ?_<;>intro hc<;>simp only [hc,go_sem]
  · have h10:=odT hc;obtain ⟨a,hK⟩:=zj ((qt ho).2 (by omega));simp only [hK,List.map_cons,List.map_nil,Option.map_some,go_sem];have hr:qX x=if a.Kind=2 then 3 else if a.Kind=11 then 4 else 0:=by unfold qX;rw [hK];simp only [];rw [if_neg h5,if_neg h3,if_neg h9,if_pos h10]
    rw [hr];refine qD ?_ ?_<;>intro hc<;>simp only [hc,go_sem]
    · exact qL rfl (by rw [if_pos (odT hc)])
    rw [if_neg (odF hc)];refine qD ?_ ?_<;>intro hc<;>simp only [hc,go_sem]
    · exact qL rfl (by rw [if_pos (odT hc)])
    · exact qL rfl (by rw [if_neg (odF hc)])
  have h10:=odF hc;exact qL rfl (by rw [ZP h5 h3 h9 h10])
theorem qA.putcore {x y:qA}:x.enc.put 0 y.enc=some y.enc:=by rw [x.enc_eq,y.enc_eq];rfl
theorem UC {x:qA} (h:x.ok=true):jg x.Kind x.Value=true:=by
  have h:=w3 h;unfold zr at h;simp only [bAt] at h;exact h.1.2
theorem ZO {x:qA} (ho:x.ok=true) (h:qX x=3):∃y,x.Kids=[y]∧((x.Kind=9∧y.Kind=8∧0≤y.Value∧y.Value<(x.Data.length:Nat))∨(x.Kind=10∧y.Kind=2∧x.Data.length=2)):=by
  have hn:=w3 ho;unfold zr inI at hn;simp only [bAt,decide_eq_true_eq] at hn;obtain ⟨⟨⟨⟨_,_⟩,h3,h4⟩,_⟩,_⟩:=hn;unfold qX at h;split at h
  · cases h
  rename_i y ys hK;have hy:y.ok=true:=qu ho (by rw [hK];simp);have hv:=UC hy;split at h
  · repeat' split at h
    all_goals cases h
  split at h
  · repeat' split at h
    all_goals cases h
  split at h
  · rename_i h9;obtain ⟨a,hK'⟩:=zj ((qt ho).2 (by omega));rw [hK'] at hK;cases hK;refine ⟨y,hK',.inl ?_⟩;split at h
    · rename_i h8;refine ⟨h9,h8.1, ?_,h8.2⟩;unfold jg inI at hv;simp [h8.1] at hv;exact hv.1
    · split at h<;>cases h
  split at h
  · rename_i h10;obtain ⟨a,hK'⟩:=zj ((qt ho).2 (by omega));rw [hK'] at hK;cases hK;refine ⟨y,hK',.inr ?_⟩;split at h
    · rename_i h8;refine ⟨h10,h8, ?_⟩;simp [shp,h10] at h3 h4;omega
    · split at h<;>cases h
  · cases h
theorem c763 {x:qA} {as:List qA} (ho:x.ok=true) (hr:qX x=3) (hz:x.sz≤1048576) (hn:as.length≤1048576) (ha:x.Kind=10→as=[]):Pure Gm 763 [.ept x.enc 0,.lst 4 (as.map qA.enc) false] ((wF (zk x) as).enc):=by
  refine Pure.intro [] [] g763 (by kernel_rfl) rfl (by simp [AV.trees,AV.tree,go_sem]) (by simp [go_sem]) ?_;simp only [Zk,qM,go_sem];have hd:x.Data.length<9223372036854775808:=by have:=x.sz_eq;omega
  have hL:=x.len_sz;obtain ⟨y,hK,h9 | h10⟩:=ZO ho hr
  · refine qD ?_ ?_<;>intro hc<;>simp only [hc,go_sem]
    · have:=odT hc;omega
    obtain ⟨n,hV⟩:∃n:Nat,y.Value=n:=⟨y.Value.toNat,by omega⟩;have hlt:n<x.Data.length:=by omega
    have hrd:zk x=x.Data[n]:=by
      unfold zk;rw [hK];simp only [];rw [if_neg (by omega),hV];simp [hlt]
    replace hK:=And.intro hK hV;simp only [hK,List.map_cons,List.map_nil,Option.map_some,go_sem];simp only [List.getElem?_map,gEg hlt,Option.map_some,go_sem];simp only [qE,go_sem];refine qF Qq ?_;simp only [go_sem];refine qK (k:=4) (by rfl) (by simp [go_sem]) (qA.isAgg _) (by decide) ?_;simp only [go_sem];refine Sem.loop (fun i:Nat=>i≤as.length∧True) (fun i=>(⟨[(0,.ept x.enc 0),(1,.lst 4 (as.map qA.enc) false),(6,.int .i64 (i:Nat))],[(5,((as.take i).foldl zO (.mk 11 x.Data[n] [] [])).enc),(4,.agg [.int .i64 0,.int .i64 0,.nils,.nils])],[]⟩:VSt)) (fun i=>as.length-i) 0 (by kernel_rfl) ⟨Nat.zero_le _,trivial⟩ (Can.sub (by simp [go_sem]) (by simp [go_sem])) ?_;rintro i ⟨hi,hI⟩;simp only [go_sem];refine qD ?_ ?_<;>intro hc<;>simp only [hc,go_sem]
    · have hlt:i<as.length:=by have:=odT hc;omega
      simp only [List.getElem?_map,gEg hlt,Option.map_some,go_sem];refine qF Y9 ?_;simp only [go_sem];refine Jr qA.ln qA.putcore ?_;simp only [go_sem];simp only [qe (show i<4611686018427387904 by omega)];refine qZ (i+1) ⟨by omega,trivial⟩ (by omega) (Can.sub (by simp [go_sem]) ?_);rw [List.take_succ_eq_append_getElem hlt,List.foldl_append];simp [go_sem]
    · obtain rfl:i=as.length:=by have:=odF hc;omega
      rw [List.take_length];refine qK (k:=4) (by rfl) (by simp [go_sem]) (qA.isAgg _) (by decide) ?_;simp only [go_sem];rw [hrd];exact zG (.refl (by simp [go_sem]))
  · obtain ⟨d,e,hD⟩:=zf h10.2.2;have hrd:zk x=if y.Value=0 then e else d:=by
      unfold zk;rw [hK];simp only [];rw [if_pos h10.1,hD];rfl
    refine qD ?_ ?_<;>intro hc<;>simp only [hc,go_sem]
    · replace hK:=And.intro hK hD;simp only [hK,List.map_cons,List.map_nil,Option.map_some,go_sem];rw [ha h10.1,hrd];refine qD ?_ ?_<;>intro hc<;>simp only [hc,hK,List.map_cons,List.map_nil,Option.map_some,go_sem]
      · simp only [qE,go_sem];refine qF Qq ?_;simp only [go_sem];refine qK (k:=4) (by rfl) (by simp [go_sem]) (qA.isAgg _) (by decide) ?_;simp only [go_sem];rw [if_neg (by simpa using hc)];exact zG (.refl (by simp [go_sem]))
      · simp only [qE,go_sem];refine qF Qq ?_;simp only [go_sem];refine qK (k:=4) (by rfl) (by simp [go_sem]) (qA.isAgg _) (by decide) ?_;simp only [go_sem];rw [if_pos (by simpa using hc)];exact zG (.refl (by simp [go_sem]))
    · exact absurd h10.1 (odF hc)
end Go.Ab
namespace Go.Ab
open Go
set_option maxRecDepth 10000
set_option maxHeartbeats 2000000
attribute [local simp] qv qb
def jK (b:qI) (R:List Int) (lim:Int):AV:=.agg [.ept b.enc 0,.lst 1 (R.map qE) false,.int .i64 lim]
@[go_sem] theorem zDO {b:qI} {R:List Int} {lim:Int}:(jK b R lim).part 0 none=some (.ept b.enc 0):=nr rfl
@[go_sem] theorem zDP {b:qI} {R:List Int} {lim:Int}:(jK b R lim).part 1 none=some (.lst 1 (R.map qE) false):=nr rfl
@[go_sem] theorem zDQ {b:qI} {R:List Int} {lim:Int}:(jK b R lim).part 2 none=some (.int .i64 lim):=nr rfl
@[go_sem] theorem qa3 {b:qI} {R:List Int} {lim:Int}:(jK b R lim).tree=true:=by simp [jK,AV.tree,AV.trees,go_sem]
def wS (b:qI) (R:List Int) (lim:Int) (x:qA) (l:Int):Bool:=match x.Kids with
  |[]=>false
  | y::_=>decide (y.Kind=11)&&match b.Defs[y.Value.toNat]? with
    | none=>false
    | some d=>decide (d.Kind=4)&& !(R.any fun k=>decide (k=y.Value))&&decide ((d.size:Int)≤lim)&&decide (l+d.boxes≤8)
theorem qUH {b:qI} {R:List Int} {lim l:Int} {x y:qA} {ys:List qA} {n:Nat} (hK:x.Kids=y::ys) (h11:y.Kind=11) (hV:y.Value=n) (hlt:n<b.Defs.length):
    wS b R lim x l=(decide (b.Defs[n].Kind=4)&& !(R.any fun k=>decide (k=y.Value))&&decide ((b.Defs[n].size:Int)≤lim)&&decide (l+b.Defs[n].boxes≤8)):=by
  unfold wS;rw [hK];simp only [];have:y.Value.toNat=n:=by omega
  rw [this,gEg hlt,h11];rfl
theorem qSX {b:qI} {R:List Int} {lim l:Int} {x y:qA} {ys:List qA} (hK:x.Kids=y::ys) (hv:y.Kind=11→0≤y.Value∧y.Value<(b.Defs.length:Nat)) (hz:b.sz≤1048576) (hd:∀d∈b.Defs,d.dep≤1048576) (hR:R.length≤4194304) (hl:0≤l∧l≤1048576):Pure Gm 1408 [.ept (jK b R lim) 0,.ept x.enc 0,.int .i64 l] (.bool (wS b R lim x l)):=by
  refine Pure.intro [] [] qc0 (by kernel_rfl) rfl (by simp [AV.trees,AV.tree,go_sem]) rfl ?_;simp only [Xh,qM,go_sem];have hz':b.Defs.length+qG qA.sz b.Defs≤1048576:=hz;simp only [hK,List.map_cons,List.map_nil,Option.map_some,go_sem];refine qD ?_ ?_<;>intro hc<;>simp only [hc,hK,List.map_cons,List.map_nil,Option.map_some,go_sem]
  · exact qL rfl (by unfold wS;rw [hK];simp only [];simp at hc;simp [hc])
  have h11:y.Kind=11:=by simpa using hc
  obtain ⟨n,hV⟩:∃n:Nat,y.Value=n:=⟨y.Value.toNat,by have:=hv h11;omega⟩;have hlt:n<b.Defs.length:=by have:=hv h11;omega
  have hm:=gMm hlt;have hdz:=zV (f:=qA.sz) hm;have hdd:=hd _ hm;have hr:=qUH (R:=R) (lim:=lim) (l:=l) hK h11 hV hlt;rw [hr];replace hK:=And.intro hK hV;simp only [hK,List.map_cons,List.map_nil,Option.map_some,go_sem];simp only [List.getElem?_map,gEg hlt,Option.map_some,go_sem];refine qY ?_ ?_<;>intro hc<;>simp only [hc,go_sem];rotate_left
  · exact qL rfl (by simp)
  refine qF (qPT hR) ?_;simp only [go_sem];refine qY ?_ ?_<;>intro hc<;>simp only [hc,go_sem];rotate_left
  · exact qL rfl (by simp)
  have hbd:=b.Defs[n].boxes_dep;refine qF (qZQ b.Defs[n] (by omega)) ?_;simp only [go_sem];refine qY ?_ ?_<;>intro hc<;>simp only [hc,go_sem];rotate_left
  · exact qL rfl (by simp)
  refine qF (qZR b.Defs[n] (by omega) hdd) ?_;simp only [go_sem];rw [qj (by omega) (by omega)];exact qL rfl (by simp)
def qz (a:qA):qA:=a.Kids.headD qS
def qo (a:qA) (L:List Int) (l:Int):qA×Int:=
  if L.length=0 then (a,0) else if a.Kind=2 then (a,0) else if a.Kind=6∧(qz a).Kind=2 then (qz a,0)
  else if L.length=1∧L.head?=some l then (a,0) else if L.length=1∧a.Kind=6 then (qz a,0) else (qS,3)
def zA (x:qA) (l:Int):qA×Int:=match x.Kids with
  | a::c::_=>qo a (c.levels 0 l) l
  | _=>(qS,3)
@[go_sem] theorem zGN {w id:Nat} {cl:Bool} {k:IntKind}:idx w (some (.slice w id 0 1 cl)) (some (.int k 0))=some (.ptr id 0 0):=WD (by omega) (by omega)
theorem wh {h:List qC} {x y:qA×Int} (e:y=x):Fin (some [x.1.enc,.int .i64 x.2]) h (.tup [y.1.enc,.int .i64 y.2]):=by
  subst e;exact jn (cv2 (.refl (by simp [go_sem])) rfl)
theorem qZN {b:qI} {R:List Int} {lim:Int} {x a c:qA} {ks:List qA} {l:Int} (hK:x.Kids=a::c::ks) (ha:a.Kind=6→∃k kl,a.Kids=k::kl) (hz:x.sz≤1048576) (hq:x.size≤1048576) (hd:x.dep≤1048576) (hl:0≤l∧l≤1048576):Pure Gm 1409 [.ept (jK b R lim) 0,.ept x.enc 0,.int .i64 l] (.tup [(zA x l).1.enc,.int .i64 (zA x l).2]):=by
  refine Pure.intro [] [] qUA (by kernel_rfl) rfl (by simp [AV.trees,AV.tree,go_sem]) (by simp [AV.tree,AV.trees,go_sem]) ?_;simp only [Zi,qM,go_sem];have hcm:c∈x.Kids:=by rw [hK];simp
  have hcz:=qA.kid_sz hcm;have hcd:=qA.dep_kid hcm;have hcs:=zV (f:=qA.size) hcm;have hxs:=x.size_eq;have hll:=qA.levels_len c 0 l;have hr:zA x l=qo a (c.levels 0 l) l:=by unfold zA;rw [hK]
  rw [hr];simp only [hK,List.map_cons,List.map_nil,Option.map_some,go_sem];have hacc:=Yy c 0 l [] (by omega) (by omega) (by omega) (by simp;omega);rw [List.nil_append] at hacc;obtain ⟨L,hL⟩:∃L,L=c.levels 0 l:=⟨_,rfl⟩;rw [←hL] at hll hacc hr⊢;refine JM hacc rfl ?_;intro h' id' hG;simp only [go_sem];refine qY ?_ ?_<;>intro hc<;>simp only [hc,go_sem];rotate_left
  · refine qK (k:=4) (by rfl) (by simp [go_sem]) (qA.isAgg _) (by decide) ?_;simp only [go_sem];exact wh (x:=(a,0)) (by unfold qo;rw [if_pos (by simp at hc;simp [hc])])
  have h0:¬L.length=0:=by have:=odF hc;omega
  refine qD ?_ ?_<;>intro hc<;>simp only [hc,go_sem]
  · refine qK (k:=4) (by rfl) (by simp [go_sem]) (qA.isAgg _) (by decide) ?_;simp only [go_sem];exact wh (x:=(a,0)) (by unfold qo;rw [if_neg h0,if_pos (odT hc)])
  have h2:=odF hc;by_cases h6:a.Kind=6
  · obtain ⟨k,kl,hk⟩:=ha h6;have hk0:qz a=k:=by unfold qz;rw [hk];rfl
    replace hK:=And.intro hK hk;refine qY ?_ ?_<;>intro hc<;>simp only [hc,go_sem];rotate_left
    · exact absurd h6 (by simpa using hc)
    simp only [hK,List.map_cons,List.map_nil,Option.map_some,go_sem];refine qD ?_ ?_<;>intro hc<;>simp only [hc,hK,List.map_cons,List.map_nil,Option.map_some,go_sem]
    · refine qK (k:=4) (by rfl) (by simp [go_sem]) (qA.isAgg _) (by decide) ?_;simp only [go_sem];exact wh (x:=(k,0)) (by unfold qo;rw [if_neg h0,if_neg h2,hk0,if_pos ⟨h6,odT hc⟩])
    have h7:¬(a.Kind=6∧(qz a).Kind=2):=by rw [hk0];exact fun h=>odF hc h.2
    refine qY ?_ ?_<;>intro hc<;>simp only [hc,go_sem];rotate_left
    · have h1:¬L.length=1:=by simp at hc;omega
      refine qK (k:=4) (by rfl) (by rfl) (by exact ⟨_,rfl⟩) (by decide) ?_;simp only [go_sem];have e:qo a L l=(qS,3):=by unfold qo;rw [if_neg h0,if_neg h2,if_neg h7,if_neg (fun h=>h1 h.1),if_neg (fun h=>h1 h.1)]
      rw [e];exact jn (cv2 wc rfl)
    have h1:=odT hc;obtain ⟨n,rfl⟩:∃n,L=[n]:=zj (by omega);simp only [go_sem];rw [hG.at'];simp only [List.map_cons,List.map_nil,qE,go_sem];refine qD ?_ ?_<;>intro hc<;>simp only [hc,go_sem]
    · refine qK (k:=4) (by rfl) (by simp [go_sem]) (qA.isAgg _) (by decide) ?_;simp only [go_sem];exact wh (x:=(a,0)) (by unfold qo;rw [if_neg h0,if_neg h2,if_neg h7,if_pos ⟨rfl,by rw [odT hc];rfl⟩])
    have h8:¬([n].length=1∧[n].head?=some l):=by rintro ⟨_,h⟩;simp at h;exact odF hc h
    refine qY ?_ ?_<;>intro hc<;>simp only [hc,go_sem];rotate_left
    · exact absurd hc (by simp)
    refine qD ?_ ?_<;>intro hc<;>simp only [hc,hK,List.map_cons,List.map_nil,Option.map_some,go_sem]
    · refine qK (k:=4) (by rfl) (by simp [go_sem]) (qA.isAgg _) (by decide) ?_;simp only [go_sem];exact wh (x:=(k,0)) (by unfold qo;rw [if_neg h0,if_neg h2,if_neg h7,if_neg h8,if_pos ⟨rfl,h6⟩,hk0])
    · exact absurd h6 (odF hc)
  · refine qY ?_ ?_<;>intro hc<;>simp only [hc,go_sem]
    · exact absurd (odT hc) h6
    have h7:¬(a.Kind=6∧(qz a).Kind=2):=fun h=>h6 h.1;refine qY ?_ ?_<;>intro hc<;>simp only [hc,go_sem];rotate_left
    · have h1:¬L.length=1:=by simp at hc;omega
      refine qK (k:=4) (by rfl) (by rfl) (by exact ⟨_,rfl⟩) (by decide) ?_;simp only [go_sem];have e:qo a L l=(qS,3):=by unfold qo;rw [if_neg h0,if_neg h2,if_neg h7,if_neg (fun h=>h1 h.1),if_neg (fun h=>h1 h.1)]
      rw [e];exact jn (cv2 wc rfl)
    have h1:=odT hc;obtain ⟨n,rfl⟩:∃n,L=[n]:=zj (by omega);simp only [go_sem];rw [hG.at'];simp only [List.map_cons,List.map_nil,qE,go_sem];refine qD ?_ ?_<;>intro hc<;>simp only [hc,go_sem]
    · refine qK (k:=4) (by rfl) (by simp [go_sem]) (qA.isAgg _) (by decide) ?_;simp only [go_sem];exact wh (x:=(a,0)) (by unfold qo;rw [if_neg h0,if_neg h2,if_neg h7,if_pos ⟨rfl,by rw [odT hc];rfl⟩])
    have h8:¬([n].length=1∧[n].head?=some l):=by rintro ⟨_,h⟩;simp at h;exact odF hc h
    refine qY ?_ ?_<;>intro hc<;>simp only [hc,go_sem];rotate_left
    · exact absurd hc (by simp)
    refine qD ?_ ?_<;>intro hc<;>simp only [hc,go_sem]
    · exact absurd (odT hc) h6
    refine qK (k:=4) (by rfl) (by rfl) (by exact ⟨_,rfl⟩) (by decide) ?_;simp only [go_sem];have e:qo a [n] l=(qS,3):=by unfold qo;rw [if_neg h0,if_neg h2,if_neg h7,if_neg h8,if_neg (fun h=>h6 h.2)]
    rw [e];exact jn (cv2 wc rfl)
end Go.Ab
namespace Go.Ab
open Go
set_option maxRecDepth 10000
set_option maxHeartbeats 2000000
attribute [local simp] qv qb
theorem ze {x y:qA} (h:x.valid=true) (hm:y∈x.Kids):y.valid=true:=by
  obtain ⟨h1,h2,h3,_,_⟩:=zY h;have hd:=qA.dep_kid hm;have hs:=zV (f:=qA.size) hm;have hx:=x.size_eq;unfold qA.valid;simp only [bAt,decide_eq_true_eq];exact ⟨⟨qu h1 hm,by omega⟩,by omega⟩
theorem jv {n:Int} {x y:qA} (h:x.refs n=true) (hm:y∈x.Kids):y.refs n=true:=by
  rw [qA.refs_eq,bAt,List.all_eq_true] at h;exact h.2 y hm
theorem ZQ {n:Int} {x:qA} (ho:x.ok=true) (h:x.refs n=true) (h11:x.Kind=11):0≤x.Value∧x.Value<n:=by
  rw [qA.refs_eq,bAt,bAt] at h;have h1:=h.1.1;have hv:=UC ho;unfold jg inI at hv;simp [h11] at h1 hv;omega
theorem WR {x:qA} (h:x.ok=true) (hk:x.Kind=2):x.Kids=[]:=by
  have h:=w3 h;unfold zr inI at h;simp only [bAt,decide_eq_true_eq] at h;obtain ⟨⟨⟨⟨h1,h2⟩,_⟩,_⟩,_⟩:=h;simp [shp,hk] at h1 h2;exact h2
theorem Qc {b:qI} (hb:b.ok=true):b.Defs.length≤24∧∀d∈b.Defs,d.valid=true∧d.refs b.Defs.length=true∧d.dep≤80:=by
  refine ⟨(Y8 hb).2,fun d hd=> ?_⟩;obtain ⟨h1,h2⟩:=Qm hb hd;have h3:=(QD h1).2.1;unfold qA.closed at h1;simp only [bAt] at h1;exact ⟨h1.1,h2,h3⟩
theorem Vx {a:qA} {L:List Int} {l:Int} (hv:a.valid=true) (h:(qo a L l).2=0):(qo a L l).1.valid=true:=by
  have hk:a.Kind=6→(qz a).valid=true:=fun h6=>by
    obtain ⟨k,hk⟩:=zj ((qt (zY hv).1).2 (by omega));have:qz a=k:=by unfold qz;rw [hk];rfl
    rw [this];exact ze hv (by rw [hk];simp)
  unfold qo at h⊢;split
  · exact hv
  split
  · exact hv
  split
  · rename_i h6;exact hk h6.1
  split
  · exact hv
  split
  · rename_i h6;exact hk h6.2
  · rw [if_neg (by assumption),if_neg (by assumption),if_neg (by assumption),if_neg (by assumption),if_neg (by assumption)] at h;cases h
abbrev jz:=qA×Int×Int
def jO (r:jz):AV:=.tup [r.1.enc,.int .i64 r.2.1,.int .i64 r.2.2]
@[go_sem] theorem qgV {r:jz}:(jO r).tree=true:=by simp [jO,AV.tree,AV.trees,go_sem]
theorem jo {h:List qC} {y:jz} {g:qA} {r c:Int} (e:y=(g,r,c)):Fin (some [g.enc,.int .i64 r,.int .i64 c]) h (jO y):=by
  subst e;unfold Fin;exact (show Cv h (jO (g,r,c)) (jO (g,r,c)) from .refl qgV)
theorem jp {h:List qC} {y:jz} (e:y=(qS,0,0)):Fin (some [.agg [.int .i64 0,.int .i64 0,.nils,.nils],.int .i64 0,.int .i64 0]) h (jO y):=by
  subst e;unfold Fin;refine .tup rfl ?_;simp only [List.zip_cons_cons,List.zip_nil_left,List.mem_cons,List.not_mem_nil,or_false];rintro p (rfl | rfl | rfl)
  · exact wc
  · exact .refl rfl
  · exact .refl rfl
def zE (b:qI) (R:List Int) (lim:Int) (x:qA) (l:Int):jz:=match x.Kids with
  |[]=>(qS,0,0)
  | a::ys=>
    if x.Kind=3 then (if a.Kind=2∧(ys.headD qS).Kind=2 then (.mk 2 (opI x.Value a.Value (ys.headD qS).Value) [] [],1,0) else (qS,0,0))
    else if x.Kind=10∨x.Kind=9 then (if qX x=3 then (wF (zk x) a.Kids,2,0) else (qS,0,0))
    else if x.Kind=5 then (if a.Kind=4 then (jf (qz a) (ys.headD qS),3,jC (qz a) (ys.headD qS))
      else if wS b R lim x l=true then (zO (b.Defs.getD a.Value.toNat qS) (ys.headD qS),5,0) else (qS,0,0))
    else if x.Kind=7 then (if (zA x l).2=0 then (jf (ys.headD qS) (zA x l).1,4,jC (ys.headD qS) (zA x l).1) else (qS,0,0))
    else (qS,0,0)
theorem qZA {b:qI} {R:List Int} {lim:Int} {x:qA} {l:Int} (hb:b.ok=true) (hbz:b.sz≤1048576) (hx:x.valid=true) (hf:x.refs b.Defs.length=true) (hR:R.length≤24) (hl:0≤l∧l≤1000):Pure Gm 1163 [.ept (jK b R lim) 0,.ept x.enc 0,.int .i64 l] (jO (zE b R lim x l)):=by
  refine Pure.intro [] [] qT9 (by kernel_rfl) rfl (by simp [AV.trees,AV.tree,go_sem]) (by simp [AV.tree,AV.trees,go_sem]) ?_;simp only [Zh,qM,go_sem];obtain ⟨ho,hd,hs,hz,hv⟩:=zY hx;refine qD ?_ ?_<;>intro hc<;>simp only [hc,go_sem]
  · have h3:=odT hc;obtain ⟨a,c,hK⟩:=zf ((qt ho).1 (by omega));have hr:zE b R lim x l=if a.Kind=2∧c.Kind=2 then (.mk 2 (opI x.Value a.Value c.Value) [] [],1,0) else (qS,0,0):=by unfold zE;rw [hK];simp only [];rw [if_pos h3];rfl
    rw [hr];simp only [hK,List.map_cons,List.map_nil,Option.map_some,go_sem];refine qY ?_ ?_<;>intro hc<;>simp only [hc,hK,List.map_cons,List.map_nil,Option.map_some,go_sem];rotate_left
    · refine qK (k:=4) (by rfl) (by rfl) (by exact ⟨_,rfl⟩) (by decide) ?_;simp only [go_sem];exact jp (if_neg (fun h=>by simp [h.1] at hc))
    have ha:=odT hc;refine qD ?_ ?_<;>intro hc<;>simp only [hc,hK,List.map_cons,List.map_nil,Option.map_some,go_sem]
    · refine qF c762 ?_;simp only [go_sem];refine qF c381 ?_;simp only [go_sem];refine qK (k:=4) (by rfl) (by simp [go_sem]) (qA.isAgg _) (by decide) ?_;simp only [go_sem];rw [if_pos ⟨ha,odT hc⟩];exact jo rfl
    · refine qK (k:=4) (by rfl) (by rfl) (by exact ⟨_,rfl⟩) (by decide) ?_;simp only [go_sem];exact jp (if_neg (fun h=>odF hc h.2))
  have h3:=odF hc;by_cases h10:x.Kind=10∨x.Kind=9
  · obtain ⟨a,hK⟩:=zj ((qt ho).2 (by omega));have ham:a∈x.Kids:=by rw [hK];simp
    have haz:=qA.kid_sz ham;have hal:=a.len_sz;have hr:zE b R lim x l=if qX x=3 then (wF (zk x) a.Kids,2,0) else (qS,0,0):=by unfold zE;rw [hK];simp only [];rw [if_neg h3,if_pos h10]
    rw [hr];have hak:qX x=3→x.Kind=10→a.Kids=[]:=by
      intro h h';obtain ⟨y,hy,h9 | h9⟩:=ZO ho h
      · omega
      · rw [hK] at hy;cases hy;exact WR (qu ho ham) h9.2.1
    refine qD ?_ ?_<;>intro hc<;>simp only [hc,go_sem];rotate_left;refine qD ?_ ?_<;>intro hc<;>simp only [hc,go_sem];rotate_left
    · have:=odF hc;rename_i h;have:=odF h;omega
    all_goals
      refine qF (c760 ho (by omega)) ?_;simp only [go_sem];refine qD ?_ ?_<;>intro hc<;>simp only [hc,go_sem]
      · have hk3:=odT hc;simp only [hK,List.map_cons,List.map_nil,Option.map_some,go_sem];refine qF (c763 ho hk3 (by omega) (by omega) (hak hk3)) ?_;simp only [go_sem];refine qK (k:=4) (by rfl) (by simp [go_sem]) (qA.isAgg _) (by decide) ?_;simp only [go_sem];rw [if_pos hk3];exact jo rfl
      · refine qK (k:=4) (by rfl) (by rfl) (by exact ⟨_,rfl⟩) (by decide) ?_;simp only [go_sem];exact jp (if_neg (odF hc))
  refine qD ?_ ?_<;>intro hc<;>simp only [hc,go_sem]
  · exact absurd (.inl (odT hc)) h10
  refine qD ?_ ?_<;>intro hc<;>simp only [hc,go_sem]
  · exact absurd (.inr (odT hc)) h10
  refine qD ?_ ?_<;>intro hc<;>simp only [hc,go_sem]
  · have h5:=odT hc;obtain ⟨a,c,hK⟩:=zf ((qt ho).1 (by omega));have ham:a∈x.Kids:=by rw [hK];simp
    have hcm:c∈x.Kids:=by rw [hK];simp
    have hr:zE b R lim x l=if a.Kind=4 then (jf (qz a) c,3,jC (qz a) c)
      else if wS b R lim x l=true then (zO (b.Defs.getD a.Value.toNat qS) c,5,0) else (qS,0,0):=by unfold zE;rw [hK];simp only [];rw [if_neg h3,if_neg h10,if_pos h5];rfl
    rw [hr];simp only [hK,List.map_cons,List.map_nil,Option.map_some,go_sem];refine qD ?_ ?_<;>intro hc<;>simp only [hc,go_sem]
    · have h4:=odT hc;obtain ⟨k,hk⟩:=zj ((qt (qu ho ham)).2 (.inl h4));have hk0:qz a=k:=by unfold qz;rw [hk];rfl
      have hkm:k∈a.Kids:=by rw [hk];simp
      have hK0:=hK;replace hK:=And.intro hK hk;simp only [hK,List.map_cons,List.map_nil,Option.map_some,go_sem];refine qF (VB (ze (ze hx ham) hkm) (ze hx hcm)) ?_;simp only [go_sem];refine qK (k:=4) (by rfl) (by simp [go_sem]) (qA.isAgg _) (by decide) ?_;simp only [go_sem];refine qK (k:=4) (by rfl) (by simp [go_sem]) (qA.isAgg _) (by decide) ?_;simp only [go_sem];rw [if_pos h4,hk0];exact jo rfl
    have h4:=odF hc;rw [if_neg h4];have hav:a.Kind=11→0≤a.Value∧a.Value<(b.Defs.length:Nat):=ZQ (qu ho ham) (jv hf ham);refine qF (qSX hK hav hbz (fun d hd=>by have:=((Qc hb).2 d hd).2.2;omega) (by omega) (by omega)) ?_;simp only [go_sem];refine qD ?_ ?_<;>intro hc<;>simp only [hc,go_sem]
    · have hi:=hc;have h11:a.Kind=11:=by
        unfold wS at hi;rw [hK] at hi;simp only [bAt,decide_eq_true_eq] at hi;exact hi.1
      obtain ⟨n,hV⟩:∃n:Nat,a.Value=n:=⟨a.Value.toNat,by have:=hav h11;omega⟩;have hlt:n<b.Defs.length:=by have:=hav h11;omega
      replace hK:=And.intro hK hV;simp only [hK,List.map_cons,List.map_nil,Option.map_some,go_sem];simp only [List.getElem?_map,gEg hlt,Option.map_some,go_sem];simp only [hK,List.map_cons,List.map_nil,Option.map_some,go_sem];refine qF Y9 ?_;simp only [go_sem];refine qK (k:=4) (by rfl) (by simp [go_sem]) (qA.isAgg _) (by decide) ?_;simp only [go_sem];exact jo (by simp [hlt])
    · refine qK (k:=4) (by rfl) (by rfl) (by exact ⟨_,rfl⟩) (by decide) ?_;simp only [go_sem];exact jp rfl
  have h5:=odF hc;refine qD ?_ ?_<;>intro hc<;>simp only [hc,go_sem]
  · have h7:=odT hc;obtain ⟨a,c,hK⟩:=zf ((qt ho).1 (by omega));have ham:a∈x.Kids:=by rw [hK];simp
    have hcm:c∈x.Kids:=by rw [hK];simp
    have hr:zE b R lim x l=if (zA x l).2=0 then (jf c (zA x l).1,4,jC c (zA x l).1) else (qS,0,0):=by unfold zE;rw [hK];simp only [];rw [if_neg h3,if_neg h10,if_neg h5,if_pos h7];rfl
    rw [hr];have hvl:(zA x l).2=0→(zA x l).1.valid=true:=by
      have e:zA x l=qo a (c.levels 0 l) l:=by unfold zA;rw [hK]
      rw [e];exact Vx (ze hx ham)
    refine qF (qZN hK (fun h6=>by obtain ⟨k,hk⟩:=zj ((qt (qu ho ham)).2 (by omega));exact ⟨k,[],hk⟩) (by omega) (by omega) (by omega) (by omega)) ?_;simp only [go_sem];refine z9 (by simp [go_sem]) rfl rfl qA.putall ?_;simp only [go_sem];refine qD ?_ ?_<;>intro hc<;>simp only [hc,go_sem]
    · have h0:=odT hc;simp only [hK,List.map_cons,List.map_nil,Option.map_some,go_sem];refine VC [0] (vs':=[.ept c.enc 0,.ept (zA x l).1.enc 0]) (Cvs.cons (.refl (by simp [AV.tree,go_sem])) (Cvs.cons (.ptr rfl (by decide) rfl (.refl (by simp [go_sem]))) Cvs.nil)) (VB (ze hx hcm) (hvl h0)) ?_;simp only [go_sem];refine qK (k:=4) (by rfl) (by simp [go_sem]) (qA.isAgg _) (by decide) ?_;simp only [go_sem];refine qK (k:=4) (by rfl) (by simp [go_sem]) (qA.isAgg _) (by decide) ?_;simp only [go_sem];rw [if_pos h0];exact jo rfl
    · refine qK (k:=4) (by rfl) (by rfl) (by exact ⟨_,rfl⟩) (by decide) ?_;simp only [go_sem];exact jp (if_neg (odF hc))
  have h7:=odF hc;refine qK (k:=4) (by rfl) (by rfl) (by exact ⟨_,rfl⟩) (by decide) ?_;simp only [go_sem];exact jp (by unfold zE;split;rfl;rw [if_neg h3,if_neg h10,if_neg h5,if_neg h7])
end Go.Ab
namespace Go.Ab
open Go
set_option maxRecDepth 10000
set_option maxHeartbeats 2000000
attribute [local simp] qv qb
def wI (x:qA):List (Int→jz)→Nat→Int→jz
  |[],_,_=>(qS,0,0)
  | r::rs,i,l=>if (r l).2.1=0 then wI x rs (i+1) l else (.mk x.Kind x.Value x.Data (x.Kids.set i (r l).1),(r l).2)
def jR (b:qI) (R:List Int) (lim:Int):qA→Int→jz:=qA.fold fun x rs l=>
  if (zE b R lim x l).2.1=0 then wI x rs 0 (l+qW x.Kind) else zE b R lim x l
theorem WE (b:qI) (R:List Int) (lim:Int) (x:qA) (l:Int):jR b R lim x l=
    if (zE b R lim x l).2.1=0 then wI x (x.Kids.map (jR b R lim)) 0 (l+qW x.Kind) else zE b R lim x l:=by
  unfold jR;rw [qA.fold_eq]
theorem Q2 {x:qA} {f:qA→Int→jz} {i:Nat} {l:Int} (h:i<x.Kids.length):
    wI x ((x.Kids.drop i).map f) i l=if (f x.Kids[i] l).2.1=0 then wI x ((x.Kids.drop (i+1)).map f) (i+1) l else (.mk x.Kind x.Value x.Data (x.Kids.set i (f x.Kids[i] l).1),(f x.Kids[i] l).2):=by
  rw [List.drop_eq_getElem_cons h,List.map_cons,wI]
theorem VW {h:List qC} {v:AV} {y:jz} {g:qA} {r c:Int} (hc:Cv h v g.enc) (e:y=(g,r,c)):Fin (some [v,.int .i64 r,.int .i64 c]) h (jO y):=by
  subst e;unfold Fin;refine .tup rfl ?_;simp only [List.zip_cons_cons,List.zip_nil_left,List.mem_cons,List.not_mem_nil,or_false];rintro p (rfl | rfl | rfl)
  · exact hc
  · exact .refl rfl
  · exact .refl rfl
theorem c836 (x:qA):∀(b:qI) (R:List Int) (lim:Int) (l:Int) (hb:b.ok=true) (hbz:b.sz≤1048576) (hx:x.valid=true) (hf:x.refs b.Defs.length=true) (hR:R.length≤24) (hl:0≤l∧l+x.dep≤1000),Pure Gm 836 [.ept (jK b R lim) 0,.ept x.enc 0,.int .i64 l] (jO (jR b R lim x l)):=by
  induction x using qA.ind with
  | _ x ih=>
  intro b R lim l hb hbz hx hf hR hl;refine Pure.intro [] [] g836 (by kernel_rfl) rfl (by simp [AV.trees,AV.tree,go_sem]) (by simp [AV.tree,AV.trees,go_sem]) ?_;simp only [Zl,qM,go_sem];obtain ⟨ho,hd,hs,hz,hv⟩:=zY hx;have hL:=x.len_sz;have hres:=WE b R lim x l;refine qF (qZA hb hbz hx hf hR (by omega)) ?_;simp only [jO,go_sem];refine qK (k:=4) (by rfl) (by simp [go_sem]) (qA.isAgg _) (by decide) ?_;simp only [go_sem];refine qD ?_ ?_<;>intro hc<;>simp only [hc,go_sem]
  · refine qK (k:=4) (by rfl) (by simp [go_sem]) (qA.isAgg _) (by decide) ?_;simp only [go_sem];rw [hres,if_neg (by simpa using hc)];exact jo rfl
  rw [if_pos (by simpa using hc)] at hres;refine qD ?_ ?_<;>intro hc<;>simp only [hc,go_sem]
  · rw [qj (n:=l+1) (by omega) (by omega)];have hbx:qW x.Kind=1:=by unfold qW;rw [if_pos (odT hc)]
    obtain ⟨m,hm⟩:∃m,m=l+1:=⟨_,rfl⟩;rw [hbx,←hm] at hres;rw [←hm];refine Sem.loop (fun i:Nat=>i≤x.Kids.length∧jR b R lim x l=wI x ((x.Kids.drop i).map (jR b R lim)) i m) (fun i=>(⟨[(0,.ept (jK b R lim) 0),(1,.ept x.enc 0),(2,.int .i64 m),(12,.int .i64 (i:Nat))],[(6,.agg [.int .i64 0,.int .i64 0,.nils,.nils])],[]⟩:VSt)) (fun i=>x.Kids.length-i) 0 (by kernel_rfl) ⟨Nat.zero_le _,hres⟩ (Can.sub (by simp [go_sem]) (by simp [go_sem])) ?_;rintro i ⟨hi,hI⟩;simp only [go_sem];refine qD ?_ ?_<;>intro hc<;>simp only [hc,go_sem]
    · have hlt:i<x.Kids.length:=by have:=odT hc;omega
      simp only [List.getElem?_map,gEg hlt,Option.map_some,go_sem];have hkm:=gMm hlt;have hkd:=qA.dep_kid hkm;rw [Q2 hlt] at hI;refine qF (ih _ hkm b R lim m hb hbz (ze hx hkm) (jv hf hkm) hR (by omega)) ?_;simp only [jO,go_sem];refine qK (k:=4) (by rfl) (by simp [go_sem]) (qA.isAgg _) (by decide) ?_;simp only [go_sem];refine qD ?_ ?_<;>intro hc<;>simp only [hc,go_sem]
      · rw [if_pos (odT hc)] at hI;simp only [qe (show i<4611686018427387904 by omega)];refine qZ (i+1) ⟨by omega, ?_⟩ (by omega) (Can.sub (by simp [go_sem]) (by simp [go_sem]));exact hI
      rw [if_neg (odF hc)] at hI;refine Y1 (ys:=x.Kids.map qA.enc) Els.lst (by simp;omega) ?_;simp only [go_sem];refine qK (k:=4) (by rfl) (by rfl) (by exact ⟨_,rfl⟩) (by decide) ?_;simp only [go_sem];rw [z7 hlt];simp only [go_sem];refine z9 (by simp [go_sem]) rfl (by simp [hlt];rfl) qA.putcore ?_;simp only [go_sem];refine qK (k:=4) (by rfl) (by rfl) (by exact ⟨_,rfl⟩) (by decide) ?_;simp only [go_sem];refine VW (Jm (by simp [List.map_set]) (by simp)) hI
    · obtain rfl:i=x.Kids.length:=by have:=odF hc;omega
      refine qK (k:=4) (by rfl) (by rfl) (by exact ⟨_,rfl⟩) (by decide) ?_;simp only [go_sem];exact jp (by rw [hI,List.drop_length];rfl)
  · have hbx:qW x.Kind=0:=by unfold qW;rw [if_neg (odF hc)]
    rw [hbx,Int.add_zero] at hres;obtain ⟨m,hm⟩:∃m,m=l:=⟨_,rfl⟩;rw [←hm] at hres⊢;refine Sem.loop (fun i:Nat=>i≤x.Kids.length∧jR b R lim x m=wI x ((x.Kids.drop i).map (jR b R lim)) i m) (fun i=>(⟨[(0,.ept (jK b R lim) 0),(1,.ept x.enc 0),(2,.int .i64 m),(12,.int .i64 (i:Nat))],[(6,.agg [.int .i64 0,.int .i64 0,.nils,.nils])],[]⟩:VSt)) (fun i=>x.Kids.length-i) 0 (by kernel_rfl) ⟨Nat.zero_le _,hres⟩ (Can.sub (by simp [go_sem]) (by simp [go_sem])) ?_;rintro i ⟨hi,hI⟩;simp only [go_sem];refine qD ?_ ?_<;>intro hc<;>simp only [hc,go_sem]
    · have hlt:i<x.Kids.length:=by have:=odT hc;omega
      simp only [List.getElem?_map,gEg hlt,Option.map_some,go_sem];have hkm:=gMm hlt;have hkd:=qA.dep_kid hkm;rw [Q2 hlt] at hI;refine qF (ih _ hkm b R lim m hb hbz (ze hx hkm) (jv hf hkm) hR (by omega)) ?_;simp only [jO,go_sem];refine qK (k:=4) (by rfl) (by simp [go_sem]) (qA.isAgg _) (by decide) ?_;simp only [go_sem];refine qD ?_ ?_<;>intro hc<;>simp only [hc,go_sem]
      · rw [if_pos (odT hc)] at hI;simp only [qe (show i<4611686018427387904 by omega)];refine qZ (i+1) ⟨by omega, ?_⟩ (by omega) (Can.sub (by simp [go_sem]) (by simp [go_sem]));exact hI
      rw [if_neg (odF hc)] at hI;refine Y1 (ys:=x.Kids.map qA.enc) Els.lst (by simp;omega) ?_;simp only [go_sem];refine qK (k:=4) (by rfl) (by rfl) (by exact ⟨_,rfl⟩) (by decide) ?_;simp only [go_sem];rw [z7 hlt];simp only [go_sem];refine z9 (by simp [go_sem]) rfl (by simp [hlt];rfl) qA.putcore ?_;simp only [go_sem];refine qK (k:=4) (by rfl) (by rfl) (by exact ⟨_,rfl⟩) (by decide) ?_;simp only [go_sem];refine VW (Jm (by simp [List.map_set]) (by simp)) hI
    · obtain rfl:i=x.Kids.length:=by have:=odF hc;omega
      refine qK (k:=4) (by rfl) (by rfl) (by exact ⟨_,rfl⟩) (by decide) ?_;simp only [go_sem];exact jp (by rw [hI,List.drop_length];rfl)
end Go.Ab
namespace Go.Ab
open Go
set_option maxRecDepth 10000
set_option maxHeartbeats 2000000
attribute [local simp] qv qb
def Asc (n:Int) (xs:List Int):Prop:=xs.Pairwise (· < ·)∧∀k∈xs,0≤k∧k<n
theorem qQ9:∀{xs:List Int} {n k:Int},k∈zM xs n→k=n∨k∈xs
  |[],n,k,h=>by simp [zM] at h;exact .inl h
  | x::xs,n,k,h=>by
    unfold zM at h;split at h
    · rcases List.mem_cons.1 h with rfl | h
      · simp
      · rcases qQ9 h with h | h
        · exact .inl h
        · simp [h]
    · split at h
      · exact .inr h
      · rcases List.mem_cons.1 h with rfl | h
        · exact .inl rfl
        · exact .inr h
theorem qVV:∀{xs:List Int} {n:Int},xs.Pairwise (· < ·)→(zM xs n).Pairwise (· < ·)
  |[],n,_=>by simp [zM]
  | x::xs,n,h=>by
    rw [List.pairwise_cons] at h;unfold zM;split
    · rw [List.pairwise_cons];refine ⟨fun k hk=> ?_,qVV h.2⟩;rcases qQ9 hk with rfl | hk
      · assumption
      · exact h.1 k hk
    · split
      · rw [List.pairwise_cons];exact h
      · rw [List.pairwise_cons,List.pairwise_cons];refine ⟨fun k hk=> ?_,h⟩;rcases List.mem_cons.1 hk with rfl | hk
        · omega
        · have:=h.1 k hk;omega
theorem Asc.put {n:Int} {xs:List Int} (h:Asc n xs) {k:Int} (hk:0≤k∧k<n):Asc n (zM xs k):=
  ⟨qVV h.1,fun j hj=>by rcases qQ9 hj with rfl | hj;exact hk;exact h.2 j hj⟩
theorem Asc.puts {n:Int}:∀(ds:List Int) {xs:List Int},Asc n xs→(∀k∈ds,0≤k∧k<n)→Asc n (ds.foldl zM xs)
  |[],_,h,_=>h
  | d::ds,xs,h,hd=>Asc.puts ds (xs:=zM xs d) (h.put (hd d (by simp))) (fun k hk=>hd k (by simp [hk]))
theorem qT7 {α β:Type} {f:β→α→β} {P:β→Prop}:∀{xs:List α} {c:β},P c→(∀x∈xs,∀c,P c→P (f c x))→P (xs.foldl f c)
  |[],_,h,_=>h
  | x::xs,_,h,hf=>qT7 (xs:=xs) (hf x (by simp) _ h) (fun y hy c hc=>hf y (by simp [hy]) c hc)
theorem qf5 (n:Int):∀x:qA,x.ok=true→x.refs n=true→∀out,Asc n out→Asc n (x.names out):=qA.ind fun x ih ho hr out h=>by
  rw [qA.names_eq];refine qT7 (Asc.puts _ ?_ ?_) (fun y hy c hc=>ih y hy (qu ho hy) (jv hr hy) c hc)
  · split
    · exact h.put (ZQ ho hr (by assumption))
    · exact h
  · intro k hk;rw [qA.refs_eq,bAt,bAt,List.all_eq_true] at hr;have h1:=odT (hr.1.2 k hk);have hn:=w3 ho;unfold zr at hn;simp only [bAt,List.all_eq_true] at hn;have h2:=hn.2 k hk;unfold jl inI at h2;simp at h2;omega
theorem qXP {b:qI} (hb:b.ok=true):∀ys∈zC b,Asc b.Defs.length ys:=by
  intro ys hy;unfold zC at hy;obtain ⟨c,hc,rfl⟩:=List.mem_map.1 hy;obtain ⟨h1,h2⟩:=Qm hb hc;exact qf5 _ c (QD h1).1 h2 [] ⟨List.Pairwise.nil,by simp⟩
theorem qRW {b:qI} (hb:b.ok=true):Zq (zC b):=fun ys hy k hk=>by
  have:=(qXP hb ys hy).2 k hk;rw [zC,List.length_map];exact this
theorem qjS {b:qI} (hb:b.ok=true):∀ys∈zC b,ys.Nodup:=fun ys hy=>by
  refine (qXP hb ys hy).1.imp ?_;intro a b h;omega
theorem qRV {α:Type} {f:α→Nat} {y:α}:∀{xs:List α} {i:Nat} (h:i<xs.length),qG f (xs.set i y)+f xs[i]=qG f xs+f y
  | x::xs,0,_=>by simp [qG];omega
  | x::xs,i+1,h=>by
    have:=qRV (f:=f) (y:=y) (xs:=xs) (i:=i) (by simpa using h);simp only [List.set_cons_succ,qG,List.getElem_cons_succ];omega
theorem qPL (f a:qA):(zO f a).sz=2+f.sz+a.sz:=by rw [qA.sz_eq];simp [zO,qG,go_sem];omega
theorem qQC:∀(as:List qA) (f:qA),(as.foldl zO f).sz≤f.sz+2*as.length+qG qA.sz as
  |[],f=>by simp [qG]
  | a::as,f=>by
    have:=qQC as (zO f a);rw [qPL] at this;simp only [List.foldl_cons,qG,List.length_cons];omega
theorem qUJ {x y:qA} (hx:x.ok=true) (hy:y.ok=true):(jf x y).sz≤4100:=by
  unfold jf;split
  · rename_i h;have hs:=UJ y x 0 hx;have h4:=qA.sz_d4 _ (qRB (QM y hy) x 0 (QM x hx));unfold jC at h;split at h
    · cases h
    · omega
  · have:qS.sz=0:=by rw [qA.sz_eq];rfl
    omega
theorem Wn:qS.sz=0:=by rw [qA.sz_eq];rfl
theorem qhZ {b:qI} {R:List Int} {lim:Int} {x:qA} {l:Int} (hb:b.ok=true) (hx:x.valid=true):(zE b R lim x l).1.sz≤4100:=by
  obtain ⟨ho,hd,hs,hz,hv⟩:=zY hx;have hz0:=Wn;unfold zE;split
  · show qS.sz≤_;omega
  rename_i a ys hK;have ham:a∈x.Kids:=by rw [hK];simp
  have haz:=qA.kid_sz ham;have hys:(ys.headD qS).sz≤x.sz:=by
    match ys,hK with
    |[],_=>show qS.sz≤_;omega
    | c::_,hK=>exact qA.kid_sz (by rw [hK];simp)
  split
  · split
    · show qA.sz (.mk 2 _ [] [])≤_;rw [qA.sz_eq];simp [qG,go_sem]
    · show qS.sz≤_;omega
  split
  · split
    · have:=qQC a.Kids (.mk 11 (zk x) [] []);have h1:=a.sz_eq;have h2:(qA.mk 11 (zk x) [] []).sz=0:=by rw [qA.sz_eq];simp [qG,go_sem]
      show (wF _ _).sz≤_;unfold wF;omega
    · show qS.sz≤_;omega
  split
  · split
    · rename_i h4;obtain ⟨k,hk⟩:=zj ((qt (qu ho ham)).2 (.inl h4));have hk0:qz a=k:=by unfold qz;rw [hk];rfl
      have hkm:k∈a.Kids:=by rw [hk];simp
      rw [hk0];refine qUJ (qu (qu ho ham) hkm) ?_;rename_i h5 _;obtain ⟨a',c,hK'⟩:=zf ((qt ho).1 (by omega));rw [hK'] at hK;cases hK;exact qu ho (by rw [hK'];simp)
    split
    · show (zO _ _).sz≤_;rw [qPL];have:(b.Defs.getD a.Value.toNat qS).sz≤2000:=by
        rw [List.getD_eq_getElem?_getD];rcases h:b.Defs[a.Value.toNat]? with _ | d
        · show qS.sz≤_;omega
        · exact (zY ((Qc hb).2 d (List.mem_of_getElem? h)).1).2.2.2.1
      omega
    · show qS.sz≤_;omega
  split
  · rename_i h7;split
    · rename_i h0;obtain ⟨a',c,hK'⟩:=zf ((qt ho).1 (by omega));have e:zA x l=qo a' (c.levels 0 l) l:=by unfold zA;rw [hK']
      rw [hK'] at hK;cases hK;have hv:=Vx (ze hx ham) (by rw [←e];exact h0);rw [←e] at hv;exact qUJ (qu ho (by rw [hK'];simp)) (zY hv).1
    · show qS.sz≤_;omega
  · show qS.sz≤_;omega
theorem qTS {x:qA} {f:qA→Int→jz} {l:Int} (hf:∀y∈x.Kids,(f y l).1.sz≤y.sz+4100):∀(n i:Nat),i+n=x.Kids.length→(wI x ((x.Kids.drop i).map f) i l).1.sz≤x.sz+4100
  | 0,i,h=>by
    rw [show x.Kids.drop i=[] from List.drop_eq_nil_of_le (by omega)];show qS.sz≤_;rw [Wn];omega
  | n+1,i,h=>by
    have hlt:i<x.Kids.length:=by omega
    rw [Q2 hlt];split
    · exact qTS hf n (i+1) (by omega)
    · show qA.sz (.mk _ _ _ _)≤_;have h1:=qRV (f:=qA.sz) (y:=(f x.Kids[i] l).1) hlt;have h2:=hf _ (gMm hlt);have h3:=x.sz_eq;have h4:=zV (f:=qA.sz) (gMm hlt);rw [qA.sz_eq,qA.mk_data,qA.mk_kids,List.length_set];omega
theorem qdK {b:qI} {R:List Int} {lim:Int} (hb:b.ok=true):∀(x:qA) (l:Int),x.valid=true→(jR b R lim x l).1.sz≤x.sz+4100:=qA.ind fun x ih l hx=>by
  rw [WE];split
  · exact qTS (fun y hy=>ih y hy _ (ze hx hy)) x.Kids.length 0 (by omega)
  · have:=qhZ (R:=R) (lim:=lim) (l:=l) hb hx;omega
def J4 (b:qI) (R:List Int) (lim:Int) (x:qA):jz:=
  let o:=jR b R lim x 0
  (o.1,o.2.1,if ¬o.2.1=0∧o.2.2=0∧o.1.fits=false then 4 else o.2.2)
theorem c480 {b:qI} {lim:Int} (hb:b.ok=true) (hbz:b.sz≤1048576):Pure Gm 480 [.ept b.enc 0,.int .i64 lim] (.ept (jK b (jF (zC b) b.Defs.length) lim) 0):=by
  refine Pure.intro [] [] g480 (by kernel_rfl) rfl (by simp [AV.trees,AV.tree,go_sem]) (by simp [AV.tree,AV.trees,go_sem]) ?_;simp only [X3,qM,go_sem];refine qF (c835 hbz (Qc hb).1 (qRW hb) (qjS hb)) ?_;simp only [go_sem];refine j5 rfl ?_;simp only [go_sem];exact zG (.ptr rfl (by decide) rfl (.refl qa3))
theorem UW {b:qI} {c:qA} {limit budget:Int} (h:zd b c limit budget=0):b.ok=true∧c.valid=true∧c.refs b.Defs.length=true∧c.closed=true∧0≤limit∧limit≤40∧0≤budget∧budget≤2000:=by
  unfold zd at h;split at h
  · rename_i h1;simp only [bAt] at h1;have h2:c.valid=true:=by
      have:=h1.1.2;unfold qA.closed at this;simp only [bAt] at this;exact this.1
    split at h
    · split at h
      · split at h
        · rename_i h3;unfold inI at h3;simp only [bAt,decide_eq_true_eq] at h3;exact ⟨h1.1.1,h2,h1.2,h1.1.2,h3.1.1,h3.1.2,h3.2.1,h3.2.2⟩
        · cases h
      · rename_i h4;exact absurd h h4
    · cases h
  · cases h
noncomputable def z8 (b:qI):List Int:=jF (zC b) b.Defs.length
end Go.Ab
namespace Go.Ab
open Go
set_option maxRecDepth 10000
set_option maxHeartbeats 2000000
attribute [local simp] qv qb
def fzp (n id:Nat) (o:Option qC) (st:VSt):VSt:=match o with
  | some (.row w [v] true)=>if w=0 then st else {s:=(n,.ept v 0)::st.s,l:=st.l,h:=st.h.set id .dead}
  | _=>st
def fzo (n:Nat) (v:Option AV) (st:VSt):VSt:=match v with
  | none=>st
  | some (.ept _ _)=>st
  | some (.lst _ _ _)=>st
  | some (.int _ _)=>st
  | some (.bool _)=>st
  | some .nils=>st
  | some (.agg _)=>st
  | some (.ptr id 0 0)=>fzp n id st.h[id]? st
  | _=>JU n st
section
variable {n id:Nat} {s m:qi} {h:List qC} {v x:AV} {st:VSt}
@[go_sem] theorem zEK:JU n ⟨s,m,h⟩=fzo n (get s n) ⟨s,m,h⟩:=by
  unfold fzo;split<;>rename_i e<;>try (simp only [JU,e];done)
  · simp only [JU,e,fzp];split<;>rename_i e2<;>simp only [e2]
    · split<;>split<;>first | rfl | omega
@[go_sem] theorem zET:get [] n=none:=nr rfl
@[go_sem] theorem zEP:fzo n none st=st:=nr rfl
@[go_sem] theorem zEL {j:Nat}:fzo n (some (.ept v j)) st=st:=nr rfl
@[go_sem] theorem zEN {w:Nat} {xs:List AV} {c:Bool}:fzo n (some (.lst w xs c)) st=st:=nr rfl
@[go_sem] theorem zEO:fzo n (some .nils) st=st:=nr rfl
@[go_sem] theorem zEM {k:IntKind} {i:Int}:fzo n (some (.int k i)) st=st:=nr rfl
@[go_sem] theorem zEQ:fzo n (some (.ptr id 0 0)) ⟨s,m,h⟩=fzp n id h[id]? ⟨s,m,h⟩:=nr rfl
@[go_sem] theorem zER {w:Nat}:fzp n id (some (.row w [v] true)) ⟨s,m,h⟩=if w=0 then ⟨s,m,h⟩ else ⟨(n,.ept v 0)::s,m,h.set id .dead⟩:=nr rfl
end
theorem Zs {α:Type} (p:α→Bool) (xs:List α):(!xs.any fun x=> !p x)=xs.all p:=by
  induction xs with
  | nil=>rfl
  | cons x xs ih=>simp only [List.any_cons,List.all_cons,Bool.not_or,Bool.not_not,ih]
theorem Zy {f:AV} (p:Int→Bool) (hft:f.tree=true) (xs:List Int) (hf:∀x∈xs,Yw Gm f [qE x] (.bool (p x))) (hl:xs.length≤1048576):Pure Gm 397 [.lst 1 (xs.map qE) false,f] (.bool (xs.any p)):=
  qTD shI (gc:=774) g397 g774 f p hft xs hf hl
theorem VA {f:AV} (p:qA→Bool) (hft:f.tree=true) (xs:List qA) (hf:∀x∈xs,Yw Gm f [x.enc] (.bool (p x))) (hl:xs.length≤1048576):Pure Gm 581 [.lst 4 (xs.map qA.enc) false,f] (.bool (xs.any p)):=
  qTD qA.isSh (gc:=958) g581 g958 f p hft xs hf hl
theorem n401 (xs:List Int) (hz:xs.length≤4194304):Fresh Gm 401 [.lst 1 (xs.map qE) false] (.lst 1 (xs.map qE) false):=
  qZ6 (w:=1) g401 (lI xs) (jZ (fun _=>rfl) xs) (zu shI.tree xs) (by simpa using hz)
theorem c801 {n m:Int}:Pure Gm 801 [.int .i64 n,.ept (.int .i64 m) 0] (.bool (!inI n 0 m)):=by
  refine Pure.intro [] [] g801 (by kernel_rfl) rfl (by simp [AV.trees,AV.tree,go_sem]) rfl ?_;simp only [Yb,qM,go_sem]
  repeat' (first | (refine qc rfl ?_;simp only [go_sem]) | (first | (refine qY ?_ ?_<;>intro hc<;>simp only [hc,go_sem]) | (refine qD ?_ ?_<;>intro hc<;>simp only [hc,go_sem])) | refine qL rfl ?_ | refine jd (by rfl) ?_)
  all_goals ((simp only [inI,AV.bool.injEq];rw [Bool.eq_iff_iff];simp at*;try omega))
theorem c436 {m:Int} {xs:List Int} (hl:xs.length≤1048576):Pure Gm 436 [.int .i64 m,.lst 1 (xs.map qE) false] (.bool (xs.all fun n=>inI n 0 m)):=by
  refine Pure.intro [2] [] g436 (by kernel_rfl) rfl (by simp [AV.trees,AV.tree,zu shI.tree]) rfl ?_;simp only [X1,qM,go_sem];refine j5 rfl ?_;simp only [go_sem,List.nil_append,List.set_cons_zero];refine qF (Zy (f:=.fn 801 [.ept (.int .i64 m) 0]) (fun n=> !inI n 0 m) rfl xs (fun x _=>⟨801,_,rfl,c801⟩) hl) ?_;simp only [go_sem];refine qL rfl ?_;rw [Zs]
theorem c796 {n:Int}:Pure Gm 796 [.int .i64 n] (.bool (jl n)):=by
  refine Pure.intro [] [] g796 (by kernel_rfl) rfl (by simp [AV.trees,AV.tree,go_sem]) rfl ?_;simp only [Ya,qM,go_sem]
  repeat' (first | (refine qc rfl ?_;simp only [go_sem]) | (first | (refine qY ?_ ?_<;>intro hc<;>simp only [hc,go_sem]) | (refine qD ?_ ?_<;>intro hc<;>simp only [hc,go_sem])) | refine qL rfl ?_ | refine jd (by rfl) ?_)
  all_goals ((simp only [jl,inI,AV.bool.injEq];rw [Bool.eq_iff_iff];simp at*;try omega))
theorem qY0 {n:Int}:Pure Gm 1050 [.int .i64 n] (.bool (inI n 1 6)):=by
  refine Pure.intro [] [] qbR (by kernel_rfl) rfl (by simp [AV.trees,AV.tree,go_sem]) rfl ?_;simp only [Wx,qM,go_sem]
  repeat' (first | (refine qc rfl ?_;simp only [go_sem]) | (first | (refine qY ?_ ?_<;>intro hc<;>simp only [hc,go_sem]) | (refine qD ?_ ?_<;>intro hc<;>simp only [hc,go_sem])) | refine qL rfl ?_ | refine jd (by rfl) ?_)
  all_goals ((simp only [inI,AV.bool.injEq];rw [Bool.eq_iff_iff];simp at*;try omega))
theorem qY1 {n:Int}:Pure Gm 1051 [.int .i64 n] (.bool (inI n (-2147483648) 2147483647)):=by
  refine Pure.intro [] [] qbS (by kernel_rfl) rfl (by simp [AV.trees,AV.tree,go_sem]) rfl ?_;simp only [Wy,qM,go_sem]
  repeat' (first | (refine qc rfl ?_;simp only [go_sem]) | (first | (refine qY ?_ ?_<;>intro hc<;>simp only [hc,go_sem]) | (refine qD ?_ ?_<;>intro hc<;>simp only [hc,go_sem])) | refine qL rfl ?_ | refine jd (by rfl) ?_)
  all_goals ((simp only [inI,AV.bool.injEq];rw [Bool.eq_iff_iff];simp at*;try omega))
theorem qZL {n:Int}:Pure Gm 1402 [.int .i64 n] (.bool (!jl n)):=by
  refine Pure.intro [] [] qcY (by kernel_rfl) rfl (by simp [AV.trees,AV.tree,go_sem]) rfl ?_;simp only [Xf,qM,go_sem]
  repeat' (first | (refine qc rfl ?_;simp only [go_sem]) | (first | (refine qY ?_ ?_<;>intro hc<;>simp only [hc,go_sem]) | (refine qD ?_ ?_<;>intro hc<;>simp only [hc,go_sem])) | (refine qF (c796) ?_;simp only [go_sem]) | refine qL rfl ?_ | refine jd (by rfl) ?_)
  all_goals (simp_all<;>omega)
theorem c665 (x:qA):∀(hz:x.sz≤1048576) (hd:x.dep≤2097152) (hs:x.size≤2097152),Pure Gm 665 [x.enc] (.tup [.int .i64 (x.dep:Nat),.int .i64 (x.size:Nat)]):=by
  induction x using qA.ind with
  | _ x ih=>
  intro hz hd hs;refine Pure.intro [] [] g665 (by kernel_rfl) rfl (by simp [AV.trees,AV.tree,go_sem]) rfl ?_;simp only [YO,qM,go_sem];have hL:=x.len_sz;have hde:=x.dep_eq;have hse:=x.size_eq;refine qc qA.ln ?_;simp only [go_sem];refine Sem.loop (fun i:Nat=>i≤x.Kids.length∧True) (fun i=>(⟨[(2,.int .i64 ((1+zK qA.dep (x.Kids.take i):Nat):Int)),(3,.int .i64 ((1+qG qA.size (x.Kids.take i):Nat):Int)),(9,.lst 4 (x.Kids.map qA.enc) false),(10,.int .i64 (x.Kids.length:Nat)),(11,.int .i64 (i:Nat))],[(1,x.enc)],[]⟩:VSt)) (fun i=>x.Kids.length-i) 0 (by kernel_rfl) ⟨Nat.zero_le _,by trivial⟩ (Can.sub (by simp [go_sem]) (by simp [go_sem])) ?_;rintro i ⟨hi,hI⟩;simp only [go_sem];refine qD ?_ ?_<;>intro hc<;>simp only [hc,go_sem]
  · have hlt:i<x.Kids.length:=by have:=odT hc;omega
    simp only [List.getElem?_map,gEg hlt,Option.map_some,go_sem];have hm:=gMm hlt;have hk:=qA.kid_sz hm;have hp:=qA.dep_kid hm;refine qK (k:=4) (by rfl) (by simp [go_sem]) (qA.isAgg _) (by decide) ?_;simp only [go_sem];refine qF (ih _ hm (by omega) (by omega) (by have:=zV (f:=qA.size) hm;omega)) ?_;simp only [go_sem];have ht:=ZY (f:=qA.size) hlt;have hle:=Wh qA.size x.Kids (i+1);have e1:((1+qG qA.size (x.Kids.take i):Nat):Int)+x.Kids[i].size=((1+qG qA.size (x.Kids.take (i+1)):Nat):Int):=by omega
    have e2:max ((1+zK qA.dep (x.Kids.take i):Nat):Int) ((x.Kids[i].dep:Int)+1)=((1+zK qA.dep (x.Kids.take (i+1)):Nat):Int):=by rw [WP hlt];omega
    rw [qj (n:=(x.Kids[i].dep:Int)+1) (by omega) (by omega),e1,e2,qj (n:=((1+qG qA.size (x.Kids.take (i+1)):Nat):Int)) (by omega) (by omega)];simp only [qe (show i<4611686018427387904 by omega)];refine qZ (i+1) ⟨by omega, ?_⟩ (by omega) (Can.sub (by simp [go_sem]) (by simp [go_sem]));trivial
  · obtain rfl:i=x.Kids.length:=by have:=odF hc;omega
    rw [List.take_length,←hde,←hse];exact jd (by rfl) rfl
theorem c495 {x:qA} (hz:x.sz≤1048576) (hd:x.dep≤2097152) (hs:x.size≤2097152):Pure Gm 495 [x.enc] (.bool x.fits):=by
  refine Pure.intro [] [] g495 (by kernel_rfl) rfl (by simp [AV.trees,AV.tree,go_sem]) rfl ?_;simp only [X7,qM,go_sem];refine qc qA.ln ?_;simp only [go_sem];refine qF (c665 x hz hd hs) ?_;simp only [go_sem];refine qY ?_ ?_<;>intro hc<;>simp only [hc,go_sem]
  · exact qL rfl (by unfold qA.fits;rw [decide_eq_true (p:=x.dep≤80) (by have:=odT hc;omega),Bool.and_true];simp;omega)
  · exact qL rfl (by unfold qA.fits;rw [decide_eq_false (p:=x.dep≤80) (by simp at hc;omega),Bool.and_false])
theorem qY8 {x:qA} (hz:x.sz≤1048576):Pure Gm 1130 [x.enc] (.bool (zr x)):=by
  refine Pure.intro [] [] qb8 (by kernel_rfl) rfl (by simp [AV.trees,AV.tree,go_sem]) rfl ?_;simp only [XF,qM,go_sem];have hL:=x.len_sz;refine qc qA.ln ?_;simp only [go_sem]
  repeat' (first | (first | (refine qY ?_ ?_<;>intro hc<;>simp only [hc,go_sem]) | (refine qD ?_ ?_<;>intro hc<;>simp only [hc,go_sem])) | (refine qF qY1 ?_;simp only [go_sem]) | (refine qF qY0 ?_;simp only [go_sem]) | (refine qF c796 ?_;simp only [go_sem]) | (refine qF (Zy (f:=.fn 1402 []) (fun n=> !jl n) rfl x.Data (fun y _=>⟨1402,[],rfl,qZL⟩) (by omega)) ?_;simp only [go_sem]) | refine qL rfl ?_)
  all_goals (try rw [Zs])
  all_goals (refine congrArg AV.bool ?_;unfold zr jg shp;simp_all [inI,jl]<;>first | omega | (intros;omega))
end Go.Ab
namespace Go.Ab
open Go
set_option maxRecDepth 10000
set_option maxHeartbeats 2000000
attribute [local simp] qv qb
def Jc (x:qA):AV:=if x.ok=true then .tup [.int .i64 (x.dep:Nat),.int .i64 (x.size:Nat),.bool true] else .tup [.int .i64 0,.int .i64 0,.bool false]
theorem qiR (x:qA):(Jc x).tree=true:=by unfold Jc;split<;>rfl
theorem qXR (x:qA):x.valid=(x.ok&&x.fits):=by
  unfold qA.valid qA.fits;cases x.ok<;>cases decide (x.dep≤80)<;>cases decide (x.size≤400)<;>rfl
theorem c770 (x:qA):∀(hz:x.sz≤1048576) (hd:x.dep≤2097152) (hs:x.size≤2097152),Pure Gm 770 [x.enc] (Jc x):=by
  induction x using qA.ind with
  | _ x ih=>
  intro hz hd hs;refine Pure.intro [] [] g770 (by kernel_rfl) rfl (by simp [AV.trees,AV.tree,go_sem]) (by exact qiR _) ?_;simp only [YZ,qM,go_sem];have hL:=x.len_sz;have hde:=x.dep_eq;have hse:=x.size_eq;have hoe:=x.ok_eq;refine qc qA.ln ?_;simp only [go_sem];refine qF (qY8 hz) ?_;simp only [go_sem];refine qD ?_ ?_<;>intro hc<;>simp only [hc,go_sem]
  · have hn:x.ok=false:=by rw [hoe];simp at hc;simp [hc]
    rw [show Jc x=_ from if_neg (by simp [hn])];exact jd (by rfl) rfl
  have hn:x.ok=x.Kids.all qA.ok:=by rw [hoe];simp at hc;simp [hc]
  refine Sem.loop (fun i:Nat=>i≤x.Kids.length∧x.ok=(x.Kids.drop i).all qA.ok) (fun i=>(⟨[(2,.int .i64 ((1+zK qA.dep (x.Kids.take i):Nat):Int)),(3,.int .i64 ((1+qG qA.size (x.Kids.take i):Nat):Int)),(14,.lst 4 (x.Kids.map qA.enc) false),(15,.int .i64 (x.Kids.length:Nat)),(16,.int .i64 (i:Nat))],[(1,x.enc)],[]⟩:VSt)) (fun i=>x.Kids.length-i) 0 (by kernel_rfl) ⟨Nat.zero_le _,by simp [hn]⟩ (Can.sub (by simp [go_sem]) (by simp [go_sem])) ?_;rintro i ⟨hi,hI⟩;simp only [go_sem];refine qD ?_ ?_<;>intro hc<;>simp only [hc,go_sem]
  · have hlt:i<x.Kids.length:=by have:=odT hc;omega
    simp only [List.getElem?_map,gEg hlt,Option.map_some,go_sem];have hm:=gMm hlt;have hk:=qA.kid_sz hm;have hp:=qA.dep_kid hm;rw [List.drop_eq_getElem_cons hlt,List.all_cons] at hI;refine qK (k:=4) (by rfl) (by simp [go_sem]) (qA.isAgg _) (by decide) ?_;simp only [go_sem];refine qF (ih _ hm (by omega) (by omega) (by have:=zV (f:=qA.size) hm;omega)) ?_;cases hko:x.Kids[i].ok
    · rw [hko,Bool.false_and] at hI;simp only [Jc,hko,go_sem];rw [if_neg (by simp [hI])];exact jd (by rfl) rfl
    · rw [hko,Bool.true_and] at hI;simp only [Jc,hko,go_sem];have ht:=ZY (f:=qA.size) hlt;have hle:=Wh qA.size x.Kids (i+1);have e1:((1+qG qA.size (x.Kids.take i):Nat):Int)+x.Kids[i].size=((1+qG qA.size (x.Kids.take (i+1)):Nat):Int):=by omega
      have e2:max ((1+zK qA.dep (x.Kids.take i):Nat):Int) ((x.Kids[i].dep:Int)+1)=((1+zK qA.dep (x.Kids.take (i+1)):Nat):Int):=by rw [WP hlt];omega
      rw [qj (n:=(x.Kids[i].dep:Int)+1) (by omega) (by omega),e1,e2,qj (n:=((1+qG qA.size (x.Kids.take (i+1)):Nat):Int)) (by omega) (by omega)];simp only [qe (show i<4611686018427387904 by omega)];refine qZ (i+1) ⟨by omega, ?_⟩ (by omega) (Can.sub (by simp [go_sem]) (by simp [go_sem]));exact hI
  · obtain rfl:i=x.Kids.length:=by have:=odF hc;omega
    rw [List.take_length,←hde,←hse];rw [show Jc x=_ from if_pos (by rw [hI];simp)];exact jd (by rfl) rfl
theorem c391 {x:qA} (hz:x.sz≤1048576) (hd:x.dep≤2097152) (hs:x.size≤2097152):Pure Gm 391 [x.enc] (.bool x.valid):=by
  refine Pure.intro [] [] g391 (by kernel_rfl) rfl (by simp [AV.trees,AV.tree,go_sem]) rfl ?_;simp only [X0,qM,go_sem];refine qc qA.ln ?_;simp only [go_sem];refine qF (c770 x hz hd hs) ?_;cases hko:x.ok
  · simp only [Jc,hko,go_sem];exact qL rfl (by rw [qXR,hko];rfl)
  · simp only [Jc,hko,go_sem];refine qF (c495 hz hd hs) ?_;simp only [go_sem];exact qL rfl (by rw [qXR,hko];rfl)
theorem w7 {b:Bool}:Pure Gm 566 [.bool b] (.int .i64 (if b then 1 else 0)):=by
  refine Pure.intro [] [] g566 (by kernel_rfl) rfl (by simp [AV.trees,AV.tree,go_sem]) rfl ?_;simp only [YF,qM,go_sem];refine qD ?_ ?_<;>intro hc<;>simp only [hc,go_sem]
  · exact qL rfl rfl
  · exact qL rfl rfl
theorem Zx {x:qA} {i:Nat}:Pure Gm 1193 [x.enc,.int .i64 (i:Int)] (.int .i64 (qQ x.Kind i)):=by
  refine Pure.intro [] [] qcG (by kernel_rfl) rfl (by simp [AV.trees,AV.tree,go_sem]) rfl ?_;simp only [XN,qM,go_sem];refine qc qA.ln ?_;simp only [go_sem]
  repeat' (first | (first | (refine qY ?_ ?_<;>intro hc<;>simp only [hc,go_sem]) | (refine qD ?_ ?_<;>intro hc<;>simp only [hc,go_sem])) | (refine qF w7 ?_;simp only [go_sem]) | refine qL rfl ?_)
  all_goals (simp_all [qQ]<;>omega)
theorem c880 (x:qA):∀(d:Int) (ho:x.ok=true) (hz:x.sz≤1048576) (hd:0≤d∧d+x.dep≤4194304),Pure Gm 880 [x.enc,.int .i64 d] (.bool (!x.above d)):=by
  induction x using qA.ind with
  | _ x ih=>
  intro d ho hz hd;refine Pure.intro [] [] g880 (by kernel_rfl) rfl (by simp [AV.trees,AV.tree,go_sem]) rfl ?_;simp only [Yl,qM,go_sem];have hL:=x.len_sz;have hae:=x.above_eq d;refine qc qA.ln ?_;simp only [go_sem];refine qY ?_ ?_<;>intro hc<;>simp only [hc,go_sem]
  · have h1:=odT hc;rw [if_pos h1] at hae;refine qD ?_ ?_<;>intro hc<;>simp only [hc,go_sem]
    · exact qL rfl (by rw [hae,decide_eq_true (by have:=odT hc;omega)];rfl)
    have hg:x.above d=jH (fun i y=>y.above (d+qQ x.Kind i)) x.Kids 0:=by
      rw [hae,QN ho h1,decide_eq_false (by have:=odF hc;omega)];rfl
    refine Sem.loop (fun i:Nat=>i≤x.Kids.length∧x.above d=jH (fun i y=>y.above (d+qQ x.Kind i)) (x.Kids.drop i) i) (fun i=>(⟨[(1,.int .i64 d),(17,.lst 4 (x.Kids.map qA.enc) false),(18,.int .i64 (x.Kids.length:Nat)),(19,.int .i64 (i:Nat))],[(2,x.enc)],[]⟩:VSt)) (fun i=>x.Kids.length-i) 0 (by kernel_rfl) ⟨Nat.zero_le _,by simpa using hg⟩ (Can.sub (by simp [go_sem]) (by simp [go_sem])) ?_;rintro i ⟨hi,hI⟩;simp only [go_sem];refine qD ?_ ?_<;>intro hc<;>simp only [hc,go_sem]
    · have hlt:i<x.Kids.length:=by have:=odT hc;omega
      simp only [List.getElem?_map,gEg hlt,Option.map_some,go_sem];refine qK (k:=4) (by rfl) (by simp [go_sem]) (qA.isAgg _) (by decide) ?_;simp only [go_sem];refine qF Zx ?_;simp only [go_sem];have hm:=gMm hlt;have hk:=qA.kid_sz hm;have hp:=qA.dep_kid hm;have hb:=jI x.Kind i;rw [qj (n:=d+qQ x.Kind i) (by omega) (by omega)];refine qF (ih _ hm _ (qu ho hm) (by omega) (by omega)) ?_;simp only [go_sem];rw [j3 hlt,jH] at hI;refine qD ?_ ?_<;>intro hc<;>simp only [hc,go_sem]
      · exact qL rfl (by rw [hI];simp at hc;simp [hc])
      · simp only [qe (show i<4611686018427387904 by omega)];refine qZ (i+1) ⟨by omega, ?_⟩ (by omega) (Can.sub (by simp [go_sem]) (by simp [go_sem]));rw [hI];simp at hc;simp [hc]
    · obtain rfl:i=x.Kids.length:=by have:=odF hc;omega
      exact qL rfl (by rw [hI];simp [jH])
  · rw [if_neg (by simpa using hc)] at hae;have hg:=hae;refine Sem.loop (fun i:Nat=>i≤x.Kids.length∧x.above d=jH (fun i y=>y.above (d+qQ x.Kind i)) (x.Kids.drop i) i) (fun i=>(⟨[(1,.int .i64 d),(17,.lst 4 (x.Kids.map qA.enc) false),(18,.int .i64 (x.Kids.length:Nat)),(19,.int .i64 (i:Nat))],[(2,x.enc)],[]⟩:VSt)) (fun i=>x.Kids.length-i) 0 (by kernel_rfl) ⟨Nat.zero_le _,by simpa using hg⟩ (Can.sub (by simp [go_sem]) (by simp [go_sem])) ?_;rintro i ⟨hi,hI⟩;simp only [go_sem];refine qD ?_ ?_<;>intro hc<;>simp only [hc,go_sem]
    · have hlt:i<x.Kids.length:=by have:=odT hc;omega
      simp only [List.getElem?_map,gEg hlt,Option.map_some,go_sem];refine qK (k:=4) (by rfl) (by simp [go_sem]) (qA.isAgg _) (by decide) ?_;simp only [go_sem];refine qF Zx ?_;simp only [go_sem];have hm:=gMm hlt;have hk:=qA.kid_sz hm;have hp:=qA.dep_kid hm;have hb:=jI x.Kind i;rw [qj (n:=d+qQ x.Kind i) (by omega) (by omega)];refine qF (ih _ hm _ (qu ho hm) (by omega) (by omega)) ?_;simp only [go_sem];rw [j3 hlt,jH] at hI;refine qD ?_ ?_<;>intro hc<;>simp only [hc,go_sem]
      · exact qL rfl (by rw [hI];simp at hc;simp [hc])
      · simp only [qe (show i<4611686018427387904 by omega)];refine qZ (i+1) ⟨by omega, ?_⟩ (by omega) (Can.sub (by simp [go_sem]) (by simp [go_sem]));rw [hI];simp at hc;simp [hc]
    · obtain rfl:i=x.Kids.length:=by have:=odF hc;omega
      exact qL rfl (by rw [hI];simp [jH])
theorem c521 {x:qA} (hz:x.sz≤1048576) (hd:x.dep≤2097152) (hs:x.size≤2097152):Pure Gm 521 [x.enc] (.bool x.closed):=by
  refine Pure.intro [] [] g521 (by kernel_rfl) rfl (by simp [AV.trees,AV.tree,go_sem]) rfl ?_;simp only [YD,qM,go_sem];refine qc qA.ln ?_;simp only [go_sem];refine qF (c391 hz hd hs) ?_;simp only [go_sem];refine qY ?_ ?_<;>intro hc<;>simp only [hc,go_sem]
  · refine qF (c880 x 0 (zY hc).1 hz (by omega)) ?_;simp only [go_sem];exact qL rfl (by unfold qA.closed;rw [hc];rfl)
  · exact qL rfl (by unfold qA.closed;rw [hc];rfl)
end Go.Ab
namespace Go.Ab
open Go
set_option maxRecDepth 10000
set_option maxHeartbeats 2000000
attribute [local simp] qv qb
def Qk (p:qA→Bool):qA→Bool:=qA.fold fun x rs=>p x || rs.any id
theorem qPJ (p:qA→Bool) (x:qA):Qk p x=(p x || x.Kids.any (Qk p)):=by
  unfold Qk;rw [qA.fold_eq];simp
@[go_sem] theorem zEH {g:Nat} {cs:List AV}:(AV.fn g cs).part 0 none=some (.fn g cs):=nr rfl
def qX3 (g:Nat) (cs:List AV) (p:qA→Bool):Prop:=∀y:qA,y.sz≤1048576→Pure Gm g (y.enc::cs) (.bool (p y))
theorem c993 {g:Nat} {cs:List AV} {y:qA} {b:Bool} (ht:AV.trees cs=true) (h:Pure Gm 615 [y.enc,.fn g cs] (.bool b)):Pure Gm 993 [y.enc,.ept (.fn g cs) 0] (.bool b):=by
  refine Pure.intro [] [] g993 (by kernel_rfl) rfl (by simp [AV.trees,AV.tree,go_sem,ht]) rfl ?_;simp only [Yr,qM,go_sem];refine qc qA.ln ?_;simp only [go_sem];refine qF h ?_;simp only [go_sem];exact qL rfl rfl
theorem c615 (x:qA):∀(g:Nat) (cs:List AV) (p:qA→Bool) (ht:AV.trees cs=true) (hp:qX3 g cs p) (hz:x.sz≤1048576),Pure Gm 615 [x.enc,.fn g cs] (.bool (Qk p x)):=by
  induction x using qA.ind with
  | _ x ih=>
  intro g cs p ht hp hz;refine Pure.intro [3] [] g615 (by kernel_rfl) rfl (by simp [AV.trees,AV.tree,go_sem,ht]) rfl ?_;simp only [YI,qM,go_sem];have hL:=x.len_sz;refine qc qA.ln ?_;simp only [go_sem];refine j5 rfl ?_;simp only [go_sem];simp only [go_sem,List.nil_append,List.cons_append,List.set_cons_zero,List.set_cons_succ];refine qF (hp x hz) ?_;simp only [go_sem];refine qY ?_ ?_<;>intro hc<;>simp only [hc,go_sem]
  · refine qF (VA (f:=.fn 993 [.ept (.fn g cs) 0]) (Qk p) (by simp [AV.trees,AV.tree,ht]) x.Kids (fun y hy=>⟨993,_,rfl,c993 ht (ih y hy g cs p ht hp (by have:=qA.kid_sz hy;omega))⟩) (by omega)) ?_;simp only [go_sem];exact qL rfl (by rw [qPJ,hc];rfl)
  · exact qL rfl (by rw [qPJ];simp at hc;simp [hc])
theorem qSV {n m:Int}:Pure Gm 1169 [.int .i64 n,.ept (.int .i64 m) 0] (.bool (decide (m≤n))):=by
  refine Pure.intro [] [] qcC (by kernel_rfl) rfl (by simp [AV.trees,AV.tree,go_sem]) rfl ?_;simp only [XJ,qM,go_sem];exact qL rfl rfl
def QL (n:Int) (x:qA):Bool:=(decide (x.Kind=11)&&decide (n≤x.Value)) || x.Data.any fun k=>decide (n≤k)
theorem qYF (n:Int) (xs:List Int):(xs.all fun k=>decide (k<n))= !(xs.any fun k=>decide (n≤k)):=by
  induction xs with
  | nil=>rfl
  | cons a xs ih=>
    simp only [List.all_cons,List.any_cons,ih,Bool.not_or];congr 1;rw [Bool.eq_iff_iff];simp
theorem qR7 {α:Type} {p q:α→Bool}:∀{xs:List α},(∀x∈xs,p x= !q x)→xs.all p= !xs.any q
  |[],_=>rfl
  | x::xs,h=>by simp only [List.all_cons,List.any_cons,Bool.not_or];rw [h x (by simp),qR7 (fun y hy=>h y (by simp [hy]))]
theorem qhQ (n:Int):∀x:qA,x.refs n= !Qk (QL n) x:=qA.ind fun x ih=>by
  rw [qA.refs_eq,qPJ,QL,qYF,Bool.not_or,Bool.not_or,qR7 ih]
theorem qZC {x:qA} {m:Int} (hz:x.sz≤1048576):Pure Gm 1168 [x.enc,.ept (.int .i64 m) 0] (.bool (QL m x)):=by
  refine Pure.intro [] [] qcB (by kernel_rfl) rfl (by simp [AV.trees,AV.tree,go_sem]) rfl ?_;simp only [XI,qM,go_sem];have hL:=x.len_sz;refine qc qA.ln ?_;simp only [go_sem];refine qY ?_ ?_<;>intro hc<;>simp only [hc,go_sem]
  · have h11:=hc;refine qY ?_ ?_<;>intro hc<;>simp only [hc,go_sem]
    · refine qF (Zy (f:=.fn 1169 [.ept (.int .i64 m) 0]) (fun n=>decide (m≤n)) rfl x.Data (fun y _=>⟨1169,_,rfl,qSV⟩) (by omega)) ?_;simp only [go_sem];exact qL rfl (by unfold QL;rw [h11,hc];rfl)
    · exact qL rfl (by unfold QL;rw [h11];simp at hc;simp [hc])
  · refine qF (Zy (f:=.fn 1169 [.ept (.int .i64 m) 0]) (fun n=>decide (m≤n)) rfl x.Data (fun y _=>⟨1169,_,rfl,qSV⟩) (by omega)) ?_;simp only [go_sem];exact qL rfl (by unfold QL;simp at hc;simp [hc])
theorem c847 {x:qA} {n:Int} (hz:x.sz≤1048576):Pure Gm 847 [x.enc,.int .i64 n] (.bool (x.refs n)):=by
  refine Pure.intro [3] [] g847 (by kernel_rfl) rfl (by simp [AV.trees,AV.tree,go_sem]) rfl ?_;simp only [Ye,qM,go_sem];refine qc qA.ln ?_;simp only [go_sem];refine j5 rfl ?_;simp only [go_sem];simp only [go_sem,List.nil_append,List.cons_append,List.set_cons_zero,List.set_cons_succ];refine qF (c615 x 1168 [.ept (.int .i64 n) 0] (QL n) rfl (fun y hy=>qZC hy) hz) ?_;simp only [go_sem];exact qL rfl (by rw [qhQ])
theorem c851 {x:qA} {b:qI} (hz:x.sz≤1048576) (hd:x.dep≤2097152) (hs:x.size≤2097152):Pure Gm 851 [x.enc,.ept b.enc 0] (.bool (!(x.closed&&x.refs b.Defs.length))):=by
  refine Pure.intro [] [] g851 (by kernel_rfl) rfl (by simp [AV.trees,AV.tree,go_sem]) rfl ?_;simp only [Yi,qM,go_sem];refine qc qA.ln ?_;simp only [go_sem];refine qF (c521 hz hd hs) ?_;simp only [go_sem];refine qY ?_ ?_<;>intro hc<;>simp only [hc,go_sem]
  · refine qF (c847 hz) ?_;simp only [go_sem];exact qL rfl (by simp at hc;simp [hc])
  · exact qL rfl (by simp at hc;simp [hc])
theorem c498 {b:qI} (hz:b.sz≤1048576):Pure Gm 498 [b.enc] (.bool b.ok):=by
  refine Pure.intro [1] [] g498 (by kernel_rfl) rfl (by simp [AV.trees,AV.tree,go_sem]) rfl ?_;simp only [X9,qM,go_sem];have hz':b.Defs.length+qG qA.sz b.Defs≤1048576:=hz;refine j5 rfl ?_;simp only [go_sem];simp only [go_sem,List.nil_append,List.cons_append,List.set_cons_zero,List.set_cons_succ];refine qY ?_ ?_<;>intro hc<;>simp only [hc,go_sem]
  · have h1:=odF hc;refine qD ?_ ?_<;>intro hc<;>simp only [hc,go_sem]
    · exact qL rfl (by have:=odT hc;unfold qI.ok inI;rw [decide_eq_false (p:=(b.Defs.length:Int)≤24) (by omega)];simp)
    have h2:=odF hc;refine qF (VA (f:=.fn 851 [.ept b.enc 0]) (fun x=> !(x.closed&&x.refs b.Defs.length)) (by simp [AV.trees,AV.tree,go_sem]) b.Defs (fun y hy=>⟨851,_,rfl,c851 (by have:=zV (f:=qA.sz) hy;omega) (by have:=zV (f:=qA.sz) hy;have:=y.dep_size;have:=y.size_sz;omega) (by have:=zV (f:=qA.sz) hy;have:=y.size_sz;omega)⟩) (by omega)) ?_;simp only [go_sem];exact qL rfl (by unfold qI.ok inI;rw [Zs,decide_eq_true (p:=(1:Int)≤b.Defs.length) (by omega),decide_eq_true (p:=(b.Defs.length:Int)≤24) (by omega)];rfl)
  · exact qL rfl (by simp at hc;unfold qI.ok inI;rw [decide_eq_false (p:=(1:Int)≤b.Defs.length) (by omega)];simp)
end Go.Ab
namespace Go.Ab
open Go
set_option maxRecDepth 10000
set_option maxHeartbeats 2000000
attribute [local simp] qv qb
theorem Zv (k:Int):(if decide (k=6)=true then (1:Int) else 0)=qW k:=by unfold qW;simp
theorem Qn (k:Int):0≤qW k∧qW k≤1:=by unfold qW;split<;>omega
theorem qPH (x:qA):∀(v l:Int) (xs:List Int) (_:x.ok=true) (_:x.sz≤1048576) (_:0≤v∧v+x.dep≤4194304) (_:0≤l∧l+x.dep≤4194304) (_:xs.length+x.size≤4194304),
    Acc Gm 1194 [x.enc,.int .i64 v,.int .i64 l] 1 (xs.map qE) ((xs++x.levels v l).map qE):=by
  induction x using qA.ind with
  | _ x ih=>
  intro v l xs hok hz hv hl hx h id K ho hK;have hL:=x.len_sz;have hid:id<h.length:=(List.getElem?_eq_some_iff.1 ho).1;refine SCall.run [] [] qcH (by kernel_rfl) rfl ?_;simp only [List.cons_append,List.nil_append,XO,qM,go_sem];refine qc qA.ln ?_;simp only [go_sem];have fin:x.levels v l=qg (fun i y=>qA.levels y (v+qQ x.Kind i) (l+qW x.Kind)) x.Kids 0→True:=fun _=>trivial;have hb0:=Qn x.Kind;refine qY ?_ ?_<;>intro hc<;>simp only [hc,go_sem]
  · have hk:=odT hc;refine qD ?_ ?_<;>intro hc<;>simp only [hc,go_sem]
    · refine jX (el:=xs.map qE) wK (by rw [List.getElem?_append_left hid];exact ho) (by simp) (by omega) ?_;simp only [go_sem];have e:x.levels v l=[l]:=by rw [x.levels_eq];simp_all
      rw [e] at hK;have:=hK _ _ (zI.ofApp (X:=[.row 1 [.int .i64 l] true]) (zI.app (by rw [List.getElem?_append_left hid];exact ho)) hid);simpa [qE] using this
    have hk1:x.levels v l=qg (fun i y=>qA.levels y (v+qQ x.Kind i) (l+qW x.Kind)) x.Kids 0:=by
      rw [x.levels_eq,if_pos hk,if_neg (odF hc),QN hok hk];rfl
    refine Sem.loop (fun a:Nat×List qC×Nat=>a.1≤x.Kids.length∧zI h id 1 ((xs++qg (fun i y=>qA.levels y (v+qQ x.Kind i) (l+qW x.Kind)) (x.Kids.take a.1) 0).map qE) a.2.1 a.2.2)
      (fun a=>(⟨[(1,.int .i64 v),(2,.int .i64 l),(3,.slice 1 a.2.2 0 (xs.length+(qg (fun i y=>qA.levels y (v+qQ x.Kind i) (l+qW x.Kind)) (x.Kids.take a.1) 0).length) false),(25,.lst 4 (x.Kids.map qA.enc) false),(26,.int .i64 (x.Kids.length:Nat)),(27,.int .i64 (a.1:Nat))],[(4,x.enc)],a.2.1⟩:VSt)) (fun a=>x.Kids.length-a.1) (0,h,id) (by kernel_rfl) ⟨Nat.zero_le _,by simpa [qg] using zI.refl ho⟩
      (Can.sub (by simp [go_sem,qg]) (by simp [go_sem])) ?_
    rintro ⟨i,h',id'⟩ ⟨hi,hG⟩;simp only at hi hG;simp only [go_sem];have hfl:=Q4 x v l i;refine qD ?_ ?_<;>intro hc<;>simp only [hc,go_sem]
    · have hlt:i<x.Kids.length:=by have:=odT hc;omega
      simp only [List.getElem?_map,gEg hlt,Option.map_some,go_sem];have hm:=gMm hlt;have hk:=qA.kid_sz hm;have hp:=qA.dep_kid hm;have hb:=jI x.Kind i;have hft:=Vb (f:=fun i y=>qA.levels y (v+qQ x.Kind i) (l+qW x.Kind)) (k:=0) hlt;have hfl2:=Q4 x v l (i+1);rw [hft,Nat.zero_add,lAp] at hfl2;refine qK (k:=4) (by rfl) (by simp [go_sem]) (qA.isAgg _) (by decide) ?_;simp only [go_sem];refine qF Zx ?_;simp only [go_sem];refine qF w7 ?_;simp only [go_sem];rw [Zv,qj (n:=v+qQ x.Kind i) (by omega) (by omega),qj (n:=l+qW x.Kind) (by omega) (by omega)];have hsz:=qA.size_kid hlt v l;refine Zz (ih _ hm (v+qQ x.Kind i) (l+qW x.Kind) (xs++qg (fun i y=>qA.levels y (v+qQ x.Kind i) (l+qW x.Kind)) (x.Kids.take i) 0) (qu hok hm) (by omega) (by omega) (by omega) (by rw [lAp];omega)) hG.at' (by simp) rfl ?_;intro h2 id2 hG2;simp only [go_sem];simp only [qe (show i<4611686018427387904 by omega)];refine qZ (i+1,h2,id2) ⟨by omega, ?_⟩ (by simp only;omega) (Can.sub ?_ (by simp [go_sem]))
      · rw [hft,Nat.zero_add,←List.append_assoc];exact hG.trans hG2
      · simp only [hft,Nat.zero_add];simp [go_sem,Nat.add_assoc]
    · have e:i=x.Kids.length:=by have:=odF hc;omega
      subst e;rw [List.take_length] at hG⊢;rw [hk1] at hK;have:=hK _ _ hG;simpa using this
  · have hk1:x.levels v l=qg (fun i y=>qA.levels y (v+qQ x.Kind i) (l+qW x.Kind)) x.Kids 0:=by rw [x.levels_eq,if_neg (by simpa using hc)]
    refine Sem.loop (fun a:Nat×List qC×Nat=>a.1≤x.Kids.length∧zI h id 1 ((xs++qg (fun i y=>qA.levels y (v+qQ x.Kind i) (l+qW x.Kind)) (x.Kids.take a.1) 0).map qE) a.2.1 a.2.2)
      (fun a=>(⟨[(1,.int .i64 v),(2,.int .i64 l),(3,.slice 1 a.2.2 0 (xs.length+(qg (fun i y=>qA.levels y (v+qQ x.Kind i) (l+qW x.Kind)) (x.Kids.take a.1) 0).length) false),(25,.lst 4 (x.Kids.map qA.enc) false),(26,.int .i64 (x.Kids.length:Nat)),(27,.int .i64 (a.1:Nat))],[(4,x.enc)],a.2.1⟩:VSt)) (fun a=>x.Kids.length-a.1) (0,h,id) (by kernel_rfl) ⟨Nat.zero_le _,by simpa [qg] using zI.refl ho⟩
      (Can.sub (by simp [go_sem,qg]) (by simp [go_sem])) ?_
    rintro ⟨i,h',id'⟩ ⟨hi,hG⟩;simp only at hi hG;simp only [go_sem];have hfl:=Q4 x v l i;refine qD ?_ ?_<;>intro hc<;>simp only [hc,go_sem]
    · have hlt:i<x.Kids.length:=by have:=odT hc;omega
      simp only [List.getElem?_map,gEg hlt,Option.map_some,go_sem];have hm:=gMm hlt;have hk:=qA.kid_sz hm;have hp:=qA.dep_kid hm;have hb:=jI x.Kind i;have hft:=Vb (f:=fun i y=>qA.levels y (v+qQ x.Kind i) (l+qW x.Kind)) (k:=0) hlt;have hfl2:=Q4 x v l (i+1);rw [hft,Nat.zero_add,lAp] at hfl2;refine qK (k:=4) (by rfl) (by simp [go_sem]) (qA.isAgg _) (by decide) ?_;simp only [go_sem];refine qF Zx ?_;simp only [go_sem];refine qF w7 ?_;simp only [go_sem];rw [Zv,qj (n:=v+qQ x.Kind i) (by omega) (by omega),qj (n:=l+qW x.Kind) (by omega) (by omega)];have hsz:=qA.size_kid hlt v l;refine Zz (ih _ hm (v+qQ x.Kind i) (l+qW x.Kind) (xs++qg (fun i y=>qA.levels y (v+qQ x.Kind i) (l+qW x.Kind)) (x.Kids.take i) 0) (qu hok hm) (by omega) (by omega) (by omega) (by rw [lAp];omega)) hG.at' (by simp) rfl ?_;intro h2 id2 hG2;simp only [go_sem];simp only [qe (show i<4611686018427387904 by omega)];refine qZ (i+1,h2,id2) ⟨by omega, ?_⟩ (by simp only;omega) (Can.sub ?_ (by simp [go_sem]))
      · rw [hft,Nat.zero_add,←List.append_assoc];exact hG.trans hG2
      · simp only [hft,Nat.zero_add];simp [go_sem,Nat.add_assoc]
    · have e:i=x.Kids.length:=by have:=odF hc;omega
      subst e;rw [List.take_length] at hG⊢;rw [hk1] at hK;have:=hK _ _ hG;simpa using this
end Go.Ab
namespace Go.Ab
open Go
set_option maxRecDepth 10000
set_option maxHeartbeats 2000000
def zZ (s:List Int×Option Int) (x:Int):List Int×Option Int:=(if s.2=some x then s.1 else s.1++[x],some x)
def comp (xs:List Int):List Int:=(xs.foldl zZ ([],none)).1
theorem qS7:∀(xs:List Int) (s:List Int×Option Int),(xs.foldl zZ s).2=match xs.getLast? with | some y=>some y | none=>s.2
  |[],_=>rfl
  | x::xs,s=>by
    rw [List.foldl_cons,qS7 xs (zZ s x)];rw [List.getLast?_cons];cases xs.getLast?<;>rfl
theorem qP1 {xs:List Int} {i:Nat} (h:i+1<xs.length):comp (xs.take (i+2))=if xs[i]'(by omega)=xs[i+1] then comp (xs.take (i+1)) else comp (xs.take (i+1))++[xs[i+1]]:=by
  unfold comp;rw [List.take_succ_eq_append_getElem h,List.foldl_append];simp only [List.foldl_cons,List.foldl_nil];have e:(List.foldl zZ ([],none) (xs.take (i+1))).2=some (xs[i]'(by omega)):=by
    rw [qS7,List.getLast?_eq_getElem?];simp only [List.length_take];rw [List.getElem?_take];simp [show min (i+1) xs.length-1=i by omega,show i<xs.length by omega]
  generalize List.foldl zZ ([],none) (xs.take (i+1))=s at e⊢;simp only [zZ,e,Option.some.injEq]
theorem qaC {xs:List Int} (h:1≤xs.length):comp (xs.take 1)=xs.take 1:=by
  match xs,h with
  | x::xs,_=>rfl
theorem qaD {xs:List Int} (h:xs.length<2):comp xs=xs:=by
  match xs,h with
  |[],_=>rfl
  |[x],_=>rfl
theorem qWU {h:List qC} {id:Nat} {o:qC} (ho:h[id]?=some o):h.set id o=h:=List.ext_getElem? fun i=>by
  rw [List.getElem?_set];split
  · rename_i e;subst e;split
    · rw [ho]
    · rename_i hn;rw [List.getElem?_eq_none (by omega)]
  · rfl
theorem qQ5 {h:List qC} {id p:Nat} {xs:List Int} (ho:h[id]?=some (.row 1 (xs.map qE) true)) (hp:p<xs.length):wA none 0 p h[id]?=some (.int .i64 xs[p]):=by
  rw [ho];simp only [wA,List.getElem?_map,gEg hp,Option.map_some,qE];rfl
theorem UE {h:List qC} {id p:Nat} {xs:List Int} {v:Int} (ho:h[id]?=some (.row 1 (xs.map qE) true)) (hp:xs[p]?=some v):wA none 0 p h[id]?=some (.int .i64 v):=by
  rw [ho];simp only [wA,List.getElem?_map,hp,Option.map_some,qE];rfl
theorem qP7 {α:Type} {zs xs:List α} {m:Nat} (h:zs.drop m=xs.drop m) {i:Nat} (hi:m≤i):zs[i]?=xs[i]?:=by
  have:=congrArg (fun l:List α=>l[i-m]?) h;simp only [List.getElem?_drop] at this;rwa [show m+(i-m)=i by omega] at this
theorem qRK {h:List qC} {id:Nat} {xs:List Int} {K:AV→List qC→Prop} (ho:h[id]?=some (.row 1 (xs.map qE) true)) (hl:xs.length≤4194304)
    (hK:K (.slice 1 id 0 (comp xs).length false) (h.set id (.row 1 ((comp xs).map qE) true))):SCall Gm 1042 [.slice 1 id 0 xs.length false] h K:=by
  refine SCall.cut id (comp xs).length 1 ?_;refine SCall.run [] [] qbQ (by kernel_rfl) rfl ?_;simp only [Ww,qM,go_sem];have hid:id<h.length:=(List.getElem?_eq_some_iff.1 ho).1;have same:comp xs=xs→∃el,h[id]?=some (qC.row 1 el true)∧K (.slice 1 id 0 xs.length false) (h.set id (qC.row 1 (el.take (comp xs).length) true)):=by
    intro e;refine ⟨_,ho, ?_⟩;rw [e] at hK⊢;rwa [List.take_of_length_le (by simp)]
  refine qD ?_ ?_<;>intro hc<;>simp only [hc,go_sem]
  · exact same (qaD (by have:=odT hc;omega))
  have hn:=odF hc;refine Sem.loop (fun j:Nat=>j+1≤xs.length∧comp (xs.take (j+1))=xs.take (j+1)) (fun j=>(⟨[(0,.slice 1 id 0 xs.length false),(3,.int .i64 ((j+1:Nat):Int))],[],h⟩:VSt)) (fun j=>xs.length-j) 0 (by kernel_rfl) ⟨by omega,qaC (by omega)⟩ (Can.sub (by simp [go_sem]) (by simp [go_sem])) ?_;rintro j ⟨hj,hI⟩;simp only [go_sem];refine qD ?_ ?_<;>intro hc<;>simp only [hc,go_sem]
  · have hlt:j+1<xs.length:=by have:=odT hc;omega
    have hj0:j<xs.length:=by omega
    rw [z7 hlt];simp only [Nat.zero_add,go_sem];rw [qQ5 ho hlt];simp only [go_sem];rw [show ((j+1:Nat):Int)-1=(j:Int) by omega,qj (n:=(j:Int)) (by omega) (by omega),z7 hj0];simp only [Nat.zero_add,go_sem];rw [qQ5 ho hj0];simp only [go_sem];refine qD ?_ ?_<;>intro hc<;>simp only [hc,go_sem]
    · have hd:=odT hc;refine QS (v:=.slice 1 id (j+1) (xs.length-(j+1)) false) (by simp [val,bnd,go_sem,show (0:Int)≤(j:Int)+1∧(j:Int)+1≤(xs.length:Int) by omega]) ?_;simp only [go_sem];have hcp:comp (xs.take (j+2))=xs.take (j+1):=by rw [qP1 hlt,if_pos hd.symm,hI]
      refine Sem.loop (fun a:Nat×List Int×Nat×List qC=>j+1+a.1+1≤xs.length∧a.2.1.length=xs.length∧a.2.1.drop (j+1+a.1)=xs.drop (j+1+a.1)∧a.2.1.take a.2.2.1=comp (xs.take (j+1+a.1+1))∧a.2.2.1≤j+1+a.1∧a.2.2.2=h.set id (.row 1 (a.2.1.map qE) true))
        (fun a=>(⟨[(0,.slice 1 id 0 xs.length false),(3,.int .i64 (a.2.2.1:Nat)),(4,.slice 1 id (j+1) (xs.length-(j+1)) false),(5,.int .i64 ((a.1+1:Nat):Int))],[],a.2.2.2⟩:VSt)) (fun a=>xs.length-a.1) (0,xs,j+1,h) (by kernel_rfl) ⟨by first | omega | (simp only;omega),rfl,rfl,hcp.symm,Nat.le_refl _,(qWU ho).symm⟩ (Can.sub (by simp [go_sem]) (by simp [go_sem])) ?_
      rintro ⟨q,zs,k,h'⟩ ⟨hq,hzl,hzd,hzt,hkq,hh⟩;simp only at hq hzl hzd hzt hkq hh⊢;subst hh;have ho':(h.set id (qC.row 1 (zs.map qE) true))[id]?=some (.row 1 (zs.map qE) true):=by simp [hid]
      simp only [go_sem];refine qD ?_ ?_<;>intro hc<;>simp only [hc,go_sem]
      · have hq2:q+1<xs.length-(j+1):=by have:=odT hc;omega
        have hx1:j+1+q+1<xs.length:=by omega
        have hx0:j+1+q<xs.length:=by omega
        rw [z7 hq2];simp only [go_sem];rw [UE (v:=xs[j+1+q+1]) ho' (by rw [show j+1+(q+1)=j+1+q+1 by omega,qP7 hzd (by omega),gEg hx1])];simp only [go_sem];rw [show ((q+1:Nat):Int)-1=(q:Int) by omega,qj (n:=(q:Int)) (by omega) (by omega),z7 (n:=q) (by omega)];simp only [go_sem];rw [UE (v:=xs[j+1+q]) ho' (by rw [qP7 hzd (by omega),gEg hx0])];simp only [go_sem];have hcs:=qP1 (xs:=xs) (i:=j+1+q) hx1;refine qD ?_ ?_<;>intro hc<;>simp only [hc,go_sem]
        · have hne:¬xs[j+1+q]=xs[j+1+q+1]:=by simp at hc;exact fun e=>hc e.symm
          rw [if_neg hne] at hcs;have hk:k<zs.length:=by omega
          rw [z7 hq2];simp only [go_sem];rw [UE (v:=xs[j+1+q+1]) ho' (by rw [show j+1+(q+1)=j+1+q+1 by omega,qP7 hzd (by omega),gEg hx1])];simp only [go_sem];rw [z7 (n:=k) (by omega)];simp only [Nat.zero_add,go_sem];refine z9 (by rfl) ho' (by rw [List.getElem?_map,gEg hk];rfl) (by rfl) ?_;simp only [go_sem];have hm:(zs.map qE).set k (.int .i64 xs[j+1+q+1])=(zs.set k xs[j+1+q+1]).map qE:=by simp [List.map_set,qE]
          rw [List.set_set,hm,qj (n:=((q+1:Nat):Int)+1) (by omega) (by omega),qj (n:=(k:Int)+1) (by omega) (by omega)];refine qZ (q+1,zs.set k xs[j+1+q+1],k+1,h.set id (.row 1 ((zs.set k xs[j+1+q+1]).map qE) true)) ⟨by first | omega | (simp only;omega),by simpa using hzl, ?_, ?_,by first | omega | (simp only;omega),rfl⟩ (by first | omega | (simp only;omega)) (Can.sub (by simp [go_sem]) (by simp [go_sem]))
          · simp only;rw [List.drop_set_of_lt (by omega)];have:=congrArg (List.drop 1) hzd;simpa [List.drop_drop,Nat.add_assoc] using this
          · simp only;rw [show j+1+(q+1)+1=j+1+q+2 by omega,hcs,←hzt,List.take_succ_eq_append_getElem (by simpa using hk),List.take_set_of_le (Nat.le_refl _)];simp
        · have heq:xs[j+1+q]=xs[j+1+q+1]:=by simp at hc;exact hc.symm
          rw [if_pos heq] at hcs;rw [qj (n:=((q+1:Nat):Int)+1) (by omega) (by omega)];refine qZ (q+1,zs,k,h.set id (.row 1 (zs.map qE) true)) ⟨by first | omega | (simp only;omega),hzl, ?_, ?_,by first | omega | (simp only;omega),rfl⟩ (by first | omega | (simp only;omega)) (Can.sub (by simp [go_sem]) (by simp [go_sem]))
          · simp only;have:=congrArg (List.drop 1) hzd;simpa [List.drop_drop,Nat.add_assoc] using this
          · simp only;rw [show j+1+(q+1)+1=j+1+q+2 by omega,hcs,←hzt]
      · have hqe:j+1+q+1=xs.length:=by have:=odF hc;omega
        rw [hqe,List.take_length] at hzt;have hkl:(comp xs).length=k:=by rw [←hzt];simp;omega
        refine QS (v:=.slice 1 id k (xs.length-k) false) (by simp [val,bnd,go_sem,show k≤xs.length by omega]) ?_;simp only [go_sem];refine qZ9 ho' (by simp;omega) (by simp;omega) ?_;simp only [go_sem];refine QS (v:=.slice 1 id 0 k false) (by simp [val,bnd,go_sem,show k≤xs.length by omega]) ?_;simp only [go_sem];have hlen:(List.take k (List.map qE zs)).length=k:=by simp;omega
        refine ⟨_,by rw [List.set_set,List.getElem?_set_self hid], ?_⟩;rw [List.set_set,List.set_set,hkl,List.take_append_of_le_length (by omega),List.take_of_length_le (by omega),←List.map_take,hzt];rw [hkl] at hK;exact hK
    · rw [qj (n:=((j+1:Nat):Int)+1) (by omega) (by omega)];have hd:=odF hc;refine qZ (j+1) ⟨by omega, ?_⟩ (by omega) (Can.sub (by simp [go_sem]) (by simp [go_sem]));rw [show j+1+1=j+2 from rfl,qP1 hlt,if_neg (fun e=>hd e.symm),hI,←List.take_succ_eq_append_getElem hlt]
  · have e:j+1=xs.length:=by have:=odF hc;omega
    rw [e,List.take_length] at hI;exact same hI
end Go.Ab
namespace Go.Ab
open Go
set_option maxRecDepth 10000
set_option maxHeartbeats 2000000
attribute [local simp] qv qb
theorem qZG {x y:qA} {l:Int} {b:Bool} (hl:0≤l∧l≤100) (h:Pure Gm 881 [y.enc,.int .i64 (l+qW x.Kind)] (.bool b)):Pure Gm 1195 [y.enc,.ept (.int .i64 l) 0,.ept x.enc 0] (.bool (!b)):=by
  refine Pure.intro [] [] qcI (by kernel_rfl) rfl (by simp [AV.trees,AV.tree,go_sem]) rfl ?_;simp only [XP,qM,go_sem];refine qc qA.ln ?_;simp only [go_sem];have hb:=Qn x.Kind;refine qF w7 ?_;simp only [go_sem];rw [Zv,qj (by omega) (by omega)];refine qF h ?_;simp only [go_sem];exact qL rfl rfl
theorem qaB:∀(xs:List Int),decide ((comp xs).length≤1)=xs.all fun k=>decide (some k=xs.head?):=by
  have key:∀(xs acc:List Int) (o:Option Int),acc.length≤(xs.foldl zZ (acc,o)).1.length:=by
    intro xs
    induction xs with
    | nil=>intro acc o;exact Nat.le_refl _
    | cons x xs ih=>
      intro acc o;rw [List.foldl_cons];unfold zZ;split
      · exact ih _ _
      · refine Nat.le_trans ?_ (ih _ _);simp
  have k2:∀(xs:List Int) (n:Int),decide ((xs.foldl zZ ([n],some n)).1.length≤1)=xs.all fun k=>decide (k=n):=by
    intro xs n
    induction xs with
    | nil=>rfl
    | cons x xs ih=>
      rw [List.foldl_cons,List.all_cons];by_cases e:x=n
      · subst e;rw [show zZ ([x],some x) x=([x],some x) by simp [zZ],ih];simp
      · rw [show zZ ([n],some n) x=([n,x],some x) by simp [zZ,Ne.symm e]];have:=key xs [n,x] (some x);rw [decide_eq_false (by simp at this;omega),decide_eq_false e];rfl
  intro xs;cases xs with
  | nil=>rfl
  | cons x xs=>
    unfold comp;rw [List.foldl_cons,show zZ ([],none) x=([x],some x) by simp [zZ],k2];simp
theorem qaA (n:Int) (L:List Int):∃r,comp (n::L)=n::r:=by
  have key:∀(xs acc:List Int) (o:Option Int),∃r,(xs.foldl zZ (acc,o)).1=acc++r:=by
    intro xs
    induction xs with
    | nil=>intro acc o;exact ⟨[],by simp⟩
    | cons x xs ih=>
      intro acc o;rw [List.foldl_cons];unfold zZ;split
      · exact ih _ _
      · obtain ⟨r,hr⟩:=ih (acc++[x]) (some x);refine ⟨x::r, ?_⟩;show (List.foldl zZ (acc++[x],some x) xs).1=_;rw [hr];simp
  obtain ⟨r,hr⟩:=key L [n] (some n);refine ⟨r, ?_⟩;unfold comp;rw [List.foldl_cons,show zZ ([],none) n=([n],some n) by simp [zZ],hr];rfl
theorem lv7 {L:List Int} {l:Int}:(L.all (fun n=>decide (n=l)) || L.all (fun n=>decide (n=l+1)))=(decide ((comp L).length≤1)&&(match L with |[]=>true | n::_=>decide (n=l) || decide (n=l+1))):=by
  rw [qaB];cases L with
  | nil=>rfl
  | cons n L=>
    simp only [List.all_cons,List.head?_cons,Option.some.injEq,decide_true,Bool.true_and];by_cases e:n=l
    · subst e;simp;intro h;omega
    · by_cases e2:n=l+1
      · subst e2;simp [e]
      · simp [e,e2]
theorem QG {h:List qC} {id:Nat} {n:Int} {L:List Int} (ho:h[id]?=some (.row 1 ((n::L).map qE) true)):wA none 0 0 h[id]?=some (.int .i64 n):=UE ho rfl
theorem c881 (x:qA):∀(l:Int) (ho:x.ok=true) (hz:x.sz≤1048576) (hl:0≤l∧l≤9) (hd:x.dep≤1000) (hq:x.size≤2097152),Pure Gm 881 [x.enc,.int .i64 l] (.bool (x.strat l)):=by
  induction x using qA.ind with
  | _ x ih=>
  intro l ho hz hl hd hq;refine Pure.intro [2,3] [] g881 (by kernel_rfl) rfl (by simp [AV.trees,AV.tree,go_sem]) rfl ?_;simp only [Ym,qM,go_sem];have hL:=x.len_sz;have h01:∀{y:qA},y∈x.Kids→y.sz≤1048576∧y.dep≤1000∧y.size≤2097152:=fun hy=>by
    have:=qA.kid_sz hy;have:=qA.dep_kid hy;have:=zV (f:=qA.size) hy;have:=x.size_eq;omega
  have hb:=Qn x.Kind;have bad:∀{h:List qC},x.strat l=false→Fin (some [.bool false]) h (.bool (x.strat l)):=fun h=>qL rfl (by rw [h]);refine j5 qA.ln ?_;simp only [go_sem];refine j5 rfl ?_;simp only [go_sem];simp only [go_sem,List.nil_append,List.cons_append,List.set_cons_zero,List.set_cons_succ];refine qD ?_ ?_<;>intro hc<;>simp only [hc,go_sem]
  · exact bad (by rw [x.strat_eq,decide_eq_false (by have:=odT hc;omega)];rfl)
  have h8:decide (l≤8)=true:=decide_eq_true (by have:=odF hc;omega);have hl8:=odT h8;have lvb:∀{h:List qC},zL x l=false→Fin (some [.bool false]) h (.bool (x.strat l)):=fun h=>bad (by rw [x.strat_eq,h];simp);have hP:=VA (f:=.fn 1195 [.ept (.int .i64 l) 0,.ept x.enc 0]) (fun y=> !(y.strat (l+qW x.Kind))) (by simp [AV.trees,AV.tree,go_sem]) x.Kids (fun y hy=>⟨1195,_,rfl,qZG (by omega) (ih y hy (l+qW x.Kind) (qu ho hy) (h01 hy).1 (by omega) (h01 hy).2.1 (h01 hy).2.2)⟩) (by omega);have good:∀{h:List qC},zL x l=true→Fin (some [.bool (!(x.Kids.any fun y=> !(y.strat (l+qW x.Kind))))]) h (.bool (x.strat l)):=fun h=>qL rfl (by rw [Zs,x.strat_eq,h8,h];rfl);refine qD ?_ ?_<;>intro hc<;>simp only [hc,go_sem]
  · have hk4:=odT hc;obtain ⟨a,hK⟩:=zj ((qt ho).2 (.inl hk4));have ham:a∈x.Kids:=by rw [hK];simp
    have hlv:zL x l=(decide ((a.levels 0 l).length≤1)&&(a.levels 0 l).all (fun n=>decide (n=l))):=by unfold zL;rw [if_pos hk4,hK];rfl
    simp only [hK,List.map_cons,List.map_nil,Option.map_some,go_sem];have hacc:=qPH a 0 l [] (qu ho ham) (h01 ham).1 (by have:=(h01 ham).2.1;omega) (by have:=(h01 ham).2.1;omega) (by simp;have:=(h01 ham).2.2;omega);have hll:=qA.levels_len a 0 l;have hqa:=(h01 ham).2.2;rw [List.nil_append] at hacc;generalize a.levels 0 l=L at hlv hacc hll;refine JM hacc rfl ?_;intro h' id' hG;simp only [go_sem];refine qY ?_ ?_<;>intro hc<;>simp only [hc,go_sem]
    · have h1:=odF hc;refine qY ?_ ?_<;>intro hc<;>simp only [hc,go_sem]
      · obtain ⟨n,rfl⟩:=zj (xs:=L) (by have:=odT hc;omega);simp only [go_sem];rw [QG hG.at'];simp only [go_sem];refine qD ?_ ?_<;>intro hc<;>simp only [hc,go_sem]
        · exact lvb (by rw [hlv];simp at hc;simp [hc])
        · refine qF hP ?_;simp only [go_sem];exact good (by rw [hlv];simp at hc;simp [hc])
      · have h2:L=[]:=List.length_eq_zero_iff.1 (by simp at hc;omega);subst h2;refine qF hP ?_;simp only [go_sem];exact good (by rw [hlv];rfl)
    · exact lvb (by rw [hlv,decide_eq_false (by simp at hc;omega)];rfl)
  refine qD ?_ ?_<;>intro hc<;>simp only [hc,go_sem]
  · have hk7:=odT hc;obtain ⟨a,c,hK⟩:=zf ((qt ho).1 (by omega));have hcm:c∈x.Kids:=by rw [hK];simp
    have hlv:zL x l=(decide ((comp (c.levels 0 l)).length≤1)&&(match c.levels 0 l with |[]=>true | n::_=>decide (n=l) || decide (n=l+1))):=by
      rw [←lv7];unfold zL;rw [if_neg (by omega),if_pos hk7,hK];rfl
    simp only [hK,List.map_cons,List.map_nil,Option.map_some,go_sem];have hacc:=qPH c 0 l [] (qu ho hcm) (h01 hcm).1 (by have:=(h01 hcm).2.1;omega) (by have:=(h01 hcm).2.1;omega) (by simp;have:=(h01 hcm).2.2;omega);have hll:=qA.levels_len c 0 l;have hqa:=(h01 hcm).2.2;rw [List.nil_append] at hacc;generalize c.levels 0 l=L at hlv hacc hll;refine JM hacc rfl ?_;intro h' id' hG;simp only [go_sem];refine zJ (qRK hG.at' (by omega) ?_);simp only [go_sem];refine qY ?_ ?_<;>intro hc<;>simp only [hc,go_sem];rotate_left
    · exact lvb (by rw [hlv,decide_eq_false (by simp at hc;omega)];rfl)
    have h1:decide ((comp L).length≤1)=true:=decide_eq_true (by have:=odF hc;omega);rw [h1,Bool.true_and] at hlv;refine qY ?_ ?_<;>intro hc<;>simp only [hc,go_sem];rotate_left
    · have h2:L=[]:=List.length_eq_zero_iff.1 (by simp at hc;rw [hc];rfl);refine qF hP ?_;simp only [go_sem];exact good (by rw [hlv,h2])
    obtain ⟨n,L',hLn⟩:∃n L',L=n::L':=by
      cases L with
      | nil=>exact absurd hc (by simp)
      | cons n L=>exact ⟨n,L,rfl⟩
    obtain ⟨r,hr⟩:=qaA n L';have ho2:(h'.set id' (qC.row 1 ((comp L).map qE) true))[id']?=some (.row 1 ((n::r).map qE) true):=by rw [List.getElem?_set_self hG.lt,hLn,hr]
    have hp0:=odT hc;rw [WD (by omega) (by omega)];simp only [go_sem];rw [show (0+(0:Int).toNat)=0 from rfl,QG ho2];simp only [go_sem];refine qY ?_ ?_<;>intro hc<;>simp only [hc,go_sem]
    · rw [WD (by omega) (by omega)];simp only [go_sem];rw [show (0+(0:Int).toNat)=0 from rfl,QG ho2];simp only [go_sem];rw [qj (by omega) (by omega)];refine qD ?_ ?_<;>intro hc<;>simp only [hc,go_sem]
      · exact lvb (by rw [hlv,hLn];simp at hc;rename_i h;simp at h;simp [hc,h])
      · refine qF hP ?_;simp only [go_sem];exact good (by rw [hlv,hLn];simp at hc;simp [hc])
    · refine qF hP ?_;simp only [go_sem];exact good (by rw [hlv,hLn];simp at hc;simp [hc])
  · refine qF hP ?_;simp only [go_sem];exact good (by unfold zL;rename_i h4;rw [if_neg (odF h4),if_neg (odF hc)])
theorem c522 {x:qA} (hz:x.sz≤1048576) (hs:x.size≤2097152):Pure Gm 522 [x.enc] (.bool (x.closed&&x.strat 0)):=by
  refine Pure.intro [] [] g522 (by kernel_rfl) rfl (by simp [AV.trees,AV.tree,go_sem]) rfl ?_;simp only [YE,qM,go_sem];have hds:=x.dep_size;have hss:=x.size_sz;refine qc qA.ln ?_;simp only [go_sem];refine qF (c521 hz (by omega) hs) ?_;simp only [go_sem];refine qY ?_ ?_<;>intro hc<;>simp only [hc,go_sem]
  · obtain ⟨h1,h2,h3⟩:=QD hc;refine qF (c881 x 0 h1 hz (by omega) (by omega) hs) ?_;simp only [go_sem];exact qL rfl rfl
  · exact qL rfl rfl
theorem qZD {x:qA} (hz:x.sz≤1048576) (hs:x.size≤2097152):Pure Gm 1170 [x.enc] (.bool (!(x.closed&&x.strat 0))):=by
  refine Pure.intro [] [] qcD (by kernel_rfl) rfl (by simp [AV.trees,AV.tree,go_sem]) rfl ?_;simp only [XK,qM,go_sem];refine qc qA.ln ?_;simp only [go_sem];refine qF (c522 hz hs) ?_;simp only [go_sem];exact qL rfl rfl
theorem c848 {b:qI} (hz:b.sz≤1048576):Pure Gm 848 [b.enc] (.bool (b.Defs.all fun x=>x.closed&&x.strat 0)):=by
  refine Pure.intro [] [] g848 (by kernel_rfl) rfl (by simp [AV.trees,AV.tree,go_sem]) rfl ?_;simp only [Yf,qM,go_sem];have hz':b.Defs.length+qG qA.sz b.Defs≤1048576:=hz;refine qc rfl ?_;simp only [go_sem];refine qF (VA (f:=.fn 1170 []) (fun x=> !(x.closed&&x.strat 0)) rfl b.Defs (fun y hy=>⟨1170,_,rfl,qZD (by have:=zV (f:=qA.sz) hy;omega) (by have:=zV (f:=qA.sz) hy;have:=y.size_sz;omega)⟩) (by omega)) ?_;simp only [go_sem];exact qL rfl (by rw [Zs])
end Go.Ab
namespace Go.Ab
open Go
set_option maxRecDepth 10000
set_option maxHeartbeats 2000000
attribute [local simp] qv qb
theorem c834 {xs:List Int} {n:Int} (hl:xs.length≤4194304):Pure Gm 834 [.lst 1 (xs.map qE) false,.int .i64 n] (.int .i64 (wJ (fun k=>decide (n=k)) xs 0)):=by
  refine Pure.intro [] [] g834 (by kernel_rfl) rfl (by simp [AV.trees,AV.tree,go_sem]) rfl ?_;simp only [Yc,qM,go_sem];refine Sem.loop (fun i:Nat=>i≤xs.length∧wJ (fun k=>decide (n=k)) xs 0=wJ (fun k=>decide (n=k)) (xs.drop i) i) (fun i=>(⟨[(0,.lst 1 (xs.map qE) false),(1,.int .i64 n),(7,.int .i64 (xs.length:Nat)),(8,.int .i64 (i:Nat))],[],[]⟩:VSt)) (fun i=>xs.length-i) 0 (by kernel_rfl) ⟨Nat.zero_le _,by simp⟩ (Can.sub (by simp [go_sem]) (by simp [go_sem])) ?_;rintro i ⟨hi,hI⟩;simp only [go_sem];refine qD ?_ ?_<;>intro hc<;>simp only [hc,go_sem]
  · have hlt:i<xs.length:=by have:=odT hc;omega
    simp only [List.getElem?_map,gEg hlt,Option.map_some,go_sem];rw [List.drop_eq_getElem_cons hlt,wJ] at hI;simp only [qE,go_sem];refine qD ?_ ?_<;>intro hc<;>simp only [hc,go_sem]
    · exact qL rfl (by rw [hI,hc];rfl)
    · rw [hc] at hI;simp only [qe (show i<4611686018427387904 by omega)];refine qZ (i+1) ⟨by omega, ?_⟩ (by omega) (Can.sub (by simp [go_sem]) (by simp [go_sem]));exact hI
  · obtain rfl:i=xs.length:=by have:=odF hc;omega
    exact qL rfl (by rw [hI,List.drop_length];rfl)
theorem c647 {xs:List Int} {n:Int} (hl:xs.length≤4194304):Pure Gm 647 [.lst 1 (xs.map qE) false,.int .i64 n] (.bool (xs.any fun k=>decide (n=k))):=by
  refine Pure.intro [] [] g647 (by kernel_rfl) rfl (by simp [AV.trees,AV.tree,go_sem]) rfl ?_;simp only [YL,qM,go_sem];simp only [Qu,qM,go_sem];refine qF (c834 hl) ?_;simp only [go_sem];exact qL rfl (by rw [qQI])
theorem qXT (x:Int):w32 x=IntKind.i64.wrap (IntKind.i32.wrap x):=by
  unfold w32;congr 1;simp only [IntKind.wrap,IntKind.bits,IntKind.signed];simp
theorem Qr {x:Int}:Pure Gm 1400 [.int .i64 x] (.int .i64 (w32 x)):=by
  refine Pure.intro [] [] qcW (by kernel_rfl) rfl (by simp [AV.trees,AV.tree,go_sem]) rfl ?_;simp only [Xd,qM,go_sem];exact qL rfl (by rw [qXT])
theorem qPU {x:Int}:Pure Gm 1120 [.int .i64 x] ((qA.mk 11 x [] []).enc):=by
  refine Pure.intro [] [] qbY (by kernel_rfl) rfl (by simp [AV.trees,AV.tree,go_sem]) (by simp [go_sem]) ?_;simp only [W5,qM,go_sem];refine qK (k:=4) (by rfl) (by rfl) (by exact ⟨_,rfl⟩) (by decide) ?_;simp only [go_sem];exact zG QE
theorem c726 {x:Int}:Pure Gm 726 [.int .i64 x] ((qA.mk 2 x [] []).enc):=by
  refine Pure.intro [] [] g726 (by kernel_rfl) rfl (by simp [AV.trees,AV.tree,go_sem]) (by simp [go_sem]) ?_;simp only [YR,qM,go_sem];refine qK (k:=4) (by rfl) (by rfl) (by exact ⟨_,rfl⟩) (by decide) ?_;simp only [go_sem];exact zG QE
theorem qZK {f a:qA}:Pure Gm 1401 [f.enc,a.enc] ((zO f a).enc):=by
  refine Pure.intro [] [] qcX (by kernel_rfl) rfl (by simp [AV.trees,AV.tree,go_sem]) (by simp [go_sem]) ?_;simp only [Xe,qM,go_sem];refine qc qA.ln ?_;simp only [go_sem];refine qc qA.ln ?_;simp only [go_sem];refine qK (k:=4) (by rfl) (by rfl) (by exact ⟨_,rfl⟩) (by decide) ?_;simp only [go_sem];exact zG (VJ .nils (Cv.row rfl rfl (qv [f,a]) (by decide)))
theorem qY2 {k a b:Int}:Pure Gm 1118 [.int .i64 k,.int .i64 a,.int .i64 b] (.int .i64 (opI k a b)):=by
  refine Pure.intro [] [] qbW (by kernel_rfl) rfl (by simp [AV.trees,AV.tree,go_sem]) rfl ?_;simp only [W3,qM,go_sem];refine qF Qr ?_;simp only [go_sem];refine qF Qr ?_;simp only [go_sem];unfold opI;refine qD ?_ ?_<;>intro hc<;>simp only [hc,go_sem]
  · rw [if_pos (odT hc)];refine qF Qr ?_;simp only [go_sem];exact qL rfl rfl
  rw [if_neg (odF hc)];refine qD ?_ ?_<;>intro hc<;>simp only [hc,go_sem]
  · rw [if_pos (odT hc)];refine qF Qr ?_;simp only [go_sem];exact qL rfl rfl
  rw [if_neg (odF hc)];refine qD ?_ ?_<;>intro hc<;>simp only [hc,go_sem]
  · rw [if_pos (odT hc)];refine qF Qr ?_;simp only [go_sem];exact qL rfl rfl
  rw [if_neg (odF hc)];refine qD ?_ ?_<;>intro hc<;>simp only [hc,go_sem]
  · rw [if_pos (odT hc)];refine qD ?_ ?_<;>intro hc<;>simp only [hc,go_sem]
    · rw [if_pos (odT hc)];exact qL rfl rfl
    rw [if_neg (odF hc)];have hq:=odF hc;simp only [if_neg hq,go_sem];refine qF Qr ?_;simp only [go_sem];exact qL rfl rfl
  rw [if_neg (odF hc)];refine qD ?_ ?_<;>intro hc<;>simp only [hc,go_sem]
  · rw [if_pos (odT hc)];refine qF w7 ?_;simp only [go_sem];exact qL rfl (by simp)
  rw [if_neg (odF hc)];refine qD ?_ ?_<;>intro hc<;>simp only [hc,go_sem]
  · rw [if_pos (odT hc)];refine qF w7 ?_;simp only [go_sem];exact qL rfl (by simp)
  rw [if_neg (odF hc)];exact qL rfl rfl
theorem qY3 {d:Int} {as:List qA} (hn:as.length≤1048576):Pure Gm 1119 [.int .i64 d,.lst 4 (as.map qA.enc) false] ((wF d as).enc):=by
  refine Pure.intro [] [] qbX (by kernel_rfl) rfl (by simp [AV.trees,AV.tree,go_sem]) (by simp [go_sem]) ?_;simp only [W4,qM,go_sem];refine qF qPU ?_;simp only [go_sem];refine qK (k:=4) (by rfl) (by simp [go_sem]) (qA.isAgg _) (by decide) ?_;simp only [go_sem];refine Sem.loop (fun i:Nat=>i≤as.length∧True) (fun i=>(⟨[(10,.lst 4 (as.map qA.enc) false),(11,.int .i64 (as.length:Nat)),(12,.int .i64 (i:Nat))],[(5,((as.take i).foldl zO (.mk 11 d [] [])).enc),(4,.agg [.int .i64 0,.int .i64 0,.nils,.nils])],[]⟩:VSt)) (fun i=>as.length-i) 0 (by kernel_rfl) ⟨Nat.zero_le _,trivial⟩ (Can.sub (by simp [go_sem]) (by simp [go_sem])) ?_;rintro i ⟨hi,hI⟩;simp only [go_sem];refine qD ?_ ?_<;>intro hc<;>simp only [hc,go_sem]
  · have hlt:i<as.length:=by have:=odT hc;omega
    simp only [List.getElem?_map,gEg hlt,Option.map_some,go_sem];refine qK (k:=4) (by rfl) (by simp [go_sem]) (qA.isAgg _) (by decide) ?_;simp only [go_sem];refine qF qZK ?_;simp only [go_sem];refine Jr qA.ln qA.putcore ?_;simp only [go_sem];simp only [qe (show i<4611686018427387904 by omega)];refine qZ (i+1) ⟨by omega,trivial⟩ (by omega) (Can.sub (by simp [go_sem]) ?_);rw [List.take_succ_eq_append_getElem hlt,List.foldl_append];simp [go_sem]
  · obtain rfl:i=as.length:=by have:=odF hc;omega
    rw [List.take_length];refine qK (k:=4) (by rfl) (by simp [go_sem]) (qA.isAgg _) (by decide) ?_;simp only [go_sem];exact zG (.refl (by simp [go_sem]))
theorem c758 {x:qA} (hz:x.sz≤1048576) (ho:x.ok=true):Pure Gm 758 [x.enc] (.int .i64 (qX x)):=by
  refine Pure.intro [] [] g758 (by kernel_rfl) rfl (by simp [AV.trees,AV.tree,go_sem]) rfl ?_;simp only [YS,qM,go_sem];have hL:=x.len_sz;refine qc qA.ln ?_;simp only [go_sem];refine qD ?_ ?_<;>intro hc<;>simp only [hc,go_sem]
  · have:x.Kids=[]:=List.length_eq_zero_iff.1 (by have:=odT hc;omega);exact qL rfl (by unfold qX;rw [this])
  have hne:¬x.Kids.length=0:=by have:=odF hc;omega
  by_cases h5:x.Kind=5
  · obtain ⟨a,b,hK⟩:=zf ((qt ho).1 (by omega));have hr:qX x=if a.Kind=4 then 1 else if a.Kind=11 then 4 else 0:=by unfold qX;rw [hK];simp only [];rw [if_pos h5]
    simp only [hK,List.map_cons,List.map_nil,Option.map_some,go_sem];refine qK (k:=4) (by rfl) (by simp [go_sem]) (qA.isAgg _) (by decide) ?_;simp only [go_sem];rw [hr,h5];simp only [go_sem];refine qD ?_ ?_<;>intro hc<;>simp only [hc,go_sem]
    · exact qL rfl (by rw [if_pos (odT hc)])
    rw [if_neg (odF hc)];refine qD ?_ ?_<;>intro hc<;>simp only [hc,go_sem]
    · exact qL rfl (by rw [if_pos (odT hc)])
    · exact qL rfl (by rw [if_neg (odF hc)])
  by_cases h3:x.Kind=3
  · obtain ⟨a,b,hK⟩:=zf ((qt ho).1 (by omega));have hr:qX x=if a.Kind=11 then 4 else if a.Kind=2 then (if b.Kind=2 then 2 else if b.Kind=11 then 4 else 0) else 0:=by unfold qX;rw [hK];simp only [];rw [if_neg h5,if_pos h3]
    have hr2:qX x=if a.Kind=2∧b.Kind=2 then 2 else if a.Kind=11 then 4 else if a.Kind=2∧b.Kind=11 then 4 else 0:=by
      rw [hr];by_cases e1:a.Kind=11
      · simp [e1]
      · by_cases e2:a.Kind=2
        · simp [e2]
        · simp [e1,e2]
    simp only [hK,List.map_cons,List.map_nil,Option.map_some,go_sem];refine qK (k:=4) (by rfl) (by simp [go_sem]) (qA.isAgg _) (by decide) ?_;simp only [go_sem];rw [hr2];refine qD ?_ ?_<;>intro hc<;>simp only [hc,go_sem]
    · exact absurd (odT hc) h5
    refine qD ?_ ?_<;>intro hc<;>simp only [hc,go_sem];rotate_left
    · exact absurd h3 (odF hc)
    simp only [hK,List.map_cons,List.map_nil,Option.map_some,go_sem];refine qK (k:=4) (by rfl) (by simp [go_sem]) (qA.isAgg _) (by decide) ?_;simp only [go_sem]
    repeat' (first | (first | (refine qY ?_ ?_<;>intro hc<;>simp only [hc,go_sem]) | (refine qD ?_ ?_<;>intro hc<;>simp only [hc,go_sem])) | refine qL rfl ?_)
    all_goals (refine congrArg (AV.int IntKind.i64) ?_;simp_all<;>omega)
  obtain ⟨a,ys,hK⟩:∃a ys,x.Kids=a::ys:=by
    cases h:x.Kids with
    | nil=>rw [h] at hne;exact absurd rfl hne
    | cons a ys=>exact ⟨a,ys,rfl⟩
  simp only [hK,List.map_cons,List.map_nil,Option.map_some,go_sem];refine qK (k:=4) (by rfl) (by simp [go_sem]) (qA.isAgg _) (by decide) ?_;simp only [go_sem];refine qD ?_ ?_<;>intro hc<;>simp only [hc,go_sem]
  · exact absurd (odT hc) h5
  refine qD ?_ ?_<;>intro hc<;>simp only [hc,go_sem]
  · exact absurd (odT hc) h3
  by_cases h9:x.Kind=9
  · have hr:qX x=if a.Kind=8∧a.Value<(x.Data.length:Nat) then 3 else if a.Kind=11 then 4 else 0:=by unfold qX;rw [hK];simp only [];rw [if_neg h5,if_neg h3,if_pos h9]
    rw [hr]
    repeat' (first | (first | (refine qY ?_ ?_<;>intro hc<;>simp only [hc,go_sem]) | (refine qD ?_ ?_<;>intro hc<;>simp only [hc,go_sem])) | refine qL rfl ?_)
    all_goals (refine congrArg (AV.int IntKind.i64) ?_;simp_all<;>omega)
  by_cases h10:x.Kind=10
  · have hr:qX x=if a.Kind=2 then 3 else if a.Kind=11 then 4 else 0:=by unfold qX;rw [hK];simp only [];rw [if_neg h5,if_neg h3,if_neg h9,if_pos h10]
    rw [hr]
    repeat' (first | (first | (refine qY ?_ ?_<;>intro hc<;>simp only [hc,go_sem]) | (refine qD ?_ ?_<;>intro hc<;>simp only [hc,go_sem])) | refine qL rfl ?_)
    all_goals (refine congrArg (AV.int IntKind.i64) ?_;simp_all<;>omega)
  refine qD ?_ ?_<;>intro hc<;>simp only [hc,go_sem]
  · exact absurd (odT hc) h9
  refine qD ?_ ?_<;>intro hc<;>simp only [hc,go_sem]
  · exact absurd (odT hc) h10
  exact qL rfl (by rw [ZP h5 h3 h9 h10])
end Go.Ab
namespace Go.Ab
open Go
set_option maxRecDepth 10000
set_option maxHeartbeats 2000000
attribute [local simp] qv qb
theorem qVB {α:Type} {f:α→Nat} {b:Nat}:∀{xs:List α},xs≠[]→zK (fun y=>f y+b) xs=zK f xs+b
  |[x],_=>by simp [zK]
  | x::y::xs,_=>by
    have:=qVB (f:=f) (b:=b) (xs:=y::xs) (by simp);simp only [zK,Nat.max_def] at this⊢
    repeat' split at this
    all_goals (repeat' split)
    all_goals omega
theorem qYT {x:qA} (h:x.ok=true):zK (fun y=>qA.boxes y+(if x.Kind=6 then 1 else 0)) x.Kids=x.boxes:=by
  rw [x.boxes_eq];by_cases e:x.Kids=[]
  · rw [e];have:¬x.Kind=6:=fun h6=>by
      have:=(qt h).2 (.inr (.inl h6));rw [e] at this;cases this
    rw [if_neg this];rfl
  · exact qVB e
theorem qYS (k:Int):qW k=((if k=6 then 1 else 0:Nat):Int):=by unfold qW;split<;>rfl
theorem qZE (x:qA):∀(ho:x.ok=true) (hz:x.sz≤1048576) (hd:x.dep≤2097152),Pure Gm 1171 [x.enc] (.int .i64 (x.boxes:Nat)):=by
  induction x using qA.ind with
  | _ x ih=>
  intro ho hz hd;refine Pure.intro [] [] qcE (by kernel_rfl) rfl (by simp [AV.trees,AV.tree,go_sem]) rfl ?_;simp only [XL,qM,go_sem];have hL:=x.len_sz;have hbd:=x.boxes_dep;refine qc qA.ln ?_;simp only [go_sem];refine Sem.loop (fun i:Nat=>i≤x.Kids.length∧True) (fun i=>(⟨[(3,.int .i64 ((zK (fun y=>qA.boxes y+(if x.Kind=6 then 1 else 0)) (x.Kids.take i):Nat):Int)),(7,.lst 4 (x.Kids.map qA.enc) false),(8,.int .i64 (x.Kids.length:Nat)),(9,.int .i64 (i:Nat))],[(1,x.enc)],[]⟩:VSt)) (fun i=>x.Kids.length-i) 0 (by kernel_rfl) ⟨Nat.zero_le _,by trivial⟩ (Can.sub (by simp [go_sem]) (by simp [go_sem])) ?_;rintro i ⟨hi,hI⟩;simp only [go_sem];refine qD ?_ ?_<;>intro hc<;>simp only [hc,go_sem]
  · have hlt:i<x.Kids.length:=by have:=odT hc;omega
    simp only [List.getElem?_map,gEg hlt,Option.map_some,go_sem];have hm:=gMm hlt;have hk:=qA.kid_sz hm;have hp:=qA.dep_kid hm;have hb:=Qn x.Kind;have hkb:=x.Kids[i].boxes_dep;refine qK (k:=4) (by rfl) (by simp [go_sem]) (qA.isAgg _) (by decide) ?_;simp only [go_sem];refine qF (ih _ hm (qu ho hm) (by omega) (by omega)) ?_;simp only [go_sem];refine qF w7 ?_;simp only [go_sem];rw [Zv,qj (n:=(x.Kids[i].boxes:Int)+qW x.Kind) (by omega) (by omega)];have e2:max ((zK (fun y=>qA.boxes y+(if x.Kind=6 then 1 else 0)) (x.Kids.take i):Nat):Int) ((x.Kids[i].boxes:Int)+qW x.Kind)=((zK (fun y=>qA.boxes y+(if x.Kind=6 then 1 else 0)) (x.Kids.take (i+1)):Nat):Int):=by rw [WP hlt,qYS];omega
    rw [e2];simp only [qe (show i<4611686018427387904 by omega)];refine qZ (i+1) ⟨by omega, ?_⟩ (by omega) (Can.sub (by simp [go_sem]) (by simp [go_sem]));trivial
  · obtain rfl:i=x.Kids.length:=by have:=odF hc;omega
    rw [List.take_length,qYT ho];exact qL rfl rfl
end Go.Ab
namespace Go.Ab
open Go
set_option maxRecDepth 10000
set_option maxHeartbeats 2000000
attribute [local simp] qv qb
def Jx (φ:qA→Int→qA):qA→Int→qA:=qA.fold fun x rs d=>if x.Kind=1 then φ x d else .mk x.Kind x.Value x.Data (zB (fun i (r:Int→qA)=>r (d+qQ x.Kind i)) rs 0)
theorem qQZ (φ:qA→Int→qA) (x:qA) (d:Int):Jx φ x d=if x.Kind=1 then φ x d else .mk x.Kind x.Value x.Data (zB (fun i y=>Jx φ y (d+qQ x.Kind i)) x.Kids 0):=by
  unfold Jx;rw [qA.fold_eq,V1]
def qX4 (g:Nat) (cs:List AV) (φ:qA→Int→qA):Prop:=∀(y:qA) (d:Int),y.Kind=1→y.ok=true→0≤d∧d≤1048576→Pure Gm g (y.enc::.int .i64 d::cs) (φ y d).enc
theorem qSW (x:qA):∀(g:Nat) (cs:List AV) (φ:qA→Int→qA) (d:Int) (ht:AV.trees cs=true) (hp:qX4 g cs φ) (ho:x.ok=true) (hz:x.sz≤1048576) (hd:0≤d∧d+x.dep≤1048576),Pure Gm 1316 [x.enc,.int .i64 d,.fn g cs] ((Jx φ x d).enc):=by
  induction x using qA.ind with
  | _ x ih=>
  intro g cs φ d ht hp ho hz hd;refine Pure.intro [] [] qcJ (by kernel_rfl) rfl (by simp [AV.trees,AV.tree,go_sem,ht]) (by simp [go_sem]) ?_;simp only [XQ,qM,go_sem];have hL:=x.len_sz;have hres:=qQZ φ x d;refine qc qA.ln ?_;simp only [go_sem];refine qD ?_ ?_<;>intro hc<;>simp only [hc,go_sem]
  · have h1:=odT hc;rw [if_pos h1] at hres;refine qF (hp x d h1 ho (by omega)) ?_;simp only [go_sem];refine qK (k:=4) (by rfl) (by simp [go_sem]) (qA.isAgg _) (by decide) ?_;simp only [go_sem];rw [hres];exact zG (.refl (by simp [go_sem]))
  rw [if_neg (odF hc)] at hres;refine wQ (n401 x.Data (by omega)) ?_;simp only [go_sem];simp only [lay,lI,go_sem,List.nil_append,List.cons_append];refine qK (k:=4) (by rfl) (by rfl) (by exact ⟨_,rfl⟩) (by decide) ?_;simp only [go_sem];refine Sem.loop (fun i:Nat=>i≤x.Kids.length) (fun i=>(⟨[(1,.int .i64 d),(2,.fn g cs),(26,.lst 4 (x.Kids.map qA.enc) false),(27,.int .i64 (x.Kids.length:Nat)),(28,.int .i64 (i:Nat))],[(3,x.enc),(7,.agg [.int .i64 x.Kind,.int .i64 x.Value,.slice 1 0 0 x.Data.length false,.slice 4 1 0 i false]),(6,.agg [.int .i64 0,.int .i64 0,.nils,.nils])],[.row 1 (x.Data.map qE) true,.row 4 ((zB (fun i y=>Jx φ y (d+qQ x.Kind i)) (x.Kids.take i) 0).map qA.enc) true]⟩:VSt)) (fun i=>x.Kids.length-i) 0 (by kernel_rfl) (Nat.zero_le _)
    (Can.renum [some 0,none] rfl ⟨.row rfl (VR2s.of_eq rfl (by simp [qb])),.ph,trivial⟩ ⟨⟨_,rfl,.tree rfl⟩,⟨_,rfl,.tree (by simp [AV.tree,ht])⟩,⟨_,rfl,.tree (by simp [AV.tree,go_sem])⟩,⟨_,rfl,.tree rfl⟩,⟨_,rfl,.tree rfl⟩,trivial⟩
      ⟨⟨_,rfl,.tree (by simp [go_sem])⟩,⟨_,rfl,.agg rfl (VR2s.cons (.tree rfl) (VR2s.cons (.tree rfl) (VR2s.cons (.slice rfl) (VR2s.cons (.ph rfl) VR2s.nil)))).2⟩,⟨_,rfl,.tree rfl⟩,trivial⟩) ?_
  intro i hi;simp only [go_sem];refine qD ?_ ?_<;>intro hc<;>simp only [hc,go_sem]
  · have hlt:i<x.Kids.length:=by have:=odT hc;omega
    simp only [List.getElem?_map,gEg hlt,Option.map_some,go_sem];have hm:=gMm hlt;have hk:=qA.kid_sz hm;have hkd:=qA.dep_kid hm;have hb:=jI x.Kind i;refine qK (k:=4) (by rfl) (by simp [go_sem]) (qA.isAgg _) (by decide) ?_;simp only [go_sem];refine qF Zx ?_;simp only [go_sem];rw [qj (n:=d+qQ x.Kind i) (by omega) (by omega)];refine qF (ih _ hm g cs φ (d+qQ x.Kind i) ht hp (qu ho hm) (by omega) (by omega)) ?_;simp only [go_sem];refine jX (el:=(zB (fun i y=>Jx φ y (d+qQ x.Kind i)) (x.Kids.take i) 0).map qA.enc) rfl rfl (by simp [js];omega) (by omega) ?_;simp only [go_sem];simp only [qe (show i<4611686018427387904 by omega)];refine qZ (i+1) (by omega) (by omega) ?_;refine Can.renum [some 0,some 3] rfl ⟨.row rfl (VR2s.of_eq rfl (by simp [qb])),.row rfl (VR2s.of_eq (by rw [V3 hlt,Nat.zero_add];simp) (qv _)),trivial⟩ ⟨⟨_,rfl,.tree rfl⟩,⟨_,rfl,.tree (by simp [AV.tree,ht])⟩,⟨_,rfl,.tree (by simp [AV.tree,go_sem])⟩,⟨_,rfl,.tree rfl⟩,⟨_,rfl,.tree rfl⟩,trivial⟩
      ⟨⟨_,rfl,.tree (by simp [go_sem])⟩,⟨_,rfl,.agg rfl (VR2s.cons (.tree rfl) (VR2s.cons (.tree rfl) (VR2s.cons (.slice rfl) (VR2s.cons (.slice rfl) VR2s.nil)))).2⟩,⟨_,rfl,.tree rfl⟩,trivial⟩
  · obtain rfl:i=x.Kids.length:=by have:=odF hc;omega
    rw [List.take_length];refine qK (k:=4) (by rfl) (by rfl) (by exact ⟨_,rfl⟩) (by decide) ?_;simp only [go_sem];rw [hres];exact zG (VJ (d:=x.Data) (D:=.slice 1 0 0 x.Data.length false) (K:=.slice 4 1 0 x.Kids.length false) (Cv.row rfl (by simp) (by simp [qb]) (by decide)) (Cv.row rfl (by simp [js]) (qv _) (by decide)))
end Go.Ab
namespace Go.Ab
open Go
set_option maxRecDepth 10000
set_option maxHeartbeats 2000000
attribute [local simp] qv qb
theorem qQY {α β:Type} {f g:Nat→α→β}:∀{xs:List α} {k:Nat},(∀x∈xs,∀k,f k x=g k x)→zB f xs k=zB g xs k
  |[],_,_=>rfl
  | x::xs,k,h=>by simp only [zB];rw [h x (by simp) k,qQY (fun y hy=>h y (by simp [hy]))]
def Wb (a f:Int) (y:qA) (d:Int):qA:=if d+f≤y.Value then .mk y.Kind (y.Value+a) y.Data y.Kids else y
theorem qA.putval {y:qA} {n:Int}:y.enc.put 1 (.int .i64 n)=some (qA.mk y.Kind n y.Data y.Kids).enc:=by rw [qA.enc_eq,qA.enc_eq];rfl
theorem qf2 (a f:Int):∀(x:qA) (d:Int),x.ok=true→Jx (Wb a f) x d=x.shift a (f+d):=qA.ind fun x ih d ho=>by
  rw [qQZ,qA.shift_eq];split
  · rename_i h1;have hk:=QN ho h1;unfold Wb jV;rw [hk];by_cases h:d+f≤x.Value
    · rw [if_pos h,if_pos ⟨h1,by omega⟩];rfl
    · rw [if_neg h,if_neg (fun q=>h (by omega))];have:=qA.eta x;rw [hk] at this;rw [←this];rfl
  · rename_i h1;unfold jV;rw [if_neg (fun q=>h1 q.1)];congr 1;refine qQY fun y hy k=> ?_;rw [ih y hy _ (qu ho hy)];congr 1;omega
def WU (arg:qA) (y:qA) (d:Int):qA:=if y.Value=d then arg.shift d 0 else if d<y.Value then .mk y.Kind (y.Value-1) y.Data y.Kids else y
theorem qZO {y:qA} {d a f:Int} (h1:y.Kind=1) (ho:y.ok=true) (hd:0≤d∧d≤1048576) (ha:0≤a∧a≤1048576) (hf:0≤f∧f≤1048576):Pure Gm 1462 [y.enc,.int .i64 d,.ept (.int .i64 f) 0,.ept (.int .i64 a) 0] ((Wb a f y d).enc):=by
  refine Pure.intro [] [] qc1 (by kernel_rfl) rfl (by simp [AV.trees,AV.tree,go_sem]) (by simp [go_sem]) ?_;simp only [Xi,qM,go_sem];have hv:=UC ho;unfold jg inI at hv;simp [h1] at hv;refine qc qA.ln ?_;simp only [go_sem];rw [qj (n:=d+f) (by omega) (by omega)];unfold Wb;refine qD ?_ ?_<;>intro hc<;>simp only [hc,go_sem]
  · rw [if_pos (by have:=odT hc;omega),qj (n:=y.Value+a) (by omega) (by omega)];refine Jr (by rfl) qA.putval ?_;simp only [go_sem];refine qK (k:=4) (by rfl) (by simp [go_sem]) (qA.isAgg _) (by decide) ?_;simp only [go_sem];exact zG (.refl (by simp [go_sem]))
  · rw [if_neg (by have:=odF hc;omega)];refine qK (k:=4) (by rfl) (by simp [go_sem]) (qA.isAgg _) (by decide) ?_;simp only [go_sem];exact zG (.refl (by simp [go_sem]))
theorem qZI {x:qA} {a f:Int} (ho:x.ok=true) (hz:x.sz≤1048576) (hd:x.dep≤1048576) (ha:0≤a∧a≤1048576) (hf:0≤f∧f≤1048576):Pure Gm 1318 [x.enc,.int .i64 a,.int .i64 f] ((x.shift a f).enc):=by
  refine Pure.intro [4,5] [] qcL (by kernel_rfl) rfl (by simp [AV.trees,AV.tree,go_sem]) (by simp [go_sem]) ?_;simp only [XS,qM,go_sem];refine qc qA.ln ?_;simp only [go_sem];refine j5 rfl ?_;simp only [go_sem];refine j5 rfl ?_;simp only [go_sem];simp only [go_sem,List.nil_append,List.cons_append,List.set_cons_zero,List.set_cons_succ];refine qF (qSW x 1462 [.ept (.int .i64 f) 0,.ept (.int .i64 a) 0] (Wb a f) 0 rfl (fun y d h1 ho hd=>qZO h1 ho hd ha hf) ho hz (by omega)) ?_;simp only [go_sem];refine qK (k:=4) (by rfl) (by simp [go_sem]) (qA.isAgg _) (by decide) ?_;simp only [go_sem];rw [qf2 a f x 0 ho,Int.add_zero];exact zG (.refl (by simp [go_sem]))
theorem qZH {y arg:qA} {d:Int} (h1:y.Kind=1) (ho:y.ok=true) (hd:0≤d∧d≤1048576) (hao:arg.ok=true) (haz:arg.sz≤1048576) (had:arg.dep≤1048576):Pure Gm 1317 [y.enc,.int .i64 d,.ept arg.enc 0] ((WU arg y d).enc):=by
  refine Pure.intro [] [] qcK (by kernel_rfl) rfl (by simp [AV.trees,AV.tree,go_sem]) (by simp [go_sem]) ?_;simp only [XR,qM,go_sem];have hv:=UC ho;unfold jg inI at hv;simp [h1] at hv;refine qc qA.ln ?_;simp only [go_sem];unfold WU;refine qD ?_ ?_<;>intro hc<;>simp only [hc,go_sem]
  · rw [if_pos (odT hc)];refine qF (qZI hao haz had hd (by omega)) ?_;simp only [go_sem];refine qK (k:=4) (by rfl) (by simp [go_sem]) (qA.isAgg _) (by decide) ?_;simp only [go_sem];exact zG (.refl (by simp [go_sem]))
  rw [if_neg (odF hc)];refine qD ?_ ?_<;>intro hc<;>simp only [hc,go_sem]
  · rw [if_pos (by have:=odT hc;omega),qj (n:=y.Value-1) (by omega) (by omega)];refine Jr (by rfl) qA.putval ?_;simp only [go_sem];refine qK (k:=4) (by rfl) (by simp [go_sem]) (qA.isAgg _) (by decide) ?_;simp only [go_sem];exact zG (.refl (by simp [go_sem]))
  · rw [if_neg (by have:=odF hc;omega)];refine qK (k:=4) (by rfl) (by simp [go_sem]) (qA.isAgg _) (by decide) ?_;simp only [go_sem];exact zG (.refl (by simp [go_sem]))
theorem qgM {x:qA} (h:x.ok=true) (hk:x.Kind=1):x.Data=[]:=by
  have h:=w3 h;unfold zr inI at h;simp only [bAt,decide_eq_true_eq] at h;obtain ⟨⟨⟨_,h1,h2⟩,_⟩,_⟩:=h;simp [shp,hk] at h1 h2;exact h2
theorem qf1 (arg:qA):∀(x:qA) (d:Int),x.ok=true→Jx (WU arg) x d=qA.put arg x d:=qA.ind fun x ih d ho=>by
  rw [qQZ,qA.put_eq];split
  · rename_i h1;have hk:=QN ho h1;have hd:=qgM ho h1;unfold WU;split
    · rfl
    rename_i h2;have e:qA.mk 1 x.Value [] []=x:=by
      have:=qA.eta x;rwa [hk,hd,h1] at this
    unfold wN;split
    · rename_i h3;rw [h1,hk,hd]
    · rename_i h3;exact e.symm
  · congr 1;exact qQY fun y hy k=>ih y hy _ (qu ho hy)
theorem Jk {x arg:qA} (ho:x.ok=true) (hz:x.sz≤1048576) (hd:x.dep≤1048576) (hao:arg.ok=true) (haz:arg.sz≤1048576) (had:arg.dep≤1048576):Pure Gm 992 [x.enc,arg.enc] ((qA.put arg x 0).enc):=by
  refine Pure.intro [3] [] g992 (by kernel_rfl) rfl (by simp [AV.trees,AV.tree,go_sem]) (by simp [go_sem]) ?_;simp only [Yq,qM,go_sem];refine qc qA.ln ?_;simp only [go_sem];refine j5 qA.ln ?_;simp only [go_sem];simp only [go_sem,List.nil_append,List.cons_append,List.set_cons_zero,List.set_cons_succ];refine qF (qSW x 1317 [.ept arg.enc 0] (WU arg) 0 (by simp [AV.trees,AV.tree,go_sem]) (fun y d h1 ho hd=>qZH h1 ho hd hao haz had) ho hz (by omega)) ?_;simp only [go_sem];refine qK (k:=4) (by rfl) (by simp [go_sem]) (qA.isAgg _) (by decide) ?_;simp only [go_sem];rw [qf1 arg x 0 ho];exact zG (.refl (by simp [go_sem]))
end Go.Ab
namespace Go.Ab
open Go
set_option maxRecDepth 10000
set_option maxHeartbeats 2000000
attribute [local simp] qv qb
@[go_sem] theorem d21:decide ((2:Int)=1)=false:=nr rfl
@[go_sem] theorem d31:decide ((3:Int)=1)=false:=nr rfl
@[go_sem] theorem d32:decide ((3:Int)=2)=false:=nr rfl
@[go_sem] theorem d41:decide ((4:Int)=1)=false:=nr rfl
@[go_sem] theorem d42:decide ((4:Int)=2)=false:=nr rfl
@[go_sem] theorem d43:decide ((4:Int)=3)=false:=nr rfl
theorem s769 {h:List qC} {xs:List qA} {K:AV→List qC→Prop} (hne:xs≠[]) (hl:xs.length≤4194304) (hK:K (.slice 4 h.length 0 xs.length false) (h++[.row 4 (xs.map qA.enc) true])):SCall Gm 769 [.lst 4 (xs.map qA.enc) false] h K:=by
  refine SCall.run [] [] g769 (by kernel_rfl) rfl ?_
  match xs,hne with
  | x::xs,_=>
  simp only [YY,Z0,qM,List.map_cons,go_sem];refine Zt Els.lst (by simp only [List.length_cons,List.length_map] at hl⊢;omega) ?_;simp only [go_sem];simpa using hK
theorem qZT {b:qI} {x a c k:qA} (hx:x.valid=true) (hK:x.Kids=[a,c]) (hk:a.Kids=[k]):Pure Gm 759 [b.enc,.int .i64 1,x.enc] ((qA.put c k 0).enc):=by
  refine Pure.intro [] [] Vf (by kernel_rfl) rfl (by simp [AV.trees,AV.tree,go_sem]) (by simp [go_sem]) ?_;simp only [QB,qM,go_sem];have ham:a∈x.Kids:=by rw [hK];simp
  have hcm:c∈x.Kids:=by rw [hK];simp
  have hkm:k∈a.Kids:=by rw [hk];simp
  obtain ⟨c1,c2,c3,c4,c5⟩:=zY (ze hx hcm);obtain ⟨k1,k2,k3,k4,k5⟩:=zY (ze (ze hx ham) hkm);refine qc rfl ?_;simp only [go_sem];refine qc qA.ln ?_;simp only [go_sem];replace hK:=And.intro hK hk;simp only [hK,List.map_cons,List.map_nil,Option.map_some,go_sem];refine qF (Jk k1 (by omega) (by omega) c1 (by omega) (by omega)) ?_;simp only [go_sem];refine qK (k:=4) (by rfl) (by simp [go_sem]) (qA.isAgg _) (by decide) ?_;simp only [go_sem];exact zG (.refl (by simp [go_sem]))
theorem qZU {b:qI} {x a c:qA} (hK:x.Kids=[a,c]):Pure Gm 759 [b.enc,.int .i64 2,x.enc] ((qA.mk 2 (opI x.Value a.Value c.Value) [] []).enc):=by
  refine Pure.intro [] [] Vf (by kernel_rfl) rfl (by simp [AV.trees,AV.tree,go_sem]) (by simp [go_sem]) ?_;simp only [QB,qM,go_sem];refine qc rfl ?_;simp only [go_sem];refine qc qA.ln ?_;simp only [go_sem];simp only [hK,List.map_cons,List.map_nil,Option.map_some,go_sem];refine qF qY2 ?_;simp only [go_sem];refine qF c726 ?_;simp only [go_sem];refine qK (k:=4) (by rfl) (by simp [go_sem]) (qA.isAgg _) (by decide) ?_;simp only [go_sem];exact zG (.refl (by simp [go_sem]))
theorem qZV {b:qI} {x a:qA} (ho:x.ok=true) (hz:x.sz≤1048576) (hK:x.Kids=[a]) (hr:qX x=3):Pure Gm 759 [b.enc,.int .i64 3,x.enc] ((wF (zk x) a.Kids).enc):=by
  refine Pure.intro [] [] Vf (by kernel_rfl) rfl (by simp [AV.trees,AV.tree,go_sem]) (by simp [go_sem]) ?_;simp only [QB,qM,go_sem];have ham:a∈x.Kids:=by rw [hK];simp
  have haz:=qA.kid_sz ham;have hal:=a.len_sz;have hd:x.Data.length<9223372036854775808:=by have:=x.sz_eq;omega
  obtain ⟨y,hK',h9 | h10⟩:=ZO ho hr
  · rw [hK'] at hK;cases hK;have hK:=hK';refine qc rfl ?_;simp only [go_sem];refine qc qA.ln ?_;simp only [go_sem];refine qD ?_ ?_<;>intro hc<;>simp only [hc,go_sem];rotate_left
    · exact absurd h9.1 (odF hc)
    obtain ⟨n,hV⟩:∃n:Nat,a.Value=n:=⟨a.Value.toNat,by omega⟩;have hlt:n<x.Data.length:=by omega
    have hrd:zk x=x.Data[n]:=by
      unfold zk;rw [hK];simp only [];rw [if_neg (by omega),hV];simp [hlt]
    replace hK:=And.intro hK hV;simp only [hK,List.map_cons,List.map_nil,Option.map_some,go_sem];simp only [List.getElem?_map,gEg hlt,Option.map_some,go_sem];simp only [qE,go_sem];simp only [hK,List.map_cons,List.map_nil,Option.map_some,go_sem];refine qF (qY3 (by omega)) ?_;simp only [go_sem];refine qK (k:=4) (by rfl) (by simp [go_sem]) (qA.isAgg _) (by decide) ?_;simp only [go_sem];rw [hrd];exact zG (.refl (by simp [go_sem]))
  · rw [hK'] at hK;cases hK;have hK:=hK';obtain ⟨d,e,hD⟩:=zf h10.2.2;have hrd:zk x=if a.Value=0 then e else d:=by
      unfold zk;rw [hK];simp only [];rw [if_pos h10.1,hD];rfl
    have hyk:a.Kids=[]:=WR (qu ho ham) h10.2.1;refine qc rfl ?_;simp only [go_sem];refine qc qA.ln ?_;simp only [go_sem];refine qD ?_ ?_<;>intro hc<;>simp only [hc,go_sem]
    · have:=odT hc;omega
    replace hK:=And.intro hK hD;simp only [hK,List.map_cons,List.map_nil,Option.map_some,go_sem];refine qF w7 ?_;simp only [go_sem];rw [hyk,hrd];by_cases h0:a.Value=0
    · rw [if_pos h0];simp only [h0,hD,List.map_cons,List.map_nil,go_sem];simp only [Option.map_some,qE,go_sem];refine qF qPU ?_;simp only [go_sem];refine qK (k:=4) (by rfl) (by simp [go_sem]) (qA.isAgg _) (by decide) ?_;simp only [go_sem];exact zG (.refl (by simp [go_sem]))
    · rw [if_neg h0];simp only [show decide (a.Value=0)=false from decide_eq_false h0,go_sem];simp only [Option.map_some,qE,go_sem];refine qF qPU ?_;simp only [go_sem];refine qK (k:=4) (by rfl) (by simp [go_sem]) (qA.isAgg _) (by decide) ?_;simp only [go_sem];exact zG (.refl (by simp [go_sem]))
theorem qZW {b:qI} {x a c:qA} {n:Nat} (ho:x.ok=true) (hz:x.sz≤1048576) (h5:x.Kind=5) (hK:x.Kids=[a,c]) (h11:a.Kind=11) (hV:a.Value=n) (hlt:n<b.Defs.length):Pure Gm 759 [b.enc,.int .i64 4,x.enc] ((zO b.Defs[n] c).enc):=by
  refine Pure.intro [] [] Vf (by kernel_rfl) rfl (by simp [AV.trees,AV.tree,go_sem]) (by simp [go_sem]) ?_;simp only [QB,qM,go_sem];refine qc rfl ?_;simp only [go_sem];refine qc qA.ln ?_;simp only [go_sem];refine zJ (s769 (by rw [hK];simp) (by rw [hK];simp) ?_);simp only [go_sem];refine qK (k:=4) (by rfl) (by rfl) (by exact ⟨_,rfl⟩) (by decide) ?_;simp only [go_sem];have e11:decide (a.Kind=11)=true:=decide_eq_true h11;replace hK:=And.intro hK hV;simp only [hK,List.map_cons,List.map_nil,Option.map_some,go_sem];simp only [e11,go_sem];refine qF w7 ?_;simp only [go_sem];simp only [hK,List.map_cons,List.map_nil,Option.map_some,go_sem];simp only [List.getElem?_map,gEg hlt,Option.map_some,go_sem];rw [WD (by omega) (by omega)];simp only [go_sem];refine z9 (by simp [go_sem]) rfl rfl qA.putcore ?_;simp only [go_sem];refine qK (k:=4) (by rfl) (by rfl) (by exact ⟨_,rfl⟩) (by decide) ?_;simp only [go_sem];have hn:=w3 ho;unfold zr jg inI at hn;simp [shp,h5] at hn;have e:zO b.Defs[n] c=qA.mk x.Kind x.Value x.Data [b.Defs[n],c]:=by
    unfold zO;rw [h5,hn.1.2,hn.1.1.2]
  rw [e];exact zG (Jm rfl rfl)
end Go.Ab
namespace Go.Ab
open Go
set_option maxRecDepth 10000
set_option maxHeartbeats 2000000
attribute [local simp] qv qb
def w6 (p:Bool):AV:=.bool p
theorem zt (I:List Bool):AV.trees (I.map w6)=true:=zu (enc:=w6) (fun _=>rfl) I
attribute [local simp] zt
def wO (b:qI) (lim:Int) (I:List Bool):AV:=.agg [.lst 4 (b.Defs.map qA.enc) false,.int .i64 lim,.lst 1 (I.map w6) false]
@[go_sem] theorem zKA {b:qI} {lim:Int} {I:List Bool}:(wO b lim I).part 0 (some 1)=some b.enc:=nr rfl
@[go_sem] theorem zKB {b:qI} {lim:Int} {I:List Bool}:(wO b lim I).part 0 none=some (.lst 4 (b.Defs.map qA.enc) false):=nr rfl
@[go_sem] theorem zKC {b:qI} {lim:Int} {I:List Bool}:(wO b lim I).part 2 none=some (.lst 1 (I.map w6) false):=nr rfl
@[go_sem] theorem zKD {b:qI} {lim:Int} {I:List Bool}:(wO b lim I).tree=true:=by simp [wO,AV.tree,AV.trees,qv,zt]
def jD (x c:qA) (l:Int):qA×Bool:=if (zA x l).2=0 then (qA.put (zA x l).1 c 0,true) else (qS,false)
theorem qbD {h:List qC} {y:qA×Bool} (e:y=(qS,false)):Fin (some [.agg [.int .i64 0,.int .i64 0,.nils,.nils],.bool false]) h (.tup [y.1.enc,.bool y.2]):=by
  subst e;exact jn (cv2 wc rfl)
theorem qbE {h:List qC} {x:qA} {p:Bool} {y:qA×Bool} (e:y=(x,p)):Fin (some [x.enc,.bool p]) h (.tup [y.1.enc,.bool y.2]):=by
  subst e;exact jn (cv2 (.refl (by simp [go_sem])) rfl)
theorem qZF {b:qI} {lim:Int} {I:List Bool} {x a c:qA} {l:Int} (hx:x.valid=true) (h7:x.Kind=7) (hK:x.Kids=[a,c]) (hs:zL x l=true) (hl:0≤l∧l≤1000):Pure Gm 1172 [.ept (wO b lim I) 0,x.enc,.int .i64 l] (.tup [(jD x c l).1.enc,.bool (jD x c l).2]):=by
  refine Pure.intro [] [] qcF (by kernel_rfl) rfl (by simp [AV.trees,AV.tree,go_sem]) (by simp [AV.tree,AV.trees,go_sem]) ?_;simp only [XM,qM,go_sem];have ham:a∈x.Kids:=by rw [hK];simp
  have hcm:c∈x.Kids:=by rw [hK];simp
  have hav:=ze hx ham;have hcv:=ze hx hcm;obtain ⟨a1,a2,a3,a4,a5⟩:=zY hav;obtain ⟨c1,c2,c3,c4,c5⟩:=zY hcv;have hr:zA x l=qo a (c.levels 0 l) l:=by unfold zA;rw [hK]
  have hlv:(match c.levels 0 l with |[]=>true | n::_=>decide (n=l) || decide (n=l+1))=true:=by
    have:=hs;unfold zL at this;rw [if_neg (by omega),if_pos h7,hK] at this;simp only [List.getElem?_cons_succ,List.getElem?_cons_zero] at this;rw [lv7,bAt] at this;exact this.2
  have ok:∀{h:List qC} {y:qA},qo a (c.levels 0 l) l=(y,0)→Fin (some [(qA.put y c 0).enc,.bool true]) h (.tup [(jD x c l).1.enc,.bool (jD x c l).2]):=fun e=>qbE (by unfold jD;rw [hr,e,if_pos rfl]);have bad:∀{h:List qC},qo a (c.levels 0 l) l=(qS,3)→Fin (some [.agg [.int .i64 0,.int .i64 0,.nils,.nils],.bool false]) h (.tup [(jD x c l).1.enc,.bool (jD x c l).2]):=fun e=>qbD (by unfold jD;rw [hr,e];rfl);refine qc qA.ln ?_;simp only [go_sem];simp only [hK,List.map_cons,List.map_nil,Option.map_some,go_sem];refine qK (k:=4) (by rfl) (by simp [go_sem]) (qA.isAgg _) (by decide) ?_;simp only [go_sem];refine qK (k:=4) (by rfl) (by simp [go_sem]) (qA.isAgg _) (by decide) ?_;simp only [go_sem];refine qK (k:=4) (by rfl) (by simp [go_sem]) (qA.isAgg _) (by decide) ?_;simp only [go_sem];have hacc:=qPH c 0 l [] c1 (by omega) (by omega) (by omega) (by simp;omega);have hll:=qA.levels_len c 0 l;rw [List.nil_append] at hacc;generalize c.levels 0 l=L at hlv hacc hll ok bad hr;by_cases h6:a.Kind=6
  · obtain ⟨k,hk⟩:=zj ((qt a1).2 (by omega));have hkm:k∈a.Kids:=by rw [hk];simp
    obtain ⟨k1,k2,k3,k4,k5⟩:=zY (ze hav hkm);have hk0:qz a=k:=by unfold qz;rw [hk];rfl
    refine qD ?_ ?_<;>intro hc<;>simp only [hc,go_sem];rotate_left
    · exact absurd h6 (odF hc)
    replace hK:=And.intro hK hk;simp only [hK,List.map_cons,List.map_nil,Option.map_some,go_sem];refine Jr qA.ln qA.putcore ?_;simp only [go_sem];refine JM hacc rfl ?_;intro h' id' hG;simp only [go_sem];refine qD ?_ ?_<;>intro hc<;>simp only [hc,go_sem]
    · refine qF (Jk c1 (by omega) (by omega) a1 (by omega) (by omega)) ?_;simp only [go_sem];refine qK (k:=4) (by rfl) (by simp [go_sem]) (qA.isAgg _) (by decide) ?_;simp only [go_sem];exact ok (by unfold qo;rw [if_pos (by have:=odT hc;omega)])
    have h0:¬L.length=0:=by have:=odF hc;omega
    refine qD ?_ ?_<;>intro hc<;>simp only [hc,go_sem]
    · refine qF (Jk c1 (by omega) (by omega) k1 (by omega) (by omega)) ?_;simp only [go_sem];refine qK (k:=4) (by rfl) (by simp [go_sem]) (qA.isAgg _) (by decide) ?_;simp only [go_sem];exact ok (by unfold qo;rw [if_neg h0,if_neg (by omega),hk0,if_pos ⟨h6,odT hc⟩])
    have hn2:¬a.Kind=2:=by omega
    have hn6:¬(a.Kind=6∧(qz a).Kind=2):=by rw [hk0];exact fun h=>odF hc h.2
    refine qY ?_ ?_<;>intro hc<;>simp only [hc,go_sem];rotate_left
    · have h1:¬L.length=1:=by simp at hc;omega
      refine qK (k:=4) (by rfl) (by rfl) (by exact ⟨_,rfl⟩) (by decide) ?_;simp only [go_sem];exact bad (by unfold qo;rw [if_neg h0,if_neg hn2,if_neg hn6,if_neg (fun h=>h1 h.1),if_neg (fun h=>h1 h.1)])
    have h1:=odT hc;obtain ⟨n,rfl⟩:∃n,L=[n]:=zj (by omega);simp only [go_sem];rw [QG hG.at'];simp only [go_sem];refine qD ?_ ?_<;>intro hc<;>simp only [hc,go_sem]
    · have hnl:=odT hc;refine qF (Jk c1 (by omega) (by omega) a1 (by omega) (by omega)) ?_;simp only [go_sem];refine qK (k:=4) (by rfl) (by simp [go_sem]) (qA.isAgg _) (by decide) ?_;simp only [go_sem];exact ok (by unfold qo;rw [if_neg h0,if_neg hn2,if_neg hn6,if_pos ⟨rfl,by rw [hnl];rfl⟩])
    have hnl:=odF hc;have hn1:n=l+1:=by simp [hnl] at hlv;exact hlv
    have h8:¬([n].length=1∧[n].head?=some l):=by rintro ⟨_,h⟩;simp at h;exact hnl h
    refine qY ?_ ?_<;>intro hc<;>simp only [hc,go_sem];rotate_left
    · exact absurd hc (by simp)
    rw [QG hG.at'];simp only [go_sem];rw [qj (by omega) (by omega)];refine qY ?_ ?_<;>intro hc<;>simp only [hc,go_sem];rotate_left
    · exact absurd hn1 (by simpa using hc)
    refine qD ?_ ?_<;>intro hc<;>simp only [hc,go_sem]
    · refine qF (Jk c1 (by omega) (by omega) k1 (by omega) (by omega)) ?_;simp only [go_sem];refine qK (k:=4) (by rfl) (by simp [go_sem]) (qA.isAgg _) (by decide) ?_;simp only [go_sem];exact ok (by unfold qo;rw [if_neg h0,if_neg hn2,if_neg hn6,if_neg h8,if_pos ⟨rfl,h6⟩,hk0])
    · exact absurd h6 (odF hc)
  · refine qD ?_ ?_<;>intro hc<;>simp only [hc,go_sem]
    · exact absurd (odT hc) h6
    refine JM hacc rfl ?_;intro h' id' hG;simp only [go_sem];refine qD ?_ ?_<;>intro hc<;>simp only [hc,go_sem]
    · refine qF (Jk c1 (by omega) (by omega) a1 (by omega) (by omega)) ?_;simp only [go_sem];refine qK (k:=4) (by rfl) (by simp [go_sem]) (qA.isAgg _) (by decide) ?_;simp only [go_sem];exact ok (by unfold qo;rw [if_pos (by have:=odT hc;omega)])
    have h0:¬L.length=0:=by have:=odF hc;omega
    refine qD ?_ ?_<;>intro hc<;>simp only [hc,go_sem]
    · refine qF (Jk c1 (by omega) (by omega) a1 (by omega) (by omega)) ?_;simp only [go_sem];refine qK (k:=4) (by rfl) (by simp [go_sem]) (qA.isAgg _) (by decide) ?_;simp only [go_sem];exact ok (by unfold qo;rw [if_neg h0,if_pos (odT hc)])
    have hn2:¬a.Kind=2:=odF hc;have hn6:¬(a.Kind=6∧(qz a).Kind=2):=fun h=>h6 h.1;refine qY ?_ ?_<;>intro hc<;>simp only [hc,go_sem];rotate_left
    · have h1:¬L.length=1:=by simp at hc;omega
      refine qK (k:=4) (by rfl) (by rfl) (by exact ⟨_,rfl⟩) (by decide) ?_;simp only [go_sem];exact bad (by unfold qo;rw [if_neg h0,if_neg hn2,if_neg hn6,if_neg (fun h=>h1 h.1),if_neg (fun h=>h1 h.1)])
    have h1:=odT hc;obtain ⟨n,rfl⟩:∃n,L=[n]:=zj (by omega);simp only [go_sem];rw [QG hG.at'];simp only [go_sem];refine qD ?_ ?_<;>intro hc<;>simp only [hc,go_sem]
    · have hnl:=odT hc;refine qF (Jk c1 (by omega) (by omega) a1 (by omega) (by omega)) ?_;simp only [go_sem];refine qK (k:=4) (by rfl) (by simp [go_sem]) (qA.isAgg _) (by decide) ?_;simp only [go_sem];exact ok (by unfold qo;rw [if_neg h0,if_neg hn2,if_neg hn6,if_pos ⟨rfl,by rw [hnl];rfl⟩])
    have hnl:=odF hc;have hn1:n=l+1:=by simp [hnl] at hlv;exact hlv
    have h8:¬([n].length=1∧[n].head?=some l):=by rintro ⟨_,h⟩;simp at h;exact hnl h
    refine qY ?_ ?_<;>intro hc<;>simp only [hc,go_sem];rotate_left
    · exact absurd hc (by simp)
    rw [QG hG.at'];simp only [go_sem];rw [qj (by omega) (by omega)];refine qY ?_ ?_<;>intro hc<;>simp only [hc,go_sem];rotate_left
    · exact absurd hn1 (by simpa using hc)
    refine qD ?_ ?_<;>intro hc<;>simp only [hc,go_sem]
    · exact absurd (odT hc) h6
    refine qK (k:=4) (by rfl) (by rfl) (by exact ⟨_,rfl⟩) (by decide) ?_;simp only [go_sem];exact bad (by unfold qo;rw [if_neg h0,if_neg hn2,if_neg hn6,if_neg h8,if_neg (fun h=>h6 h.2)])
end Go.Ab
namespace Go.Ab
open Go
set_option maxRecDepth 10000
set_option maxHeartbeats 2000000
attribute [local simp] qv qb zt
def at1 (b:qI) (I:List Bool) (x a c:qA) (l:Int):qA×Int:=
  if qX x=2 then (.mk 2 (opI x.Value a.Value c.Value) [] [],1) else if qX x=3 then (wF (zk x) a.Kids,2)
  else if qX x=1 then (qA.put c (qz a) 0,3)
  else if x.Kind=5∧a.Kind=11∧I.getD a.Value.toNat false=true∧l+(b.Defs.getD a.Value.toNat qS).boxes≤8 then (zO (b.Defs.getD a.Value.toNat qS) c,5)
  else if x.Kind=7∧(jD x c l).2=true then ((jD x c l).1,4) else (qS,0)
def atC (b:qI) (I:List Bool) (x:qA) (l:Int):qA×Int:=match x.Kids with
  |[]=>(qS,0)
  | a::ys=>at1 b I x a (ys.headD qS) l
theorem Ji {b:qI} {I:List Bool} {x a:qA} {ys:List qA} {l:Int} (hK:x.Kids=a::ys):atC b I x l=at1 b I x a (ys.headD qS) l:=by unfold atC;rw [hK]
theorem Y2 {b:qI} {I:List Bool} {x a c:qA} {l:Int} (hK:x.Kids=[a,c]):atC b I x l=at1 b I x a c l:=by
  rw [Ji hK,List.headD_cons]
theorem qhN {x a:qA} {ys:List qA} (h5:x.Kind=5) (hK:x.Kids=a::ys) (h11:a.Kind=11):qX x=4:=by
  unfold qX;rw [hK];simp only [];rw [if_pos h5,if_neg (by omega),if_pos h11]
theorem Q0 {h:List qC} {x:qA} {p:Int} {y:qA×Int} (e:y=(x,p)):Fin (some [x.enc,.int .i64 p]) h (.tup [y.1.enc,.int .i64 y.2]):=by
  subst e;exact jn (cv2 (.refl (by simp [go_sem])) rfl)
theorem Q1 {h:List qC} {y:qA×Int} (e:y=(qS,0)):Fin (some [.agg [.int .i64 0,.int .i64 0,.nils,.nils],.int .i64 0]) h (.tup [y.1.enc,.int .i64 y.2]):=by
  subst e;exact jn (cv2 wc rfl)
theorem qRH {x:qA} (ho:x.ok=true):qX x=0∨(qX x=1∧x.Kind=5∧∃a c k,x.Kids=[a,c]∧a.Kind=4∧a.Kids=[k])∨(qX x=2∧x.Kind=3∧∃a c,x.Kids=[a,c]∧a.Kind=2∧c.Kind=2)∨(qX x=3∧∃a,x.Kids=[a])∨(qX x=4∧∃a ys,x.Kids=a::ys∧(x.Kind=5→a.Kind=11)):=by
  by_cases h5:x.Kind=5
  · obtain ⟨a,c,hK⟩:=zf ((qt ho).1 (by omega));have ham:a∈x.Kids:=by rw [hK];simp
    have hr:qX x=if a.Kind=4 then 1 else if a.Kind=11 then 4 else 0:=by unfold qX;rw [hK];simp only [];rw [if_pos h5]
    by_cases h4:a.Kind=4
    · obtain ⟨k,hk⟩:=zj ((qt (qu ho ham)).2 (.inl h4));exact .inr (.inl ⟨by rw [hr,if_pos h4],h5,a,c,k,hK,h4,hk⟩)
    · by_cases h11:a.Kind=11
      · exact .inr (.inr (.inr (.inr ⟨by rw [hr,if_neg h4,if_pos h11],a,[c],hK,fun _=>h11⟩)))
      · exact .inl (by rw [hr,if_neg h4,if_neg h11])
  by_cases h3:x.Kind=3
  · obtain ⟨a,c,hK⟩:=zf ((qt ho).1 (by omega));have hr:qX x=if a.Kind=11 then 4 else if a.Kind=2 then (if c.Kind=2 then 2 else if c.Kind=11 then 4 else 0) else 0:=by unfold qX;rw [hK];simp only [];rw [if_neg h5,if_pos h3]
    by_cases h11:a.Kind=11
    · exact .inr (.inr (.inr (.inr ⟨by rw [hr,if_pos h11],a,[c],hK,fun h=>absurd h h5⟩)))
    · by_cases h2:a.Kind=2
      · by_cases c2:c.Kind=2
        · exact .inr (.inr (.inl ⟨by rw [hr,if_neg h11,if_pos h2,if_pos c2],h3,a,c,hK,h2,c2⟩))
        · by_cases c11:c.Kind=11
          · exact .inr (.inr (.inr (.inr ⟨by rw [hr,if_neg h11,if_pos h2,if_neg c2,if_pos c11],a,[c],hK,fun h=>absurd h h5⟩)))
          · exact .inl (by rw [hr,if_neg h11,if_pos h2,if_neg c2,if_neg c11])
      · exact .inl (by rw [hr,if_neg h11,if_neg h2])
  by_cases h9:x.Kind=9∨x.Kind=10
  · obtain ⟨a,hK⟩:=zj ((qt ho).2 (by omega));by_cases e0:qX x=0
    · exact .inl e0
    by_cases e3:qX x=3
    · exact .inr (.inr (.inr (.inl ⟨e3,a,hK⟩)))
    · refine .inr (.inr (.inr (.inr ⟨?_,a,[],hK,fun h=>absurd h h5⟩)));unfold qX at e0 e3⊢;rw [hK] at e0 e3⊢;simp only [] at e0 e3⊢;rw [if_neg h5,if_neg h3] at e0 e3⊢;split at e0<;>rename_i hh
      · rw [if_pos hh] at e3⊢;split at e0<;>simp_all
      · rw [if_neg hh] at e3⊢;split at e0<;>simp_all
  · exact .inl (ZP h5 h3 (fun h=>h9 (.inl h)) (fun h=>h9 (.inr h)))
theorem c850 {b:qI} {lim:Int} {I:List Bool} {x:qA} {l:Int} (hb:b.ok=true) (hbz:b.sz≤1048576) (hx:x.valid=true) (hf:x.refs b.Defs.length=true) (hI:I.length=b.Defs.length) (hs:x.strat l=true) (hl:0≤l∧l≤1000):Pure Gm 850 [.ept (wO b lim I) 0,x.enc,.int .i64 l] (.tup [(atC b I x l).1.enc,.int .i64 (atC b I x l).2]):=by
  refine Pure.intro [] [] g850 (by kernel_rfl) rfl (by simp [AV.trees,AV.tree,go_sem]) (by simp [AV.tree,AV.trees,go_sem]) ?_;simp only [Yh,qM,go_sem];obtain ⟨ho,hd,hsz,hz,hv⟩:=zY hx;have hlv:zL x l=true:=by
    rw [x.strat_eq] at hs;simp only [bAt] at hs;exact hs.1.2
  refine qc qA.ln ?_;simp only [go_sem];refine qF (c758 (by omega) ho) ?_;simp only [go_sem];rcases qRH ho with h0 | ⟨h1,h5,a,c,k,hK,h4,hk⟩ | ⟨h2,h3,a,c,hK,ha,hc2⟩ | ⟨h3,a,hK⟩ | ⟨h4,a,ys,hK,h11⟩
  · rw [h0];simp only [show decide ((0:Int)=2)=false from rfl,show decide ((0:Int)=3)=false from rfl,show decide ((0:Int)=1)=false from rfl,show decide ((0:Int)=4)=false from rfl,go_sem];refine qD ?_ ?_<;>intro hc<;>simp only [hc,go_sem]
    · have h7:=odT hc;obtain ⟨a,c,hK⟩:=zf ((qt ho).1 (by omega));refine qF (qZF hx h7 hK hlv hl) ?_;simp only [go_sem];refine qK (k:=4) (by rfl) (by simp [go_sem]) (qA.isAgg _) (by decide) ?_;simp only [go_sem];have hat:atC b I x l=if (jD x c l).2=true then ((jD x c l).1,4) else (qS,0):=by
        rw [Y2 hK];unfold at1;rw [if_neg (by omega),if_neg (by omega),if_neg (by omega),if_neg (by omega)];by_cases e:(jD x c l).2=true
        · rw [if_pos ⟨h7,e⟩,if_pos e]
        · rw [if_neg (fun h=>e h.2),if_neg e]
      refine qD ?_ ?_<;>intro hc<;>simp only [hc,go_sem]
      · refine qK (k:=4) (by rfl) (by simp [go_sem]) (qA.isAgg _) (by decide) ?_;simp only [go_sem];exact Q0 (by rw [hat,if_pos hc])
      · refine qK (k:=4) (by rfl) (by rfl) (by exact ⟨_,rfl⟩) (by decide) ?_;simp only [go_sem];exact Q1 (by rw [hat,if_neg (by simp [hc])])
    · have h7:=odF hc;refine qK (k:=4) (by rfl) (by rfl) (by exact ⟨_,rfl⟩) (by decide) ?_;simp only [go_sem];exact Q1 (by
        cases hK:x.Kids with
        | nil=>unfold atC;rw [hK]
        | cons a ys=>
          rw [Ji hK];unfold at1;rw [if_neg (by omega),if_neg (by omega),if_neg (by omega),if_neg (fun h=>by have:=qhN h.1 hK h.2.1;omega),if_neg (fun h=>h7 h.1)])
  · rw [h1];simp only [show decide ((1:Int)=2)=false from rfl,show decide ((1:Int)=3)=false from rfl,go_sem];refine qF (qZT hx hK hk) ?_;simp only [go_sem];refine qK (k:=4) (by rfl) (by simp [go_sem]) (qA.isAgg _) (by decide) ?_;simp only [go_sem];exact Q0 (by rw [Y2 hK];unfold at1;rw [if_neg (by omega),if_neg (by omega),if_pos h1];unfold qz;rw [hk];rfl)
  · rw [h2];simp only [go_sem];refine qF (qZU hK) ?_;simp only [go_sem];refine qK (k:=4) (by rfl) (by simp [go_sem]) (qA.isAgg _) (by decide) ?_;simp only [go_sem];exact Q0 (by rw [Y2 hK];unfold at1;rw [if_pos h2])
  · rw [h3];simp only [show decide ((3:Int)=2)=false from rfl,go_sem];refine qF (qZV ho (by omega) hK h3) ?_;simp only [go_sem];refine qK (k:=4) (by rfl) (by simp [go_sem]) (qA.isAgg _) (by decide) ?_;simp only [go_sem];exact Q0 (by rw [Ji hK];unfold at1;rw [if_neg (by omega),if_pos h3])
  · rw [h4];simp only [show decide ((4:Int)=2)=false from rfl,show decide ((4:Int)=3)=false from rfl,show decide ((4:Int)=1)=false from rfl,go_sem];simp only [hK,List.map_cons,List.map_nil,Option.map_some,go_sem];refine qY ?_ ?_<;>intro hc<;>simp only [hc,go_sem]
    · have h5:=odT hc;have ham:a∈x.Kids:=by rw [hK];simp
      have hav:=ZQ (qu ho ham) (jv hf ham) (h11 h5);obtain ⟨n,hV⟩:∃n:Nat,a.Value=n:=⟨a.Value.toNat,by omega⟩;have hlt:n<b.Defs.length:=by omega
      have hltI:n<I.length:=by omega
      obtain ⟨c,hy⟩:∃c,ys=[c]:=by
        obtain ⟨u,v,hK'⟩:=zf ((qt ho).1 (by omega));rw [hK'] at hK;cases hK;exact ⟨_,rfl⟩
      subst hy;have hat:atC b I x l=if I[n]=true∧l+b.Defs[n].boxes≤8 then (zO b.Defs[n] c,5) else (qS,0):=by
        rw [Y2 hK];unfold at1;rw [if_neg (by omega),if_neg (by omega),if_neg (by omega),hV];simp only [Int.toNat_natCast,List.getD_eq_getElem?_getD,gEg hltI,gEg hlt,Option.getD_some];by_cases e:I[n]=true∧l+b.Defs[n].boxes≤8
        · rw [if_pos e,if_pos ⟨h5,h11 h5,e⟩]
        · rw [if_neg e,if_neg (fun h=>e h.2.2),if_neg (fun h=>by omega)]
      have hK0:=hK;replace hK:=And.intro hK hV;simp only [hK,List.map_cons,List.map_nil,Option.map_some,go_sem];simp only [List.getElem?_map,gEg hltI,Option.map_some,go_sem];simp only [w6,go_sem];have hdv:=zY ((Qc hb).2 _ (gMm hlt)).1;have hbd:=b.Defs[n].boxes_dep;refine qY ?_ ?_<;>intro hc<;>simp only [hc,go_sem]
      · have hi:=hc;simp only [List.getElem?_map,gEg hlt,Option.map_some,go_sem];refine qF (qZE b.Defs[n] hdv.1 (by omega) (by omega)) ?_;simp only [go_sem];rw [qj (by omega) (by omega)];refine qD ?_ ?_<;>intro hc<;>simp only [hc,go_sem]
        · refine qF (qZW ho (by omega) h5 hK0 (h11 h5) hV hlt) ?_;simp only [go_sem];refine qK (k:=4) (by rfl) (by simp [go_sem]) (qA.isAgg _) (by decide) ?_;simp only [go_sem];exact Q0 (by rw [hat,if_pos ⟨hi,odT hc⟩])
        have hn:=odF hc;refine qD ?_ ?_<;>intro hc<;>simp only [hc,go_sem]
        · have:=odT hc;omega
        refine qK (k:=4) (by rfl) (by rfl) (by exact ⟨_,rfl⟩) (by decide) ?_;simp only [go_sem];exact Q1 (by rw [hat,if_neg (fun h=>hn h.2)])
      · have hn:¬I[n]=true:=by simp at hc;simp [hc]
        refine qD ?_ ?_<;>intro hc<;>simp only [hc,go_sem]
        · have:=odT hc;omega
        refine qK (k:=4) (by rfl) (by rfl) (by exact ⟨_,rfl⟩) (by decide) ?_;simp only [go_sem];exact Q1 (by rw [hat,if_neg (fun h=>hn h.1)])
    · have h5:¬x.Kind=5:=by simpa using hc
      have h7:¬x.Kind=7:=fun h=>by have:=ZP (x:=x) (by omega) (by omega) (by omega) (by omega);omega
      refine qD ?_ ?_<;>intro hc<;>simp only [hc,go_sem]
      · exact absurd (odT hc) h7
      refine qK (k:=4) (by rfl) (by rfl) (by exact ⟨_,rfl⟩) (by decide) ?_;simp only [go_sem];exact Q1 (by rw [Ji hK];unfold at1;rw [if_neg (by omega),if_neg (by omega),if_neg (by omega),if_neg (fun h=>h5 h.1),if_neg (fun h=>h7 h.1)])
end Go.Ab
namespace Go.Ab
open Go
set_option maxRecDepth 10000
set_option maxHeartbeats 2000000
attribute [local simp] qv qb zt
def je (x:qA):List (Int→qA×Int)→Nat→Int→qA×Int
  |[],_,_=>(qS,0)
  | r::rs,i,l=>if (r l).2=0 then je x rs (i+1) l else (.mk x.Kind x.Value x.Data (x.Kids.set i (r l).1),(r l).2)
def zU (b:qI) (I:List Bool):qA→Int→qA×Int:=qA.fold fun x rs l=>
  if (atC b I x l).2=0 then je x rs 0 (l+qW x.Kind) else atC b I x l
theorem ZV (b:qI) (I:List Bool) (x:qA) (l:Int):zU b I x l=
    if (atC b I x l).2=0 then je x (x.Kids.map (zU b I)) 0 (l+qW x.Kind) else atC b I x l:=by
  unfold zU;rw [qA.fold_eq]
theorem VY {x:qA} {f:qA→Int→qA×Int} {i:Nat} {l:Int} (h:i<x.Kids.length):
    je x ((x.Kids.drop i).map f) i l=if (f x.Kids[i] l).2=0 then je x ((x.Kids.drop (i+1)).map f) (i+1) l else (.mk x.Kind x.Value x.Data (x.Kids.set i (f x.Kids[i] l).1),(f x.Kids[i] l).2):=by
  rw [List.drop_eq_getElem_cons h,List.map_cons,je]
theorem qbF {h:List qC} {v:AV} {g:qA} {p:Int} {y:qA×Int} (hc:Cv h v g.enc) (e:y=(g,p)):Fin (some [v,.int .i64 p]) h (.tup [y.1.enc,.int .i64 y.2]):=by
  subst e;exact jn (cv2 hc rfl)
theorem c494 (x:qA):∀(b:qI) (lim:Int) (I:List Bool) (l:Int) (hb:b.ok=true) (hbz:b.sz≤1048576) (hx:x.valid=true) (hf:x.refs b.Defs.length=true) (hIl:I.length=b.Defs.length) (hs:x.strat l=true) (hl:0≤l∧l≤1000),Pure Gm 494 [.ept (wO b lim I) 0,x.enc,.int .i64 l] (.tup [(zU b I x l).1.enc,.int .i64 (zU b I x l).2]):=by
  induction x using qA.ind with
  | _ x ih=>
  intro b lim I l hb hbz hx hf hIl hs hl;refine Pure.intro [] [] g494 (by kernel_rfl) rfl (by simp [AV.trees,AV.tree,go_sem]) (by simp [AV.tree,AV.trees,go_sem]) ?_;simp only [X6,qM,go_sem];obtain ⟨ho,hd,hsz,hz,hv⟩:=zY hx;have hL:=x.len_sz;have hres:=ZV b I x l;have hbx:=Qn x.Kind;have hst:l≤8∧∀y∈x.Kids,y.strat (l+qW x.Kind)=true:=by
    rw [x.strat_eq] at hs;simp only [bAt,List.all_eq_true,decide_eq_true_eq] at hs;exact ⟨hs.1.1,hs.2⟩
  refine qc qA.ln ?_;simp only [go_sem];refine qF (c850 hb hbz hx hf hIl hs hl) ?_;simp only [go_sem];refine qK (k:=4) (by rfl) (by simp [go_sem]) (qA.isAgg _) (by decide) ?_;simp only [go_sem];refine qD ?_ ?_<;>intro hc<;>simp only [hc,go_sem]
  · refine qK (k:=4) (by rfl) (by simp [go_sem]) (qA.isAgg _) (by decide) ?_;simp only [go_sem];rw [if_neg (by simpa using hc)] at hres;exact Q0 (by rw [hres])
  rw [if_pos (by simpa using hc)] at hres;refine Sem.loop (fun i:Nat=>i≤x.Kids.length∧zU b I x l=je x ((x.Kids.drop i).map (zU b I)) i (l+qW x.Kind)) (fun i=>(⟨[(0,.ept (wO b lim I) 0),(2,.int .i64 l),(27,.lst 4 (x.Kids.map qA.enc) false),(28,.int .i64 (x.Kids.length:Nat)),(29,.int .i64 (i:Nat))],[(4,x.enc),(6,.agg [.int .i64 0,.int .i64 0,.nils,.nils])],[]⟩:VSt)) (fun i=>x.Kids.length-i) 0 (by kernel_rfl) ⟨Nat.zero_le _,hres⟩ (Can.sub (by simp [go_sem]) (by simp [go_sem])) ?_;rintro i ⟨hi,hI⟩;simp only [go_sem];refine qD ?_ ?_<;>intro hc<;>simp only [hc,go_sem]
  · have hlt:i<x.Kids.length:=by have:=odT hc;omega
    simp only [List.getElem?_map,gEg hlt,Option.map_some,go_sem];have hkm:=gMm hlt;refine qK (k:=4) (by rfl) (by simp [go_sem]) (qA.isAgg _) (by decide) ?_;simp only [go_sem];refine qF w7 ?_;simp only [go_sem];rw [Zv,qj (n:=l+qW x.Kind) (by omega) (by omega)];refine qF (ih _ hkm b lim I (l+qW x.Kind) hb hbz (ze hx hkm) (jv hf hkm) hIl (hst.2 _ hkm) (by omega)) ?_;simp only [go_sem];refine qK (k:=4) (by rfl) (by simp [go_sem]) (qA.isAgg _) (by decide) ?_;simp only [go_sem];rw [VY hlt] at hI;refine qD ?_ ?_<;>intro hc<;>simp only [hc,go_sem]
    · rw [if_neg (by simpa using hc)] at hI;refine zJ (s769 (by intro e;rw [e] at hlt;simp at hlt) (by omega) ?_);simp only [go_sem];refine qK (k:=4) (by rfl) (by rfl) (by exact ⟨_,rfl⟩) (by decide) ?_;simp only [go_sem];rw [z7 hlt];simp only [Nat.zero_add,go_sem];refine z9 (by simp [go_sem]) rfl (by simp [hlt];rfl) qA.putcore ?_;simp only [go_sem];refine qK (k:=4) (by rfl) (by rfl) (by exact ⟨_,rfl⟩) (by decide) ?_;simp only [go_sem];exact qbF (Jm (by simp [List.map_set]) (by simp)) hI
    · rw [if_pos (by simpa using hc)] at hI;simp only [qe (show i<4611686018427387904 by omega)];refine qZ (i+1) ⟨by omega, ?_⟩ (by omega) (Can.sub (by simp [go_sem]) (by simp [go_sem]));exact hI
  · obtain rfl:i=x.Kids.length:=by have:=odF hc;omega
    refine qK (k:=4) (by rfl) (by rfl) (by exact ⟨_,rfl⟩) (by decide) ?_;simp only [go_sem];exact Q1 (by rw [hI,List.drop_length];rfl)
end Go.Ab
namespace Go.Ab
open Go
set_option maxRecDepth 10000
set_option maxHeartbeats 2000000
def RW (h:List qC) (id:Nat) (ys:List Int):List qC:=h.set id (.row 1 (ys.map qE) true)
def gI (ys:List Int) (e:Int):Int:=ys.getD e.toNat 0
def swI (ys:List Int) (i j:Int):List Int:=(ys.set i.toNat (gI ys j)).set j.toNat (gI ys i)
theorem qjI {ys:List Int} {i j:Int}:(swI ys i j).length=ys.length:=by simp [swI]
theorem jW {ys:List Int} {i j:Int} (hi:0≤i) (hi2:i<ys.length) (hj:0≤j) (hj2:j<ys.length):(swI ys i j).Perm ys:=by
  have h1:i.toNat<ys.length:=by omega
  have h2:j.toNat<ys.length:=by omega
  have:=List.set_set_perm h1 h2;unfold swI gI;rwa [List.getD_eq_getElem?_getD,List.getD_eq_getElem?_getD,gEg h1,gEg h2]
theorem Zn {h:List qC} {id:Nat} {ys:List Int}:(RW h id ys).length=h.length:=by simp [RW]
theorem qPG {h:List qC} {id:Nat} {ys:List Int} (hid:id<h.length):(RW h id ys)[id]?=some (.row 1 (ys.map qE) true):=by simp [RW,hid]
theorem qX8 {h:List qC} {id:Nat} {ys zs:List Int}:(RW h id ys).set id (.row 1 (zs.map qE) true)=RW h id zs:=by simp [RW]
theorem Qi {h ex:List qC} {id:Nat} {ys:List Int} (hid:id<h.length):RW h id ys++ex=RW (h++ex) id ys:=by simp [RW,List.set_append_left,hid]
theorem qX6 {h:List qC} {id:Nat} {ys:List Int} (ho:h[id]?=some (.row 1 (ys.map qE) true)):RW h id ys=h:=qWU ho
theorem qU {w id len:Nat} {k:IntKind} {n:Int} (h0:0≤n) (h:n<len):idx w (some (.slice w id 0 len false)) (some (.int k n))=some (.ptr id n.toNat 0):=by rw [WD h0 h,Nat.zero_add]
theorem qV {h:List qC} {id:Nat} {ys:List Int} {e:Int} (hid:id<h.length) (h0:0≤e) (he:e<ys.length):wA none 0 e.toNat (RW h id ys)[id]?=some (.int .i64 (gI ys e)):=by
  have h1:e.toNat<ys.length:=by omega
  rw [qPG hid,gI,List.getD_eq_getElem?_getD,gEg h1];simp only [wA,List.getElem?_map,gEg h1,Option.map_some,qE,Option.getD_some];rfl
section
variable {E:Ev} {ks:List Fr1} {s m:qi} {h:List qC} {Q:qa→VSt→Prop} {l:List qB}
theorem zH {id:Nat} {ys:List Int} {e v:Int} (hid:id<h.length) (h0:0≤e) (he:e<ys.length):
    R E (.ops l::ks) ⟨s,m,RW h id (ys.set e.toNat v)⟩ Q→Sto E 1 (some (.ptr id e.toNat 0)) (some (.int .i64 v)) l ks ⟨s,m,RW h id ys⟩ Q:=by
  intro hr;have h1:e.toNat<ys.length:=by omega
  refine z9 (by rfl) (qPG hid) (by rw [List.getElem?_map,gEg h1];rfl) (by rfl) ?_;have hm:(ys.map qE).set e.toNat (.int .i64 v)=(ys.set e.toNat v).map qE:=by simp [List.map_set,qE]
  rw [hm,qX8];exact hr
theorem qP {n:Int} (h: -9223372036854775808≤n) (h':n≤9223372036854775807):IntKind.i64.wrap n=n:=qj h h'
end
theorem qZB (a:Int):Pure Gm 1167 [.int .i64 a] (.bool false):=by
  refine Pure.intro [] [] qcA (by kernel_rfl) rfl (by simp [AV.trees,AV.tree,go_sem]) rfl ?_;simp only [XH,qM,go_sem]
  repeat' (first | (refine qc rfl ?_;simp only [go_sem]) | (first | (refine qY ?_ ?_<;>intro hc<;>simp only [hc,go_sem]) | (refine qD ?_ ?_<;>intro hc<;>simp only [hc,go_sem])) | refine qL rfl ?_ | refine jd (by rfl) ?_)
  all_goals (simp_all<;>omega)
theorem jc (a b:Int):Pure Gm 1345 [.int .i64 a,.int .i64 b] (.bool (decide (a<b))):=by
  refine Pure.intro [] [] qcS (by kernel_rfl) rfl (by simp [AV.trees,AV.tree,go_sem]) rfl ?_;simp only [XZ,qM,go_sem];refine qF (qZB _) ?_;simp only [go_sem];exact qL rfl rfl
theorem qiA {h:List qC} {id n:Nat} {xs:List Int} {a b:Int} {K:AV→List qC→Prop} (hid:id<h.length) (hn:xs.length=n) (hl:n≤4194304) (hab:0≤a∧a≤b∧b≤n)
    (hK:∀ys,ys.Perm xs→K (.tup []) (RW h id ys)):SCall Gm 1339 [.slice 1 id 0 n false,.int .i64 a,.int .i64 b] (RW h id xs) K:=by
  refine SCall.run [] [] qcM (by kernel_rfl) rfl ?_;simp only [XT,qM,go_sem];rw [qP (by omega) (by omega)];refine Sem.loop (fun q:Int×List Int=>a+1≤q.1∧q.1≤max b (a+1)∧q.2.Perm xs) (fun q=>(⟨[(0,.slice 1 id 0 n false),(1,.int .i64 a),(2,.int .i64 b),(6,.int .i64 q.1)],[],RW h id q.2⟩:VSt)) (fun q=>(b-q.1).toNat) (a+1,xs) (by kernel_rfl) ⟨by simp only;omega,by simp only;omega,.refl _⟩ (Can.sub (by simp [go_sem]) (by simp [go_sem])) ?_;rintro ⟨i,ys⟩ ⟨h1,h2,h3⟩;simp only at h1 h2 h3⊢;have hyl:=h3.length_eq;simp only [go_sem];refine qD ?_ ?_<;>intro hc<;>simp only [hc,go_sem]
  · have hib:=odT hc;refine Sem.loop (fun q:Int×List Int=>a≤q.1∧q.1≤i∧q.2.Perm xs) (fun q=>(⟨[(0,.slice 1 id 0 n false),(1,.int .i64 a),(2,.int .i64 b),(6,.int .i64 i),(7,.int .i64 q.1)],[],RW h id q.2⟩:VSt)) (fun q=>(q.1-a).toNat) (i,ys) (by kernel_rfl) ⟨by simp only;omega,by simp only;omega,h3⟩ (Can.sub (by simp [go_sem]) (by simp [go_sem])) ?_;rintro ⟨j,zs⟩ ⟨g1,g2,g3⟩;simp only at g1 g2 g3⊢;have hzl:=g3.length_eq;simp only [go_sem];refine qY ?_ ?_<;>intro hc<;>simp only [hc,go_sem]
    · have hja:=odT hc;simp (disch:=omega) only [go_sem,qP,qU,qV];refine qF (jc _ _) ?_;simp only [go_sem];refine qD ?_ ?_<;>intro hc<;>simp only [hc,go_sem]
      · simp (disch:=omega) only [go_sem,qP,qU,qV];refine zH hid (by omega) (by omega) ?_;simp (disch:=omega) only [go_sem,qP,qU,qV];refine zH hid (by omega) (by rw [List.length_set];omega) ?_;simp (disch:=omega) only [go_sem,qP,qU,qV];refine qZ (j-1,swI zs j (j-1)) ⟨by simp only;omega,by simp only;omega,(jW (by omega) (by omega) (by omega) (by omega)).trans g3⟩ (by simp only;omega) (Can.sub (by simp [go_sem]) (by simp [go_sem]))
      · simp (disch:=omega) only [go_sem,qP,qU,qV];refine qZ (i+1,zs) ⟨by simp only;omega,by simp only;omega,g3⟩ (by simp only;omega) (Can.sub (by simp [go_sem]) (by simp [go_sem]))
    · simp (disch:=omega) only [go_sem,qP,qU,qV];refine qZ (i+1,zs) ⟨by simp only;omega,by simp only;omega,g3⟩ (by simp only;omega) (Can.sub (by simp [go_sem]) (by simp [go_sem]))
  · exact hK _ h3
end Go.Ab
namespace Go.Ab
open Go
set_option maxRecDepth 10000
set_option maxHeartbeats 2000000
theorem qiE {h:List qC} {id n:Nat} {xs:List Int} {a b:Int} {K:AV→List qC→Prop} (hid:id<h.length) (hn:xs.length=n) (hl:n≤4194304) (hab:0≤a∧a≤b∧b≤n)
    (hK:∀ys,ys.Perm xs→K (.tup []) (RW h id ys)):SCall Gm 1343 [.slice 1 id 0 n false,.int .i64 a,.int .i64 b] (RW h id xs) K:=by
  refine SCall.run [] [] qcQ (by kernel_rfl) rfl ?_;simp only [XX,qM,go_sem];simp (config:={maxSteps:=2000000}) (disch:=omega) only [go_sem,qP,qU,qV,Int.reduceEq];refine Sem.loop (fun q:Int×Int×List Int=>a≤q.1∧q.2.1≤b-1∧q.2.2.Perm xs) (fun q=>(⟨[(0,.slice 1 id 0 n false),(6,.int .i64 q.1),(7,.int .i64 q.2.1)],[],RW h id q.2.2⟩:VSt)) (fun q=>(b-q.1).toNat) (a,b-1,xs) (by kernel_rfl) ⟨(by simp only;omega),(by simp only;omega),.refl _⟩ (Can.sub (by simp [go_sem]) (by simp [go_sem])) ?_;rintro ⟨i,j,ys⟩ ⟨h1,h2,h3⟩;simp only at h1 h2 h3⊢;have hyl:=h3.length_eq;simp only [go_sem];refine qD ?_ ?_<;>intro hc<;>simp only [hc,go_sem]
  · have hij:=odT hc;simp (config:={maxSteps:=2000000}) (disch:=omega) only [go_sem,qP,qU,qV,Int.reduceEq];refine zH hid (by omega) (by omega) ?_;simp (config:={maxSteps:=2000000}) (disch:=omega) only [go_sem,qP,qU,qV,Int.reduceEq];refine zH hid (by omega) (by rw [List.length_set];omega) ?_;simp (maxSteps:=2000000) (disch:=omega) only [go_sem,qP,qU,qV,Int.reduceEq];refine qZ (i+1,j-1,swI ys i j) ⟨(by simp only;omega),(by simp only;omega),(jW (by omega) (by omega) (by omega) (by omega)).trans h3⟩ (by simp only;omega) (Can.sub (by simp [go_sem]) (by simp [go_sem]))
  · exact hK _ h3
theorem qWP {h:List qC} {id n:Nat} {xs:List Int} {lo hi fi:Int} {K:AV→List qC→Prop} (hid:id<h.length) (hn:xs.length=n) (hl:n≤4194304) (hab:0≤lo∧lo≤n∧0≤hi∧0≤fi∧fi+hi≤n)
    (hK:∀ys,ys.Perm xs→K (.tup []) (RW h id ys)):SCall Gm 1476 [.slice 1 id 0 n false,.int .i64 lo,.int .i64 hi,.int .i64 fi] (RW h id xs) K:=by
  refine SCall.run [] [] qc2 (by kernel_rfl) rfl ?_;simp only [Xj,qM,go_sem];refine Sem.loop (fun q:Int×List Int=>0≤q.1∧q.1≤n∧q.2.Perm xs) (fun q=>(⟨[(0,.slice 1 id 0 n false),(2,.int .i64 hi),(3,.int .i64 fi),(8,.int .i64 q.1)],[],RW h id q.2⟩:VSt)) (fun q=>(n-q.1).toNat) (lo,xs) (by kernel_rfl) ⟨(by simp only;omega),(by simp only;omega),.refl _⟩ (Can.sub (by simp [go_sem]) (by simp [go_sem])) ?_;rintro ⟨i,ys⟩ ⟨h1,h2,h3⟩;simp only at h1 h2 h3⊢;have hyl:=h3.length_eq;simp (config:={maxSteps:=2000000}) (disch:=omega) only [go_sem,qP,qU,qV,Int.reduceEq];refine qD ?_ ?_<;>intro hc<;>simp only [hc,go_sem]
  · exact hK _ h3
  have hch:=odF hc;simp (config:={maxSteps:=2000000}) (disch:=omega) only [go_sem,qP,qU,qV,Int.reduceEq]
  --the greater child
  have key:∀(c:Int) (p:qi),c=2*i+1∨(c=2*i+2∧c<hi)→True:=fun _ _ _=>trivial;refine qY ?_ ?_<;>intro hc<;>simp only [hc,go_sem]
  · have hc2:=odT hc;simp (config:={maxSteps:=2000000}) (disch:=omega) only [go_sem,qP,qU,qV,Int.reduceEq];refine qF (jc _ _) ?_;simp only [go_sem];refine qD ?_ ?_<;>intro hc<;>simp only [hc,go_sem]
    · simp (config:={maxSteps:=2000000}) (disch:=omega) only [go_sem,qP,qU,qV,Int.reduceEq];refine qF (jc _ _) ?_;simp only [go_sem];refine qD ?_ ?_<;>intro hc<;>simp only [hc,go_sem]
      · exact hK _ h3
      · simp (config:={maxSteps:=2000000}) (disch:=omega) only [go_sem,qP,qU,qV,Int.reduceEq];refine zH hid (by omega) (by omega) ?_;simp (config:={maxSteps:=2000000}) (disch:=omega) only [go_sem,qP,qU,qV,Int.reduceEq];refine zH hid (by omega) (by rw [List.length_set];omega) ?_;simp (maxSteps:=2000000) (disch:=omega) only [go_sem,qP,qU,qV,Int.reduceEq];refine qZ (2*i+1+1,swI ys (fi+i) (fi+(2*i+1+1))) ⟨(by simp only;omega),(by simp only;omega),(jW (by omega) (by omega) (by omega) (by omega)).trans h3⟩ (by simp only;omega) (Can.sub (by simp [go_sem]) (by simp [go_sem]))
    · simp (config:={maxSteps:=2000000}) (disch:=omega) only [go_sem,qP,qU,qV,Int.reduceEq];refine qF (jc _ _) ?_;simp only [go_sem];refine qD ?_ ?_<;>intro hc<;>simp only [hc,go_sem]
      · exact hK _ h3
      · simp (config:={maxSteps:=2000000}) (disch:=omega) only [go_sem,qP,qU,qV,Int.reduceEq];refine zH hid (by omega) (by omega) ?_;simp (config:={maxSteps:=2000000}) (disch:=omega) only [go_sem,qP,qU,qV,Int.reduceEq];refine zH hid (by omega) (by rw [List.length_set];omega) ?_;simp (maxSteps:=2000000) (disch:=omega) only [go_sem,qP,qU,qV,Int.reduceEq];refine qZ (2*i+1,swI ys (fi+i) (fi+(2*i+1))) ⟨(by simp only;omega),(by simp only;omega),(jW (by omega) (by omega) (by omega) (by omega)).trans h3⟩ (by simp only;omega) (Can.sub (by simp [go_sem]) (by simp [go_sem]))
  · simp (config:={maxSteps:=2000000}) (disch:=omega) only [go_sem,qP,qU,qV,Int.reduceEq];refine qF (jc _ _) ?_;simp only [go_sem];refine qD ?_ ?_<;>intro hc<;>simp only [hc,go_sem]
    · exact hK _ h3
    · simp (config:={maxSteps:=2000000}) (disch:=omega) only [go_sem,qP,qU,qV,Int.reduceEq];refine zH hid (by omega) (by omega) ?_;simp (config:={maxSteps:=2000000}) (disch:=omega) only [go_sem,qP,qU,qV,Int.reduceEq];refine zH hid (by omega) (by rw [List.length_set];omega) ?_;simp (maxSteps:=2000000) (disch:=omega) only [go_sem,qP,qU,qV,Int.reduceEq];refine qZ (2*i+1,swI ys (fi+i) (fi+(2*i+1))) ⟨(by simp only;omega),(by simp only;omega),(jW (by omega) (by omega) (by omega) (by omega)).trans h3⟩ (by simp only;omega) (Can.sub (by simp [go_sem]) (by simp [go_sem]))
theorem td2 {x:Int} (h: -1≤x):0≤x.tdiv 2∧x.tdiv 2≤max x 0:=by
  by_cases h0:0≤x
  · rw [Int.tdiv_eq_ediv_of_nonneg h0];omega
  · rw [show x= -1 by omega];decide
theorem qiB {h:List qC} {id n:Nat} {xs:List Int} {a b:Int} {K:AV→List qC→Prop} (hid:id<h.length) (hn:xs.length=n) (hl:n≤4194304) (hab:0≤a∧a≤b∧b≤n)
    (hK:∀ys,ys.Perm xs→K (.tup []) (RW h id ys)):SCall Gm 1340 [.slice 1 id 0 n false,.int .i64 a,.int .i64 b] (RW h id xs) K:=by
  refine SCall.run [] [] qcN (by kernel_rfl) rfl ?_;simp only [XU,qM,go_sem];have ht:=td2 (x:=b-a-1) (by omega);simp (config:={maxSteps:=2000000}) (disch:=omega) only [go_sem,qP,qU,qV,Int.reduceEq];refine j6 (fun q:Int×List Int=> -1≤q.1∧q.1≤b-a∧q.2.Perm xs) (fun q=>(⟨[(0,.slice 1 id 0 n false),(6,.int .i64 a),(7,.int .i64 0),(8,.int .i64 (b-a)),(9,.int .i64 q.1)],[],RW h id q.2⟩:VSt)) (fun q=>(q.1+1).toNat) ((b-a-1).tdiv 2,xs)
    (fun zs:List Int=>zs.Perm xs) (fun zs=>(⟨[(0,.slice 1 id 0 n false),(6,.int .i64 a),(7,.int .i64 0),(8,.int .i64 (b-a))],[],RW h id zs⟩:VSt)) (by kernel_rfl) ⟨(by simp only;omega),(by simp only;omega),.refl _⟩ (Can.sub (by simp [go_sem]) (by simp [go_sem])) ?_ ?_
  · rintro ⟨i,ys⟩ ⟨h1,h2,h3⟩;simp only at h1 h2 h3⊢;have hyl:=h3.length_eq;simp only [go_sem];refine qD ?_ ?_<;>intro hc<;>simp only [hc,go_sem]
    · have hc2:=odT hc;refine zJ (qWP hid (by omega) hl (by omega) fun zs hz=> ?_);simp (config:={maxSteps:=2000000}) (disch:=omega) only [go_sem,qP,qU,qV,Int.reduceEq];exact jM (i-1,zs) ⟨(by simp only;omega),(by simp only;omega),hz.trans h3⟩ (by simp only;omega) (Can.sub (by simp [go_sem]) (by simp [go_sem]))
    · exact z3 ys h3 (Can.sub (by simp [go_sem]) (by simp [go_sem]))
  · intro ys h3;have hyl:=h3.length_eq;simp (config:={maxSteps:=2000000}) (disch:=omega) only [go_sem,qP,qU,qV,Int.reduceEq];refine Sem.loop (fun q:Int×List Int=> -1≤q.1∧q.1≤b-a-1∧q.2.Perm xs) (fun q=>(⟨[(0,.slice 1 id 0 n false),(6,.int .i64 a),(7,.int .i64 0),(10,.int .i64 q.1)],[],RW h id q.2⟩:VSt)) (fun q=>(q.1+1).toNat) (b-a-1,ys) (by kernel_rfl) ⟨(by simp only;omega),(by simp only;omega),h3⟩ (Can.sub (by simp [go_sem]) (by simp [go_sem])) ?_;rintro ⟨i,zs⟩ ⟨g1,g2,g3⟩;simp only at g1 g2 g3⊢;have hzl:=g3.length_eq;simp only [go_sem];refine qD ?_ ?_<;>intro hc<;>simp only [hc,go_sem]
    · have hc2:=odT hc;simp (config:={maxSteps:=2000000}) (disch:=omega) only [go_sem,qP,qU,qV,Int.reduceEq];refine zH hid (by omega) (by omega) ?_;simp (config:={maxSteps:=2000000}) (disch:=omega) only [go_sem,qP,qU,qV,Int.reduceEq];refine zH hid (by omega) (by rw [List.length_set];omega) ?_;simp (maxSteps:=2000000) (disch:=omega) only [go_sem,qP,qU,qV,Int.reduceEq];refine zJ (qWP (xs:=swI zs a (a+i)) hid (by rw [qjI];omega) hl (by omega) fun us hu=> ?_);simp (config:={maxSteps:=2000000}) (disch:=omega) only [go_sem,qP,qU,qV,Int.reduceEq];exact qZ (i-1,us) ⟨(by simp only;omega),(by simp only;omega),hu.trans ((jW (by omega) (by omega) (by omega) (by omega)).trans g3)⟩ (by simp only;omega) (Can.sub (by simp [go_sem]) (by simp [go_sem]))
    · exact hK _ g3
end Go.Ab
namespace Go.Ab
open Go
set_option maxRecDepth 10000
set_option maxHeartbeats 2000000
def bx (k:IntKind) (x:Int):qC:=.row 1 [.int k x] true
theorem qR5 {h:List qC} {o:qC} {id:Nat} {ys:List Int} (hid:id<h.length):(RW (h++[o]) id ys)[h.length]?=some o:=by
  unfold RW;rw [List.getElem?_set_ne (by omega),List.getElem?_append_right (Nat.le_refl _),Nat.sub_self];rfl
theorem qX5 {h:List qC} {o o':qC} {id:Nat} {ys:List Int} (hid:id<h.length):(RW (h++[o]) id ys).set h.length o'=RW (h++[o']) id ys:=by
  unfold RW;rw [List.set_comm _ _ (by omega)];congr 1;simp
theorem qUV {h:List qC} {o:qC} {id:Nat} (hid:id<h.length):id<(h++[o]).length:=by simp;omega
theorem QO {h:List qC} {id:Nat} {ys:List Int} {k:IntKind} {x:Int} (hid:id<h.length):wA none 0 0 (RW (h++[bx k x]) id ys)[h.length]?=some (.int k x):=by
  rw [qR5 hid];rfl
theorem Wg {E:Ev} {ks:List Fr1} {s m:qi} {h:List qC} {Q:qa→VSt→Prop} {l:List qB} {id:Nat} {ys:List Int} {k:IntKind} {x y:Int} (hid:id<h.length)
    (hr:R E (.ops l::ks) ⟨s,m,RW (h++[bx k y]) id ys⟩ Q):Sto E 1 (some (.ptr h.length 0 0)) (some (.int k y)) l ks ⟨s,m,RW (h++[bx k x]) id ys⟩ Q:=by
  refine z9 (by rfl) (qR5 hid) (by rfl) (by rfl) ?_;rw [show (qC.row 1 (([AV.int k x]).set 0 (AV.int k y)) true)=bx k y from rfl,qX5 hid];exact hr
theorem qRN {h:List qC} {id n:Nat} {xs:List Int} {a b x:Int} {K:AV→List qC→Prop} (hid:id<h.length) (hn:xs.length=n) (hab:0≤a∧a<n∧0≤b∧b<n)
    (hK:∀(p q y:Int),((p=a∧q=b)∨(p=b∧q=a))→K (.tup [.int .i64 p,.int .i64 q]) (RW (h++[bx .i64 y]) id xs)):SCall Gm 1529 [.slice 1 id 0 n false,.int .i64 a,.int .i64 b,.ptr h.length 0 0] (RW (h++[bx .i64 x]) id xs) K:=by
  refine SCall.run [] [] qc9 (by kernel_rfl) rfl ?_;have hid':=qUV (o:=bx .i64 x) hid;simp only [Xq,qM,go_sem];simp (config:={maxSteps:=2000000}) (disch:=omega) only [go_sem,qP,qU,qV,Int.reduceEq];refine qF (jc _ _) ?_;simp only [go_sem];refine qD ?_ ?_<;>intro hc<;>simp only [hc,go_sem]
  · rw [QO hid];simp only [go_sem];refine Wg hid ?_;simp only [go_sem];exact hK _ _ _ (.inr ⟨rfl,rfl⟩)
  · exact hK _ _ _ (.inl ⟨rfl,rfl⟩)
theorem qRM {h:List qC} {id n:Nat} {xs:List Int} {a b c x:Int} {K:AV→List qC→Prop} (hid:id<h.length) (hn:xs.length=n) (hab:0≤a∧a<n∧0≤b∧b<n∧0≤c∧c<n)
    (hK:∀(p y:Int),(p=a∨p=b∨p=c)→K (.int .i64 p) (RW (h++[bx .i64 y]) id xs)):SCall Gm 1480 [.slice 1 id 0 n false,.int .i64 a,.int .i64 b,.int .i64 c,.ptr h.length 0 0] (RW (h++[bx .i64 x]) id xs) K:=by
  refine SCall.run [] [] qc6 (by kernel_rfl) rfl ?_;simp only [Xn,qM,go_sem];refine zJ (qRN hid hn (by omega) fun p q y hpq=> ?_);simp only [go_sem];refine zJ (qRN hid hn (by omega) fun p2 q2 y2 hpq2=> ?_);simp only [go_sem];refine zJ (qRN hid hn (by omega) fun p3 q3 y3 hpq3=> ?_);simp only [go_sem];exact hK _ _ (by omega)
theorem qRL {h:List qC} {id n:Nat} {xs:List Int} {a x:Int} {K:AV→List qC→Prop} (hid:id<h.length) (hn:xs.length=n) (hl:n≤4194304) (hab:1≤a∧a+1<n)
    (hK:∀(p y:Int),(a-1≤p∧p≤a+1)→K (.int .i64 p) (RW (h++[bx .i64 y]) id xs)):SCall Gm 1479 [.slice 1 id 0 n false,.int .i64 a,.ptr h.length 0 0] (RW (h++[bx .i64 x]) id xs) K:=by
  refine SCall.run [] [] qc5 (by kernel_rfl) rfl ?_;simp only [Xm,qM,go_sem];simp (config:={maxSteps:=2000000}) (disch:=omega) only [go_sem,qP,qU,qV,Int.reduceEq];refine zJ (qRM hid hn (by omega) fun p y hpq=> ?_);simp only [go_sem];exact hK _ _ (by omega)
theorem qiD {h:List qC} {id n:Nat} {xs:List Int} {a b:Int} {K:AV→List qC→Prop} (hid:id<h.length) (hn:xs.length=n) (hl:n≤4194304) (hab:0≤a∧a+8≤b∧b≤n)
    (hK:∀(p t y:Int),(a≤p∧p<b)→K (.tup [.int .i64 p,.int .i64 t]) (RW (h++[bx .i64 y]) id xs)):SCall Gm 1342 [.slice 1 id 0 n false,.int .i64 a,.int .i64 b] (RW h id xs) K:=by
  refine SCall.run [] [] qcP (by kernel_rfl) rfl ?_;simp only [XW,qM,go_sem];have ht:(b-a).tdiv 4=(b-a)/4:=Int.tdiv_eq_ediv_of_nonneg (by omega);have hb:(RW h id xs).length=h.length:=Zn;have hx:RW h id xs++[qC.row 1 [AV.int .i64 0] true]=RW (h++[bx .i64 0]) id xs:=Qi hid;simp (disch:=omega) only [go_sem,qP,Int.reduceEq,ht,hb,hx];have h8:decide ((8:Int)≤b-a)=true:=decide_eq_true (by omega);simp only [h8,go_sem]
  --the choice by the number of changes
  refine qD ?_ ?_<;>intro hc<;>simp only [hc,go_sem]
  · have h50:=odT hc;refine zJ (qRL hid hn hl (by omega) fun p y hp=> ?_);simp only [go_sem];refine zJ (qRL hid hn hl (by omega) fun p2 y2 hp2=> ?_);simp only [go_sem];refine zJ (qRL hid hn hl (by omega) fun p3 y3 hp3=> ?_);simp only [go_sem];refine zJ (qRM hid hn (by omega) fun q y hq=> ?_);simp only [go_sem];rw [QO hid];simp only [go_sem];refine qD ?_ ?_<;>intro hc<;>simp only [hc,go_sem]
    · exact hK _ _ _ (by omega)
    · refine qD ?_ ?_<;>intro hc<;>simp only [hc,go_sem]
      · exact hK _ _ _ (by omega)
      · exact hK _ _ _ (by omega)
  · refine zJ (qRM hid hn (by omega) fun q y hq=> ?_);simp only [go_sem];rw [QO hid];simp only [go_sem];refine qD ?_ ?_<;>intro hc<;>simp only [hc,go_sem]
    · exact hK _ _ _ (by omega)
    · refine qD ?_ ?_<;>intro hc<;>simp only [hc,go_sem]
      · exact hK _ _ _ (by omega)
      · exact hK _ _ _ (by omega)
end Go.Ab
namespace Go.Ab
open Go
set_option maxRecDepth 10000
set_option maxHeartbeats 2000000
def Q9:List UInt8:=[0,1,2,2,3,3,3,3,4,4,4,4,4,4,4,4,5,5,5,5,5,5,5,5,5,5,5,5,5,5,5,5,6,6,6,6,6,6,6,6,6,6,6,6,6,6,6,6,6,6,6,6,6,6,6,6,6,6,6,6,6,6,6,6,7,7,7,7,7,7,7,7,7,7,7,7,7,7,7,7,7,7,7,7,7,7,7,7,7,7,7,7,7,7,7,7,7,7,7,7,7,7,7,7,7,7,7,7,7,7,7,7,7,7,7,7,7,7,7,7,7,7,7,7,7,7,7,7,8,8,8,8,8,8,8,8,8,8,8,8,8,8,8,8,8,8,8,8,8,8,8,8,8,8,8,8,8,8,8,8,8,8,8,8,8,8,8,8,8,8,8,8,8,8,8,8,8,8,8,8,8,8,8,8,8,8,8,8,8,8,8,8,8,8,8,8,8,8,8,8,8,8,8,8,8,8,8,8,8,8,8,8,8,8,8,8,8,8,8,8,8,8,8,8,8,8,8,8,8,8,8,8,8,8,8,8,8,8,8,8,8,8,8,8,8,8,8,8,8,8,8,8,8,8,8,8]
def tb (n:Int):Int:=((Q9.getD n.toNat 0).toNat:Int)
theorem qXJ:∀n:_root_.Fin 256,(Q9[n.1]?).isSome=true∧(Q9.getD n.1 0).toNat≤8∧(1≤n.1→2^(Q9.getD n.1 0).toNat≤2*n.1):=by decide
theorem J6 {n:Int} (h:0≤n∧n≤255):0≤tb n∧tb n≤8∧(1≤n→(2:Int)^(tb n).toNat≤2*n):=by
  have:=qXJ ⟨n.toNat,by omega⟩;simp only at this;unfold tb;refine ⟨by omega,by omega,fun h1=> ?_⟩;have h2:=this.2.2 (by omega);rw [Int.toNat_natCast];have h3:((2^(Q9.getD n.toNat 0).toNat:Nat):Int)≤((2*n.toNat:Nat):Int):=Int.ofNat_le.2 h2;rw [Int.natCast_pow] at h3;simpa [Int.toNat_of_nonneg h.1] using h3
theorem Ua {n:Int} (h:0≤n∧n≤255):Wc (some (.str Q9)) (some (.int .u8 n))=some (.int .u8 (tb n)):=by
  have:=(qXJ ⟨n.toNat,by omega⟩).1;simp only [Wc,h.1,if_true];simp only at this;obtain ⟨b,hb⟩:=Option.isSome_iff_exists.1 this;unfold tb;rw [hb,List.getD_eq_getElem?_getD,hb];rfl
def jq (x:Int):Int:=if 65536≤x then (if 256≤x/65536 then 24+tb (x/65536/256) else 16+tb (x/65536)) else if 256≤x then 8+tb (x/256) else tb x
theorem qQ8 {a:Nat} {b:Int} {y:Int} (hb:0≤b) (h:(2:Int)^b.toNat≤2*y):(2:Int)^((a:Int)+b).toNat≤2*(y*2^a):=by
  rw [Int.toNat_add (by omega) hb,Int.toNat_natCast,Int.pow_add];have h2:(0:Int)≤2^a:=Int.le_of_lt (Int.pow_pos (by omega));have:=Int.mul_le_mul_of_nonneg_left h h2
  calc (2:Int)^a*2^b.toNat≤2^a*(2*y):=this
    _=2*(y*2^a):=by rw [Int.mul_comm,Int.mul_assoc]
theorem qUW {x:Int} (h:0≤x∧x<4294967296):0≤jq x∧jq x≤32∧(1≤x→(2:Int)^(jq x).toNat≤2*x):=by
  unfold jq;by_cases h1:65536≤x
  · rw [if_pos h1];by_cases h2:256≤x/65536
    · rw [if_pos h2];have:=J6 (n:=x/65536/256) (by omega);refine ⟨by omega,by omega,fun _=> ?_⟩;have:=qQ8 (a:=24) this.1 (this.2.2 (by omega));refine Int.le_trans this ?_;simp only [show ((2:Int)^24)=16777216 from rfl];omega
    · rw [if_neg h2];have:=J6 (n:=x/65536) (by omega);refine ⟨by omega,by omega,fun _=> ?_⟩;have:=qQ8 (a:=16) this.1 (this.2.2 (by omega));refine Int.le_trans this ?_;simp only [show ((2:Int)^16)=65536 from rfl];omega
  · rw [if_neg h1];by_cases h2:256≤x
    · rw [if_pos h2];have:=J6 (n:=x/256) (by omega);refine ⟨by omega,by omega,fun _=> ?_⟩;have:=qQ8 (a:=8) this.1 (this.2.2 (by omega));refine Int.le_trans this ?_;simp only [show ((2:Int)^8)=256 from rfl];omega
    · rw [if_neg h2];have:=J6 (n:=x) (by omega);exact ⟨by omega,by omega,fun _=>this.2.2 (by omega)⟩
def shf2 (op:BinOp):Option AV→Option AV→Option AV
  | some (.int k a),some (.int _ b)=>wB op k a b
  | _,_=>none
section
variable {E:Ev} {ks:List Fr1} {s m:qi} {h:List qC} {Q:qa→VSt→Prop} {l:List qB} {i:Nat} {d:Option Nat} {g:Option (Nat×Bool)} {ck:List qB} {x y:Ao} {op:BinOp}
@[go_sem] theorem zFV:Go1 E (.mk i d g (.shft op x y) ck) l ks ⟨s,m,h⟩ Q=Put E (shf2 op (ev (toE s) x) (ev (toE s) y)) d l ks ⟨s,m,h⟩ Q:=by
  rw [za rfl fun _=>rfl];congr 1
@[go_sem] theorem zJ8 {k k':IntKind} {a b:Int}:shf2 op (some (.int k a)) (some (.int k' b))=wB op k a b:=nr rfl
end
theorem qWZ {k:IntKind} {a b:Int} (h0:0≤b):wB .shr k a b=some (.int k (a.fdiv (2^(min b.toNat k.bits)))):=by unfold wB;rw [if_neg (by omega)]
theorem qiZ {k:IntKind} {a b:Int} (h0:0≤b):wB .shl k a b=some (.int k (k.wrap (a*2^(min b.toNat k.bits)))):=by unfold wB;rw [if_neg (by omega)]
theorem qi0 {a:Int} (h:0≤a):wB .shr .u64 a 16=some (.int .u64 (a/65536)):=by
  rw [qWZ (by omega),Int.fdiv_eq_ediv_of_nonneg _ (by decide)];rfl
theorem shr8 {a:Int} (h:0≤a):wB .shr .u64 a 8=some (.int .u64 (a/256)):=by
  rw [qWZ (by omega),Int.fdiv_eq_ediv_of_nonneg _ (by decide)];rfl
theorem Ue {n:Int} (h:0≤n∧n≤255):IntKind.u8.wrap n=n:=IntWalk.u8_in n h
theorem Zb {n:Int} (h:0≤n∧n≤18446744073709551615):IntKind.u64.wrap n=n:=IntWalk.u64_in n h
theorem qZJ {x:Int} (h:0≤x∧x<4294967296):Pure Gm 1349 [.int .u64 x] (.int .i64 (jq x)):=by
  refine Pure.intro [] [] qcV (by kernel_rfl) rfl (by simp [AV.trees,AV.tree,go_sem]) rfl ?_;simp only [Xc,qM,go_sem];have h0:decide ((4294967296:Int)≤x)=false:=decide_eq_false (by omega);simp only [h0,go_sem];refine qD ?_ ?_<;>intro hc<;>simp only [hc,go_sem]
  · have h1:=odT hc;simp (disch:=omega) only [qi0,qP,go_sem];refine qD ?_ ?_<;>intro hc<;>simp only [hc,go_sem]
    · have h2:=odT hc;have tl:=J6 (n:=x/65536/256) (by omega);simp (disch:=omega) only [shr8,qP,Ue,go_sem];refine QS (Ua (n:=x/65536/256) (by omega)) ?_;simp (disch:=omega) only [qP,go_sem];exact qL rfl (by unfold jq;rw [if_pos h1,if_pos h2];rfl)
    · have h2:=odF hc;have tl:=J6 (n:=x/65536) (by omega);simp (disch:=omega) only [qP,Ue,go_sem];refine QS (Ua (n:=x/65536) (by omega)) ?_;simp (disch:=omega) only [qP,go_sem];exact qL rfl (by unfold jq;rw [if_pos h1,if_neg h2,Int.zero_add])
  · have h1:=odF hc;refine qD ?_ ?_<;>intro hc<;>simp only [hc,go_sem]
    · have h2:=odT hc;have tl:=J6 (n:=x/256) (by omega);simp (disch:=omega) only [shr8,qP,Ue,go_sem];refine QS (Ua (n:=x/256) (by omega)) ?_;simp (disch:=omega) only [qP,go_sem];exact qL rfl (by unfold jq;rw [if_neg h1,if_pos h2];rfl)
    · have h2:=odF hc;have tl:=J6 (n:=x) (by omega);simp (disch:=omega) only [qP,Ue,go_sem];refine QS (Ua (n:=x) (by omega)) ?_;simp (disch:=omega) only [qP,go_sem];exact qL rfl (by unfold jq;rw [if_neg h1,if_neg h2,Int.zero_add])
theorem qSS {x:Int} (h:0≤x∧x<4294967296):Pure Gm 1054 [.int .u64 x] (.int .i64 (jq x)):=by
  refine Pure.intro [] [] qbU (by kernel_rfl) rfl (by simp [AV.trees,AV.tree,go_sem]) rfl ?_;simp only [W1,qM,go_sem];refine qF (qZJ h) ?_;simp only [go_sem];exact qL rfl rfl
theorem qZP {x:Int} (h:1≤x∧x<1073741824):Pure Gm 1477 [.int .i64 x] (.int .u64 (2^(jq x).toNat)):=by
  refine Pure.intro [] [] qc3 (by kernel_rfl) rfl (by simp [AV.trees,AV.tree,go_sem]) rfl ?_;simp only [Xk,qM,go_sem];have tl:=qUW (x:=x) (by omega);simp (disch:=omega) only [Zb,go_sem];refine qF (qSS (by omega)) ?_;simp only [go_sem];have hm:min (jq x).toNat IntKind.u64.bits=(jq x).toNat:=Nat.min_eq_left (by show _≤64;omega);have hp:=tl.2.2 (by omega);have hp0:(0:Int)≤2^(jq x).toNat:=Int.le_of_lt (Int.pow_pos (by omega));rw [qiZ (by omega),hm,Int.one_mul,Zb (by omega)];simp only [go_sem];exact qL rfl rfl
theorem qiI {h:List qC} {id:Nat} {xs:List Int} {x:Int} {K:AV→List qC→Prop} (hid:id<h.length)
    (hK:∀y:Int,K (.int .u64 y) (RW (h++[bx .u64 y]) id xs)):SCall Gm 1478 [.ptr h.length 0 0] (RW (h++[bx .u64 x]) id xs) K:=by
  refine SCall.run [] [] qc4 (by kernel_rfl) rfl ?_;simp only [Xl,qM,go_sem];have sl:∀a:Int,wB .shl .u64 a 13=some (.int .u64 (IntKind.u64.wrap (a*2^13))):=fun a=>rfl;have sr:∀a:Int,wB .shr .u64 a 7=some (.int .u64 (a.fdiv (2^7))):=fun a=>rfl;have sl2:∀a:Int,wB .shl .u64 a 17=some (.int .u64 (IntKind.u64.wrap (a*2^17))):=fun a=>rfl;have xo:∀a b:Int,∃c:Int,jS .xor .u64 a b=some (.int .u64 c):=fun a b=>⟨_,rfl⟩;simp only [QO hid,sl,go_sem];obtain ⟨c1,e1⟩:=xo x (IntKind.u64.wrap (x*2^13));simp only [e1,go_sem];refine Wg hid ?_;simp only [QO hid,sr,go_sem];obtain ⟨c2,e2⟩:=xo c1 (c1.fdiv (2^7));simp only [e2,go_sem];refine Wg hid ?_;simp only [QO hid,sl2,go_sem];obtain ⟨c3,e3⟩:=xo c2 (IntKind.u64.wrap (c2*2^17));simp only [e3,go_sem];refine Wg hid ?_;simp only [QO hid,go_sem];exact hK _
theorem qYE {a c:Int} (hc:0≤c∧c<9223372036854775808):∃o:Int,jS .and .u64 a c=some (.int .u64 o)∧0≤o∧o≤c:=by
  refine ⟨_,rfl, ?_⟩;have h1:(BitVec.ofInt IntKind.u64.bits a&&&BitVec.ofInt IntKind.u64.bits c).toNat≤c.toNat:=by
    rw [BitVec.toNat_and];refine Nat.le_trans Nat.and_le_right ?_;rw [BitVec.toNat_ofInt];show (c%((2^64:Nat):Int)).toNat≤_;omega
  rw [Zb (by omega)];omega
theorem qiC {h:List qC} {id n:Nat} {xs:List Int} {a b:Int} {K:AV→List qC→Prop} (hid:id<h.length) (hn:xs.length=n) (hl:n≤4194304) (hab:0≤a∧a+8≤b∧b≤n)
    (hK:∀(ys:List Int) (y:Int),ys.Perm xs→K (.tup []) (RW (h++[bx .u64 y]) id ys)):SCall Gm 1341 [.slice 1 id 0 n false,.int .i64 a,.int .i64 b] (RW h id xs) K:=by
  refine SCall.run [] [] qcO (by kernel_rfl) rfl ?_;simp only [XV,qM,go_sem];have ht:(b-a).tdiv 4=(b-a)/4:=Int.tdiv_eq_ediv_of_nonneg (by omega);have hb:(RW h id xs).length=h.length:=Zn;have hx:RW h id xs++[qC.row 1 [AV.int .u64 0] true]=RW (h++[bx .u64 0]) id xs:=Qi hid;have h8:decide ((8:Int)≤b-a)=true:=decide_eq_true (by omega);simp (disch:=omega) only [go_sem,qP,h8];simp (disch:=omega) only [go_sem,qP,Zb,Int.reduceEq,ht,hb,hx];refine Wg hid ?_;simp only [go_sem];have tl:=qUW (x:=b-a) (by omega);have hp:=tl.2.2 (by omega);have hp0:(0:Int)<2^(jq (b-a)).toNat:=Int.pow_pos (by omega);refine qF (qZP (by omega)) ?_;generalize (2:Int)^(jq (b-a)).toNat=P at hp hp0;simp (disch:=omega) only [go_sem,qP,Int.reduceEq,ht];refine Sem.loop (fun q:Int×Int×List Int=>a+(b-a)/4*2-1≤q.1∧q.1≤a+(b-a)/4*2+2∧q.2.2.Perm xs) (fun q=>(⟨[(0,.slice 1 id 0 n false),(1,.int .i64 a),(6,.int .i64 (b-a)),(7,.ptr h.length 0 0),(8,.int .u64 P),(9,.int .i64 q.1)],[],RW (h++[bx .u64 q.2.1]) id q.2.2⟩:VSt)) (fun q=>(a+(b-a)/4*2+2-q.1).toNat) (a+(b-a)/4*2-1,b-a,xs) (by kernel_rfl) ⟨(by first | omega | (simp only;omega)),(by first | omega | (simp only;omega)),.refl _⟩ (Can.sub (by simp [go_sem]) (by simp [go_sem])) ?_;rintro ⟨i,y,ys⟩ ⟨h1,h2,h3⟩;simp only at h1 h2 h3⊢;have hyl:=h3.length_eq;simp (disch:=omega) only [go_sem,qP,Int.reduceEq,ht];refine qD ?_ ?_<;>intro hc<;>simp only [hc,go_sem]
  · have hle:=odT hc;refine zJ (qiI hid fun y2=> ?_);have hid':=qUV (o:=bx .u64 y2) hid;simp (disch:=omega) only [go_sem,Zb];obtain ⟨o,e,o1,o2⟩:=qYE (a:=y2) (c:=P-1) (by omega);simp (disch:=omega) only [e,go_sem,qP];refine qD ?_ ?_<;>intro hc<;>simp only [hc,go_sem]
    · have hge:=odT hc;simp (config:={maxSteps:=2000000}) (disch:=omega) only [go_sem,qP,qU,qV,Int.reduceEq];refine zH hid' (by omega) (by omega) ?_;simp (config:={maxSteps:=2000000}) (disch:=omega) only [go_sem,qP,qU,qV,Int.reduceEq];refine zH hid' (by omega) (by rw [List.length_set];omega) ?_;simp (maxSteps:=2000000) (disch:=omega) only [go_sem,qP,qU,qV,Int.reduceEq];exact qZ (i+1,y2,swI ys i (a+(o-(b-a)))) ⟨(by first | omega | (simp only;omega)),(by first | omega | (simp only;omega)),(jW (by omega) (by omega) (by omega) (by omega)).trans h3⟩ (by first | omega | (simp only;omega)) (Can.sub (by simp [go_sem]) (by simp [go_sem]))
    · have hlt:=odF hc;simp (config:={maxSteps:=2000000}) (disch:=omega) only [go_sem,qP,qU,qV,Int.reduceEq];refine zH hid' (by omega) (by omega) ?_;simp (config:={maxSteps:=2000000}) (disch:=omega) only [go_sem,qP,qU,qV,Int.reduceEq];refine zH hid' (by omega) (by rw [List.length_set];omega) ?_;simp (maxSteps:=2000000) (disch:=omega) only [go_sem,qP,qU,qV,Int.reduceEq];exact qZ (i+1,y2,swI ys i (a+o)) ⟨(by first | omega | (simp only;omega)),(by first | omega | (simp only;omega)),(jW (by omega) (by omega) (by omega) (by omega)).trans h3⟩ (by first | omega | (simp only;omega)) (Can.sub (by simp [go_sem]) (by simp [go_sem]))
  · exact hK _ _ h3
end Go.Ab
namespace Go.Ab
open Go
set_option maxRecDepth 10000
set_option maxHeartbeats 2000000
theorem qiG {h:List qC} {id n:Nat} {xs:List Int} {a b p:Int} {K:AV→List qC→Prop} (hid:id<h.length) (hn:xs.length=n) (hl:n≤4194304) (hab:0≤a∧a<b∧b≤n∧a≤p∧p<b)
    (hK:∀(ys:List Int) (m:Int),ys.Perm xs→a+1≤m→m≤b→K (.int .i64 m) (RW h id ys)):SCall Gm 1346 [.slice 1 id 0 n false,.int .i64 a,.int .i64 b,.int .i64 p] (RW h id xs) K:=by
  refine SCall.run [] [] qcT (by kernel_rfl) rfl ?_;simp only [Xa,qM,go_sem];simp (config:={maxSteps:=2000000}) (disch:=omega) only [go_sem,qP,qU,qV,Int.reduceEq];refine zH hid (by omega) (by omega) ?_;simp (config:={maxSteps:=2000000}) (disch:=omega) only [go_sem,qP,qU,qV,Int.reduceEq];refine zH hid (by omega) (by rw [List.length_set];omega) ?_;simp (maxSteps:=2000000) (disch:=omega) only [go_sem,qP,qU,qV,Int.reduceEq];refine j6 (fun q:Int×Int×List Int=>a+1≤q.1∧q.2.1≤b-1∧q.1≤b∧q.2.2.Perm xs) (fun q=>(⟨[(0,.slice 1 id 0 n false),(1,.int .i64 a),(9,.int .i64 q.1),(10,.int .i64 q.2.1)],[],RW h id q.2.2⟩:VSt)) (fun q=>(q.2.1+1-q.1).toNat) (a+1,b-1,swI xs a p)
    (fun q:Int×List Int=>a+1≤q.1∧q.1≤b∧q.2.Perm xs) (fun q=>(⟨[(9,.int .i64 q.1)],[],RW h id q.2⟩:VSt)) (by kernel_rfl) ⟨(by first | omega | (simp only;omega)),(by first | omega | (simp only;omega)),(by first | omega | (simp only;omega)),jW (by omega) (by omega) (by omega) (by omega)⟩ (Can.sub (by simp [go_sem]) (by simp [go_sem])) ?_ ?_
  · rintro ⟨i,j,ys⟩ ⟨h1,h2,h3,h4⟩;simp only at h1 h2 h3 h4⊢;have hyl:=h4.length_eq;simp only [go_sem];refine j6 (fun i':Int=>i≤i'∧i'≤max i (j+1)) (fun i'=>(⟨[(0,.slice 1 id 0 n false),(1,.int .i64 a),(9,.int .i64 i'),(10,.int .i64 j)],[],RW h id ys⟩:VSt)) (fun i'=>(j+1-i').toNat) i
      (fun i':Int=>i≤i'∧i'≤max i (j+1)) (fun i'=>(⟨[(0,.slice 1 id 0 n false),(1,.int .i64 a),(9,.int .i64 i'),(10,.int .i64 j)],[],RW h id ys⟩:VSt)) (by kernel_rfl) ⟨(by first | omega | (simp only;omega)),(by first | omega | (simp only;omega))⟩ (Can.sub (by simp [go_sem]) (by simp [go_sem])) ?_ ?_
    · rintro i' ⟨k1,k2⟩;simp only [go_sem];refine qY ?_ ?_<;>intro hc<;>simp only [hc,go_sem]
      · have hle:=odT hc;simp (config:={maxSteps:=2000000}) (disch:=omega) only [go_sem,qP,qU,qV,Int.reduceEq];refine qF (jc _ _) ?_;simp only [go_sem];refine qD ?_ ?_<;>intro hc<;>simp only [hc,go_sem]
        · simp (config:={maxSteps:=2000000}) (disch:=omega) only [go_sem,qP,qU,qV,Int.reduceEq];exact jM (i'+1) ⟨(by first | omega | (simp only;omega)),(by first | omega | (simp only;omega))⟩ (by first | omega | (simp only;omega)) (Can.sub (by simp [go_sem]) (by simp [go_sem]))
        · exact z3 i' ⟨by omega,by omega⟩ (Can.sub (by simp [go_sem]) (by simp [go_sem]))
      · exact z3 i' ⟨by omega,by omega⟩ (Can.sub (by simp [go_sem]) (by simp [go_sem]))
    rintro i' ⟨k1,k2⟩;simp only [go_sem];refine j6 (fun j':Int=>j'≤j) (fun j'=>(⟨[(0,.slice 1 id 0 n false),(1,.int .i64 a),(9,.int .i64 i'),(10,.int .i64 j')],[],RW h id ys⟩:VSt)) (fun j'=>(j'+1).toNat) j
      (fun j':Int=>j'≤j) (fun j'=>(⟨[(0,.slice 1 id 0 n false),(1,.int .i64 a),(9,.int .i64 i'),(10,.int .i64 j')],[],RW h id ys⟩:VSt)) (by kernel_rfl) (by first | omega | (simp only;omega)) (Can.sub (by simp [go_sem]) (by simp [go_sem])) ?_ ?_
    · rintro j' m2;simp only [go_sem];refine qY ?_ ?_<;>intro hc<;>simp only [hc,go_sem]
      · have hle:=odT hc;simp (config:={maxSteps:=2000000}) (disch:=omega) only [go_sem,qP,qU,qV,Int.reduceEq];refine qF (jc _ _) ?_;simp only [go_sem];refine qD ?_ ?_<;>intro hc<;>simp only [hc,go_sem]
        · simp (config:={maxSteps:=2000000}) (disch:=omega) only [go_sem,qP,qU,qV,Int.reduceEq];exact jM (j'-1) (by first | omega | (simp only;omega)) (by first | omega | (simp only;omega)) (Can.sub (by simp [go_sem]) (by simp [go_sem]))
        · exact z3 j' (by omega) (Can.sub (by simp [go_sem]) (by simp [go_sem]))
      · exact z3 j' (by omega) (Can.sub (by simp [go_sem]) (by simp [go_sem]))
    rintro j' m2;simp only [go_sem];refine qD ?_ ?_<;>intro hc<;>simp only [hc,go_sem]
    · exact z3 (i',ys) ⟨(by first | omega | (simp only;omega)),(by first | omega | (simp only;omega)),h4⟩ (Can.sub (by simp [go_sem]) (by simp [go_sem]))
    · have hle:=odF hc;simp (config:={maxSteps:=2000000}) (disch:=omega) only [go_sem,qP,qU,qV,Int.reduceEq];refine zH hid (by omega) (by omega) ?_;simp (config:={maxSteps:=2000000}) (disch:=omega) only [go_sem,qP,qU,qV,Int.reduceEq];refine zH hid (by omega) (by rw [List.length_set];omega) ?_;simp (maxSteps:=2000000) (disch:=omega) only [go_sem,qP,qU,qV,Int.reduceEq];exact jM (i'+1,j'-1,swI ys i' j') ⟨(by first | omega | (simp only;omega)),(by first | omega | (simp only;omega)),(by first | omega | (simp only;omega)),(jW (by omega) (by omega) (by omega) (by omega)).trans h4⟩ (by first | omega | (simp only;omega)) (Can.sub (by simp [go_sem]) (by simp [go_sem]))
  · rintro ⟨i,ys⟩ ⟨h1,h2,h3⟩;simp only [go_sem];exact hK _ _ h3 h1 h2
end Go.Ab
namespace Go.Ab
open Go
set_option maxRecDepth 10000
set_option maxHeartbeats 2000000
theorem qiH {h:List qC} {id n:Nat} {xs:List Int} {a b p:Int} {K:AV→List qC→Prop} (hid:id<h.length) (hn:xs.length=n) (hl:n≤4194304) (hab:0≤a∧a<b∧b≤n∧a≤p∧p<b)
    (hK:∀(ys:List Int) (m:Int) (r:Bool),ys.Perm xs→a≤m→m<b→K (.tup [.int .i64 m,.bool r]) (RW h id ys)):SCall Gm 1347 [.slice 1 id 0 n false,.int .i64 a,.int .i64 b,.int .i64 p] (RW h id xs) K:=by
  refine SCall.run [] [] qcU (by kernel_rfl) rfl ?_;simp only [Xb,qM,go_sem];simp (config:={maxSteps:=2000000}) (disch:=omega) only [go_sem,qP,qU,qV,Int.reduceEq];refine zH hid (by omega) (by omega) ?_;simp (config:={maxSteps:=2000000}) (disch:=omega) only [go_sem,qP,qU,qV,Int.reduceEq];refine zH hid (by omega) (by rw [List.length_set];omega) ?_;simp (maxSteps:=2000000) (disch:=omega) only [go_sem,qP,qU,qV,Int.reduceEq];have hp1:(swI xs a p).Perm xs:=jW (by omega) (by omega) (by omega) (by omega);show Sem _ _ ⟨_,_,RW h id (swI xs a p)⟩ _;have hb:(RW h id xs).length=h.length:=Zn;rw [hb];generalize swI xs a p=ys at hp1⊢;have hyl:=hp1.length_eq;refine j6 (fun i':Int=>a+1≤i') (fun i'=>(⟨[(0,.slice 1 id 0 n false),(1,.int .i64 a),(10,.int .i64 i'),(11,.int .i64 (b-1))],[],RW h id ys⟩:VSt)) (fun i'=>(b-i').toNat) (a+1)
      (fun i':Int=>a+1≤i') (fun i'=>(⟨[(0,.slice 1 id 0 n false),(1,.int .i64 a),(10,.int .i64 i'),(11,.int .i64 (b-1))],[],RW h id ys⟩:VSt)) (by kernel_rfl) (by first | omega | (simp only;omega)) (Can.sub (by simp [go_sem]) (by simp [go_sem])) ?_ ?_
  · rintro i' k1;simp only [go_sem];refine qY ?_ ?_<;>intro hc<;>simp only [hc,go_sem]
    · have hle:=odT hc;simp (config:={maxSteps:=2000000}) (disch:=omega) only [go_sem,qP,qU,qV,Int.reduceEq];refine qF (jc _ _) ?_;simp only [go_sem];refine qD ?_ ?_<;>intro hc<;>simp only [hc,go_sem]
      · simp (config:={maxSteps:=2000000}) (disch:=omega) only [go_sem,qP,qU,qV,Int.reduceEq];exact jM (i'+1) (by first | omega | (simp only;omega)) (by first | omega | (simp only;omega)) (Can.sub (by simp [go_sem]) (by simp [go_sem]))
      · exact z3 i' (by omega) (Can.sub (by simp [go_sem]) (by simp [go_sem]))
    · exact z3 i' (by omega) (Can.sub (by simp [go_sem]) (by simp [go_sem]))
  rintro i' k1;simp only [go_sem];refine j6 (fun j':Int=>a≤j'∧j'≤b-1) (fun j'=>(⟨[(0,.slice 1 id 0 n false),(1,.int .i64 a),(10,.int .i64 i'),(11,.int .i64 j')],[],RW h id ys⟩:VSt)) (fun j'=>(j'+1).toNat) (b-1)
      (fun j':Int=>a≤j'∧j'≤b-1) (fun j'=>(⟨[(0,.slice 1 id 0 n false),(1,.int .i64 a),(10,.int .i64 i'),(11,.int .i64 j')],[],RW h id ys⟩:VSt)) (by kernel_rfl) ⟨(by first | omega | (simp only;omega)),(by first | omega | (simp only;omega))⟩ (Can.sub (by simp [go_sem]) (by simp [go_sem])) ?_ ?_
  · rintro j' ⟨m1,m2⟩;simp only [go_sem];refine qY ?_ ?_<;>intro hc<;>simp only [hc,go_sem]
    · have hle:=odT hc;simp (config:={maxSteps:=2000000}) (disch:=omega) only [go_sem,qP,qU,qV,Int.reduceEq];refine qF (jc _ _) ?_;simp only [go_sem];refine qD ?_ ?_<;>intro hc<;>simp only [hc,go_sem]
      · simp (config:={maxSteps:=2000000}) (disch:=omega) only [go_sem,qP,qU,qV,Int.reduceEq];exact jM (j'-1) ⟨(by first | omega | (simp only;omega)),(by first | omega | (simp only;omega))⟩ (by first | omega | (simp only;omega)) (Can.sub (by simp [go_sem]) (by simp [go_sem]))
      · exact z3 j' ⟨by omega,by omega⟩ (Can.sub (by simp [go_sem]) (by simp [go_sem]))
    · exact z3 j' ⟨by omega,by omega⟩ (Can.sub (by simp [go_sem]) (by simp [go_sem]))
  rintro j' ⟨m1,m2⟩;simp only [go_sem];refine qD ?_ ?_<;>intro hc<;>simp only [hc,go_sem]
  · simp (config:={maxSteps:=2000000}) (disch:=omega) only [go_sem,qP,qU,qV,Int.reduceEq];refine zH hid (by omega) (by omega) ?_;simp (config:={maxSteps:=2000000}) (disch:=omega) only [go_sem,qP,qU,qV,Int.reduceEq];refine zH hid (by omega) (by rw [List.length_set];omega) ?_;simp (maxSteps:=2000000) (disch:=omega) only [go_sem,qP,qU,qV,Int.reduceEq];exact hK _ _ _ ((jW (by omega) (by omega) (by omega) (by omega)).trans hp1) m1 (by omega)
  have hle:=odF hc;simp (config:={maxSteps:=2000000}) (disch:=omega) only [go_sem,qP,qU,qV,Int.reduceEq];refine zH hid (by omega) (by omega) ?_;simp (config:={maxSteps:=2000000}) (disch:=omega) only [go_sem,qP,qU,qV,Int.reduceEq];refine zH hid (by omega) (by rw [List.length_set];omega) ?_;simp (maxSteps:=2000000) (disch:=omega) only [go_sem,qP,qU,qV,Int.reduceEq];have hp2:(swI ys i' j').Perm xs:=(jW (by omega) (by omega) (by omega) (by omega)).trans hp1;refine j6 (fun q:Int×Int×List Int=>a+1≤q.1∧a≤q.2.1∧q.2.1≤b-1∧q.2.2.Perm xs) (fun q=>(⟨[(0,.slice 1 id 0 n false),(1,.int .i64 a),(10,.int .i64 q.1),(11,.int .i64 q.2.1)],[],RW h id q.2.2⟩:VSt)) (fun q=>(q.2.1+1-q.1).toNat) (i'+1,j'-1,swI ys i' j')
    (fun q:Int×List Int=>a≤q.1∧q.1≤b-1∧q.2.Perm xs) (fun q=>(⟨[(0,.slice 1 id 0 n false),(1,.int .i64 a),(11,.int .i64 q.1)],[],RW h id q.2⟩:VSt)) (by kernel_rfl) ⟨(by first | omega | (simp only;omega)),(by first | omega | (simp only;omega)),(by first | omega | (simp only;omega)),hp2⟩ (Can.sub (by simp [go_sem]) (by simp [go_sem])) ?_ ?_
  · clear hp2 hp1 k1 m1 m2 hle hyl hc;rintro ⟨i,j,zs⟩ ⟨h1,h2,h3,h4⟩;simp only at h1 h2 h3 h4⊢;have hzl:=h4.length_eq;simp only [go_sem];refine j6 (fun i':Int=>i≤i') (fun i'=>(⟨[(0,.slice 1 id 0 n false),(1,.int .i64 a),(10,.int .i64 i'),(11,.int .i64 j)],[],RW h id zs⟩:VSt)) (fun i'=>(j+1-i').toNat) i
      (fun i':Int=>i≤i') (fun i'=>(⟨[(0,.slice 1 id 0 n false),(1,.int .i64 a),(10,.int .i64 i'),(11,.int .i64 j)],[],RW h id zs⟩:VSt)) (by kernel_rfl) (by first | omega | (simp only;omega)) (Can.sub (by simp [go_sem]) (by simp [go_sem])) ?_ ?_
    · rintro i' k1;simp only [go_sem];refine qY ?_ ?_<;>intro hc<;>simp only [hc,go_sem]
      · have hle:=odT hc;simp (config:={maxSteps:=2000000}) (disch:=omega) only [go_sem,qP,qU,qV,Int.reduceEq];refine qF (jc _ _) ?_;simp only [go_sem];refine qD ?_ ?_<;>intro hc<;>simp only [hc,go_sem]
        · simp (config:={maxSteps:=2000000}) (disch:=omega) only [go_sem,qP,qU,qV,Int.reduceEq];exact jM (i'+1) (by first | omega | (simp only;omega)) (by first | omega | (simp only;omega)) (Can.sub (by simp [go_sem]) (by simp [go_sem]))
        · exact z3 i' (by omega) (Can.sub (by simp [go_sem]) (by simp [go_sem]))
      · exact z3 i' (by omega) (Can.sub (by simp [go_sem]) (by simp [go_sem]))
    rintro i' k1;simp only [go_sem];refine j6 (fun j':Int=>a≤j'∧j'≤j) (fun j'=>(⟨[(0,.slice 1 id 0 n false),(1,.int .i64 a),(10,.int .i64 i'),(11,.int .i64 j')],[],RW h id zs⟩:VSt)) (fun j'=>(j'+1).toNat) j
      (fun j':Int=>a≤j'∧j'≤j) (fun j'=>(⟨[(0,.slice 1 id 0 n false),(1,.int .i64 a),(10,.int .i64 i'),(11,.int .i64 j')],[],RW h id zs⟩:VSt)) (by kernel_rfl) ⟨(by first | omega | (simp only;omega)),(by first | omega | (simp only;omega))⟩ (Can.sub (by simp [go_sem]) (by simp [go_sem])) ?_ ?_
    · rintro j' ⟨m1,m2⟩;simp only [go_sem];refine qY ?_ ?_<;>intro hc<;>simp only [hc,go_sem]
      · have hle:=odT hc;simp (config:={maxSteps:=2000000}) (disch:=omega) only [go_sem,qP,qU,qV,Int.reduceEq];refine qF (jc _ _) ?_;simp only [go_sem];refine qD ?_ ?_<;>intro hc<;>simp only [hc,go_sem]
        · simp (config:={maxSteps:=2000000}) (disch:=omega) only [go_sem,qP,qU,qV,Int.reduceEq];exact jM (j'-1) ⟨(by first | omega | (simp only;omega)),(by first | omega | (simp only;omega))⟩ (by first | omega | (simp only;omega)) (Can.sub (by simp [go_sem]) (by simp [go_sem]))
        · exact z3 j' ⟨by omega,by omega⟩ (Can.sub (by simp [go_sem]) (by simp [go_sem]))
      · exact z3 j' ⟨by omega,by omega⟩ (Can.sub (by simp [go_sem]) (by simp [go_sem]))
    rintro j' ⟨m1,m2⟩;simp only [go_sem];refine qD ?_ ?_<;>intro hc<;>simp only [hc,go_sem]
    · exact z3 (j',zs) ⟨(by first | omega | (simp only;omega)),(by first | omega | (simp only;omega)),h4⟩ (Can.sub (by simp [go_sem]) (by simp [go_sem]))
    · have hle:=odF hc;simp (config:={maxSteps:=2000000}) (disch:=omega) only [go_sem,qP,qU,qV,Int.reduceEq];refine zH hid (by omega) (by omega) ?_;simp (config:={maxSteps:=2000000}) (disch:=omega) only [go_sem,qP,qU,qV,Int.reduceEq];refine zH hid (by omega) (by rw [List.length_set];omega) ?_;simp (maxSteps:=2000000) (disch:=omega) only [go_sem,qP,qU,qV,Int.reduceEq];exact jM (i'+1,j'-1,swI zs i' j') ⟨(by first | omega | (simp only;omega)),(by first | omega | (simp only;omega)),(by first | omega | (simp only;omega)),(jW (by omega) (by omega) (by omega) (by omega)).trans h4⟩ (by first | omega | (simp only;omega)) (Can.sub (by simp [go_sem]) (by simp [go_sem]))
  · rintro ⟨j,zs⟩ ⟨h1,h2,h3⟩;have hzl:=h3.length_eq;simp only at h1 h2 h3 hzl⊢;simp (config:={maxSteps:=2000000}) (disch:=omega) only [go_sem,qP,qU,qV,Int.reduceEq];refine zH hid (by omega) (by omega) ?_;simp (config:={maxSteps:=2000000}) (disch:=omega) only [go_sem,qP,qU,qV,Int.reduceEq];refine zH hid (by omega) (by rw [List.length_set];omega) ?_;simp (maxSteps:=2000000) (disch:=omega) only [go_sem,qP,qU,qV,Int.reduceEq];exact hK _ _ _ ((jW (by omega) (by omega) (by omega) (by omega)).trans h3) h1 (by omega)
end Go.Ab
