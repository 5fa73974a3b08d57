/- Texts Cor11 .. Cor43: the abstract machine, its laws and contracts of functions: lemmas for the statement. No condition. -/
import Derived.Test.YteekllacfpafoaaGreatP6
set_option linter.unusedSimpArgs false
set_option linter.unusedVariables false
namespace Go.Ab
open Go
set_option maxRecDepth 10000
set_option maxHeartbeats 2000000
theorem zGH {xs:List Int} {c:Bool} {n:Nat}:(lay (.lst 1 (xs.map encI) c) n).1=.slice 1 n 0 xs.length false:=by simp [lay]
theorem zGI {xs:List Int} {c:Bool} {n:Nat}:(lay (.lst 1 (xs.map encI) c) n).2=[.row 1 (xs.map encI) true]:=by simp [lay,lI]
theorem qdK {w id len i:Nat} {c:Bool} {k:IntKind} (h:i<len):idx w (some (.slice w id 0 len c)) (some (.int k (i:Int)))=some (.ptr id i 0):=by
  unfold idx;simp [h]
theorem Seen.start {U:List (List Int)} (hU:qT9 U) {d:Nat} (hd:d<U.length) (hn:U[d].Nodup):Seen U d 0 U[d] where
  nd:=hn
  rng:=fun s hs=>hU _ (List.getElem_mem hd) s hs
  rch:=fun s hs=>.single (by unfold Ed;rw [List.getD_eq_getElem?_getD,Int.toNat_natCast,List.getElem?_eq_getElem hd];exact hs)
  beg:=fun s hs=>by unfold Ed at hs;rw [List.getD_eq_getElem?_getD,Int.toNat_natCast,List.getElem?_eq_getElem hd] at hs;exact hs
  cls:=fun j hj=>by omega
theorem c835 {b:GBook} (hz:b.sz≤1048576) (hn:b.Defs.length≤24) (hU:qT9 (qBJ b)) (hN:∀ys∈qBJ b,ys.Nodup):Pure Gm 835 [.ept b.enc 0] (.lst 1 ((recs (qBJ b) b.Defs.length).map encI) false):=by
  refine Pure.intro [] [] g835 (by kernel_rfl) rfl (by simp [AV.trees,AV.tree,go_sem]) (by simp [AV.tree,qAT]) ?_
  simp only [F835,qAC,go_sem]
  have hul:(qBJ b).length=b.Defs.length:=by simp [qBJ]
  have hus:∀ys∈qBJ b,ys.length≤2097152:=by
    intro ys hy
    simp only [qBJ,List.mem_map] at hy
    obtain ⟨c,hc,rfl⟩:=hy
    have h1:=GCore.names_len c []
    have h2:=qA9 (f:=GCore.sz) hc
    have h3:b.Defs.length+sumN GCore.sz b.Defs≤1048576:=hz
    simp at h1;omega
  refine qAB (zJ8 hz) ?_
  simp only [go_sem]
  generalize qBJ b=U at hU hul hus hN⊢
  refine Sem.loop (fun i:Nat=>i≤b.Defs.length) (fun i=>(⟨[(0,.ept b.enc 0),(3,.lst 1 (U.map (encL 1 encI)) false),(4,.slice 1 0 0 (recs U i).length false),(5,.int .i64 (i:Nat))],[],[.row 1 ((recs U i).map encI) true]⟩:VSt)) (fun i=>b.Defs.length-i) 0 (by kernel_rfl) (Nat.zero_le _)
    (Can.renum [none] rfl ⟨.ph,trivial⟩ ⟨⟨_,rfl,.tree (by simp [AV.tree,go_sem])⟩,⟨_,rfl,.tree (by simp [AV.tree,qJU])⟩,⟨_,rfl,.ph2 rfl⟩,⟨_,rfl,.tree rfl⟩,trivial⟩ trivial) ?_
  intro d hd
  simp only [go_sem]
  refine qAA ?_ ?_<;>intro hc<;>simp only [hc,go_sem]
  · have hlt:d<b.Defs.length:=by have:=of_decide_eq_true hc;omega
    have hltU:d<U.length:=by omega
    simp only [List.getElem?_map,List.getElem?_eq_getElem hltU,Option.map_some,encL,go_sem]
    refine qEX (n402 U[d] (by have:=hus _ (List.getElem_mem hltU);omega)) ?_
    simp only [go_sem,zGH,zGI,List.nil_append,List.cons_append]
    refine Sem.loop (fun a:Nat×List Int=>a.1≤a.2.length∧Seen U d a.1 a.2) (fun a=>(⟨[(0,.ept b.enc 0),(3,.lst 1 (U.map (encL 1 encI)) false),(4,.slice 1 0 0 (recs U d).length false),(5,.int .i64 (d:Nat)),(6,.slice 1 1 0 a.2.length false),(7,.int .i64 (a.1:Nat))],[],[.row 1 ((recs U d).map encI) true,.row 1 (a.2.map encI) true]⟩:VSt)) (fun a=>U.length-a.1) (0,U[d]) (by kernel_rfl) ⟨Nat.zero_le _,Seen.start hU hltU (hN _ (List.getElem_mem hltU))⟩
      (Can.sub (by simp [go_sem]) (by simp [go_sem])) ?_
    rintro ⟨i,seen⟩ ⟨hi,hS⟩
    simp only at hi hS
    simp only [go_sem]
    have hsl:=hS.len
    refine qAA ?_ ?_<;>intro hc<;>simp only [hc,go_sem]
    · have hlti:i<seen.length:=by have:=of_decide_eq_true hc;omega
      have he:=hS.rng _ (List.getElem_mem hlti)
      have hme:=List.getElem_mem hlti
      obtain ⟨e,hE⟩:∃e:Nat,seen[i]=(e:Int):=⟨seen[i].toNat,by omega⟩
      have hltE:e<U.length:=by omega
      have hEd:∀k,Ed U (e:Int) k↔k∈U[e]:=by intro k;unfold Ed;rw [List.getD_eq_getElem?_getD,Int.toNat_natCast,List.getElem?_eq_getElem hltE];rfl
      have hue:=hus _ (List.getElem_mem hltE)
      refine Sem.loop (fun a:Nat×List Int=>a.1≤U[e].length∧i<a.2.length∧a.2[i]?=some (e:Int)∧Seen U d i a.2∧∀y∈U[e].take a.1,y∈a.2) (fun a=>(⟨[(0,.ept b.enc 0),(3,.lst 1 (U.map (encL 1 encI)) false),(4,.slice 1 0 0 (recs U d).length false),(5,.int .i64 (d:Nat)),(6,.slice 1 1 0 a.2.length false),(7,.int .i64 (i:Nat)),(8,.int .i64 (a.1:Nat))],[],[.row 1 ((recs U d).map encI) true,.row 1 (a.2.map encI) true]⟩:VSt)) (fun a=>U[e].length-a.1) (0,seen) (by kernel_rfl) ⟨Nat.zero_le _,hlti,by rw [List.getElem?_eq_getElem hlti,hE],hS,by simp⟩
        (Can.sub (by simp [go_sem]) (by simp [go_sem])) ?_
      rintro ⟨k,sn⟩ ⟨hk,hi2,hse,hS2,hin⟩
      simp only at hk hi2 hse hS2 hin
      simp only [go_sem]
      simp only [qdK hi2,List.getElem?_map,hse,Option.map_some,encI,List.getElem?_eq_getElem hltE,encL,go_sem]
      refine qAA ?_ ?_<;>intro hc<;>simp only [hc,go_sem]
      · have hltk:k<U[e].length:=by have:=of_decide_eq_true hc;omega
        simp only [qdK hi2,List.getElem?_map,hse,Option.map_some,encI,List.getElem?_eq_getElem hltE,encL,List.getElem?_eq_getElem hltk,go_sem]
        have hsl2:=hS2.len
        have hky:Ed U (e:Int) U[e][k]:=(hEd _).2 (List.getElem_mem hltk)
        have htk:∀(sn':List Int),(∀y∈sn,y∈sn')→U[e][k]∈sn'→∀y∈U[e].take (k+1),y∈sn':=by
          intro sn' h1 h2 y hy
          rw [List.take_add_one,List.getElem?_eq_getElem hltk] at hy
          rcases List.mem_append.1 hy with hy | hy
          · exact h1 y (hin y hy)
          · simp at hy;subst hy;exact h2
        refine qBS (vs':=[.lst 1 (sn.map encI) false,.int .i64 U[e][k]]) (Cvs.cons (Cv.row rfl (by simp) (qAT _) (by decide)) (Cvs.cons (.refl rfl) Cvs.nil)) (qo0 (by omega)) rfl ?_
        simp only [go_sem]
        refine qAA ?_ ?_<;>intro hc<;>simp only [hc,go_sem]
        · simp only [qdK hi2,List.getElem?_map,hse,Option.map_some,encI,List.getElem?_eq_getElem hltE,encL,List.getElem?_eq_getElem hltk,go_sem]
          have hnm:U[e][k]∉sn:=by
            intro hm
            have h2:(sn.any fun q=>decide (q=U[e][k]))=true:=List.any_eq_true.2 ⟨_,hm,by simp⟩
            have h3:=nt hc
            rw [h2] at h3;cases h3
          refine qBY (el:=sn.map encI) rfl rfl (by simp) (by omega) ?_
          simp only [go_sem]
          simp only [qAK (show k<4611686018427387904 by omega)]
          refine qAH (k+1,sn++[U[e][k]]) ⟨by simp only;omega,by simp;omega,by simp only;rw [List.getElem?_append_left hi2];exact hse,Seen.push hU hS2 (by omega) (List.mem_of_getElem? hse) hky hnm,htk _ (fun y hy=>by simp [hy]) (by simp)⟩ (by simp only;omega) ?_
          simp only [List.length_append,List.length_cons,List.length_nil,Nat.zero_add]
          exact Can.renum [some 0,some 3] rfl ⟨.row rfl (VR2s.of_eq rfl (qAT _)),.row rfl (VR2s.of_eq (by simp [encI]) (qAT _)),trivial⟩ ⟨⟨_,rfl,.tree (by simp [AV.tree,go_sem])⟩,⟨_,rfl,.tree (by simp [AV.tree,qJU])⟩,⟨_,rfl,.slice rfl⟩,⟨_,rfl,.tree rfl⟩,⟨_,rfl,.slice rfl⟩,⟨_,rfl,.tree rfl⟩,⟨_,rfl,.tree rfl⟩,trivial⟩ trivial
        · have hmm:U[e][k]∈sn:=by
            have h2:=nf hc
            simp only [List.any_eq_true,decide_eq_true_eq] at h2
            obtain ⟨q,hq,rfl⟩:=h2
            exact hq
          simp only [qAK (show k<4611686018427387904 by omega)]
          exact qAH (k+1,sn) ⟨by simp only;omega,hi2,hse,hS2,htk _ (fun y hy=>hy) hmm⟩ (by simp only;omega) (Can.sub (by simp [go_sem]) (by simp [go_sem]))
      · have ek:k=U[e].length:=by have:=of_decide_eq_false hc;omega
        subst ek
        rw [List.take_length] at hin
        have hsl2:=hS2.len
        simp only [qAK (show i<4611686018427387904 by omega)]
        refine qAH (i+1,sn) ⟨by simp only;omega,hS2.next hse (fun y hy=>hin y ((hEd y).1 hy))⟩ (by simp only;omega) (Can.sub (by simp [go_sem]) (by simp [go_sem]))
    · have e:i=seen.length:=by have:=of_decide_eq_false hc;omega
      subst e
      refine qBS (vs':=[.lst 1 (seen.map encI) false,.int .i64 (d:Int)]) (Cvs.cons (Cv.row rfl (by simp) (qAT _) (by decide)) (Cvs.cons (.refl rfl) Cvs.nil)) (qo0 (by omega)) rfl ?_
      simp only [go_sem]
      rw [hS.done]
      refine qAA ?_ ?_<;>intro hc<;>simp only [hc,go_sem]
      · refine qBY (el:=(recs U d).map encI) rfl rfl (by simp) (by have:=qe2 U d;omega) ?_
        simp only [go_sem]
        simp only [qAK (show d<4611686018427387904 by omega)]
        refine qAH (d+1) (by omega) (by omega) ?_
        rw [show recs U (d+1)=recs U d++[(d:Int)] by rw [qVI,if_pos hc]]
        simp only [List.length_append,List.length_cons,List.length_nil,Nat.zero_add]
        exact Can.renum [some 3] rfl ⟨.row rfl (VR2s.of_eq (by simp [encI]) (qAT _)),trivial⟩ ⟨⟨_,rfl,.tree (by simp [AV.tree,go_sem])⟩,⟨_,rfl,.tree (by simp [AV.tree,qJU])⟩,⟨_,rfl,.slice rfl⟩,⟨_,rfl,.tree rfl⟩,trivial⟩ trivial
      · simp only [qAK (show d<4611686018427387904 by omega)]
        refine qAH (d+1) (by omega) (by omega) ?_
        rw [show recs U (d+1)=recs U d by rw [qVI,if_neg (by rw [hc];decide)]]
        exact Can.renum [some 0] rfl ⟨.row rfl (VR2s.of_eq rfl (qAT _)),trivial⟩ ⟨⟨_,rfl,.tree (by simp [AV.tree,go_sem])⟩,⟨_,rfl,.tree (by simp [AV.tree,qJU])⟩,⟨_,rfl,.slice rfl⟩,⟨_,rfl,.tree rfl⟩,trivial⟩ trivial
  · have e:d=b.Defs.length:=by have:=of_decide_eq_false hc;omega
    subst e
    exact qA7 (Cv.row rfl (by simp) (qAT _) (by decide))
end Go.Ab
namespace Go.Ab
open Go
set_option maxRecDepth 10000
set_option maxHeartbeats 2000000
def mapK {α β:Type} (f:Nat→α→β):List α→Nat→List β
  |[],_=>[]
  | x::xs,i=>f i x::mapK f xs (i+1)
theorem qHL {α β γ:Type} (f:Nat→β→γ) (g:α→β):∀(xs:List α) (i:Nat),mapK f (xs.map g) i=mapK (fun k x=>f k (g x)) xs i
  |[],_=>rfl
  | x::xs,i=>by simp [mapK,qHL f g xs]
theorem qED {α β:Type} (f:Nat→α→β):∀(xs:List α) (i:Nat),(mapK f xs i).length=xs.length
  |[],_=>rfl
  | x::xs,i=>by simp [mapK,qED f xs]
theorem qF9 {α β:Type} {f:Nat→α→β}:∀{xs:List α} {i k:Nat} (h:i<xs.length),mapK f (xs.take (i+1)) k=mapK f (xs.take i) k++[f (k+i) xs[i]]
  |[],i,k,h=>by simp at h
  | x::xs,0,k,h=>by simp [mapK]
  | x::xs,i+1,k,h=>by
    simp only [List.take_succ_cons,mapK,List.getElem_cons_succ,List.cons_append]
    rw [qF9 (i:=i) (k:=k+1) (by simpa using h)]
    congr 3
    congr 1
    omega
theorem qeO {α β:Type} {f:Nat→α→β}:∀{xs:List α} {i:Nat} {y:β},y∈mapK f xs i→∃x∈xs,∃k,y=f k x
  |[],_,_,h=>by simp [mapK] at h
  | x::xs,i,y,h=>by
    simp only [mapK,List.mem_cons] at h
    rcases h with rfl | h
    · exact ⟨x,by simp,i,rfl⟩
    · obtain ⟨z,hz,k,e⟩:=qeO h;exact ⟨z,by simp [hz],k,e⟩
def GCore.vb (m:Int):GCore→Bool:=GCore.fold fun x rs=>(!decide (x.Kind=1) || inI x.Value 0 m)&&rs.all id
theorem GCore.vb_eq (m:Int) (x:GCore):x.vb m=((!decide (x.Kind=1) || inI x.Value 0 m)&&x.Kids.all (GCore.vb m)):=by
  unfold GCore.vb;rw [GCore.fold_eq];simp
theorem qjS {x y:GCore} {m:Int} (h:x.vb m=true) (hy:y∈x.Kids):y.vb m=true:=by
  rw [x.vb_eq,Bool.and_eq_true,List.all_eq_true] at h;exact h.2 y hy
theorem qnH {x:GCore} {m:Int} (h:x.vb m=true) (hk:x.Kind=1):0≤x.Value∧x.Value≤m:=by
  rw [x.vb_eq,Bool.and_eq_true] at h
  have:=h.1
  simp [hk,inI] at this;exact this
def qG8 (k v a f:Int):Int:=if k=1∧f≤v then v+a else v
def GCore.shift (a:Int):GCore→Int→GCore:=GCore.fold fun x rs f=>.mk x.Kind (qG8 x.Kind x.Value a f) x.Data (mapK (fun i (r:Int→GCore)=>r (f+qAY x.Kind i)) rs 0)
theorem GCore.shift_eq (a:Int) (x:GCore) (f:Int):x.shift a f=.mk x.Kind (qG8 x.Kind x.Value a f) x.Data (mapK (fun i y=>y.shift a (f+qAY x.Kind i)) x.Kids 0):=by
  unfold GCore.shift;rw [GCore.fold_eq,qHL]
theorem qGP {h:List AObj} {id n:Nat} {k v:Int} {d:List Int} {ks:List GCore} (ho:h[id]?=some (.row 4 (ks.map GCore.enc) true)) (hn:ks.length=n):
    Cv h (.agg [.int .i64 k,.int .i64 v,.lst 1 (d.map encI) false,.slice 4 id 0 n false]) (GCore.mk k v d ks).enc:=by
  rw [GCore.enc_eq]
  refine .agg rfl ?_
  simp only [List.zip_cons_cons,List.zip_nil_left,List.mem_cons,List.not_mem_nil,or_false,GCore.Kind,GCore.Value,GCore.Data,GCore.Kids]
  rintro p (rfl | rfl | rfl | rfl)
  · exact .refl rfl
  · exact .refl rfl
  · exact .refl (by simp [AV.tree,qAT])
  · exact Cv.row ho (by simpa using hn) (qA0 GCore.isSh.tree _) (by decide)
theorem qBF (xs:List GCore):AV.trees (xs.map GCore.enc)=true:=qA0 GCore.isSh.tree xs
theorem c766 (x:GCore):∀(a f:Int) (hz:x.sz≤1048576) (ha:0≤a∧a≤4294967296) (hf:0≤f∧f+x.dep≤4294967296) (hv:x.vb 4294967296=true),Pure Gm 766 [.ept x.enc 0,.int .i64 a,.int .i64 f] ((x.shift a f).enc):=by
  induction x using GCore.ind with
  | _ x ih=>
  intro a f hz ha hf hv
  refine Pure.intro [] [] g766 (by kernel_rfl) rfl (by simp [AV.trees,AV.tree,go_sem]) (by simp [go_sem]) ?_
  simp only [F766,qAC,go_sem]
  have hL:=x.len_sz
  refine qAB (c402 x.Data (by omega)) ?_
  simp only [go_sem]
  refine qAE (k:=4) (by rfl) (by rfl) (by exact ⟨_,rfl⟩) (by decide) ?_
  simp only [go_sem]
  obtain ⟨w,hw⟩:∃w,w=qG8 x.Kind x.Value a f:=⟨_,rfl⟩
  have hres:=x.shift_eq a f
  rw [←hw] at hres
  refine qAG ?_ ?_<;>intro hc<;>simp only [hc,go_sem]
  refine qAA ?_ ?_<;>intro hc<;>simp only [hc,go_sem]
  have hk1:=qnH hv (of_decide_eq_true (by assumption))
  rw [qAJ (by omega) (by omega)]
  have h0:x.Value+a=w:=by
    rename_i h1
    rw [hw,qG8,if_pos ⟨of_decide_eq_true h1,of_decide_eq_true hc⟩]
  rotate_left
  have h0:x.Value=w:=by
    rw [hw,qG8,if_neg (fun q=>absurd q.2 (of_decide_eq_false hc))]
  rotate_left
  have h0:x.Value=w:=by
    rw [hw,qG8,if_neg (fun q=>absurd q.1 (of_decide_eq_false hc))]
  all_goals
    rw [h0]
    refine Sem.loop (fun i:Nat=>i≤x.Kids.length) (fun i=>(⟨[(0,.ept x.enc 0),(1,.int .i64 a),(2,.int .i64 f),(8,.int .i64 (i:Nat))],[(7,.agg [.int .i64 x.Kind,.int .i64 w,.lst 1 (x.Data.map encI) false,.slice 4 0 0 i false]),(6,.agg [.int .i64 0,.int .i64 0,.nils,.nils])],[.row 4 ((mapK (fun i y=>GCore.shift a y (f+qAY x.Kind i)) (x.Kids.take i) 0).map GCore.enc) true]⟩:VSt)) (fun i=>x.Kids.length-i) 0 (by kernel_rfl) (Nat.zero_le _)
      (Can.renum [none] rfl ⟨.ph,trivial⟩ ⟨⟨_,rfl,.tree (by simp [AV.tree,go_sem])⟩,⟨_,rfl,.tree rfl⟩,⟨_,rfl,.tree rfl⟩,⟨_,rfl,.tree rfl⟩,trivial⟩
        ⟨⟨_,rfl,.agg rfl (VR2s.cons (.tree rfl) (VR2s.cons (.tree rfl) (VR2s.cons (.tree (by simp [AV.tree,qAT])) (VR2s.cons (.ph rfl) VR2s.nil)))).2⟩,⟨_,rfl,.tree rfl⟩,trivial⟩) ?_
    intro i hi
    simp only [go_sem]
    refine qAA ?_ ?_<;>intro hc<;>simp only [hc,go_sem]
    · have hlt:i<x.Kids.length:=by have:=of_decide_eq_true hc;omega
      simp only [List.getElem?_map,List.getElem?_eq_getElem hlt,Option.map_some,go_sem]
      have hm:=List.getElem_mem hlt
      have hk:=GCore.kid_sz hm
      have hp:=GCore.dep_kid hm
      have hb:=qCT x.Kind i
      refine qAB qhS ?_
      simp only [go_sem]
      rw [qAJ (n:=f+qAY x.Kind i) (by omega) (by omega)]
      refine qAB (ih _ hm a (f+qAY x.Kind i) (by omega) ha (by omega) (qjS hv hm)) ?_
      simp only [go_sem]
      refine qBY (el:=(mapK (fun i y=>GCore.shift a y (f+qAY x.Kind i)) (x.Kids.take i) 0).map GCore.enc) rfl rfl (by simp [qED];omega) (by omega) ?_
      simp only [go_sem]
      simp only [qAK (show i<4611686018427387904 by omega)]
      refine qAH (i+1) (by omega) (by omega) ?_
      refine Can.renum [some 2] rfl ⟨.row rfl (VR2s.of_eq (by rw [qF9 hlt,Nat.zero_add];simp) (qBF _)),trivial⟩ ⟨⟨_,rfl,.tree (by simp [AV.tree,go_sem])⟩,⟨_,rfl,.tree rfl⟩,⟨_,rfl,.tree rfl⟩,⟨_,rfl,.tree rfl⟩,trivial⟩
        ⟨⟨_,rfl,.agg rfl (VR2s.cons (.tree rfl) (VR2s.cons (.tree rfl) (VR2s.cons (.tree (by simp [AV.tree,qAT])) (VR2s.cons (.slice rfl) VR2s.nil)))).2⟩,⟨_,rfl,.tree rfl⟩,trivial⟩
    · obtain rfl:i=x.Kids.length:=by have:=of_decide_eq_false hc;omega
      rw [List.take_length]
      refine qAE (k:=4) (by rfl) (by rfl) (by exact ⟨_,rfl⟩) (by decide) ?_
      simp only [go_sem]
      rw [hres]
      exact qA7 (qGP rfl (qED _ _ _))
end Go.Ab
namespace Go.Ab
open Go
set_option maxRecDepth 10000
set_option maxHeartbeats 2000000
theorem qES {α:Type} {f:α→Nat} {xs:List α} {i:Nat} (h:i<xs.length):maxN f (xs.take (i+1))=max (maxN f (xs.take i)) (f xs[i]):=by
  induction xs generalizing i with
  | nil=>simp at h
  | cons a xs ih=>
    cases i with
    | zero=>simp [maxN]
    | succ i=>
      simp only [List.take_succ_cons,maxN,List.getElem_cons_succ,ih (by simpa using h)]
      show max _ _=max (max _ _) _
      rw [Nat.max_assoc]
theorem qDM {α:Type} (f:α→Nat):∀(xs:List α) (i:Nat),sumN f (xs.take i)≤sumN f xs
  |[],i=>by simp
  | a::xs,0=>by simp [sumN]
  | a::xs,i+1=>by simp only [List.take_succ_cons,sumN];have:=qDM f xs i;omega
@[go_sem] theorem zJC {α:Type} (f:α→Nat):maxN f []=0:=rfl
theorem qeR (a b:Nat):(if (b:Int)<(a:Int) then (a:Int) else (b:Int))=((max a b:Nat):Int):=by
  split<;>omega
theorem GCore.dep_size:∀x:GCore,x.dep≤x.size:=GCore.ind fun x ih=>by
  rw [x.dep_eq,x.size_eq]
  have:∀xs:List GCore,(∀y∈xs,y.dep≤y.size)→maxN GCore.dep xs≤sumN GCore.size xs:=by
    intro xs
    induction xs with
    | nil=>intro _;simp [maxN]
    | cons a xs ihx=>
      intro h
      have h1:=h a (by simp)
      have h2:=ihx (fun y hy=>h y (by simp [hy]))
      simp only [maxN,sumN]
      show max _ _≤_
      omega
  have:=this _ ih
  omega
def GCore.fits (x:GCore):Bool:=decide (x.size≤400)&&decide (x.dep≤80)
def GCore.left:GCore→Int→Int:=GCore.fold fun _ rs l=>rs.foldl (fun l (r:Int→Int)=>if l<0 then l else r l) (l-1)
theorem GCore.left_eq (x:GCore) (l:Int):x.left l=x.Kids.foldl (fun l y=>if l<0 then l else y.left l) (l-1):=by
  unfold GCore.left;rw [GCore.fold_eq,qE0]
theorem qJI:∀(ks:List GCore) (l:Int),l<0→ks.foldl (fun l y=>if l<0 then l else GCore.left y l) l=l
  |[],_,_=>rfl
  | k::ks,l,h=>by simp only [List.foldl_cons,if_pos h];exact qJI ks l h
theorem GCore.left_spec:∀(x:GCore) (l:Int),0≤l→(0≤x.left l↔(x.size:Int)≤l)∧(0≤x.left l→x.left l=l-x.size)∧-1≤x.left l:=GCore.ind fun x ih l hl=>by
  rw [x.left_eq,x.size_eq]
  have key:∀(ks:List GCore),(∀y∈ks,∀l:Int,0≤l→(0≤y.left l↔(y.size:Int)≤l)∧(0≤y.left l→y.left l=l-y.size)∧-1≤y.left l)→∀m:Int,-1≤m→
      (0≤ks.foldl (fun l y=>if l<0 then l else GCore.left y l) m↔(sumN GCore.size ks:Int)≤m∧0≤m)∧(0≤ks.foldl (fun l y=>if l<0 then l else GCore.left y l) m→ks.foldl (fun l y=>if l<0 then l else GCore.left y l) m=m-sumN GCore.size ks)∧
      -1≤ks.foldl (fun l y=>if l<0 then l else GCore.left y l) m:=by
    intro ks
    induction ks with
    | nil=>intro _ m hm;simp [sumN];omega
    | cons a ks ihk=>
      intro h m hm
      by_cases h0:m<0
      · rw [qJI _ _ h0]
        refine ⟨⟨fun q=>by omega,fun q=>by omega⟩,fun q=>by omega,hm⟩
      · simp only [List.foldl_cons,if_neg h0,sumN]
        have h1:=h a (by simp) m (by omega)
        have h2:=ihk (fun y hy=>h y (by simp [hy])) (a.left m) h1.2.2
        refine ⟨⟨fun q=> ?_,fun q=> ?_⟩,fun q=> ?_,h2.2.2⟩
        · have h3:=h2.1.1 q
          have h4:=h1.2.1 h3.2
          omega
        · refine h2.1.2 ?_
          have h4:=h1.1.2 (by omega)
          have h5:=h1.2.1 h4
          omega
        · have h3:=h2.1.1 q
          have h4:=h1.2.1 h3.2
          rw [h2.2.1 q];omega
  have:=key x.Kids ih (l-1) (by omega)
  refine ⟨⟨fun q=> ?_,fun q=> ?_⟩,fun q=> ?_,this.2.2⟩
  · have:=this.1.1 q;omega
  · exact this.1.2 (by omega)
  · rw [this.2.1 q];omega
def GCore.boxes:GCore→Nat:=GCore.fold fun x rs=>maxN id rs+if x.Kind=6 then 1 else 0
theorem GCore.boxes_eq (x:GCore):x.boxes=maxN GCore.boxes x.Kids+if x.Kind=6 then 1 else 0:=by
  unfold GCore.boxes;rw [GCore.fold_eq,qTQ];rfl
theorem GCore.boxes_dep:∀x:GCore,x.boxes≤x.dep:=GCore.ind fun x ih=>by
  rw [x.boxes_eq,x.dep_eq]
  have:maxN GCore.boxes x.Kids≤maxN GCore.dep x.Kids:=by
    rw [qJK]
    intro y hy
    exact Nat.le_trans (ih y hy) ((qJK GCore.dep _ x.Kids).1 (Nat.le_refl _) y hy)
  split<;>omega
theorem c856 {a b:Int}:Pure Gm 856 [.int .i64 a,.int .i64 b] (.int .i64 (if b<a then a else b)):=by
  refine Pure.intro [] [] g856 (by kernel_rfl) rfl (by simp [AV.trees,AV.tree,go_sem]) rfl ?_
  simp only [F856,qAC,go_sem]
  repeat' (first | (refine qAN rfl ?_;simp only [go_sem]) | (first | (refine qAG ?_ ?_<;>intro hc<;>simp only [hc,go_sem]) | (refine qAA ?_ ?_<;>intro hc<;>simp only [hc,go_sem])) | refine qAF rfl ?_ | refine qB1 (by rfl) ?_)
  all_goals (simp_all<;>omega)
theorem zFV (x:GCore):∀(hz:x.sz≤1048576) (hd:x.dep≤1048576),Pure Gm 1123 [.ept x.enc 0] (.int .i64 (x.dep:Nat)):=by
  induction x using GCore.ind with
  | _ x ih=>
  intro hz hd
  refine Pure.intro [] [] zLX (by kernel_rfl) rfl (by simp [AV.trees,AV.tree,go_sem]) rfl ?_
  simp only [qkA,qAC,go_sem]
  have hL:=x.len_sz
  have hde:=x.dep_eq
  refine Sem.loop (fun i:Nat=>i≤x.Kids.length∧True) (fun i=>(⟨[(0,.ept x.enc 0),(3,.int .i64 (maxN GCore.dep (x.Kids.take i):Nat)),(4,.int .i64 (i:Nat))],[],[]⟩:VSt)) (fun i=>x.Kids.length-i) 0 (by kernel_rfl) ⟨Nat.zero_le _,by trivial⟩ (Can.sub (by simp [go_sem]) (by simp [go_sem])) ?_
  rintro i ⟨hi,hI⟩
  simp only [go_sem]
  refine qAA ?_ ?_<;>intro hc<;>simp only [hc,go_sem]
  · have hlt:i<x.Kids.length:=by have:=of_decide_eq_true hc;omega
    simp only [List.getElem?_map,List.getElem?_eq_getElem hlt,Option.map_some,go_sem]
    have hm:=List.getElem_mem hlt
    have hk:=GCore.kid_sz hm
    have hp:=GCore.dep_kid hm
    refine qAB (ih _ hm (by omega) (by omega)) ?_
    simp only [go_sem]
    refine qAB c856 ?_
    simp only [go_sem]
    rw [qeR,←qES hlt]
    simp only [qAK (show i<4611686018427387904 by omega)];refine qAH (i+1) ⟨by omega, ?_⟩ (by omega) (Can.sub (by simp [go_sem]) (by simp [go_sem]))
    trivial
  · obtain rfl:i=x.Kids.length:=by have:=of_decide_eq_false hc;omega
    rw [List.take_length,qAJ (by omega) (by omega)]
    exact qAF rfl (by rw [hde];simp;omega)
theorem zKQ (x:GCore):∀(hz:x.sz≤1048576),Pure Gm 1504 [.ept x.enc 0] (.int .i64 (x.size:Nat)):=by
  induction x using GCore.ind with
  | _ x ih=>
  intro hz
  refine Pure.intro [] [] zM5 (by kernel_rfl) rfl (by simp [AV.trees,AV.tree,go_sem]) rfl ?_
  simp only [qlI,qAC,go_sem]
  have hL:=x.len_sz
  have hde:=x.size_eq
  have hsz:=x.size_sz
  refine Sem.loop (fun i:Nat=>i≤x.Kids.length∧True) (fun i=>(⟨[(0,.ept x.enc 0),(3,.int .i64 ((1+sumN GCore.size (x.Kids.take i):Nat):Int)),(4,.int .i64 (i:Nat))],[],[]⟩:VSt)) (fun i=>x.Kids.length-i) 0 (by kernel_rfl) ⟨Nat.zero_le _,by trivial⟩ (Can.sub (by simp [go_sem]) (by simp [go_sem])) ?_
  rintro i ⟨hi,hI⟩
  simp only [go_sem]
  refine qAA ?_ ?_<;>intro hc<;>simp only [hc,go_sem]
  · have hlt:i<x.Kids.length:=by have:=of_decide_eq_true hc;omega
    simp only [List.getElem?_map,List.getElem?_eq_getElem hlt,Option.map_some,go_sem]
    have hm:=List.getElem_mem hlt
    have hk:=GCore.kid_sz hm
    have ht:=qD4 (f:=GCore.size) hlt
    have hle:=qDM GCore.size x.Kids (i+1)
    refine qAB (ih _ hm (by omega)) ?_
    simp only [go_sem]
    have e1:((1+sumN GCore.size (x.Kids.take i):Nat):Int)+x.Kids[i].size=((1+sumN GCore.size (x.Kids.take (i+1)):Nat):Int):=by omega
    rw [e1,qAJ (n:=((1+sumN GCore.size (x.Kids.take (i+1)):Nat):Int)) (by omega) (by omega)]
    simp only [qAK (show i<4611686018427387904 by omega)];refine qAH (i+1) ⟨by omega, ?_⟩ (by omega) (Can.sub (by simp [go_sem]) (by simp [go_sem]))
    trivial
  · obtain rfl:i=x.Kids.length:=by have:=of_decide_eq_false hc;omega
    rw [List.take_length]
    exact qAF rfl (by rw [hde])
theorem zKR (x:GCore):∀(hz:x.sz≤1048576) (hd:x.dep≤1048576),Pure Gm 1505 [.ept x.enc 0] (.int .i64 (x.boxes:Nat)):=by
  induction x using GCore.ind with
  | _ x ih=>
  intro hz hd
  refine Pure.intro [] [] zM6 (by kernel_rfl) rfl (by simp [AV.trees,AV.tree,go_sem]) rfl ?_
  simp only [qlJ,qAC,go_sem]
  have hL:=x.len_sz
  have hde:=x.boxes_eq
  have hbd:=x.boxes_dep
  refine Sem.loop (fun i:Nat=>i≤x.Kids.length∧True) (fun i=>(⟨[(0,.ept x.enc 0),(3,.int .i64 (maxN GCore.boxes (x.Kids.take i):Nat)),(4,.int .i64 (i:Nat))],[],[]⟩:VSt)) (fun i=>x.Kids.length-i) 0 (by kernel_rfl) ⟨Nat.zero_le _,by trivial⟩ (Can.sub (by simp [go_sem]) (by simp [go_sem])) ?_
  rintro i ⟨hi,hI⟩
  simp only [go_sem]
  refine qAA ?_ ?_<;>intro hc<;>simp only [hc,go_sem]
  · have hlt:i<x.Kids.length:=by have:=of_decide_eq_true hc;omega
    simp only [List.getElem?_map,List.getElem?_eq_getElem hlt,Option.map_some,go_sem]
    have hm:=List.getElem_mem hlt
    have hk:=GCore.kid_sz hm
    have hp:=GCore.dep_kid hm
    refine qAB (ih _ hm (by omega) (by omega)) ?_
    simp only [go_sem]
    refine qAB c856 ?_
    simp only [go_sem]
    rw [qeR,←qES hlt]
    simp only [qAK (show i<4611686018427387904 by omega)];refine qAH (i+1) ⟨by omega, ?_⟩ (by omega) (Can.sub (by simp [go_sem]) (by simp [go_sem]))
    trivial
  · obtain rfl:i=x.Kids.length:=by have:=of_decide_eq_false hc;omega
    rw [List.take_length]
    refine qAA ?_ ?_<;>intro hc<;>simp only [hc,go_sem]
    · rw [if_pos (of_decide_eq_true hc)] at hde
      rw [qAJ (by omega) (by omega)]
      exact qAF rfl (by rw [hde];simp)
    · rw [if_neg (of_decide_eq_false hc)] at hde
      exact qAF rfl (by rw [hde];simp)
theorem zJ6 (x:GCore):∀(l:Int) (hz:x.sz≤1048576) (hl:0≤l∧l≤1048576),Pure Gm 1128 [.ept x.enc 0,.int .i64 l] (.int .i64 (x.left l)):=by
  induction x using GCore.ind with
  | _ x ih=>
  intro l hz hl
  refine Pure.intro [] [] zL2 (by kernel_rfl) rfl (by simp [AV.trees,AV.tree,go_sem]) rfl ?_
  simp only [qkF,qAC,go_sem]
  have hL:=x.len_sz
  rw [qAJ (by omega) (by omega)]
  refine Sem.loop (fun i:Nat=>i≤x.Kids.length∧-1≤(x.Kids.take i).foldl (fun l y=>if l<0 then l else GCore.left y l) (l-1)∧(x.Kids.take i).foldl (fun l y=>if l<0 then l else GCore.left y l) (l-1)≤1048576) (fun i=>(⟨[(0,.ept x.enc 0),(1,.int .i64 ((x.Kids.take i).foldl (fun l y=>if l<0 then l else GCore.left y l) (l-1))),(5,.int .i64 (i:Nat))],[],[]⟩:VSt)) (fun i=>x.Kids.length-i) 0 (by kernel_rfl) ⟨Nat.zero_le _,by simp;omega⟩ (Can.sub (by simp [go_sem]) (by simp [go_sem])) ?_
  rintro i ⟨hi,hI,hI2⟩
  simp only [go_sem]
  obtain ⟨m,hm0⟩:∃m,m=(x.Kids.take i).foldl (fun l y=>if l<0 then l else GCore.left y l) (l-1):=⟨_,rfl⟩
  have hrest:x.left l=(x.Kids.drop i).foldl (fun l y=>if l<0 then l else GCore.left y l) m:=by
    rw [x.left_eq,hm0,←List.foldl_append,List.take_append_drop]
  refine qAG ?_ ?_<;>intro hc<;>simp only [hc,go_sem]
  · have hlt:i<x.Kids.length:=by have:=of_decide_eq_true hc;omega
    rw [←hm0]
    rw [←hm0] at hI hI2
    refine qAA ?_ ?_<;>intro hc<;>simp only [hc,go_sem]
    · have h0:=of_decide_eq_true hc
      simp only [List.getElem?_map,List.getElem?_eq_getElem hlt,Option.map_some,go_sem]
      have hm:=List.getElem_mem hlt
      have hk:=GCore.kid_sz hm
      refine qAB (ih _ hm m (by omega) (by omega)) ?_
      simp only [go_sem]
      have hs:=x.Kids[i].left_spec m (by omega)
      have hp:=x.Kids[i].size_pos
      have hf:(x.Kids.take (i+1)).foldl (fun l y=>if l<0 then l else GCore.left y l) (l-1)=x.Kids[i].left m:=by
        rw [qE1 (fun (l:Int) (y:GCore)=>if l<0 then l else y.left l) hlt,←hm0,if_neg (by omega)]
      simp only [qAK (show i<4611686018427387904 by omega)]
      refine qAH (i+1) ⟨by omega,by rw [hf];exact hs.2.2, ?_⟩ (by omega) (Can.sub (by simp [go_sem,hf]) (by simp [go_sem]))
      rw [hf]
      by_cases hq:0≤x.Kids[i].left m
      · rw [hs.2.1 hq];omega
      · omega
    · have h0:=of_decide_eq_false hc
      exact qAF rfl (by rw [hrest,qJI _ _ (by omega)])
  · have e:i=x.Kids.length:=by have:=of_decide_eq_false hc;omega
    rw [←hm0]
    exact qAF rfl (by rw [hrest,e,List.drop_length];rfl)
theorem c765 {x:GCore} (hz:x.sz≤1048576) (hd:x.dep≤1048576):Pure Gm 765 [.ept x.enc 0] (.bool x.fits):=by
  refine Pure.intro [] [] g765 (by kernel_rfl) rfl (by simp [AV.trees,AV.tree,go_sem]) rfl ?_
  simp only [F765,qAC,go_sem]
  refine qAB (zJ6 x 400 hz (by omega)) ?_
  simp only [go_sem]
  have h1:=(x.left_spec 400 (by omega)).1
  refine qAG ?_ ?_<;>intro hc<;>simp only [hc,go_sem]
  · refine qAB (zFV x hz hd) ?_
    simp only [go_sem]
    have h2:x.size≤400:=by have:=h1.1 (of_decide_eq_true hc);omega
    exact qAF rfl (by unfold GCore.fits;rw [decide_eq_true h2];simp;omega)
  · have h2:¬x.size≤400:=by intro h;have:=h1.2 (by omega);exact absurd this (of_decide_eq_false hc)
    exact qAF rfl (by unfold GCore.fits;rw [decide_eq_false h2];rfl)
end Go.Ab
namespace Go.Ab
open Go
set_option maxRecDepth 10000
set_option maxHeartbeats 2000000
def sumK {α:Type} (f:Nat→α→Nat):List α→Nat→Nat
  |[],_=>0
  | x::xs,i=>f i x+sumK f xs (i+1)
theorem qfB {α β:Type} (f:Nat→β→Nat) (g:α→β):∀(xs:List α) (i:Nat),sumK f (xs.map g) i=sumK (fun k x=>f k (g x)) xs i
  |[],_=>rfl
  | x::xs,i=>by simp [sumK,qfB f g xs]
theorem qVU {α:Type} {f:Nat→α→Nat}:∀{xs:List α} {i k:Nat} (h:i<xs.length),sumK f (xs.take (i+1)) k=sumK f (xs.take i) k+f (k+i) xs[i]
  |[],i,k,h=>by simp at h
  | x::xs,0,k,h=>by simp [sumK]
  | x::xs,i+1,k,h=>by
    simp only [List.take_succ_cons,sumK,List.getElem_cons_succ]
    rw [qVU (i:=i) (k:=k+1) (by simpa using h),show k+1+i=k+(i+1) by omega]
    omega
theorem qjQ {α:Type} {f:Nat→α→Nat} {g:α→Nat}:∀{xs:List α} {k:Nat},(∀x∈xs,∀k,f k x≤g x)→sumK f xs k≤sumN g xs
  |[],_,_=>by simp [sumK]
  | x::xs,k,h=>by
    simp only [sumK,sumN]
    have:=h x (by simp) k
    have:=qjQ (f:=f) (g:=g) (xs:=xs) (k:=k+1) (fun y hy=>h y (by simp [hy]))
    omega
@[go_sem] theorem zJN {α:Type} (f:Nat→α→Nat) (k:Nat):sumK f [] k=0:=rfl
def GCore.count:GCore→Int→Nat:=GCore.fold fun x rs v=>if x.Kind=1 then (if x.Value=v then 1 else 0) else sumK (fun i (r:Int→Nat)=>r (v+qAY x.Kind i)) rs 0
theorem GCore.count_eq (x:GCore) (v:Int):x.count v=if x.Kind=1 then (if x.Value=v then 1 else 0) else sumK (fun i y=>y.count (v+qAY x.Kind i)) x.Kids 0:=by
  unfold GCore.count;rw [GCore.fold_eq,qfB]
theorem GCore.count_size:∀(x:GCore) (v:Int),x.count v≤x.size:=GCore.ind fun x ih v=>by
  rw [x.count_eq,x.size_eq]
  split
  · split<;>omega
  · have:=qjQ (f:=fun i y=>GCore.count y (v+qAY x.Kind i)) (g:=GCore.size) (xs:=x.Kids) (k:=0) (fun y hy k=>ih y hy _)
    omega
def GCore.high:GCore→Int:=GCore.fold fun x rs=>rs.foldl (fun n (r:Int)=>if r<n then n else r) (if x.Kind=1 then x.Value else-1)
theorem GCore.high_eq (x:GCore):x.high=x.Kids.foldl (fun n y=>if y.high<n then n else y.high) (if x.Kind=1 then x.Value else-1):=by
  unfold GCore.high;rw [GCore.fold_eq,qE0]
def putV (v d:Int):Int:=if d<v then v-1 else v
def GCore.put (arg:GCore):GCore→Int→GCore:=GCore.fold fun x rs d=>
  if x.Kind=1 then (if x.Value=d then arg.shift d 0 else .mk 1 (putV x.Value d) [] []) else .mk x.Kind x.Value x.Data (mapK (fun i (r:Int→GCore)=>r (d+qAY x.Kind i)) rs 0)
theorem GCore.put_eq (arg x:GCore) (d:Int):GCore.put arg x d=if x.Kind=1 then (if x.Value=d then arg.shift d 0 else .mk 1 (putV x.Value d) [] []) else .mk x.Kind x.Value x.Data (mapK (fun i y=>GCore.put arg y (d+qAY x.Kind i)) x.Kids 0):=by
  unfold GCore.put;rw [GCore.fold_eq,qHL]
theorem qFR {h:List AObj} {k v:Int} {d:List Int} {ks:List GCore} {D K:AV} (hd:Cv h D (.lst 1 (d.map encI) false)) (hk:Cv h K (.lst 4 (ks.map GCore.enc) false)):
    Cv h (.agg [.int .i64 k,.int .i64 v,D,K]) (GCore.mk k v d ks).enc:=by
  rw [GCore.enc_eq]
  refine .agg rfl ?_
  simp only [List.zip_cons_cons,List.zip_nil_left,List.mem_cons,List.not_mem_nil,or_false,GCore.Kind,GCore.Value,GCore.Data,GCore.Kids]
  rintro p (rfl | rfl | rfl | rfl)
  · exact .refl rfl
  · exact .refl rfl
  · exact hd
  · exact hk
theorem GCore.isAgg (x:GCore):∃cs,x.enc=.agg cs:=⟨_,x.enc_eq⟩
theorem qFD {h:List AObj} {k v:Int}:Cv h (.agg [.int .i64 k,.int .i64 v,.nils,.nils]) (GCore.mk k v [] []).enc:=qFR .nils .nils
theorem zJ3 (x:GCore):∀(v:Int) (hz:x.sz≤1048576) (hv:0≤v∧v+x.dep≤4294967296),Pure Gm 1121 [.ept x.enc 0,.int .i64 v] (.int .i64 (x.count v:Nat)):=by
  induction x using GCore.ind with
  | _ x ih=>
  intro v hz hv
  refine Pure.intro [] [] zLV (by kernel_rfl) rfl (by simp [AV.trees,AV.tree,go_sem]) rfl ?_
  simp only [qj8,qAC,go_sem]
  have hL:=x.len_sz
  have hce:=x.count_eq v
  have hcs:=x.count_size v
  have hsz:=x.size_sz
  refine qAA ?_ ?_<;>intro hc<;>simp only [hc,go_sem]
  · rw [if_pos (of_decide_eq_true hc)] at hce
    refine qAA ?_ ?_<;>intro hc<;>simp only [hc,go_sem]
    · rw [if_pos (of_decide_eq_true hc)] at hce
      exact qAF rfl (by rw [hce];rfl)
    · rw [if_neg (of_decide_eq_false hc)] at hce
      exact qAF rfl (by rw [hce];rfl)
  rw [if_neg (of_decide_eq_false hc)] at hce
  refine Sem.loop (fun i:Nat=>i≤x.Kids.length∧sumK (fun i y=>GCore.count y (v+qAY x.Kind i)) (x.Kids.take i) 0≤sumN GCore.size (x.Kids.take i)) (fun i=>(⟨[(0,.ept x.enc 0),(1,.int .i64 v),(5,.int .i64 (sumK (fun i y=>GCore.count y (v+qAY x.Kind i)) (x.Kids.take i) 0:Nat)),(6,.int .i64 (i:Nat))],[],[]⟩:VSt)) (fun i=>x.Kids.length-i) 0 (by kernel_rfl) ⟨Nat.zero_le _,by simp [sumK]⟩ (Can.sub (by simp [go_sem]) (by simp [go_sem])) ?_
  rintro i ⟨hi,hI⟩
  simp only [go_sem]
  refine qAA ?_ ?_<;>intro hc<;>simp only [hc,go_sem]
  · have hlt:i<x.Kids.length:=by have:=of_decide_eq_true hc;omega
    simp only [List.getElem?_map,List.getElem?_eq_getElem hlt,Option.map_some,go_sem]
    have hm:=List.getElem_mem hlt
    have hk:=GCore.kid_sz hm
    have hp:=GCore.dep_kid hm
    have hb:=qCT x.Kind i
    have hse:=x.size_eq
    have hst:=qD4 (f:=GCore.size) hlt
    have hsl:=qDM GCore.size x.Kids (i+1)
    have hkc:=GCore.count_size x.Kids[i] (v+qAY x.Kind i)
    have hsk:=qVU (f:=fun i y=>GCore.count y (v+qAY x.Kind i)) (k:=0) hlt
    rw [Nat.zero_add] at hsk
    refine qAB qhS ?_
    simp only [go_sem]
    rw [qAJ (n:=v+qAY x.Kind i) (by omega) (by omega)]
    refine qAB (ih _ hm _ (by omega) (by omega)) ?_
    simp only [go_sem]
    have e1:((sumK (fun i y=>GCore.count y (v+qAY x.Kind i)) (x.Kids.take i) 0:Nat):Int)+(GCore.count x.Kids[i] (v+qAY x.Kind i):Nat)=((sumK (fun i y=>GCore.count y (v+qAY x.Kind i)) (x.Kids.take (i+1)) 0:Nat):Int):=by omega
    rw [e1,qAJ (n:=((sumK (fun i y=>GCore.count y (v+qAY x.Kind i)) (x.Kids.take (i+1)) 0:Nat):Int)) (by omega) (by omega)]
    simp only [qAK (show i<4611686018427387904 by omega)];refine qAH (i+1) ⟨by omega, ?_⟩ (by omega) (Can.sub (by simp [go_sem]) (by simp [go_sem]))
    omega
  · obtain rfl:i=x.Kids.length:=by have:=of_decide_eq_false hc;omega
    rw [List.take_length]
    exact qAF rfl (by rw [hce])
theorem zJ5 (x:GCore):∀(hz:x.sz≤1048576),Pure Gm 1124 [.ept x.enc 0] (.int .i64 x.high):=by
  induction x using GCore.ind with
  | _ x ih=>
  intro hz
  refine Pure.intro [] [] zLY (by kernel_rfl) rfl (by simp [AV.trees,AV.tree,go_sem]) rfl ?_
  simp only [qkB,qAC,go_sem]
  have hL:=x.len_sz
  obtain ⟨n0,hn0⟩:∃n0,n0=(if x.Kind=1 then x.Value else-1):=⟨_,rfl⟩
  have hh:=x.high_eq
  rw [←hn0] at hh
  refine qAA ?_ ?_<;>intro hc<;>simp only [hc,go_sem]
  have h0:n0=x.Value:=by rw [hn0,if_pos (of_decide_eq_true hc)]
  rotate_left
  have h0:n0= -1:=by rw [hn0,if_neg (of_decide_eq_false hc)]
  all_goals
    refine Sem.loop (fun i:Nat=>i≤x.Kids.length∧True) (fun i=>(⟨[(0,.ept x.enc 0),(3,.int .i64 ((x.Kids.take i).foldl (fun n y=>if GCore.high y<n then n else GCore.high y) n0)),(4,.int .i64 (i:Nat))],[],[]⟩:VSt)) (fun i=>x.Kids.length-i) 0 (by kernel_rfl) ⟨Nat.zero_le _,by trivial⟩ (Can.sub (by simp [go_sem,h0]) (by simp [go_sem])) ?_
    rintro i ⟨hi,hI⟩
    simp only [go_sem]
    refine qAA ?_ ?_<;>intro hc<;>simp only [hc,go_sem]
    · have hlt:i<x.Kids.length:=by have:=of_decide_eq_true hc;omega
      simp only [List.getElem?_map,List.getElem?_eq_getElem hlt,Option.map_some,go_sem]
      have hm:=List.getElem_mem hlt
      have hk:=GCore.kid_sz hm
      refine qAB (ih _ hm (by omega)) ?_
      simp only [go_sem]
      refine qAB c856 ?_
      simp only [go_sem]
      rw [←qE1 (fun (n:Int) (y:GCore)=>if y.high<n then n else y.high) hlt]
      simp only [qAK (show i<4611686018427387904 by omega)];refine qAH (i+1) ⟨by omega, ?_⟩ (by omega) (Can.sub (by simp [go_sem]) (by simp [go_sem]))
      trivial
    · obtain rfl:i=x.Kids.length:=by have:=of_decide_eq_false hc;omega
      rw [List.take_length]
      exact qAF rfl (by rw [hh])
end Go.Ab
namespace Go.Ab
open Go
set_option maxRecDepth 10000
set_option maxHeartbeats 2000000
theorem zJ4 (x:GCore):∀(arg:GCore) (d:Int) (hz:x.sz≤1048576) (hv:x.vb 4294967296=true) (hd:0≤d∧d+x.dep≤2147483648) (haz:arg.sz≤1048576) (had:arg.dep≤1048576) (hav:arg.vb 4294967296=true),Pure Gm 1122 [.ept x.enc 0,.ept arg.enc 0,.int .i64 d] ((GCore.put arg x d).enc):=by
  induction x using GCore.ind with
  | _ x ih=>
  intro arg d hz hv hd haz had hav
  refine Pure.intro [] [] zLW (by kernel_rfl) rfl (by simp [AV.trees,AV.tree,go_sem]) (by simp [go_sem]) ?_
  simp only [qj9,qAC,go_sem]
  have hL:=x.len_sz
  have hres:=GCore.put_eq arg x d
  refine qAA ?_ ?_<;>intro hc<;>simp only [hc,go_sem]
  · have hk1:=qnH hv (of_decide_eq_true hc)
    rw [if_pos (of_decide_eq_true hc)] at hres
    refine qAA ?_ ?_<;>intro hc<;>simp only [hc,go_sem]
    · rw [if_pos (of_decide_eq_true hc)] at hres
      refine qAB (c766 arg d 0 haz (by omega) (by omega) hav) ?_
      simp only [go_sem]
      refine qAE (k:=4) (by rfl) (by simp [go_sem]) (GCore.isAgg _) (by decide) ?_
      simp only [go_sem]
      exact qAF (by simp [go_sem]) (by rw [hres])
    rw [if_neg (of_decide_eq_false hc)] at hres
    refine qAE (k:=4) (by rfl) (by rfl) (by exact ⟨_,rfl⟩) (by decide) ?_
    simp only [go_sem]
    refine qAA ?_ ?_<;>intro hc<;>simp only [hc,go_sem]
    · rw [qAJ (by omega) (by omega)]
      refine qAE (k:=4) (by rfl) (by rfl) (by exact ⟨_,rfl⟩) (by decide) ?_
      simp only [go_sem]
      rw [hres,show putV x.Value d=x.Value-1 by unfold putV;rw [if_pos (of_decide_eq_true hc)]]
      exact qA7 qFD
    · refine qAE (k:=4) (by rfl) (by rfl) (by exact ⟨_,rfl⟩) (by decide) ?_
      simp only [go_sem]
      rw [hres,show putV x.Value d=x.Value by unfold putV;rw [if_neg (of_decide_eq_false hc)]]
      exact qA7 qFD
  rw [if_neg (of_decide_eq_false hc)] at hres
  refine qAB (c402 x.Data (by omega)) ?_
  simp only [go_sem]
  refine qAE (k:=4) (by rfl) (by rfl) (by exact ⟨_,rfl⟩) (by decide) ?_
  simp only [go_sem]
  refine Sem.loop (fun i:Nat=>i≤x.Kids.length) (fun i=>(⟨[(0,.ept x.enc 0),(1,.ept arg.enc 0),(2,.int .i64 d),(9,.int .i64 (i:Nat))],[(8,.agg [.int .i64 x.Kind,.int .i64 x.Value,.lst 1 (x.Data.map encI) false,.slice 4 0 0 i false]),(6,.agg [.int .i64 0,.int .i64 0,.nils,.nils])],[.row 4 ((mapK (fun i y=>GCore.put arg y (d+qAY x.Kind i)) (x.Kids.take i) 0).map GCore.enc) true]⟩:VSt)) (fun i=>x.Kids.length-i) 0 (by kernel_rfl) (Nat.zero_le _)
    (Can.renum [none] rfl ⟨.ph,trivial⟩ ⟨⟨_,rfl,.tree (by simp [AV.tree,go_sem])⟩,⟨_,rfl,.tree (by simp [AV.tree,go_sem])⟩,⟨_,rfl,.tree rfl⟩,⟨_,rfl,.tree rfl⟩,trivial⟩
      ⟨⟨_,rfl,.agg rfl (VR2s.cons (.tree rfl) (VR2s.cons (.tree rfl) (VR2s.cons (.tree (by simp [AV.tree,qAT])) (VR2s.cons (.ph rfl) VR2s.nil)))).2⟩,⟨_,rfl,.tree rfl⟩,trivial⟩) ?_
  intro i hi
  simp only [go_sem]
  refine qAA ?_ ?_<;>intro hc<;>simp only [hc,go_sem]
  · have hlt:i<x.Kids.length:=by have:=of_decide_eq_true hc;omega
    simp only [List.getElem?_map,List.getElem?_eq_getElem hlt,Option.map_some,go_sem]
    have hm:=List.getElem_mem hlt
    have hk:=GCore.kid_sz hm
    have hp:=GCore.dep_kid hm
    have hb:=qCT x.Kind i
    refine qAB qhS ?_
    simp only [go_sem]
    rw [qAJ (n:=d+qAY x.Kind i) (by omega) (by omega)]
    refine qAB (ih _ hm arg (d+qAY x.Kind i) (by omega) (qjS hv hm) (by omega) haz had hav) ?_
    simp only [go_sem]
    refine qBY (el:=(mapK (fun i y=>GCore.put arg y (d+qAY x.Kind i)) (x.Kids.take i) 0).map GCore.enc) rfl rfl (by simp [qED];omega) (by omega) ?_
    simp only [go_sem]
    simp only [qAK (show i<4611686018427387904 by omega)]
    refine qAH (i+1) (by omega) (by omega) ?_
    refine Can.renum [some 2] rfl ⟨.row rfl (VR2s.of_eq (by rw [qF9 hlt,Nat.zero_add];simp) (qBF _)),trivial⟩ ⟨⟨_,rfl,.tree (by simp [AV.tree,go_sem])⟩,⟨_,rfl,.tree (by simp [AV.tree,go_sem])⟩,⟨_,rfl,.tree rfl⟩,⟨_,rfl,.tree rfl⟩,trivial⟩
      ⟨⟨_,rfl,.agg rfl (VR2s.cons (.tree rfl) (VR2s.cons (.tree rfl) (VR2s.cons (.tree (by simp [AV.tree,qAT])) (VR2s.cons (.slice rfl) VR2s.nil)))).2⟩,⟨_,rfl,.tree rfl⟩,trivial⟩
  · obtain rfl:i=x.Kids.length:=by have:=of_decide_eq_false hc;omega
    rw [List.take_length]
    refine qAE (k:=4) (by rfl) (by rfl) (by exact ⟨_,rfl⟩) (by decide) ?_
    simp only [go_sem]
    rw [hres]
    exact qA7 (qGP rfl (qED _ _ _))
end Go.Ab
namespace Go.Ab
open Go
set_option maxRecDepth 10000
set_option maxHeartbeats 2000000
def GCore.d4:GCore→Bool:=GCore.fold fun x rs=>decide (x.Data.length≤4)&&rs.all id
theorem GCore.d4_eq (x:GCore):x.d4=(decide (x.Data.length≤4)&&x.Kids.all GCore.d4):=by
  unfold GCore.d4;rw [GCore.fold_eq];simp
theorem qhZ {x y:GCore} (h:x.d4=true) (hy:y∈x.Kids):y.d4=true:=by
  rw [x.d4_eq,Bool.and_eq_true,List.all_eq_true] at h;exact h.2 y hy
theorem GCore.sz_d4:∀x:GCore,x.d4=true→x.sz+1≤5*x.size:=GCore.ind fun x ih h=>by
  have h0:=h
  rw [x.d4_eq,Bool.and_eq_true,decide_eq_true_eq] at h0
  rw [x.sz_eq,x.size_eq]
  have:∀xs:List GCore,(∀y∈xs,y.sz+1≤5*y.size)→xs.length+sumN GCore.sz xs≤5*sumN GCore.size xs:=by
    intro xs
    induction xs with
    | nil=>intro _;simp [sumN]
    | cons a xs ihx=>
      intro h
      have h1:=h a (by simp)
      have h2:=ihx (fun y hy=>h y (by simp [hy]))
      simp only [sumN,List.length_cons];omega
  have:=this x.Kids (fun y hy=>ih y hy (qhZ h hy))
  omega
theorem qdR:∀x:GCore,x.ok=true→x.d4=true:=GCore.ind fun x ih h=>by
  have h0:=qDV h
  unfold qB3 inI at h0
  simp only [Bool.and_eq_true,decide_eq_true_eq] at h0
  rw [x.d4_eq,Bool.and_eq_true,decide_eq_true_eq,List.all_eq_true]
  refine ⟨?_,fun y hy=>ih y hy (qBB h hy)⟩
  have h1:=h0.1.1.2
  have:(shp x.Kind).2.2≤4:=by
    unfold shp
    repeat' split
    all_goals decide
  omega
theorem zPW:∀x:GCore,x.ok=true→x.vb 255=true:=GCore.ind fun x ih h=>by
  have h0:=qDV h
  unfold qB3 at h0
  simp only [Bool.and_eq_true] at h0
  rw [x.vb_eq,Bool.and_eq_true,List.all_eq_true]
  refine ⟨?_,fun y hy=>ih y hy (qBB h hy)⟩
  by_cases hk:x.Kind=1
  · have h1:=h0.1.2
    unfold qJV at h1
    rw [if_pos hk] at h1
    rw [h1];simp
  · simp [hk]
theorem qp3 {m n:Int} (hmn:m≤n):∀x:GCore,x.vb m=true→x.vb n=true:=GCore.ind fun x ih h=>by
  have h0:=h
  rw [x.vb_eq,Bool.and_eq_true] at h0
  rw [x.vb_eq,Bool.and_eq_true,List.all_eq_true]
  refine ⟨?_,fun y hy=>ih y hy (qjS h hy)⟩
  have h1:=h0.1
  simp only [inI,Bool.or_eq_true,Bool.not_eq_true',decide_eq_false_iff_not,Bool.and_eq_true,decide_eq_true_eq] at h1⊢
  rcases h1 with h1 | h1
  · exact .inl h1
  · exact .inr ⟨h1.1,by omega⟩
theorem qeN {α β:Type} {f:Nat→α→β} {p:β→Bool} {xs:List α} {k:Nat} (h:∀x∈xs,∀k,p (f k x)=true):(mapK f xs k).all p=true:=by
  rw [List.all_eq_true]
  intro y hy
  obtain ⟨x,hx,k,rfl⟩:=qeO hy
  exact h x hx k
theorem qeP {α β:Type} {f:Nat→α→β} {g:β→Nat} {q:α→Nat}:∀{xs:List α} {k:Nat},(∀x∈xs,∀k,g (f k x)=q x)→sumN g (mapK f xs k)=sumN q xs
  |[],_,_=>rfl
  | x::xs,k,h=>by
    simp only [mapK,sumN,h x (by simp) k]
    rw [qeP (fun y hy=>h y (by simp [hy]))]
@[go_sem] theorem GCore.mk_kids {k v:Int} {d:List Int} {ks:List GCore}:(GCore.mk k v d ks).Kids=ks:=rfl
@[go_sem] theorem GCore.mk_data {k v:Int} {d:List Int} {ks:List GCore}:(GCore.mk k v d ks).Data=d:=rfl
@[go_sem] theorem GCore.mk_kind {k v:Int} {d:List Int} {ks:List GCore}:(GCore.mk k v d ks).Kind=k:=rfl
@[go_sem] theorem GCore.mk_value {k v:Int} {d:List Int} {ks:List GCore}:(GCore.mk k v d ks).Value=v:=rfl
theorem qgN (a:Int):∀(x:GCore) (f:Int),(x.shift a f).size=x.size:=GCore.ind fun x ih f=>by
  rw [x.shift_eq,GCore.size_eq,x.size_eq,GCore.mk_kids,qeP (q:=GCore.size) (fun y hy k=>ih y hy _)]
theorem qmU (a:Int):∀(x:GCore) (f:Int),x.d4=true→(x.shift a f).d4=true:=GCore.ind fun x ih f h=>by
  have h0:=h
  rw [x.d4_eq,Bool.and_eq_true] at h0
  rw [x.shift_eq,GCore.d4_eq,GCore.mk_data,GCore.mk_kids,h0.1,qeN (fun y hy k=>ih y hy _ (qhZ h hy))];rfl
theorem qi2 {arg:GCore} (ha:arg.d4=true):∀(x:GCore) (d:Int),x.d4=true→(GCore.put arg x d).d4=true:=GCore.ind fun x ih d h=>by
  have h0:=h
  rw [x.d4_eq,Bool.and_eq_true] at h0
  rw [GCore.put_eq]
  split
  · split
    · exact qmU _ _ _ ha
    · rw [GCore.d4_eq];rfl
  · rw [GCore.d4_eq,GCore.mk_data,GCore.mk_kids,h0.1,qeN (fun y hy k=>ih y hy _ (qhZ h hy))];rfl
theorem qVD {x:GCore} (h:x.ok=true) (hk:x.Kind=1):x.Kids=[]:=by
  have h:=qDV h
  unfold qB3 inI at h
  simp only [Bool.and_eq_true,decide_eq_true_eq] at h
  obtain ⟨⟨⟨⟨h1,h2⟩,_⟩,_⟩,_⟩:=h
  simp [shp,hk] at h1 h2
  exact h2
theorem qJO (arg:GCore):∀(x:GCore) (d:Int),x.ok=true→((GCore.put arg x d).size:Int)=x.size+x.count d*((arg.size:Int)-1):=GCore.ind fun x ih d h=>by
  rw [GCore.put_eq,x.count_eq]
  by_cases hk:x.Kind=1
  · have hs:x.size=1:=by rw [x.size_eq,qVD h hk];rfl
    rw [if_pos hk,if_pos hk,hs]
    by_cases hv:x.Value=d
    · rw [if_pos hv,if_pos hv,qgN];omega
    · rw [if_neg hv,if_neg hv]
      have:(GCore.mk 1 (putV x.Value d) [] []).size=1:=by rw [GCore.size_eq];rfl
      rw [this];omega
  · rw [if_neg hk,if_neg hk,GCore.size_eq,x.size_eq,GCore.mk_kids]
    have key:∀(xs:List GCore) (k:Nat),(∀y∈xs,y∈x.Kids)→((sumN GCore.size (mapK (fun i y=>GCore.put arg y (d+qAY x.Kind i)) xs k):Nat):Int)=(sumN GCore.size xs:Nat)+(sumK (fun i y=>GCore.count y (d+qAY x.Kind i)) xs k:Nat)*((arg.size:Int)-1):=by
      intro xs
      induction xs with
      | nil=>intro k _;simp [mapK,sumN,sumK]
      | cons a xs ihx=>
        intro k hm
        simp only [mapK,sumN,sumK]
        have h1:=ih a (hm a (by simp)) (d+qAY x.Kind k) (qBB h (hm a (by simp)))
        have h2:=ihx (k+1) (fun y hy=>hm y (by simp [hy]))
        rw [Int.natCast_add,h1,h2,Int.natCast_add,Int.natCast_add,Int.add_mul]
        omega
    have:=key x.Kids 0 (fun y hy=>hy)
    rw [Int.natCast_add,this,Int.natCast_add]
    omega
theorem GCore.putall {x:GCore} {a b c d:AV}:(AV.agg [a,b,c,d]).put 0 x.enc=some x.enc:=by rw [GCore.enc_eq];rfl
def qAX:GCore:=.mk 0 0 [] []
theorem qCB {h:List AObj}:Cv h (.agg [.int .i64 0,.int .i64 0,.nils,.nils]) qAX.enc:=qFD
def qFG (body arg:GCore):Int:=
  if 400<(body.size:Int)+body.count 0*((arg.size:Int)-1) then 4 else if 80<(GCore.put arg body 0).dep then 4 else if 255<(GCore.put arg body 0).high then 2 else 0
def qJG (body arg:GCore):GCore:=if qFG body arg=0 then GCore.put arg body 0 else qAX
theorem qeT {x:GCore} (h:x.valid=true):qDK x 80 400=x.size:=by
  unfold GCore.valid at h
  simp only [Bool.and_eq_true,decide_eq_true_eq] at h
  unfold qDK
  rw [if_pos ⟨h.1.1,by omega,by omega⟩]
theorem qA4 {x:GCore} (h:x.valid=true):x.ok=true∧x.dep≤80∧x.size≤400∧x.sz≤2000∧x.vb 4294967296=true:=by
  unfold GCore.valid at h
  simp only [Bool.and_eq_true,decide_eq_true_eq] at h
  have h1:=GCore.sz_d4 x (qdR x h.1.1)
  exact ⟨h.1.1,h.1.2,h.2,by omega,qp3 (by omega) x (zPW x h.1.1)⟩
theorem cv2 {h:List AObj} {a b v:AV} (hc:Cv h a v) (hb:b.tree=true):Cv h (.tup [a,b]) (.tup [v,b]):=by
  refine .tup rfl ?_
  simp only [List.zip_cons_cons,List.zip_nil_left,List.mem_cons,List.not_mem_nil,or_false]
  rintro p (rfl | rfl)
  · exact hc
  · exact .refl hb
theorem qCQ {h:List AObj} {a b v:AV} (hc:Cv h (.tup [a,b]) v):Fin (some [a,b]) h v:=by
  unfold Fin;exact hc
theorem c761 {x y:GCore} (hx:x.valid=true) (hy:y.valid=true):Pure Gm 761 [.ept x.enc 0,.ept y.enc 0] (.tup [(qJG x y).enc,.int .i64 (qFG x y)]):=by
  refine Pure.intro [] [] g761 (by kernel_rfl) rfl (by simp [AV.trees,AV.tree,go_sem]) (by simp [AV.tree,AV.trees,go_sem]) ?_
  simp only [F761,qAC,go_sem]
  obtain ⟨x1,x2,x3,x4,x5⟩:=qA4 hx
  obtain ⟨y1,y2,y3,y4,y5⟩:=qA4 hy
  have hc0:=x.count_size 0
  refine qAB (zJ3 x 0 (by omega) (by omega)) ?_
  simp only [go_sem]
  refine qAB (c643 x 80 400 (by omega) (by omega) (by omega)) ?_
  simp only [go_sem]
  refine qAB (c643 y 80 400 (by omega) (by omega) (by omega)) ?_
  simp only [go_sem]
  rw [qeT hx,qeT hy]
  have hyp:=y.size_pos
  have hP0:0≤(x.count 0:Int)*((y.size:Int)-1):=Int.mul_nonneg (by omega) (by omega)
  have hP1:(x.count 0:Int)*((y.size:Int)-1)≤400*400:=Int.mul_le_mul (by omega) (by omega) (by omega) (by omega)
  rw [qAJ (n:=(y.size:Int)-1) (by omega) (by omega),qAJ (n:=(x.count 0:Int)*((y.size:Int)-1)) (by omega) (by omega),qAJ (by omega) (by omega)]
  have hsz:=qJO y x 0 x1
  refine qAA ?_ ?_<;>intro hc<;>simp only [hc,go_sem]
  · have hi:qFG x y=4:=by unfold qFG;rw [if_pos (of_decide_eq_true hc)]
    refine qAE (k:=4) (by rfl) (by rfl) (by exact ⟨_,rfl⟩) (by decide) ?_
    simp only [go_sem]
    rw [qJG,hi,if_neg (by decide)]
    exact qCQ (cv2 qCB rfl)
  have h1:=of_decide_eq_false hc
  refine qAB (zJ4 x y 0 (by omega) x5 (by omega) (by omega) (by omega) y5) ?_
  simp only [go_sem]
  obtain ⟨o,ho⟩:∃o,o=GCore.put y x 0:=⟨_,rfl⟩
  have hod:=qi2 (qdR y y1) x 0 (qdR x x1)
  rw [←ho] at hsz hod⊢
  have hos:=GCore.sz_d4 o hod
  have hoz:=GCore.dep_size o
  refine qD3 (by simp [go_sem]) rfl rfl GCore.putall ?_
  simp only [go_sem]
  have cvp:Cv [AObj.row 4 [o.enc] true] (.ptr 0 0 0) (.ept o.enc 0):=.ptr rfl (by decide) rfl (.refl (by simp [go_sem]))
  refine qBS (vs':=[.ept o.enc 0]) (Cvs.cons cvp Cvs.nil) (zFV o (by omega) (by omega)) rfl ?_
  simp only [go_sem]
  refine qAA ?_ ?_<;>intro hc<;>simp only [hc,go_sem]
  · have hi:qFG x y=4:=by unfold qFG;rw [if_neg h1,←ho,if_pos (by have:=of_decide_eq_true hc;omega)]
    refine qAE (k:=4) (by rfl) (by rfl) (by exact ⟨_,rfl⟩) (by decide) ?_
    simp only [go_sem]
    rw [qJG,hi,if_neg (by decide)]
    exact qCQ (cv2 qCB rfl)
  have h2:¬80<o.dep:=by have:=of_decide_eq_false hc;omega
  refine qBS (vs':=[.ept o.enc 0]) (Cvs.cons cvp Cvs.nil) (zJ5 o (by omega)) rfl ?_
  simp only [go_sem]
  refine qAA ?_ ?_<;>intro hc<;>simp only [hc,go_sem]
  · have hi:qFG x y=2:=by unfold qFG;rw [if_neg h1,←ho,if_neg h2,if_pos (of_decide_eq_true hc)]
    refine qAE (k:=4) (by rfl) (by rfl) (by exact ⟨_,rfl⟩) (by decide) ?_
    simp only [go_sem]
    rw [qJG,hi,if_neg (by decide)]
    exact qCQ (cv2 qCB rfl)
  · have hi:qFG x y=0:=by unfold qFG;rw [if_neg h1,←ho,if_neg h2,if_neg (of_decide_eq_false hc)]
    simp only [go_sem,List.nil_append,List.cons_append,List.set_cons_zero,List.set_cons_succ]
    refine qAE (k:=4) (by rfl) (by simp [go_sem]) (GCore.isAgg _) (by decide) ?_
    simp only [go_sem]
    rw [qJG,hi,if_pos rfl,←ho]
    exact qCQ (cv2 (.refl (by simp [go_sem])) rfl)
end Go.Ab
namespace Go.Ab
open Go
set_option maxRecDepth 10000
set_option maxHeartbeats 2000000
def w32 (x:Int):Int:=IntKind.i64.wrap (IntKind.i32.wrap (IntKind.u32.wrap (IntKind.u64.wrap x)))
def opI (k a b:Int):Int:=
  if k=1 then w32 (IntKind.i64.wrap (w32 a+w32 b)) else if k=2 then w32 (IntKind.i64.wrap (w32 a-w32 b)) else if k=3 then w32 (IntKind.i64.wrap (w32 a*w32 b))
  else if k=4 then (if w32 b=0 then 0 else w32 (IntKind.i64.wrap ((w32 a).tdiv (w32 b)))) else if k=5 then (if w32 a<w32 b then 1 else 0) else if k=6 then (if w32 a=w32 b then 1 else 0) else 0
def appC (f a:GCore):GCore:=.mk 5 0 [] [f,a]
def qDU (d:Int) (as:List GCore):GCore:=as.foldl appC (.mk 11 d [] [])
attribute [local simp] qBF
section
variable {e:Env} {w i:Nat} {el:List AV} {v:AV} {x:Ao} {r:List (Nat×Ao)}
@[go_sem] theorem zQ6 {a b:AV} (h:v.cells.length=w):fil e w [a,b] 0 (some v) r=qBR e w [v,b] r:=by
  show (if v.cells.length=w∧0<2 then _ else _)=_
  rw [if_pos ⟨h,by omega⟩];rfl
@[go_sem] theorem zQ7 {a b:AV} (h:v.cells.length=w):fil e w [a,b] 1 (some v) r=qBR e w [a,v] r:=by
  show (if v.cells.length=w∧1<2 then _ else _)=_
  rw [if_pos ⟨h,by omega⟩];rfl
@[go_sem] theorem rep2 {v:AV}:List.replicate 2 v=[v,v]:=nr rfl
end
theorem qfO {x:Int}:Pure Gm 1125 [.int .i64 x] (.int .i64 (w32 x)):=by
  refine Pure.intro [] [] zLZ (by kernel_rfl) rfl (by simp [AV.trees,AV.tree,go_sem]) rfl ?_
  simp only [qkC,qAC,go_sem]
  exact qAF rfl rfl
theorem zFW {b:Bool}:Pure Gm 1126 [.bool b] (.int .i64 (if b then 1 else 0)):=by
  refine Pure.intro [] [] zL0 (by kernel_rfl) rfl (by simp [AV.trees,AV.tree,go_sem]) rfl ?_
  simp only [qkD,qAC,go_sem]
  refine qAA ?_ ?_<;>intro hc<;>simp only [hc,go_sem]
  · exact qAF rfl rfl
  · exact qAF rfl rfl
theorem c762 {k a b:Int}:Pure Gm 762 [.int .i64 k,.int .i64 a,.int .i64 b] (.int .i64 (opI k a b)):=by
  refine Pure.intro [] [] g762 (by kernel_rfl) rfl (by simp [AV.trees,AV.tree,go_sem]) rfl ?_
  simp only [F762,qAC,go_sem]
  refine qAB qfO ?_
  simp only [go_sem]
  refine qAB qfO ?_
  simp only [go_sem]
  unfold opI
  refine qAA ?_ ?_<;>intro hc<;>simp only [hc,go_sem]
  · rw [if_pos (of_decide_eq_true hc)]
    refine qAB qfO ?_
    simp only [go_sem]
    exact qAF rfl rfl
  rw [if_neg (of_decide_eq_false hc)]
  refine qAA ?_ ?_<;>intro hc<;>simp only [hc,go_sem]
  · rw [if_pos (of_decide_eq_true hc)]
    refine qAB qfO ?_
    simp only [go_sem]
    exact qAF rfl rfl
  rw [if_neg (of_decide_eq_false hc)]
  refine qAA ?_ ?_<;>intro hc<;>simp only [hc,go_sem]
  · rw [if_pos (of_decide_eq_true hc)]
    refine qAB qfO ?_
    simp only [go_sem]
    exact qAF rfl rfl
  rw [if_neg (of_decide_eq_false hc)]
  refine qAA ?_ ?_<;>intro hc<;>simp only [hc,go_sem]
  · rw [if_pos (of_decide_eq_true hc)]
    refine qAA ?_ ?_<;>intro hc<;>simp only [hc,go_sem]
    · rw [if_pos (of_decide_eq_true hc)]
      exact qAF rfl rfl
    rw [if_neg (of_decide_eq_false hc)]
    have hq:=of_decide_eq_false hc
    simp only [if_neg hq,go_sem]
    refine qAB qfO ?_
    simp only [go_sem]
    exact qAF rfl rfl
  rw [if_neg (of_decide_eq_false hc)]
  refine qAA ?_ ?_<;>intro hc<;>simp only [hc,go_sem]
  · rw [if_pos (of_decide_eq_true hc)]
    refine qAB zFW ?_
    simp only [go_sem]
    exact qAF rfl (by simp)
  rw [if_neg (of_decide_eq_false hc)]
  refine qAA ?_ ?_<;>intro hc<;>simp only [hc,go_sem]
  · rw [if_pos (of_decide_eq_true hc)]
    refine qAB zFW ?_
    simp only [go_sem]
    exact qAF rfl (by simp)
  rw [if_neg (of_decide_eq_false hc)]
  exact qAF rfl rfl
theorem c381 {x:Int}:Pure Gm 381 [.int .i64 x] ((GCore.mk 2 x [] []).enc):=by
  refine Pure.intro [] [] g381 (by kernel_rfl) rfl (by simp [AV.trees,AV.tree,go_sem]) (by simp [go_sem]) ?_
  simp only [F381,qAC,go_sem]
  refine qAE (k:=4) (by rfl) (by rfl) (by exact ⟨_,rfl⟩) (by decide) ?_
  simp only [go_sem]
  exact qA7 qFD
theorem qo2 {x:Int}:Pure Gm 1127 [.int .i64 x] ((GCore.mk 11 x [] []).enc):=by
  refine Pure.intro [] [] zL1 (by kernel_rfl) rfl (by simp [AV.trees,AV.tree,go_sem]) (by simp [go_sem]) ?_
  simp only [qkE,qAC,go_sem]
  refine qAE (k:=4) (by rfl) (by rfl) (by exact ⟨_,rfl⟩) (by decide) ?_
  simp only [go_sem]
  exact qA7 qFD
theorem c382 {k v:Int} {ks:List GCore}:Pure Gm 382 [.int .i64 k,.int .i64 v,.lst 4 (ks.map GCore.enc) false] ((GCore.mk k v [] ks).enc):=by
  refine Pure.intro [] [] g382 (by kernel_rfl) rfl (by simp [AV.trees,AV.tree,go_sem]) (by simp [go_sem]) ?_
  simp only [F382,qAC,go_sem]
  refine qAE (k:=4) (by rfl) (by simp [AV.tree,AV.trees,go_sem]) (by exact ⟨_,rfl⟩) (by decide) ?_
  simp only [go_sem]
  exact qA7 (qFR .nils (.refl (by simp [AV.tree,go_sem])))
theorem zFU {f a:GCore}:Pure Gm 1117 [f.enc,a.enc] ((appC f a).enc):=by
  refine Pure.intro [] [] zLR (by kernel_rfl) rfl (by simp [AV.trees,AV.tree,go_sem]) (by simp [go_sem]) ?_
  simp only [qj4,qAC,go_sem]
  refine qAN GCore.ln ?_
  simp only [go_sem]
  refine qAN GCore.ln ?_
  simp only [go_sem]
  have hc:Cv (only [0] [AObj.row 4 [f.enc,a.enc] true]) (.slice 4 0 0 2 false) (.lst 4 ([f,a].map GCore.enc) false):=Cv.row rfl rfl (qBF _) (by decide)
  refine qFQ [0] (Cvs.cons (.refl rfl) (Cvs.cons (.refl rfl) (Cvs.cons hc Cvs.nil))) c382 ?_
  simp only [go_sem]
  refine qAE (k:=4) (by rfl) (by simp [go_sem]) (GCore.isAgg _) (by decide) ?_
  simp only [go_sem]
  exact qA7 (.refl (by simp [go_sem]))
def redK (x:GCore):Int:=match x.Kids with
  |[]=>0
  | y::ys=>
    if x.Kind=5 then (if y.Kind=4 then 1 else if y.Kind=11 then 4 else 0)
    else if x.Kind=3 then (if y.Kind=11 then 4 else if y.Kind=2 then (match ys with | z::_=>if z.Kind=2 then 2 else if z.Kind=11 then 4 else 0 |[]=>0) else 0)
    else if x.Kind=9 then (if y.Kind=8∧y.Value<(x.Data.length:Nat) then 3 else if y.Kind=11 then 4 else 0)
    else if x.Kind=10 then (if y.Kind=2 then 3 else if y.Kind=11 then 4 else 0) else 0
theorem qEJ {α:Type} {xs:List α} (h:xs.length=1):∃a,xs=[a]:=by
  match xs,h with
  |[a],_=>exact ⟨a,rfl⟩
theorem qEK {α:Type} {xs:List α} (h:xs.length=2):∃a b,xs=[a,b]:=by
  match xs,h with
  |[a,b],_=>exact ⟨a,b,rfl⟩
def redD (x:GCore):Int:=match x.Kids with
  |[]=>0
  | y::_=>if x.Kind=10 then (if y.Value=0 then x.Data.getD 1 0 else x.Data.getD 0 0) else x.Data.getD y.Value.toNat 0
theorem qVJ {x:GCore} (h5:¬x.Kind=5) (h3:¬x.Kind=3) (h9:¬x.Kind=9) (h10:¬x.Kind=10):redK x=0:=by
  unfold redK;split
  · rfl
  · rw [if_neg h5,if_neg h3,if_neg h9,if_neg h10]
theorem c760 {x:GCore} (ho:x.ok=true) (hz:x.sz≤1048576):Pure Gm 760 [.ept x.enc 0] (.int .i64 (redK x)):=by
  refine Pure.intro [] [] g760 (by kernel_rfl) rfl (by simp [AV.trees,AV.tree,go_sem]) rfl ?_
  simp only [F760,qAC,go_sem]
  have hd:x.Data.length<9223372036854775808:=by have:=x.sz_eq;omega
  refine qAA ?_ ?_<;>intro hc<;>simp only [hc,go_sem]
  · have h5:=of_decide_eq_true hc
    obtain ⟨a,b,hK⟩:=qEK ((qBE ho).1 (by omega))
    simp only [hK,List.map_cons,List.map_nil,Option.map_some,go_sem]
    have hr:redK x=if a.Kind=4 then 1 else if a.Kind=11 then 4 else 0:=by unfold redK;rw [hK];simp only [];rw [if_pos h5]
    rw [hr]
    refine qAA ?_ ?_<;>intro hc<;>simp only [hc,go_sem]
    · exact qAF rfl (by rw [if_pos (of_decide_eq_true hc)])
    rw [if_neg (of_decide_eq_false hc)]
    refine qAA ?_ ?_<;>intro hc<;>simp only [hc,go_sem]
    · exact qAF rfl (by rw [if_pos (of_decide_eq_true hc)])
    · exact qAF rfl (by rw [if_neg (of_decide_eq_false hc)])
  have h5:=of_decide_eq_false hc
  refine qAA ?_ ?_<;>intro hc<;>simp only [hc,go_sem]
  · have h3:=of_decide_eq_true hc
    obtain ⟨a,b,hK⟩:=qEK ((qBE ho).1 (by omega))
    simp only [hK,List.map_cons,List.map_nil,Option.map_some,go_sem]
    have hr:redK x=if a.Kind=11 then 4 else if a.Kind=2 then (if b.Kind=2 then 2 else if b.Kind=11 then 4 else 0) else 0:=by unfold redK;rw [hK];simp only [];rw [if_neg h5,if_pos h3]
    rw [hr]
    refine qAA ?_ ?_<;>intro hc<;>simp only [hc,go_sem]
    · exact qAF rfl (by rw [if_pos (of_decide_eq_true hc)])
    rw [if_neg (of_decide_eq_false hc)]
    simp only [hK,List.map_cons,List.map_nil,Option.map_some,go_sem]
    refine qAA ?_ ?_<;>intro hc<;>simp only [hc,hK,List.map_cons,List.map_nil,Option.map_some,go_sem]
    · rw [if_pos (of_decide_eq_true hc)]
      refine qAA ?_ ?_<;>intro hc<;>simp only [hc,go_sem]
      · exact qAF rfl (by rw [if_pos (of_decide_eq_true hc)])
      rw [if_neg (of_decide_eq_false hc)]
      refine qAA ?_ ?_<;>intro hc<;>simp only [hc,go_sem]
      · exact qAF rfl (by rw [if_pos (of_decide_eq_true hc)])
      · exact qAF rfl (by rw [if_neg (of_decide_eq_false hc)])
    · exact qAF rfl (by rw [if_neg (of_decide_eq_false hc)])
  have h3:=of_decide_eq_false hc
  refine qAA ?_ ?_<;>intro hc<;>simp only [hc,go_sem]
  · have h9:=of_decide_eq_true hc
    obtain ⟨a,hK⟩:=qEJ ((qBE ho).2 (by omega))
    simp only [hK,List.map_cons,List.map_nil,Option.map_some,go_sem]
    have hr:redK x=if a.Kind=8∧a.Value<(x.Data.length:Nat) then 3 else if a.Kind=11 then 4 else 0:=by unfold redK;rw [hK];simp only [];rw [if_neg h5,if_neg h3,if_pos h9]
    rw [hr]
    refine qAG ?_ ?_<;>intro hc<;>simp only [hc,hK,List.map_cons,List.map_nil,Option.map_some,go_sem]
    · have h8:=of_decide_eq_true hc
      refine qAA ?_ ?_<;>intro hc<;>simp only [hc,hK,List.map_cons,List.map_nil,Option.map_some,go_sem]
      · exact qAF rfl (by rw [if_pos ⟨h8,of_decide_eq_true hc⟩])
      have hv:=of_decide_eq_false hc
      rw [if_neg (fun h=>hv h.2)]
      refine qAA ?_ ?_<;>intro hc<;>simp only [hc,hK,List.map_cons,List.map_nil,Option.map_some,go_sem]
      · exact qAF rfl (by rw [if_pos (of_decide_eq_true hc)])
      · exact qAF rfl (by rw [if_neg (of_decide_eq_false hc)])
    · have h8:=of_decide_eq_false hc
      rw [if_neg (fun h=>h8 h.1)]
      refine qAA ?_ ?_<;>intro hc<;>simp only [hc,hK,List.map_cons,List.map_nil,Option.map_some,go_sem]
      · exact qAF rfl (by rw [if_pos (of_decide_eq_true hc)])
      · exact qAF rfl (by rw [if_neg (of_decide_eq_false hc)])
  have h9:=of_decide_eq_false hc
  refine qAA ?_ ?_<;>intro hc<;>simp only [hc,go_sem]
  · have h10:=of_decide_eq_true hc
    obtain ⟨a,hK⟩:=qEJ ((qBE ho).2 (by omega))
    simp only [hK,List.map_cons,List.map_nil,Option.map_some,go_sem]
    have hr:redK x=if a.Kind=2 then 3 else if a.Kind=11 then 4 else 0:=by unfold redK;rw [hK];simp only [];rw [if_neg h5,if_neg h3,if_neg h9,if_pos h10]
    rw [hr]
    refine qAA ?_ ?_<;>intro hc<;>simp only [hc,go_sem]
    · exact qAF rfl (by rw [if_pos (of_decide_eq_true hc)])
    rw [if_neg (of_decide_eq_false hc)]
    refine qAA ?_ ?_<;>intro hc<;>simp only [hc,go_sem]
    · exact qAF rfl (by rw [if_pos (of_decide_eq_true hc)])
    · exact qAF rfl (by rw [if_neg (of_decide_eq_false hc)])
  have h10:=of_decide_eq_false hc
  exact qAF rfl (by rw [qVJ h5 h3 h9 h10])
theorem GCore.putcore {x y:GCore}:x.enc.put 0 y.enc=some y.enc:=by rw [x.enc_eq,y.enc_eq];rfl
theorem qeU {x:GCore} (h:x.ok=true):qJV x.Kind x.Value=true:=by
  have h:=qDV h
  unfold qB3 at h
  simp only [Bool.and_eq_true] at h
  exact h.1.2
theorem red3 {x:GCore} (ho:x.ok=true) (h:redK x=3):∃y,x.Kids=[y]∧((x.Kind=9∧y.Kind=8∧0≤y.Value∧y.Value<(x.Data.length:Nat))∨(x.Kind=10∧y.Kind=2∧x.Data.length=2)):=by
  have hn:=qDV ho
  unfold qB3 inI at hn
  simp only [Bool.and_eq_true,decide_eq_true_eq] at hn
  obtain ⟨⟨⟨⟨_,_⟩,h3,h4⟩,_⟩,_⟩:=hn
  unfold redK at h
  split at h
  · cases h
  rename_i y ys hK
  have hy:y.ok=true:=qBB ho (by rw [hK];simp)
  have hv:=qeU hy
  split at h
  · repeat' split at h
    all_goals cases h
  split at h
  · repeat' split at h
    all_goals cases h
  split at h
  · rename_i h9
    obtain ⟨a,hK'⟩:=qEJ ((qBE ho).2 (by omega))
    rw [hK'] at hK
    cases hK
    refine ⟨y,hK',.inl ?_⟩
    split at h
    · rename_i h8
      refine ⟨h9,h8.1, ?_,h8.2⟩
      unfold qJV inI at hv
      simp [h8.1] at hv
      exact hv.1
    · split at h<;>cases h
  split at h
  · rename_i h10
    obtain ⟨a,hK'⟩:=qEJ ((qBE ho).2 (by omega))
    rw [hK'] at hK
    cases hK
    refine ⟨y,hK',.inr ?_⟩
    split at h
    · rename_i h8
      refine ⟨h10,h8, ?_⟩
      simp [shp,h10] at h3 h4
      omega
    · split at h<;>cases h
  · cases h
theorem c763 {x:GCore} {as:List GCore} (ho:x.ok=true) (hr:redK x=3) (hz:x.sz≤1048576) (hn:as.length≤1048576) (ha:x.Kind=10→as=[]):Pure Gm 763 [.ept x.enc 0,.lst 4 (as.map GCore.enc) false] ((qDU (redD x) as).enc):=by
  refine Pure.intro [] [] g763 (by kernel_rfl) rfl (by simp [AV.trees,AV.tree,go_sem]) (by simp [go_sem]) ?_
  simp only [F763,qAC,go_sem]
  have hd:x.Data.length<9223372036854775808:=by have:=x.sz_eq;omega
  have hL:=x.len_sz
  obtain ⟨y,hK,h9 | h10⟩:=red3 ho hr
  · refine qAA ?_ ?_<;>intro hc<;>simp only [hc,go_sem]
    · have:=of_decide_eq_true hc;omega
    obtain ⟨n,hV⟩:∃n:Nat,y.Value=n:=⟨y.Value.toNat,by omega⟩
    have hlt:n<x.Data.length:=by omega
    have hrd:redD x=x.Data[n]:=by
      unfold redD;rw [hK];simp only [];rw [if_neg (by omega),hV];simp [hlt]
    replace hK:=And.intro hK hV
    simp only [hK,List.map_cons,List.map_nil,Option.map_some,go_sem]
    simp only [List.getElem?_map,List.getElem?_eq_getElem hlt,Option.map_some,go_sem]
    simp only [encI,go_sem]
    refine qAB qo2 ?_
    simp only [go_sem]
    refine qAE (k:=4) (by rfl) (by simp [go_sem]) (GCore.isAgg _) (by decide) ?_
    simp only [go_sem]
    refine Sem.loop (fun i:Nat=>i≤as.length∧True) (fun i=>(⟨[(0,.ept x.enc 0),(1,.lst 4 (as.map GCore.enc) false),(6,.int .i64 (i:Nat))],[(5,((as.take i).foldl appC (.mk 11 x.Data[n] [] [])).enc),(4,.agg [.int .i64 0,.int .i64 0,.nils,.nils])],[]⟩:VSt)) (fun i=>as.length-i) 0 (by kernel_rfl) ⟨Nat.zero_le _,trivial⟩ (Can.sub (by simp [go_sem]) (by simp [go_sem])) ?_
    rintro i ⟨hi,hI⟩
    simp only [go_sem]
    refine qAA ?_ ?_<;>intro hc<;>simp only [hc,go_sem]
    · have hlt:i<as.length:=by have:=of_decide_eq_true hc;omega
      simp only [List.getElem?_map,List.getElem?_eq_getElem hlt,Option.map_some,go_sem]
      refine qAB zFU ?_
      simp only [go_sem]
      refine qKO GCore.ln GCore.putcore ?_
      simp only [go_sem]
      simp only [qAK (show i<4611686018427387904 by omega)]
      refine qAH (i+1) ⟨by omega,trivial⟩ (by omega) (Can.sub (by simp [go_sem]) ?_)
      rw [List.take_succ_eq_append_getElem hlt,List.foldl_append]
      simp [go_sem]
    · obtain rfl:i=as.length:=by have:=of_decide_eq_false hc;omega
      rw [List.take_length]
      refine qAE (k:=4) (by rfl) (by simp [go_sem]) (GCore.isAgg _) (by decide) ?_
      simp only [go_sem]
      rw [hrd]
      exact qA7 (.refl (by simp [go_sem]))
  · obtain ⟨d,e,hD⟩:=qEK h10.2.2
    have hrd:redD x=if y.Value=0 then e else d:=by
      unfold redD;rw [hK];simp only [];rw [if_pos h10.1,hD];rfl
    refine qAA ?_ ?_<;>intro hc<;>simp only [hc,go_sem]
    · replace hK:=And.intro hK hD
      simp only [hK,List.map_cons,List.map_nil,Option.map_some,go_sem]
      rw [ha h10.1,hrd]
      refine qAA ?_ ?_<;>intro hc<;>simp only [hc,hK,List.map_cons,List.map_nil,Option.map_some,go_sem]
      · simp only [encI,go_sem]
        refine qAB qo2 ?_
        simp only [go_sem]
        refine qAE (k:=4) (by rfl) (by simp [go_sem]) (GCore.isAgg _) (by decide) ?_
        simp only [go_sem]
        rw [if_neg (by simpa using hc)]
        exact qA7 (.refl (by simp [go_sem]))
      · simp only [encI,go_sem]
        refine qAB qo2 ?_
        simp only [go_sem]
        refine qAE (k:=4) (by rfl) (by simp [go_sem]) (GCore.isAgg _) (by decide) ?_
        simp only [go_sem]
        rw [if_pos (by simpa using hc)]
        exact qA7 (.refl (by simp [go_sem]))
    · exact absurd h10.1 (of_decide_eq_false hc)
end Go.Ab
namespace Go.Ab
open Go
set_option maxRecDepth 10000
set_option maxHeartbeats 2000000
attribute [local simp] qBF qAT
def qFV (b:GBook) (R:List Int) (lim:Int):AV:=.agg [.ept b.enc 0,.lst 1 (R.map encI) false,.int .i64 lim]
@[go_sem] theorem zK1 {b:GBook} {R:List Int} {lim:Int}:(qFV b R lim).part 0 none=some (.ept b.enc 0):=nr rfl
@[go_sem] theorem zK2 {b:GBook} {R:List Int} {lim:Int}:(qFV b R lim).part 1 none=some (.lst 1 (R.map encI) false):=nr rfl
@[go_sem] theorem zK3 {b:GBook} {R:List Int} {lim:Int}:(qFV b R lim).part 2 none=some (.int .i64 lim):=nr rfl
@[go_sem] theorem qo4 {b:GBook} {R:List Int} {lim:Int}:(qFV b R lim).tree=true:=by simp [qFV,AV.tree,AV.trees,go_sem]
def inlC (b:GBook) (R:List Int) (lim:Int) (x:GCore) (l:Int):Bool:=match x.Kids with
  |[]=>false
  | y::_=>decide (y.Kind=11)&&match b.Defs[y.Value.toNat]? with
    | none=>false
    | some d=>decide (d.Kind=4)&& !(R.any fun k=>decide (k=y.Value))&&decide ((d.size:Int)≤lim)&&decide (l+d.boxes≤8)
theorem qiC {b:GBook} {R:List Int} {lim l:Int} {x y:GCore} {ys:List GCore} {n:Nat} (hK:x.Kids=y::ys) (h11:y.Kind=11) (hV:y.Value=n) (hlt:n<b.Defs.length):
    inlC b R lim x l=(decide (b.Defs[n].Kind=4)&& !(R.any fun k=>decide (k=y.Value))&&decide ((b.Defs[n].size:Int)≤lim)&&decide (l+b.Defs[n].boxes≤8)):=by
  unfold inlC;rw [hK];simp only []
  have:y.Value.toNat=n:=by omega
  rw [this,List.getElem?_eq_getElem hlt,h11];rfl
theorem zKM {b:GBook} {R:List Int} {lim l:Int} {x y:GCore} {ys:List GCore} (hK:x.Kids=y::ys) (hv:y.Kind=11→0≤y.Value∧y.Value<(b.Defs.length:Nat)) (hz:b.sz≤1048576) (hd:∀d∈b.Defs,d.dep≤1048576) (hR:R.length≤4194304) (hl:0≤l∧l≤1048576):Pure Gm 1408 [.ept (qFV b R lim) 0,.ept x.enc 0,.int .i64 l] (.bool (inlC b R lim x l)):=by
  refine Pure.intro [] [] zMX (by kernel_rfl) rfl (by simp [AV.trees,AV.tree,go_sem]) rfl ?_
  simp only [qlA,qAC,go_sem]
  have hz':b.Defs.length+sumN GCore.sz b.Defs≤1048576:=hz
  simp only [hK,List.map_cons,List.map_nil,Option.map_some,go_sem]
  refine qAA ?_ ?_<;>intro hc<;>simp only [hc,hK,List.map_cons,List.map_nil,Option.map_some,go_sem]
  · exact qAF rfl (by unfold inlC;rw [hK];simp only [];simp at hc;simp [hc])
  have h11:y.Kind=11:=by simpa using hc
  obtain ⟨n,hV⟩:∃n:Nat,y.Value=n:=⟨y.Value.toNat,by have:=hv h11;omega⟩
  have hlt:n<b.Defs.length:=by have:=hv h11;omega
  have hm:=List.getElem_mem hlt
  have hdz:=qA9 (f:=GCore.sz) hm
  have hdd:=hd _ hm
  have hr:=qiC (R:=R) (lim:=lim) (l:=l) hK h11 hV hlt
  rw [hr]
  replace hK:=And.intro hK hV
  simp only [hK,List.map_cons,List.map_nil,Option.map_some,go_sem]
  simp only [List.getElem?_map,List.getElem?_eq_getElem hlt,Option.map_some,go_sem]
  refine qAG ?_ ?_<;>intro hc<;>simp only [hc,go_sem]
  rotate_left
  · exact qAF rfl (by simp)
  refine qAB (qo0 hR) ?_
  simp only [go_sem]
  refine qAG ?_ ?_<;>intro hc<;>simp only [hc,go_sem]
  rotate_left
  · exact qAF rfl (by simp)
  have hbd:=b.Defs[n].boxes_dep
  refine qAB (zKQ b.Defs[n] (by omega)) ?_
  simp only [go_sem]
  refine qAG ?_ ?_<;>intro hc<;>simp only [hc,go_sem]
  rotate_left
  · exact qAF rfl (by simp)
  refine qAB (zKR b.Defs[n] (by omega) hdd) ?_
  simp only [go_sem]
  rw [qAJ (by omega) (by omega)]
  exact qAF rfl (by simp)
def kid0 (a:GCore):GCore:=a.Kids.headD qAX
def let1 (a:GCore) (L:List Int) (l:Int):GCore×Int:=
  if L.length=0 then (a,0) else if a.Kind=2 then (a,0) else if a.Kind=6∧(kid0 a).Kind=2 then (kid0 a,0)
  else if L.length=1∧L.head?=some l then (a,0) else if L.length=1∧a.Kind=6 then (kid0 a,0) else (qAX,3)
def letC (x:GCore) (l:Int):GCore×Int:=match x.Kids with
  | a::c::_=>let1 a (c.levels 0 l) l
  | _=>(qAX,3)
@[go_sem] theorem zNQ {w id:Nat} {cl:Bool} {k:IntKind}:idx w (some (.slice w id 0 1 cl)) (some (.int k 0))=some (.ptr id 0 0):=qUY (by omega) (by omega)
theorem qKI {h:List AObj} {x y:GCore×Int} (e:y=x):Fin (some [x.1.enc,.int .i64 x.2]) h (.tup [y.1.enc,.int .i64 y.2]):=by
  subst e;exact qCQ (cv2 (.refl (by simp [go_sem])) rfl)
theorem zKN {b:GBook} {R:List Int} {lim:Int} {x a c:GCore} {ks:List GCore} {l:Int} (hK:x.Kids=a::c::ks) (ha:a.Kind=6→∃k kl,a.Kids=k::kl) (hz:x.sz≤1048576) (hq:x.size≤1048576) (hd:x.dep≤1048576) (hl:0≤l∧l≤1048576):Pure Gm 1409 [.ept (qFV b R lim) 0,.ept x.enc 0,.int .i64 l] (.tup [(letC x l).1.enc,.int .i64 (letC x l).2]):=by
  refine Pure.intro [] [] zMY (by kernel_rfl) rfl (by simp [AV.trees,AV.tree,go_sem]) (by simp [AV.tree,AV.trees,go_sem]) ?_
  simp only [qlB,qAC,go_sem]
  have hcm:c∈x.Kids:=by rw [hK];simp
  have hcz:=GCore.kid_sz hcm
  have hcd:=GCore.dep_kid hcm
  have hcs:=qA9 (f:=GCore.size) hcm
  have hxs:=x.size_eq
  have hll:=GCore.levels_len c 0 l
  have hr:letC x l=let1 a (c.levels 0 l) l:=by unfold letC;rw [hK]
  rw [hr]
  simp only [hK,List.map_cons,List.map_nil,Option.map_some,go_sem]
  have hacc:=a990 c 0 l [] (by omega) (by omega) (by omega) (by simp;omega)
  rw [List.nil_append] at hacc
  obtain ⟨L,hL⟩:∃L,L=c.levels 0 l:=⟨_,rfl⟩
  rw [←hL] at hll hacc hr⊢
  refine qCW hacc rfl ?_
  intro h' id' hG
  simp only [go_sem]
  refine qAG ?_ ?_<;>intro hc<;>simp only [hc,go_sem]
  rotate_left
  · refine qAE (k:=4) (by rfl) (by simp [go_sem]) (GCore.isAgg _) (by decide) ?_
    simp only [go_sem]
    exact qKI (x:=(a,0)) (by unfold let1;rw [if_pos (by simp at hc;simp [hc])])
  have h0:¬L.length=0:=by have:=of_decide_eq_false hc;omega
  refine qAA ?_ ?_<;>intro hc<;>simp only [hc,go_sem]
  · refine qAE (k:=4) (by rfl) (by simp [go_sem]) (GCore.isAgg _) (by decide) ?_
    simp only [go_sem]
    exact qKI (x:=(a,0)) (by unfold let1;rw [if_neg h0,if_pos (of_decide_eq_true hc)])
  have h2:=of_decide_eq_false hc
  by_cases h6:a.Kind=6
  · obtain ⟨k,kl,hk⟩:=ha h6
    have hk0:kid0 a=k:=by unfold kid0;rw [hk];rfl
    replace hK:=And.intro hK hk
    refine qAG ?_ ?_<;>intro hc<;>simp only [hc,go_sem]
    rotate_left
    · exact absurd h6 (by simpa using hc)
    simp only [hK,List.map_cons,List.map_nil,Option.map_some,go_sem]
    refine qAA ?_ ?_<;>intro hc<;>simp only [hc,hK,List.map_cons,List.map_nil,Option.map_some,go_sem]
    · refine qAE (k:=4) (by rfl) (by simp [go_sem]) (GCore.isAgg _) (by decide) ?_
      simp only [go_sem]
      exact qKI (x:=(k,0)) (by unfold let1;rw [if_neg h0,if_neg h2,hk0,if_pos ⟨h6,of_decide_eq_true hc⟩])
    have h7:¬(a.Kind=6∧(kid0 a).Kind=2):=by rw [hk0];exact fun h=>of_decide_eq_false hc h.2
    refine qAG ?_ ?_<;>intro hc<;>simp only [hc,go_sem]
    rotate_left
    · have h1:¬L.length=1:=by simp at hc;omega
      refine qAE (k:=4) (by rfl) (by rfl) (by exact ⟨_,rfl⟩) (by decide) ?_
      simp only [go_sem]
      have e:let1 a L l=(qAX,3):=by unfold let1;rw [if_neg h0,if_neg h2,if_neg h7,if_neg (fun h=>h1 h.1),if_neg (fun h=>h1 h.1)]
      rw [e]
      exact qCQ (cv2 qCB rfl)
    have h1:=of_decide_eq_true hc
    obtain ⟨n,rfl⟩:∃n,L=[n]:=qEJ (by omega)
    simp only [go_sem]
    rw [hG.at']
    simp only [List.map_cons,List.map_nil,encI,go_sem]
    refine qAA ?_ ?_<;>intro hc<;>simp only [hc,go_sem]
    · refine qAE (k:=4) (by rfl) (by simp [go_sem]) (GCore.isAgg _) (by decide) ?_
      simp only [go_sem]
      exact qKI (x:=(a,0)) (by unfold let1;rw [if_neg h0,if_neg h2,if_neg h7,if_pos ⟨rfl,by rw [of_decide_eq_true hc];rfl⟩])
    have h8:¬([n].length=1∧[n].head?=some l):=by rintro ⟨_,h⟩;simp at h;exact of_decide_eq_false hc h
    refine qAG ?_ ?_<;>intro hc<;>simp only [hc,go_sem]
    rotate_left
    · exact absurd hc (by simp)
    refine qAA ?_ ?_<;>intro hc<;>simp only [hc,hK,List.map_cons,List.map_nil,Option.map_some,go_sem]
    · refine qAE (k:=4) (by rfl) (by simp [go_sem]) (GCore.isAgg _) (by decide) ?_
      simp only [go_sem]
      exact qKI (x:=(k,0)) (by unfold let1;rw [if_neg h0,if_neg h2,if_neg h7,if_neg h8,if_pos ⟨rfl,h6⟩,hk0])
    · exact absurd h6 (of_decide_eq_false hc)
  · refine qAG ?_ ?_<;>intro hc<;>simp only [hc,go_sem]
    · exact absurd (of_decide_eq_true hc) h6
    have h7:¬(a.Kind=6∧(kid0 a).Kind=2):=fun h=>h6 h.1
    refine qAG ?_ ?_<;>intro hc<;>simp only [hc,go_sem]
    rotate_left
    · have h1:¬L.length=1:=by simp at hc;omega
      refine qAE (k:=4) (by rfl) (by rfl) (by exact ⟨_,rfl⟩) (by decide) ?_
      simp only [go_sem]
      have e:let1 a L l=(qAX,3):=by unfold let1;rw [if_neg h0,if_neg h2,if_neg h7,if_neg (fun h=>h1 h.1),if_neg (fun h=>h1 h.1)]
      rw [e]
      exact qCQ (cv2 qCB rfl)
    have h1:=of_decide_eq_true hc
    obtain ⟨n,rfl⟩:∃n,L=[n]:=qEJ (by omega)
    simp only [go_sem]
    rw [hG.at']
    simp only [List.map_cons,List.map_nil,encI,go_sem]
    refine qAA ?_ ?_<;>intro hc<;>simp only [hc,go_sem]
    · refine qAE (k:=4) (by rfl) (by simp [go_sem]) (GCore.isAgg _) (by decide) ?_
      simp only [go_sem]
      exact qKI (x:=(a,0)) (by unfold let1;rw [if_neg h0,if_neg h2,if_neg h7,if_pos ⟨rfl,by rw [of_decide_eq_true hc];rfl⟩])
    have h8:¬([n].length=1∧[n].head?=some l):=by rintro ⟨_,h⟩;simp at h;exact of_decide_eq_false hc h
    refine qAG ?_ ?_<;>intro hc<;>simp only [hc,go_sem]
    rotate_left
    · exact absurd hc (by simp)
    refine qAA ?_ ?_<;>intro hc<;>simp only [hc,go_sem]
    · exact absurd (of_decide_eq_true hc) h6
    refine qAE (k:=4) (by rfl) (by rfl) (by exact ⟨_,rfl⟩) (by decide) ?_
    simp only [go_sem]
    have e:let1 a [n] l=(qAX,3):=by unfold let1;rw [if_neg h0,if_neg h2,if_neg h7,if_neg h8,if_neg (fun h=>h6 h.2)]
    rw [e]
    exact qCQ (cv2 qCB rfl)
end Go.Ab
namespace Go.Ab
open Go
set_option maxRecDepth 10000
set_option maxHeartbeats 2000000
attribute [local simp] qBF qAT
theorem qA1 {x y:GCore} (h:x.valid=true) (hm:y∈x.Kids):y.valid=true:=by
  obtain ⟨h1,h2,h3,_,_⟩:=qA4 h
  have hd:=GCore.dep_kid hm
  have hs:=qA9 (f:=GCore.size) hm
  have hx:=x.size_eq
  unfold GCore.valid
  simp only [Bool.and_eq_true,decide_eq_true_eq]
  exact ⟨⟨qBB h1 hm,by omega⟩,by omega⟩
theorem qDQ {n:Int} {x y:GCore} (h:x.refs n=true) (hm:y∈x.Kids):y.refs n=true:=by
  rw [GCore.refs_eq,Bool.and_eq_true,List.all_eq_true] at h;exact h.2 y hm
theorem qHP {n:Int} {x:GCore} (ho:x.ok=true) (h:x.refs n=true) (h11:x.Kind=11):0≤x.Value∧x.Value<n:=by
  rw [GCore.refs_eq,Bool.and_eq_true,Bool.and_eq_true] at h
  have h1:=h.1.1
  have hv:=qeU ho
  unfold qJV inI at hv
  simp [h11] at h1 hv
  omega
theorem qm8 {x:GCore} (h:x.ok=true) (hk:x.Kind=2):x.Kids=[]:=by
  have h:=qDV h
  unfold qB3 inI at h
  simp only [Bool.and_eq_true,decide_eq_true_eq] at h
  obtain ⟨⟨⟨⟨h1,h2⟩,_⟩,_⟩,_⟩:=h
  simp [shp,hk] at h1 h2
  exact h2
theorem qGM {b:GBook} (hb:b.ok=true):b.Defs.length≤24∧∀d∈b.Defs,d.valid=true∧d.refs b.Defs.length=true∧d.dep≤80:=by
  refine ⟨(qTB hb).2,fun d hd=> ?_⟩
  obtain ⟨h1,h2⟩:=qFO hb hd
  have h3:=(qCG h1).2.1
  unfold GCore.closed at h1
  simp only [Bool.and_eq_true] at h1
  exact ⟨h1.1,h2,h3⟩
theorem qGU {a:GCore} {L:List Int} {l:Int} (hv:a.valid=true) (h:(let1 a L l).2=0):(let1 a L l).1.valid=true:=by
  have hk:a.Kind=6→(kid0 a).valid=true:=fun h6=>by
    obtain ⟨k,hk⟩:=qEJ ((qBE (qA4 hv).1).2 (by omega))
    have:kid0 a=k:=by unfold kid0;rw [hk];rfl
    rw [this];exact qA1 hv (by rw [hk];simp)
  unfold let1 at h⊢
  split
  · exact hv
  split
  · exact hv
  split
  · rename_i h6;exact hk h6.1
  split
  · exact hv
  split
  · rename_i h6;exact hk h6.2
  · rw [if_neg (by assumption),if_neg (by assumption),if_neg (by assumption),if_neg (by assumption),if_neg (by assumption)] at h;cases h
abbrev OutC:=GCore×Int×Int
def outE (r:OutC):AV:=.tup [r.1.enc,.int .i64 r.2.1,.int .i64 r.2.2]
@[go_sem] theorem zGX {r:OutC}:(outE r).tree=true:=by simp [outE,AV.tree,AV.trees,go_sem]
theorem qDG {h:List AObj} {y:OutC} {g:GCore} {r c:Int} (e:y=(g,r,c)):Fin (some [g.enc,.int .i64 r,.int .i64 c]) h (outE y):=by
  subst e;unfold Fin;exact (show Cv h (outE (g,r,c)) (outE (g,r,c)) from .refl zGX)
theorem qDO {h:List AObj} {y:OutC} (e:y=(qAX,0,0)):Fin (some [.agg [.int .i64 0,.int .i64 0,.nils,.nils],.int .i64 0,.int .i64 0]) h (outE y):=by
  subst e;unfold Fin
  refine .tup rfl ?_
  simp only [List.zip_cons_cons,List.zip_nil_left,List.mem_cons,List.not_mem_nil,or_false]
  rintro p (rfl | rfl | rfl)
  · exact qCB
  · exact .refl rfl
  · exact .refl rfl
def qD2 (b:GBook) (R:List Int) (lim:Int) (x:GCore) (l:Int):OutC:=match x.Kids with
  |[]=>(qAX,0,0)
  | a::ys=>
    if x.Kind=3 then (if a.Kind=2∧(ys.headD qAX).Kind=2 then (.mk 2 (opI x.Value a.Value (ys.headD qAX).Value) [] [],1,0) else (qAX,0,0))
    else if x.Kind=10∨x.Kind=9 then (if redK x=3 then (qDU (redD x) a.Kids,2,0) else (qAX,0,0))
    else if x.Kind=5 then (if a.Kind=4 then (qJG (kid0 a) (ys.headD qAX),3,qFG (kid0 a) (ys.headD qAX))
      else if inlC b R lim x l=true then (appC (b.Defs.getD a.Value.toNat qAX) (ys.headD qAX),5,0) else (qAX,0,0))
    else if x.Kind=7 then (if (letC x l).2=0 then (qJG (ys.headD qAX) (letC x l).1,4,qFG (ys.headD qAX) (letC x l).1) else (qAX,0,0))
    else (qAX,0,0)
theorem zJ9 {b:GBook} {R:List Int} {lim:Int} {x:GCore} {l:Int} (hb:b.ok=true) (hbz:b.sz≤1048576) (hx:x.valid=true) (hf:x.refs b.Defs.length=true) (hR:R.length≤24) (hl:0≤l∧l≤1000):Pure Gm 1163 [.ept (qFV b R lim) 0,.ept x.enc 0,.int .i64 l] (outE (qD2 b R lim x l)):=by
  refine Pure.intro [] [] zL6 (by kernel_rfl) rfl (by simp [AV.trees,AV.tree,go_sem]) (by simp [AV.tree,AV.trees,go_sem]) ?_
  simp only [qkJ,qAC,go_sem]
  obtain ⟨ho,hd,hs,hz,hv⟩:=qA4 hx
  refine qAA ?_ ?_<;>intro hc<;>simp only [hc,go_sem]
  · have h3:=of_decide_eq_true hc
    obtain ⟨a,c,hK⟩:=qEK ((qBE ho).1 (by omega))
    have hr:qD2 b R lim x l=if a.Kind=2∧c.Kind=2 then (.mk 2 (opI x.Value a.Value c.Value) [] [],1,0) else (qAX,0,0):=by unfold qD2;rw [hK];simp only [];rw [if_pos h3];rfl
    rw [hr]
    simp only [hK,List.map_cons,List.map_nil,Option.map_some,go_sem]
    refine qAG ?_ ?_<;>intro hc<;>simp only [hc,hK,List.map_cons,List.map_nil,Option.map_some,go_sem]
    rotate_left
    · refine qAE (k:=4) (by rfl) (by rfl) (by exact ⟨_,rfl⟩) (by decide) ?_;simp only [go_sem]
      exact qDO (if_neg (fun h=>by simp [h.1] at hc))
    have ha:=of_decide_eq_true hc
    refine qAA ?_ ?_<;>intro hc<;>simp only [hc,hK,List.map_cons,List.map_nil,Option.map_some,go_sem]
    · refine qAB c762 ?_
      simp only [go_sem]
      refine qAB c381 ?_
      simp only [go_sem]
      refine qAE (k:=4) (by rfl) (by simp [go_sem]) (GCore.isAgg _) (by decide) ?_;simp only [go_sem]
      rw [if_pos ⟨ha,of_decide_eq_true hc⟩]
      exact qDG rfl
    · refine qAE (k:=4) (by rfl) (by rfl) (by exact ⟨_,rfl⟩) (by decide) ?_;simp only [go_sem]
      exact qDO (if_neg (fun h=>of_decide_eq_false hc h.2))
  have h3:=of_decide_eq_false hc
  by_cases h10:x.Kind=10∨x.Kind=9
  · obtain ⟨a,hK⟩:=qEJ ((qBE ho).2 (by omega))
    have ham:a∈x.Kids:=by rw [hK];simp
    have haz:=GCore.kid_sz ham
    have hal:=a.len_sz
    have hr:qD2 b R lim x l=if redK x=3 then (qDU (redD x) a.Kids,2,0) else (qAX,0,0):=by unfold qD2;rw [hK];simp only [];rw [if_neg h3,if_pos h10]
    rw [hr]
    have hak:redK x=3→x.Kind=10→a.Kids=[]:=by
      intro h h'
      obtain ⟨y,hy,h9 | h9⟩:=red3 ho h
      · omega
      · rw [hK] at hy;cases hy
        exact qm8 (qBB ho ham) h9.2.1
    refine qAA ?_ ?_<;>intro hc<;>simp only [hc,go_sem]
    rotate_left
    refine qAA ?_ ?_<;>intro hc<;>simp only [hc,go_sem]
    rotate_left
    · have:=of_decide_eq_false hc;rename_i h;have:=of_decide_eq_false h;omega
    all_goals
      refine qAB (c760 ho (by omega)) ?_
      simp only [go_sem]
      refine qAA ?_ ?_<;>intro hc<;>simp only [hc,go_sem]
      · have hk3:=of_decide_eq_true hc
        simp only [hK,List.map_cons,List.map_nil,Option.map_some,go_sem]
        refine qAB (c763 ho hk3 (by omega) (by omega) (hak hk3)) ?_
        simp only [go_sem]
        refine qAE (k:=4) (by rfl) (by simp [go_sem]) (GCore.isAgg _) (by decide) ?_;simp only [go_sem]
        rw [if_pos hk3]
        exact qDG rfl
      · refine qAE (k:=4) (by rfl) (by rfl) (by exact ⟨_,rfl⟩) (by decide) ?_;simp only [go_sem]
        exact qDO (if_neg (of_decide_eq_false hc))
  refine qAA ?_ ?_<;>intro hc<;>simp only [hc,go_sem]
  · exact absurd (.inl (of_decide_eq_true hc)) h10
  refine qAA ?_ ?_<;>intro hc<;>simp only [hc,go_sem]
  · exact absurd (.inr (of_decide_eq_true hc)) h10
  refine qAA ?_ ?_<;>intro hc<;>simp only [hc,go_sem]
  · have h5:=of_decide_eq_true hc
    obtain ⟨a,c,hK⟩:=qEK ((qBE ho).1 (by omega))
    have ham:a∈x.Kids:=by rw [hK];simp
    have hcm:c∈x.Kids:=by rw [hK];simp
    have hr:qD2 b R lim x l=if a.Kind=4 then (qJG (kid0 a) c,3,qFG (kid0 a) c)
      else if inlC b R lim x l=true then (appC (b.Defs.getD a.Value.toNat qAX) c,5,0) else (qAX,0,0):=by unfold qD2;rw [hK];simp only [];rw [if_neg h3,if_neg h10,if_pos h5];rfl
    rw [hr]
    simp only [hK,List.map_cons,List.map_nil,Option.map_some,go_sem]
    refine qAA ?_ ?_<;>intro hc<;>simp only [hc,go_sem]
    · have h4:=of_decide_eq_true hc
      obtain ⟨k,hk⟩:=qEJ ((qBE (qBB ho ham)).2 (.inl h4))
      have hk0:kid0 a=k:=by unfold kid0;rw [hk];rfl
      have hkm:k∈a.Kids:=by rw [hk];simp
      have hK0:=hK
      replace hK:=And.intro hK hk
      simp only [hK,List.map_cons,List.map_nil,Option.map_some,go_sem]
      refine qAB (c761 (qA1 (qA1 hx ham) hkm) (qA1 hx hcm)) ?_
      simp only [go_sem]
      refine qAE (k:=4) (by rfl) (by simp [go_sem]) (GCore.isAgg _) (by decide) ?_;simp only [go_sem]
      refine qAE (k:=4) (by rfl) (by simp [go_sem]) (GCore.isAgg _) (by decide) ?_;simp only [go_sem]
      rw [if_pos h4,hk0]
      exact qDG rfl
    have h4:=of_decide_eq_false hc
    rw [if_neg h4]
    have hav:a.Kind=11→0≤a.Value∧a.Value<(b.Defs.length:Nat):=qHP (qBB ho ham) (qDQ hf ham)
    refine qAB (zKM hK hav hbz (fun d hd=>by have:=((qGM hb).2 d hd).2.2;omega) (by omega) (by omega)) ?_
    simp only [go_sem]
    refine qAA ?_ ?_<;>intro hc<;>simp only [hc,go_sem]
    · have hi:=hc
      have h11:a.Kind=11:=by
        unfold inlC at hi;rw [hK] at hi;simp only [Bool.and_eq_true,decide_eq_true_eq] at hi;exact hi.1
      obtain ⟨n,hV⟩:∃n:Nat,a.Value=n:=⟨a.Value.toNat,by have:=hav h11;omega⟩
      have hlt:n<b.Defs.length:=by have:=hav h11;omega
      replace hK:=And.intro hK hV
      simp only [hK,List.map_cons,List.map_nil,Option.map_some,go_sem]
      simp only [List.getElem?_map,List.getElem?_eq_getElem hlt,Option.map_some,go_sem]
      simp only [hK,List.map_cons,List.map_nil,Option.map_some,go_sem]
      refine qAB zFU ?_
      simp only [go_sem]
      refine qAE (k:=4) (by rfl) (by simp [go_sem]) (GCore.isAgg _) (by decide) ?_;simp only [go_sem]
      exact qDG (by simp [hlt])
    · refine qAE (k:=4) (by rfl) (by rfl) (by exact ⟨_,rfl⟩) (by decide) ?_;simp only [go_sem]
      exact qDO rfl
  have h5:=of_decide_eq_false hc
  refine qAA ?_ ?_<;>intro hc<;>simp only [hc,go_sem]
  · have h7:=of_decide_eq_true hc
    obtain ⟨a,c,hK⟩:=qEK ((qBE ho).1 (by omega))
    have ham:a∈x.Kids:=by rw [hK];simp
    have hcm:c∈x.Kids:=by rw [hK];simp
    have hr:qD2 b R lim x l=if (letC x l).2=0 then (qJG c (letC x l).1,4,qFG c (letC x l).1) else (qAX,0,0):=by unfold qD2;rw [hK];simp only [];rw [if_neg h3,if_neg h10,if_neg h5,if_pos h7];rfl
    rw [hr]
    have hvl:(letC x l).2=0→(letC x l).1.valid=true:=by
      have e:letC x l=let1 a (c.levels 0 l) l:=by unfold letC;rw [hK]
      rw [e]
      exact qGU (qA1 hx ham)
    refine qAB (zKN hK (fun h6=>by obtain ⟨k,hk⟩:=qEJ ((qBE (qBB ho ham)).2 (by omega));exact ⟨k,[],hk⟩) (by omega) (by omega) (by omega) (by omega)) ?_
    simp only [go_sem]
    refine qD3 (by simp [go_sem]) rfl rfl GCore.putall ?_
    simp only [go_sem]
    refine qAA ?_ ?_<;>intro hc<;>simp only [hc,go_sem]
    · have h0:=of_decide_eq_true hc
      simp only [hK,List.map_cons,List.map_nil,Option.map_some,go_sem]
      refine qFQ [0] (vs':=[.ept c.enc 0,.ept (letC x l).1.enc 0]) (Cvs.cons (.refl (by simp [AV.tree,go_sem])) (Cvs.cons (.ptr rfl (by decide) rfl (.refl (by simp [go_sem]))) Cvs.nil)) (c761 (qA1 hx hcm) (hvl h0)) ?_
      simp only [go_sem]
      refine qAE (k:=4) (by rfl) (by simp [go_sem]) (GCore.isAgg _) (by decide) ?_;simp only [go_sem]
      refine qAE (k:=4) (by rfl) (by simp [go_sem]) (GCore.isAgg _) (by decide) ?_;simp only [go_sem]
      rw [if_pos h0]
      exact qDG rfl
    · refine qAE (k:=4) (by rfl) (by rfl) (by exact ⟨_,rfl⟩) (by decide) ?_;simp only [go_sem]
      exact qDO (if_neg (of_decide_eq_false hc))
  have h7:=of_decide_eq_false hc
  refine qAE (k:=4) (by rfl) (by rfl) (by exact ⟨_,rfl⟩) (by decide) ?_;simp only [go_sem]
  exact qDO (by unfold qD2;split;rfl;rw [if_neg h3,if_neg h10,if_neg h5,if_neg h7])
end Go.Ab
namespace Go.Ab
open Go
set_option maxRecDepth 10000
set_option maxHeartbeats 2000000
attribute [local simp] qBF qAT
def qEQ (x:GCore):List (Int→OutC)→Nat→Int→OutC
  |[],_,_=>(qAX,0,0)
  | r::rs,i,l=>if (r l).2.1=0 then qEQ x rs (i+1) l else (.mk x.Kind x.Value x.Data (x.Kids.set i (r l).1),(r l).2)
def qEI (b:GBook) (R:List Int) (lim:Int):GCore→Int→OutC:=GCore.fold fun x rs l=>
  if (qD2 b R lim x l).2.1=0 then qEQ x rs 0 (l+boxI x.Kind) else qD2 b R lim x l
theorem qJF (b:GBook) (R:List Int) (lim:Int) (x:GCore) (l:Int):qEI b R lim x l=
    if (qD2 b R lim x l).2.1=0 then qEQ x (x.Kids.map (qEI b R lim)) 0 (l+boxI x.Kind) else qD2 b R lim x l:=by
  unfold qEI;rw [GCore.fold_eq]
theorem qFE {x:GCore} {f:GCore→Int→OutC} {i:Nat} {l:Int} (h:i<x.Kids.length):
    qEQ x ((x.Kids.drop i).map f) i l=if (f x.Kids[i] l).2.1=0 then qEQ x ((x.Kids.drop (i+1)).map f) (i+1) l else (.mk x.Kind x.Value x.Data (x.Kids.set i (f x.Kids[i] l).1),(f x.Kids[i] l).2):=by
  rw [List.drop_eq_getElem_cons h,List.map_cons,qEQ]
theorem qeB {h:List AObj} {v:AV} {y:OutC} {g:GCore} {r c:Int} (hc:Cv h v g.enc) (e:y=(g,r,c)):Fin (some [v,.int .i64 r,.int .i64 c]) h (outE y):=by
  subst e;unfold Fin
  refine .tup rfl ?_
  simp only [List.zip_cons_cons,List.zip_nil_left,List.mem_cons,List.not_mem_nil,or_false]
  rintro p (rfl | rfl | rfl)
  · exact hc
  · exact .refl rfl
  · exact .refl rfl
theorem c836 (x:GCore):∀(b:GBook) (R:List Int) (lim:Int) (l:Int) (hb:b.ok=true) (hbz:b.sz≤1048576) (hx:x.valid=true) (hf:x.refs b.Defs.length=true) (hR:R.length≤24) (hl:0≤l∧l+x.dep≤1000),Pure Gm 836 [.ept (qFV b R lim) 0,.ept x.enc 0,.int .i64 l] (outE (qEI b R lim x l)):=by
  induction x using GCore.ind with
  | _ x ih=>
  intro b R lim l hb hbz hx hf hR hl
  refine Pure.intro [] [] g836 (by kernel_rfl) rfl (by simp [AV.trees,AV.tree,go_sem]) (by simp [AV.tree,AV.trees,go_sem]) ?_
  simp only [F836,qAC,go_sem]
  obtain ⟨ho,hd,hs,hz,hv⟩:=qA4 hx
  have hL:=x.len_sz
  have hres:=qJF b R lim x l
  refine qAB (zJ9 hb hbz hx hf hR (by omega)) ?_
  simp only [outE,go_sem]
  refine qAE (k:=4) (by rfl) (by simp [go_sem]) (GCore.isAgg _) (by decide) ?_;simp only [go_sem]
  refine qAA ?_ ?_<;>intro hc<;>simp only [hc,go_sem]
  · refine qAE (k:=4) (by rfl) (by simp [go_sem]) (GCore.isAgg _) (by decide) ?_;simp only [go_sem]
    rw [hres,if_neg (by simpa using hc)]
    exact qDG rfl
  rw [if_pos (by simpa using hc)] at hres
  refine qAA ?_ ?_<;>intro hc<;>simp only [hc,go_sem]
  · rw [qAJ (n:=l+1) (by omega) (by omega)]
    have hbx:boxI x.Kind=1:=by unfold boxI;rw [if_pos (of_decide_eq_true hc)]
    obtain ⟨m,hm⟩:∃m,m=l+1:=⟨_,rfl⟩
    rw [hbx,←hm] at hres
    rw [←hm]
    refine Sem.loop (fun i:Nat=>i≤x.Kids.length∧qEI b R lim x l=qEQ x ((x.Kids.drop i).map (qEI b R lim)) i m) (fun i=>(⟨[(0,.ept (qFV b R lim) 0),(1,.ept x.enc 0),(2,.int .i64 m),(12,.int .i64 (i:Nat))],[(6,.agg [.int .i64 0,.int .i64 0,.nils,.nils])],[]⟩:VSt)) (fun i=>x.Kids.length-i) 0 (by kernel_rfl) ⟨Nat.zero_le _,hres⟩ (Can.sub (by simp [go_sem]) (by simp [go_sem])) ?_
    rintro i ⟨hi,hI⟩
    simp only [go_sem]
    refine qAA ?_ ?_<;>intro hc<;>simp only [hc,go_sem]
    · have hlt:i<x.Kids.length:=by have:=of_decide_eq_true hc;omega
      simp only [List.getElem?_map,List.getElem?_eq_getElem hlt,Option.map_some,go_sem]
      have hkm:=List.getElem_mem hlt
      have hkd:=GCore.dep_kid hkm
      rw [qFE hlt] at hI
      refine qAB (ih _ hkm b R lim m hb hbz (qA1 hx hkm) (qDQ hf hkm) hR (by omega)) ?_
      simp only [outE,go_sem]
      refine qAE (k:=4) (by rfl) (by simp [go_sem]) (GCore.isAgg _) (by decide) ?_;simp only [go_sem]
      refine qAA ?_ ?_<;>intro hc<;>simp only [hc,go_sem]
      · rw [if_pos (of_decide_eq_true hc)] at hI
        simp only [qAK (show i<4611686018427387904 by omega)];refine qAH (i+1) ⟨by omega, ?_⟩ (by omega) (Can.sub (by simp [go_sem]) (by simp [go_sem]))
        exact hI
      rw [if_neg (of_decide_eq_false hc)] at hI
      refine qd2 (ys:=x.Kids.map GCore.enc) Els.lst (by simp;omega) ?_
      simp only [go_sem]
      refine qAE (k:=4) (by rfl) (by rfl) (by exact ⟨_,rfl⟩) (by decide) ?_;simp only [go_sem]
      rw [qHB hlt]
      simp only [go_sem]
      refine qD3 (by simp [go_sem]) rfl (by simp [hlt];rfl) GCore.putcore ?_
      simp only [go_sem]
      refine qAE (k:=4) (by rfl) (by rfl) (by exact ⟨_,rfl⟩) (by decide) ?_;simp only [go_sem]
      refine qeB (qGP (by simp [List.map_set]) (by simp)) hI
    · obtain rfl:i=x.Kids.length:=by have:=of_decide_eq_false hc;omega
      refine qAE (k:=4) (by rfl) (by rfl) (by exact ⟨_,rfl⟩) (by decide) ?_;simp only [go_sem]
      exact qDO (by rw [hI,List.drop_length];rfl)
  · have hbx:boxI x.Kind=0:=by unfold boxI;rw [if_neg (of_decide_eq_false hc)]
    rw [hbx,Int.add_zero] at hres
    obtain ⟨m,hm⟩:∃m,m=l:=⟨_,rfl⟩
    rw [←hm] at hres⊢
    refine Sem.loop (fun i:Nat=>i≤x.Kids.length∧qEI b R lim x m=qEQ x ((x.Kids.drop i).map (qEI b R lim)) i m) (fun i=>(⟨[(0,.ept (qFV b R lim) 0),(1,.ept x.enc 0),(2,.int .i64 m),(12,.int .i64 (i:Nat))],[(6,.agg [.int .i64 0,.int .i64 0,.nils,.nils])],[]⟩:VSt)) (fun i=>x.Kids.length-i) 0 (by kernel_rfl) ⟨Nat.zero_le _,hres⟩ (Can.sub (by simp [go_sem]) (by simp [go_sem])) ?_
    rintro i ⟨hi,hI⟩
    simp only [go_sem]
    refine qAA ?_ ?_<;>intro hc<;>simp only [hc,go_sem]
    · have hlt:i<x.Kids.length:=by have:=of_decide_eq_true hc;omega
      simp only [List.getElem?_map,List.getElem?_eq_getElem hlt,Option.map_some,go_sem]
      have hkm:=List.getElem_mem hlt
      have hkd:=GCore.dep_kid hkm
      rw [qFE hlt] at hI
      refine qAB (ih _ hkm b R lim m hb hbz (qA1 hx hkm) (qDQ hf hkm) hR (by omega)) ?_
      simp only [outE,go_sem]
      refine qAE (k:=4) (by rfl) (by simp [go_sem]) (GCore.isAgg _) (by decide) ?_;simp only [go_sem]
      refine qAA ?_ ?_<;>intro hc<;>simp only [hc,go_sem]
      · rw [if_pos (of_decide_eq_true hc)] at hI
        simp only [qAK (show i<4611686018427387904 by omega)];refine qAH (i+1) ⟨by omega, ?_⟩ (by omega) (Can.sub (by simp [go_sem]) (by simp [go_sem]))
        exact hI
      rw [if_neg (of_decide_eq_false hc)] at hI
      refine qd2 (ys:=x.Kids.map GCore.enc) Els.lst (by simp;omega) ?_
      simp only [go_sem]
      refine qAE (k:=4) (by rfl) (by rfl) (by exact ⟨_,rfl⟩) (by decide) ?_;simp only [go_sem]
      rw [qHB hlt]
      simp only [go_sem]
      refine qD3 (by simp [go_sem]) rfl (by simp [hlt];rfl) GCore.putcore ?_
      simp only [go_sem]
      refine qAE (k:=4) (by rfl) (by rfl) (by exact ⟨_,rfl⟩) (by decide) ?_;simp only [go_sem]
      refine qeB (qGP (by simp [List.map_set]) (by simp)) hI
    · obtain rfl:i=x.Kids.length:=by have:=of_decide_eq_false hc;omega
      refine qAE (k:=4) (by rfl) (by rfl) (by exact ⟨_,rfl⟩) (by decide) ?_;simp only [go_sem]
      exact qDO (by rw [hI,List.drop_length];rfl)
end Go.Ab
namespace Go.Ab
open Go
set_option maxRecDepth 10000
set_option maxHeartbeats 2000000
attribute [local simp] qBF qAT
def Asc (n:Int) (xs:List Int):Prop:=xs.Pairwise (· < ·)∧∀k∈xs,0≤k∧k<n
theorem qi0:∀{xs:List Int} {n k:Int},k∈putI xs n→k=n∨k∈xs
  |[],n,k,h=>by simp [putI] at h;exact .inl h
  | x::xs,n,k,h=>by
    unfold putI at h
    split at h
    · rcases List.mem_cons.1 h with rfl | h
      · simp
      · rcases qi0 h with h | h
        · exact .inl h
        · simp [h]
    · split at h
      · exact .inr h
      · rcases List.mem_cons.1 h with rfl | h
        · exact .inl rfl
        · exact .inr h
theorem qeW:∀{xs:List Int} {n:Int},xs.Pairwise (· < ·)→(putI xs n).Pairwise (· < ·)
  |[],n,_=>by simp [putI]
  | x::xs,n,h=>by
    rw [List.pairwise_cons] at h
    unfold putI
    split
    · rw [List.pairwise_cons]
      refine ⟨fun k hk=> ?_,qeW h.2⟩
      rcases qi0 hk with rfl | hk
      · assumption
      · exact h.1 k hk
    · split
      · rw [List.pairwise_cons];exact h
      · rw [List.pairwise_cons,List.pairwise_cons]
        refine ⟨fun k hk=> ?_,h⟩
        rcases List.mem_cons.1 hk with rfl | hk
        · omega
        · have:=h.1 k hk;omega
theorem Asc.put {n:Int} {xs:List Int} (h:Asc n xs) {k:Int} (hk:0≤k∧k<n):Asc n (putI xs k):=
  ⟨qeW h.1,fun j hj=>by rcases qi0 hj with rfl | hj;exact hk;exact h.2 j hj⟩
theorem Asc.puts {n:Int}:∀(ds:List Int) {xs:List Int},Asc n xs→(∀k∈ds,0≤k∧k<n)→Asc n (ds.foldl putI xs)
  |[],_,h,_=>h
  | d::ds,xs,h,hd=>Asc.puts ds (xs:=putI xs d) (h.put (hd d (by simp))) (fun k hk=>hd k (by simp [hk]))
theorem qUV {α β:Type} {f:β→α→β} {P:β→Prop}:∀{xs:List α} {c:β},P c→(∀x∈xs,∀c,P c→P (f c x))→P (xs.foldl f c)
  |[],_,h,_=>h
  | x::xs,_,h,hf=>qUV (xs:=xs) (hf x (by simp) _ h) (fun y hy c hc=>hf y (by simp [hy]) c hc)
theorem qiR (n:Int):∀x:GCore,x.ok=true→x.refs n=true→∀out,Asc n out→Asc n (x.names out):=GCore.ind fun x ih ho hr out h=>by
  rw [GCore.names_eq]
  refine qUV (Asc.puts _ ?_ ?_) (fun y hy c hc=>ih y hy (qBB ho hy) (qDQ hr hy) c hc)
  · split
    · exact h.put (qHP ho hr (by assumption))
    · exact h
  · intro k hk
    rw [GCore.refs_eq,Bool.and_eq_true,Bool.and_eq_true,List.all_eq_true] at hr
    have h1:=of_decide_eq_true (hr.1.2 k hk)
    have hn:=qDV ho
    unfold qB3 at hn
    simp only [Bool.and_eq_true,List.all_eq_true] at hn
    have h2:=hn.2 k hk
    unfold qGQ inI at h2
    simp at h2
    omega
theorem qfF {b:GBook} (hb:b.ok=true):∀ys∈qBJ b,Asc b.Defs.length ys:=by
  intro ys hy
  unfold qBJ at hy
  obtain ⟨c,hc,rfl⟩:=List.mem_map.1 hy
  obtain ⟨h1,h2⟩:=qFO hb hc
  exact qiR _ c (qCG h1).1 h2 [] ⟨List.Pairwise.nil,by simp⟩
theorem qd0 {b:GBook} (hb:b.ok=true):qT9 (qBJ b):=fun ys hy k hk=>by
  have:=(qfF hb ys hy).2 k hk
  rw [qBJ,List.length_map];exact this
theorem qgS {b:GBook} (hb:b.ok=true):∀ys∈qBJ b,ys.Nodup:=fun ys hy=>by
  refine (qfF hb ys hy).1.imp ?_
  intro a b h;omega
theorem qT6 {α:Type} {f:α→Nat} {y:α}:∀{xs:List α} {i:Nat} (h:i<xs.length),sumN f (xs.set i y)+f xs[i]=sumN f xs+f y
  | x::xs,0,_=>by simp [sumN];omega
  | x::xs,i+1,h=>by
    have:=qT6 (f:=f) (y:=y) (xs:=xs) (i:=i) (by simpa using h)
    simp only [List.set_cons_succ,sumN,List.getElem_cons_succ];omega
theorem qc5 (f a:GCore):(appC f a).sz=2+f.sz+a.sz:=by rw [GCore.sz_eq];simp [appC,sumN,go_sem];omega
theorem qdH:∀(as:List GCore) (f:GCore),(as.foldl appC f).sz≤f.sz+2*as.length+sumN GCore.sz as
  |[],f=>by simp [sumN]
  | a::as,f=>by
    have:=qdH as (appC f a)
    rw [qc5] at this
    simp only [List.foldl_cons,sumN,List.length_cons];omega
theorem qiE {x y:GCore} (hx:x.ok=true) (hy:y.ok=true):(qJG x y).sz≤4100:=by
  unfold qJG
  split
  · rename_i h
    have hs:=qJO y x 0 hx
    have h4:=GCore.sz_d4 _ (qi2 (qdR y hy) x 0 (qdR x hx))
    unfold qFG at h
    split at h
    · cases h
    · omega
  · have:qAX.sz=0:=by rw [GCore.sz_eq];rfl
    omega
theorem qT8:qAX.sz=0:=by rw [GCore.sz_eq];rfl
theorem qpN {b:GBook} {R:List Int} {lim:Int} {x:GCore} {l:Int} (hb:b.ok=true) (hx:x.valid=true):(qD2 b R lim x l).1.sz≤4100:=by
  obtain ⟨ho,hd,hs,hz,hv⟩:=qA4 hx
  have hz0:=qT8
  unfold qD2
  split
  · show qAX.sz≤_;omega
  rename_i a ys hK
  have ham:a∈x.Kids:=by rw [hK];simp
  have haz:=GCore.kid_sz ham
  have hys:(ys.headD qAX).sz≤x.sz:=by
    match ys,hK with
    |[],_=>show qAX.sz≤_;omega
    | c::_,hK=>exact GCore.kid_sz (by rw [hK];simp)
  split
  · split
    · show GCore.sz (.mk 2 _ [] [])≤_;rw [GCore.sz_eq];simp [sumN,go_sem]
    · show qAX.sz≤_;omega
  split
  · split
    · have:=qdH a.Kids (.mk 11 (redD x) [] [])
      have h1:=a.sz_eq
      have h2:(GCore.mk 11 (redD x) [] []).sz=0:=by rw [GCore.sz_eq];simp [sumN,go_sem]
      show (qDU _ _).sz≤_
      unfold qDU
      omega
    · show qAX.sz≤_;omega
  split
  · split
    · rename_i h4
      obtain ⟨k,hk⟩:=qEJ ((qBE (qBB ho ham)).2 (.inl h4))
      have hk0:kid0 a=k:=by unfold kid0;rw [hk];rfl
      have hkm:k∈a.Kids:=by rw [hk];simp
      rw [hk0]
      refine qiE (qBB (qBB ho ham) hkm) ?_
      rename_i h5 _
      obtain ⟨a',c,hK'⟩:=qEK ((qBE ho).1 (by omega))
      rw [hK'] at hK;cases hK
      exact qBB ho (by rw [hK'];simp)
    split
    · show (appC _ _).sz≤_
      rw [qc5]
      have:(b.Defs.getD a.Value.toNat qAX).sz≤2000:=by
        rw [List.getD_eq_getElem?_getD]
        rcases h:b.Defs[a.Value.toNat]? with _ | d
        · show qAX.sz≤_;omega
        · exact (qA4 ((qGM hb).2 d (List.mem_of_getElem? h)).1).2.2.2.1
      omega
    · show qAX.sz≤_;omega
  split
  · rename_i h7
    split
    · rename_i h0
      obtain ⟨a',c,hK'⟩:=qEK ((qBE ho).1 (by omega))
      have e:letC x l=let1 a' (c.levels 0 l) l:=by unfold letC;rw [hK']
      rw [hK'] at hK;cases hK
      have hv:=qGU (qA1 hx ham) (by rw [←e];exact h0)
      rw [←e] at hv
      exact qiE (qBB ho (by rw [hK'];simp)) (qA4 hv).1
    · show qAX.sz≤_;omega
  · show qAX.sz≤_;omega
theorem qUS {x:GCore} {f:GCore→Int→OutC} {l:Int} (hf:∀y∈x.Kids,(f y l).1.sz≤y.sz+4100):∀(n i:Nat),i+n=x.Kids.length→(qEQ x ((x.Kids.drop i).map f) i l).1.sz≤x.sz+4100
  | 0,i,h=>by
    rw [show x.Kids.drop i=[] from List.drop_eq_nil_of_le (by omega)]
    show qAX.sz≤_
    rw [qT8];omega
  | n+1,i,h=>by
    have hlt:i<x.Kids.length:=by omega
    rw [qFE hlt]
    split
    · exact qUS hf n (i+1) (by omega)
    · show GCore.sz (.mk _ _ _ _)≤_
      have h1:=qT6 (f:=GCore.sz) (y:=(f x.Kids[i] l).1) hlt
      have h2:=hf _ (List.getElem_mem hlt)
      have h3:=x.sz_eq
      have h4:=qA9 (f:=GCore.sz) (List.getElem_mem hlt)
      rw [GCore.sz_eq,GCore.mk_data,GCore.mk_kids,List.length_set]
      omega
theorem ql3 {b:GBook} {R:List Int} {lim:Int} (hb:b.ok=true):∀(x:GCore) (l:Int),x.valid=true→(qEI b R lim x l).1.sz≤x.sz+4100:=GCore.ind fun x ih l hx=>by
  rw [qJF]
  split
  · exact qUS (fun y hy=>ih y hy _ (qA1 hx hy)) x.Kids.length 0 (by omega)
  · have:=qpN (R:=R) (lim:=lim) (l:=l) hb hx;omega
def qmV (b:GBook) (R:List Int) (lim:Int) (x:GCore):OutC:=
  let o:=qEI b R lim x 0
  (o.1,o.2.1,if ¬o.2.1=0∧o.2.2=0∧o.1.fits=false then 4 else o.2.2)
theorem c481 {b:GBook} {R:List Int} {lim:Int} {x:GCore} (hb:b.ok=true) (hbz:b.sz≤1048576) (hx:x.valid=true) (hf:x.refs b.Defs.length=true) (hR:R.length≤24):Pure Gm 481 [.ept (qFV b R lim) 0,.ept x.enc 0] (outE (qmV b R lim x)):=by
  refine Pure.intro [] [] g481 (by kernel_rfl) rfl (by simp [AV.trees,AV.tree,go_sem]) (by simp [AV.tree,AV.trees,go_sem]) ?_
  simp only [F481,qAC,go_sem]
  obtain ⟨ho,hd,hs,hz,hv⟩:=qA4 hx
  have hosz:=ql3 (R:=R) (lim:=lim) hb x 0 hx
  refine qAB (c836 x b R lim 0 hb hbz hx hf hR (by omega)) ?_
  unfold qmV
  obtain ⟨o,hoo⟩:∃o,o=qEI b R lim x 0:=⟨_,rfl⟩
  rw [←hoo] at hosz⊢
  have hod:=o.1.dep_size
  have hos:=o.1.size_sz
  simp only [outE,go_sem]
  refine qD3 (by simp [go_sem]) rfl rfl GCore.putall ?_
  simp only [go_sem]
  have cvp:Cv [AObj.row 4 [o.1.enc] true] (.ptr 0 0 0) (.ept o.1.enc 0):=.ptr rfl (by decide) rfl (.refl (by simp [go_sem]))
  refine qAG ?_ ?_<;>intro hc<;>simp only [hc,go_sem]
  rotate_left
  · simp only [go_sem,List.nil_append,List.cons_append,List.set_cons_zero,List.set_cons_succ]
    refine qAE (k:=4) (by rfl) (by simp [go_sem]) (GCore.isAgg _) (by decide) ?_;simp only [go_sem]
    rw [if_neg (fun h=>h.1 (by simpa using hc))];exact qDG (y:=(_,_,_)) rfl
  have h1:¬o.2.1=0:=by simpa using hc
  refine qAG ?_ ?_<;>intro hc<;>simp only [hc,go_sem]
  rotate_left
  · simp only [go_sem,List.nil_append,List.cons_append,List.set_cons_zero,List.set_cons_succ]
    refine qAE (k:=4) (by rfl) (by simp [go_sem]) (GCore.isAgg _) (by decide) ?_;simp only [go_sem]
    rw [if_neg (fun h=>by simp [h.2.1] at hc)];exact qDG (y:=(_,_,_)) rfl
  have h2:=of_decide_eq_true hc
  refine qBS (vs':=[.ept o.1.enc 0]) (Cvs.cons cvp Cvs.nil) (c765 (by omega) (by omega)) rfl ?_
  simp only [go_sem]
  refine qAA ?_ ?_<;>intro hc<;>simp only [hc,go_sem]
  · simp only [go_sem,List.nil_append,List.cons_append,List.set_cons_zero,List.set_cons_succ]
    refine qAE (k:=4) (by rfl) (by simp [go_sem]) (GCore.isAgg _) (by decide) ?_;simp only [go_sem]
    rw [if_pos ⟨h1,h2,by simpa using hc⟩];exact qDG (y:=(_,_,_)) rfl
  · simp only [go_sem,List.nil_append,List.cons_append,List.set_cons_zero,List.set_cons_succ]
    refine qAE (k:=4) (by rfl) (by simp [go_sem]) (GCore.isAgg _) (by decide) ?_;simp only [go_sem]
    rw [if_neg (fun h=>by simp [h.2.2] at hc)];exact qDG (y:=(_,_,_)) rfl
theorem c480 {b:GBook} {lim:Int} (hb:b.ok=true) (hbz:b.sz≤1048576):Pure Gm 480 [.ept b.enc 0,.int .i64 lim] (.ept (qFV b (recs (qBJ b) b.Defs.length) lim) 0):=by
  refine Pure.intro [] [] g480 (by kernel_rfl) rfl (by simp [AV.trees,AV.tree,go_sem]) (by simp [AV.tree,AV.trees,go_sem]) ?_
  simp only [F480,qAC,go_sem]
  refine qAB (c835 hbz (qGM hb).1 (qd0 hb) (qgS hb)) ?_
  simp only [go_sem]
  refine qCF rfl ?_
  simp only [go_sem]
  exact qA7 (.ptr rfl (by decide) rfl (.refl qo4))
theorem qjK {b:GBook} {c:GCore} {limit budget:Int} (h:qA5 b c limit budget=0):b.ok=true∧c.valid=true∧c.refs b.Defs.length=true∧c.closed=true∧0≤limit∧limit≤40∧0≤budget∧budget≤2000:=by
  unfold qA5 at h
  split at h
  · rename_i h1
    simp only [Bool.and_eq_true] at h1
    have h2:c.valid=true:=by
      have:=h1.1.2
      unfold GCore.closed at this
      simp only [Bool.and_eq_true] at this
      exact this.1
    split at h
    · split at h
      · split at h
        · rename_i h3
          unfold inI at h3
          simp only [Bool.and_eq_true,decide_eq_true_eq] at h3
          exact ⟨h1.1.1,h2,h1.2,h1.1.2,h3.1.1,h3.1.2,h3.2.1,h3.2.2⟩
        · cases h
      · rename_i h4;exact absurd h h4
    · cases h
  · cases h
noncomputable def qgH (b:GBook):List Int:=recs (qBJ b) b.Defs.length
noncomputable def qF1 (b:GBook) (c:GCore) (lim:Int):Bool:=decide (qA5 b c lim 0=0)&&decide ((qmV b (qgH b) lim c).2.1=0)
theorem c161 {b:GBook} {c:GCore} {lim:Int} (hbz:b.sz≤1048576) (hcz:c.sz≤1048576):Pure Gm 161 [b.enc,c.enc,.int .i64 lim] (.bool (qF1 b c lim)):=by
  refine Pure.intro [] [] g161 (by kernel_rfl) rfl (by simp [AV.trees,AV.tree,go_sem]) rfl ?_
  simp only [F161,qAC,go_sem]
  refine qCF rfl ?_
  simp only [go_sem]
  refine qCF GCore.ln ?_
  simp only [go_sem]
  refine qBS (vs':=[.ept b.enc 0,.ept c.enc 0,.int .i64 lim,.int .i64 0]) (Cvs.cons (.ptr rfl (by decide) rfl (.refl (by simp [go_sem]))) (Cvs.cons (.ptr rfl (by decide) rfl (.refl (by simp [go_sem]))) (Cvs.cons (.refl rfl) (Cvs.cons (.refl rfl) Cvs.nil)))) (c479 hbz hcz) rfl ?_
  simp only [go_sem]
  refine qAA ?_ ?_<;>intro hc<;>simp only [hc,go_sem]
  · exact qAF rfl (by unfold qF1;rw [decide_eq_false (by simpa using hc)];rfl)
  have h0:qA5 b c lim 0=0:=by simpa using hc
  obtain ⟨hb,hv,hf,_⟩:=qjK h0
  refine qFQ [0] (vs':=[.ept b.enc 0,.int .i64 lim]) (Cvs.cons (.ptr rfl (by decide) rfl (.refl (by simp [go_sem]))) (Cvs.cons (.refl rfl) Cvs.nil)) (c480 hb hbz) ?_
  simp only [go_sem]
  refine qFQ [1] (vs':=[.ept (qFV b (recs (qBJ b) b.Defs.length) lim) 0,.ept c.enc 0]) (Cvs.cons (.refl (by simp [AV.tree,go_sem])) (Cvs.cons (.ptr rfl (by decide) rfl (.refl (by simp [go_sem]))) Cvs.nil)) (c481 hb hbz hv hf (by have:=qe2 (qBJ b) b.Defs.length;have:=(qGM hb).1;omega)) ?_
  simp only [outE,go_sem]
  refine qAE (k:=4) (by rfl) (by simp [go_sem]) (GCore.isAgg _) (by decide) ?_;simp only [go_sem]
  exact qAF rfl (by unfold qF1;rw [decide_eq_true h0];rfl)
end Go.Ab
namespace Go.Ab
open Go
set_option maxRecDepth 10000
set_option maxHeartbeats 2000000
attribute [local simp] qBF qAT
def fzp (n id:Nat) (o:Option AObj) (st:VSt):VSt:=match o with
  | some (.row w [v] true)=>if w=0 then st else {s:=(n,.ept v 0)::st.s,l:=st.l,h:=st.h.set id .dead}
  | _=>st
def fzo (n:Nat) (v:Option AV) (st:VSt):VSt:=match v with
  | none=>st
  | some (.ept _ _)=>st
  | some (.lst _ _ _)=>st
  | some (.int _ _)=>st
  | some (.bool _)=>st
  | some .nils=>st
  | some (.agg _)=>st
  | some (.ptr id 0 0)=>fzp n id st.h[id]? st
  | _=>frz1 n st
section
variable {n id:Nat} {s m:LEnv} {h:List AObj} {v x:AV} {st:VSt}
@[go_sem] theorem zS4:frz1 n ⟨s,m,h⟩=fzo n (get s n) ⟨s,m,h⟩:=by
  unfold fzo
  split<;>rename_i e<;>try (simp only [frz1,e];done)
  · simp only [frz1,e,fzp]
    split<;>rename_i e2<;>simp only [e2]
    · split<;>split<;>first | rfl | omega
@[go_sem] theorem zM8:get [] n=none:=nr rfl
@[go_sem] theorem zIT:fzo n none st=st:=nr rfl
@[go_sem] theorem zLB {j:Nat}:fzo n (some (.ept v j)) st=st:=nr rfl
@[go_sem] theorem zLD {w:Nat} {xs:List AV} {c:Bool}:fzo n (some (.lst w xs c)) st=st:=nr rfl
@[go_sem] theorem zIS:fzo n (some .nils) st=st:=nr rfl
@[go_sem] theorem zLC {k:IntKind} {i:Int}:fzo n (some (.int k i)) st=st:=nr rfl
@[go_sem] theorem zLE:fzo n (some (.ptr id 0 0)) ⟨s,m,h⟩=fzp n id h[id]? ⟨s,m,h⟩:=nr rfl
@[go_sem] theorem zLF {w:Nat}:fzp n id (some (.row w [v] true)) ⟨s,m,h⟩=if w=0 then ⟨s,m,h⟩ else ⟨(n,.ept v 0)::s,m,h.set id .dead⟩:=nr rfl
end
theorem qI2 {α:Type} (p:α→Bool) (xs:List α):(!xs.any fun x=> !p x)=xs.all p:=by
  induction xs with
  | nil=>rfl
  | cons x xs ih=>simp only [List.any_cons,List.all_cons,Bool.not_or,Bool.not_not,ih]
theorem c397 {f:AV} (p:Int→Bool) (hft:f.tree=true) (xs:List Int) (hf:∀x∈xs,qlL Gm f [encI x] (.bool (p x))) (hl:xs.length≤1048576):Pure Gm 397 [.lst 1 (xs.map encI) false,f] (.bool (xs.any p)):=
  qhY shI (gc:=774) g397 g774 f p hft xs hf hl
theorem c581 {f:AV} (p:GCore→Bool) (hft:f.tree=true) (xs:List GCore) (hf:∀x∈xs,qlL Gm f [x.enc] (.bool (p x))) (hl:xs.length≤1048576):Pure Gm 581 [.lst 4 (xs.map GCore.enc) false,f] (.bool (xs.any p)):=
  qhY GCore.isSh (gc:=958) g581 g958 f p hft xs hf hl
theorem n401 (xs:List Int) (hz:xs.length≤4194304):qGN Gm 401 [.lst 1 (xs.map encI) false] (.lst 1 (xs.map encI) false):=
  qc9 (w:=1) g401 (lI xs) (qTX (fun _=>rfl) xs) (qA0 shI.tree xs) (by simpa using hz)
theorem c801 {n m:Int}:Pure Gm 801 [.int .i64 n,.ept (.int .i64 m) 0] (.bool (!inI n 0 m)):=by
  refine Pure.intro [] [] g801 (by kernel_rfl) rfl (by simp [AV.trees,AV.tree,go_sem]) rfl ?_
  simp only [F801,qAC,go_sem]
  repeat' (first | (refine qAN rfl ?_;simp only [go_sem]) | (first | (refine qAG ?_ ?_<;>intro hc<;>simp only [hc,go_sem]) | (refine qAA ?_ ?_<;>intro hc<;>simp only [hc,go_sem])) | refine qAF rfl ?_ | refine qB1 (by rfl) ?_)
  all_goals ((simp only [inI,AV.bool.injEq];rw [Bool.eq_iff_iff];simp at*;try omega))
theorem c436 {m:Int} {xs:List Int} (hl:xs.length≤1048576):Pure Gm 436 [.int .i64 m,.lst 1 (xs.map encI) false] (.bool (xs.all fun n=>inI n 0 m)):=by
  refine Pure.intro [2] [] g436 (by kernel_rfl) rfl (by simp [AV.trees,AV.tree,qA0 shI.tree]) rfl ?_
  simp only [F436,qAC,go_sem]
  refine qCF rfl ?_
  simp only [go_sem,List.nil_append,List.set_cons_zero]
  refine qAB (c397 (f:=.fn 801 [.ept (.int .i64 m) 0]) (fun n=> !inI n 0 m) rfl xs (fun x _=>⟨801,_,rfl,c801⟩) hl) ?_
  simp only [go_sem]
  refine qAF rfl ?_
  rw [qI2]
theorem c796 {n:Int}:Pure Gm 796 [.int .i64 n] (.bool (qGQ n)):=by
  refine Pure.intro [] [] g796 (by kernel_rfl) rfl (by simp [AV.trees,AV.tree,go_sem]) rfl ?_
  simp only [F796,qAC,go_sem]
  repeat' (first | (refine qAN rfl ?_;simp only [go_sem]) | (first | (refine qAG ?_ ?_<;>intro hc<;>simp only [hc,go_sem]) | (refine qAA ?_ ?_<;>intro hc<;>simp only [hc,go_sem])) | refine qAF rfl ?_ | refine qB1 (by rfl) ?_)
  all_goals ((simp only [qGQ,inI,AV.bool.injEq];rw [Bool.eq_iff_iff];simp at*;try omega))
theorem zJZ {n:Int}:Pure Gm 1050 [.int .i64 n] (.bool (inI n 1 6)):=by
  refine Pure.intro [] [] zLN (by kernel_rfl) rfl (by simp [AV.trees,AV.tree,go_sem]) rfl ?_
  simp only [qj0,qAC,go_sem]
  repeat' (first | (refine qAN rfl ?_;simp only [go_sem]) | (first | (refine qAG ?_ ?_<;>intro hc<;>simp only [hc,go_sem]) | (refine qAA ?_ ?_<;>intro hc<;>simp only [hc,go_sem])) | refine qAF rfl ?_ | refine qB1 (by rfl) ?_)
  all_goals ((simp only [inI,AV.bool.injEq];rw [Bool.eq_iff_iff];simp at*;try omega))
theorem zJ0 {n:Int}:Pure Gm 1051 [.int .i64 n] (.bool (inI n (-2147483648) 2147483647)):=by
  refine Pure.intro [] [] zLO (by kernel_rfl) rfl (by simp [AV.trees,AV.tree,go_sem]) rfl ?_
  simp only [qj1,qAC,go_sem]
  repeat' (first | (refine qAN rfl ?_;simp only [go_sem]) | (first | (refine qAG ?_ ?_<;>intro hc<;>simp only [hc,go_sem]) | (refine qAA ?_ ?_<;>intro hc<;>simp only [hc,go_sem])) | refine qAF rfl ?_ | refine qB1 (by rfl) ?_)
  all_goals ((simp only [inI,AV.bool.injEq];rw [Bool.eq_iff_iff];simp at*;try omega))
theorem zKK {n:Int}:Pure Gm 1402 [.int .i64 n] (.bool (!qGQ n)):=by
  refine Pure.intro [] [] zMV (by kernel_rfl) rfl (by simp [AV.trees,AV.tree,go_sem]) rfl ?_
  simp only [qk8,qAC,go_sem]
  repeat' (first | (refine qAN rfl ?_;simp only [go_sem]) | (first | (refine qAG ?_ ?_<;>intro hc<;>simp only [hc,go_sem]) | (refine qAA ?_ ?_<;>intro hc<;>simp only [hc,go_sem])) | (refine qAB (c796) ?_;simp only [go_sem]) | refine qAF rfl ?_ | refine qB1 (by rfl) ?_)
  all_goals (simp_all<;>omega)
theorem c665 (x:GCore):∀(hz:x.sz≤1048576) (hd:x.dep≤2097152) (hs:x.size≤2097152),Pure Gm 665 [x.enc] (.tup [.int .i64 (x.dep:Nat),.int .i64 (x.size:Nat)]):=by
  induction x using GCore.ind with
  | _ x ih=>
  intro hz hd hs
  refine Pure.intro [] [] g665 (by kernel_rfl) rfl (by simp [AV.trees,AV.tree,go_sem]) rfl ?_
  simp only [F665,qAC,go_sem]
  have hL:=x.len_sz
  have hde:=x.dep_eq
  have hse:=x.size_eq
  refine qAN GCore.ln ?_
  simp only [go_sem]
  refine Sem.loop (fun i:Nat=>i≤x.Kids.length∧True) (fun i=>(⟨[(2,.int .i64 ((1+maxN GCore.dep (x.Kids.take i):Nat):Int)),(3,.int .i64 ((1+sumN GCore.size (x.Kids.take i):Nat):Int)),(9,.lst 4 (x.Kids.map GCore.enc) false),(10,.int .i64 (x.Kids.length:Nat)),(11,.int .i64 (i:Nat))],[(1,x.enc)],[]⟩:VSt)) (fun i=>x.Kids.length-i) 0 (by kernel_rfl) ⟨Nat.zero_le _,by trivial⟩ (Can.sub (by simp [go_sem]) (by simp [go_sem])) ?_
  rintro i ⟨hi,hI⟩
  simp only [go_sem]
  refine qAA ?_ ?_<;>intro hc<;>simp only [hc,go_sem]
  · have hlt:i<x.Kids.length:=by have:=of_decide_eq_true hc;omega
    simp only [List.getElem?_map,List.getElem?_eq_getElem hlt,Option.map_some,go_sem]
    have hm:=List.getElem_mem hlt
    have hk:=GCore.kid_sz hm
    have hp:=GCore.dep_kid hm
    refine qAE (k:=4) (by rfl) (by simp [go_sem]) (GCore.isAgg _) (by decide) ?_;simp only [go_sem]
    refine qAB (ih _ hm (by omega) (by omega) (by have:=qA9 (f:=GCore.size) hm;omega)) ?_
    simp only [go_sem]
    have ht:=qD4 (f:=GCore.size) hlt
    have hle:=qDM GCore.size x.Kids (i+1)
    have e1:((1+sumN GCore.size (x.Kids.take i):Nat):Int)+x.Kids[i].size=((1+sumN GCore.size (x.Kids.take (i+1)):Nat):Int):=by omega
    have e2:max ((1+maxN GCore.dep (x.Kids.take i):Nat):Int) ((x.Kids[i].dep:Int)+1)=((1+maxN GCore.dep (x.Kids.take (i+1)):Nat):Int):=by rw [qES hlt];omega
    rw [qAJ (n:=(x.Kids[i].dep:Int)+1) (by omega) (by omega),e1,e2,qAJ (n:=((1+sumN GCore.size (x.Kids.take (i+1)):Nat):Int)) (by omega) (by omega)]
    simp only [qAK (show i<4611686018427387904 by omega)];refine qAH (i+1) ⟨by omega, ?_⟩ (by omega) (Can.sub (by simp [go_sem]) (by simp [go_sem]))
    trivial
  · obtain rfl:i=x.Kids.length:=by have:=of_decide_eq_false hc;omega
    rw [List.take_length,←hde,←hse]
    exact qB1 (by rfl) rfl
theorem c495 {x:GCore} (hz:x.sz≤1048576) (hd:x.dep≤2097152) (hs:x.size≤2097152):Pure Gm 495 [x.enc] (.bool x.fits):=by
  refine Pure.intro [] [] g495 (by kernel_rfl) rfl (by simp [AV.trees,AV.tree,go_sem]) rfl ?_
  simp only [F495,qAC,go_sem]
  refine qAN GCore.ln ?_
  simp only [go_sem]
  refine qAB (c665 x hz hd hs) ?_
  simp only [go_sem]
  refine qAG ?_ ?_<;>intro hc<;>simp only [hc,go_sem]
  · exact qAF rfl (by unfold GCore.fits;rw [decide_eq_true (p:=x.dep≤80) (by have:=of_decide_eq_true hc;omega),Bool.and_true];simp;omega)
  · exact qAF rfl (by unfold GCore.fits;rw [decide_eq_false (p:=x.dep≤80) (by simp at hc;omega),Bool.and_false])
theorem zJ7 {x:GCore} (hz:x.sz≤1048576):Pure Gm 1130 [x.enc] (.bool (qB3 x)):=by
  refine Pure.intro [] [] zL4 (by kernel_rfl) rfl (by simp [AV.trees,AV.tree,go_sem]) rfl ?_
  simp only [qkH,qAC,go_sem]
  have hL:=x.len_sz
  refine qAN GCore.ln ?_
  simp only [go_sem]
  repeat' (first | (first | (refine qAG ?_ ?_<;>intro hc<;>simp only [hc,go_sem]) | (refine qAA ?_ ?_<;>intro hc<;>simp only [hc,go_sem])) | (refine qAB zJ0 ?_;simp only [go_sem]) | (refine qAB zJZ ?_;simp only [go_sem]) | (refine qAB c796 ?_;simp only [go_sem]) | (refine qAB (c397 (f:=.fn 1402 []) (fun n=> !qGQ n) rfl x.Data (fun y _=>⟨1402,[],rfl,zKK⟩) (by omega)) ?_;simp only [go_sem]) | refine qAF rfl ?_)
  all_goals (try rw [qI2])
  all_goals (refine congrArg AV.bool ?_;unfold qB3 qJV shp;simp_all [inI,qGQ]<;>first | omega | (intros;omega))
end Go.Ab
namespace Go.Ab
open Go
set_option maxRecDepth 10000
set_option maxHeartbeats 2000000
attribute [local simp] qBF qAT
def qGF (x:GCore):AV:=if x.ok=true then .tup [.int .i64 (x.dep:Nat),.int .i64 (x.size:Nat),.bool true] else .tup [.int .i64 0,.int .i64 0,.bool false]
theorem qmT (x:GCore):(qGF x).tree=true:=by unfold qGF;split<;>rfl
theorem qfG (x:GCore):x.valid=(x.ok&&x.fits):=by
  unfold GCore.valid GCore.fits
  cases x.ok<;>cases decide (x.dep≤80)<;>cases decide (x.size≤400)<;>rfl
theorem c770 (x:GCore):∀(hz:x.sz≤1048576) (hd:x.dep≤2097152) (hs:x.size≤2097152),Pure Gm 770 [x.enc] (qGF x):=by
  induction x using GCore.ind with
  | _ x ih=>
  intro hz hd hs
  refine Pure.intro [] [] g770 (by kernel_rfl) rfl (by simp [AV.trees,AV.tree,go_sem]) (by exact qmT _) ?_
  simp only [F770,qAC,go_sem]
  have hL:=x.len_sz
  have hde:=x.dep_eq
  have hse:=x.size_eq
  have hoe:=x.ok_eq
  refine qAN GCore.ln ?_
  simp only [go_sem]
  refine qAB (zJ7 hz) ?_
  simp only [go_sem]
  refine qAA ?_ ?_<;>intro hc<;>simp only [hc,go_sem]
  · have hn:x.ok=false:=by rw [hoe];simp at hc;simp [hc]
    rw [show qGF x=_ from if_neg (by simp [hn])]
    exact qB1 (by rfl) rfl
  have hn:x.ok=x.Kids.all GCore.ok:=by rw [hoe];simp at hc;simp [hc]
  refine Sem.loop (fun i:Nat=>i≤x.Kids.length∧x.ok=(x.Kids.drop i).all GCore.ok) (fun i=>(⟨[(2,.int .i64 ((1+maxN GCore.dep (x.Kids.take i):Nat):Int)),(3,.int .i64 ((1+sumN GCore.size (x.Kids.take i):Nat):Int)),(14,.lst 4 (x.Kids.map GCore.enc) false),(15,.int .i64 (x.Kids.length:Nat)),(16,.int .i64 (i:Nat))],[(1,x.enc)],[]⟩:VSt)) (fun i=>x.Kids.length-i) 0 (by kernel_rfl) ⟨Nat.zero_le _,by simp [hn]⟩ (Can.sub (by simp [go_sem]) (by simp [go_sem])) ?_
  rintro i ⟨hi,hI⟩
  simp only [go_sem]
  refine qAA ?_ ?_<;>intro hc<;>simp only [hc,go_sem]
  · have hlt:i<x.Kids.length:=by have:=of_decide_eq_true hc;omega
    simp only [List.getElem?_map,List.getElem?_eq_getElem hlt,Option.map_some,go_sem]
    have hm:=List.getElem_mem hlt
    have hk:=GCore.kid_sz hm
    have hp:=GCore.dep_kid hm
    rw [List.drop_eq_getElem_cons hlt,List.all_cons] at hI
    refine qAE (k:=4) (by rfl) (by simp [go_sem]) (GCore.isAgg _) (by decide) ?_;simp only [go_sem]
    refine qAB (ih _ hm (by omega) (by omega) (by have:=qA9 (f:=GCore.size) hm;omega)) ?_
    cases hko:x.Kids[i].ok
    · rw [hko,Bool.false_and] at hI
      simp only [qGF,hko,go_sem]
      rw [if_neg (by simp [hI])]
      exact qB1 (by rfl) rfl
    · rw [hko,Bool.true_and] at hI
      simp only [qGF,hko,go_sem]
      have ht:=qD4 (f:=GCore.size) hlt
      have hle:=qDM GCore.size x.Kids (i+1)
      have e1:((1+sumN GCore.size (x.Kids.take i):Nat):Int)+x.Kids[i].size=((1+sumN GCore.size (x.Kids.take (i+1)):Nat):Int):=by omega
      have e2:max ((1+maxN GCore.dep (x.Kids.take i):Nat):Int) ((x.Kids[i].dep:Int)+1)=((1+maxN GCore.dep (x.Kids.take (i+1)):Nat):Int):=by rw [qES hlt];omega
      rw [qAJ (n:=(x.Kids[i].dep:Int)+1) (by omega) (by omega),e1,e2,qAJ (n:=((1+sumN GCore.size (x.Kids.take (i+1)):Nat):Int)) (by omega) (by omega)]
      simp only [qAK (show i<4611686018427387904 by omega)];refine qAH (i+1) ⟨by omega, ?_⟩ (by omega) (Can.sub (by simp [go_sem]) (by simp [go_sem]))
      exact hI
  · obtain rfl:i=x.Kids.length:=by have:=of_decide_eq_false hc;omega
    rw [List.take_length,←hde,←hse]
    rw [show qGF x=_ from if_pos (by rw [hI];simp)]
    exact qB1 (by rfl) rfl
theorem c391 {x:GCore} (hz:x.sz≤1048576) (hd:x.dep≤2097152) (hs:x.size≤2097152):Pure Gm 391 [x.enc] (.bool x.valid):=by
  refine Pure.intro [] [] g391 (by kernel_rfl) rfl (by simp [AV.trees,AV.tree,go_sem]) rfl ?_
  simp only [F391,qAC,go_sem]
  refine qAN GCore.ln ?_
  simp only [go_sem]
  refine qAB (c770 x hz hd hs) ?_
  cases hko:x.ok
  · simp only [qGF,hko,go_sem]
    exact qAF rfl (by rw [qfG,hko];rfl)
  · simp only [qGF,hko,go_sem]
    refine qAB (c495 hz hd hs) ?_
    simp only [go_sem]
    exact qAF rfl (by rw [qfG,hko];rfl)
theorem c566 {b:Bool}:Pure Gm 566 [.bool b] (.int .i64 (if b then 1 else 0)):=by
  refine Pure.intro [] [] g566 (by kernel_rfl) rfl (by simp [AV.trees,AV.tree,go_sem]) rfl ?_
  simp only [F566,qAC,go_sem]
  refine qAA ?_ ?_<;>intro hc<;>simp only [hc,go_sem]
  · exact qAF rfl rfl
  · exact qAF rfl rfl
theorem qhT {x:GCore} {i:Nat}:Pure Gm 1193 [x.enc,.int .i64 (i:Int)] (.int .i64 (qAY x.Kind i)):=by
  refine Pure.intro [] [] zMD (by kernel_rfl) rfl (by simp [AV.trees,AV.tree,go_sem]) rfl ?_
  simp only [qkQ,qAC,go_sem]
  refine qAN GCore.ln ?_
  simp only [go_sem]
  repeat' (first | (first | (refine qAG ?_ ?_<;>intro hc<;>simp only [hc,go_sem]) | (refine qAA ?_ ?_<;>intro hc<;>simp only [hc,go_sem])) | (refine qAB c566 ?_;simp only [go_sem]) | refine qAF rfl ?_)
  all_goals (simp_all [qAY]<;>omega)
theorem c880 (x:GCore):∀(d:Int) (ho:x.ok=true) (hz:x.sz≤1048576) (hd:0≤d∧d+x.dep≤4194304),Pure Gm 880 [x.enc,.int .i64 d] (.bool (!x.above d)):=by
  induction x using GCore.ind with
  | _ x ih=>
  intro d ho hz hd
  refine Pure.intro [] [] g880 (by kernel_rfl) rfl (by simp [AV.trees,AV.tree,go_sem]) rfl ?_
  simp only [F880,qAC,go_sem]
  have hL:=x.len_sz
  have hae:=x.above_eq d
  refine qAN GCore.ln ?_
  simp only [go_sem]
  refine qAG ?_ ?_<;>intro hc<;>simp only [hc,go_sem]
  · have h1:=of_decide_eq_true hc
    rw [if_pos h1] at hae
    refine qAA ?_ ?_<;>intro hc<;>simp only [hc,go_sem]
    · exact qAF rfl (by rw [hae,decide_eq_true (by have:=of_decide_eq_true hc;omega)];rfl)
    have hg:x.above d=anyK (fun i y=>y.above (d+qAY x.Kind i)) x.Kids 0:=by
      rw [hae,qVD ho h1,decide_eq_false (by have:=of_decide_eq_false hc;omega)];rfl
    refine Sem.loop (fun i:Nat=>i≤x.Kids.length∧x.above d=anyK (fun i y=>y.above (d+qAY x.Kind i)) (x.Kids.drop i) i) (fun i=>(⟨[(1,.int .i64 d),(17,.lst 4 (x.Kids.map GCore.enc) false),(18,.int .i64 (x.Kids.length:Nat)),(19,.int .i64 (i:Nat))],[(2,x.enc)],[]⟩:VSt)) (fun i=>x.Kids.length-i) 0 (by kernel_rfl) ⟨Nat.zero_le _,by simpa using hg⟩ (Can.sub (by simp [go_sem]) (by simp [go_sem])) ?_
    rintro i ⟨hi,hI⟩
    simp only [go_sem]
    refine qAA ?_ ?_<;>intro hc<;>simp only [hc,go_sem]
    · have hlt:i<x.Kids.length:=by have:=of_decide_eq_true hc;omega
      simp only [List.getElem?_map,List.getElem?_eq_getElem hlt,Option.map_some,go_sem]
      refine qAE (k:=4) (by rfl) (by simp [go_sem]) (GCore.isAgg _) (by decide) ?_;simp only [go_sem]
      refine qAB qhT ?_
      simp only [go_sem]
      have hm:=List.getElem_mem hlt
      have hk:=GCore.kid_sz hm
      have hp:=GCore.dep_kid hm
      have hb:=qCT x.Kind i
      rw [qAJ (n:=d+qAY x.Kind i) (by omega) (by omega)]
      refine qAB (ih _ hm _ (qBB ho hm) (by omega) (by omega)) ?_
      simp only [go_sem]
      rw [qCE hlt,anyK] at hI
      refine qAA ?_ ?_<;>intro hc<;>simp only [hc,go_sem]
      · exact qAF rfl (by rw [hI];simp at hc;simp [hc])
      · simp only [qAK (show i<4611686018427387904 by omega)];refine qAH (i+1) ⟨by omega, ?_⟩ (by omega) (Can.sub (by simp [go_sem]) (by simp [go_sem]))
        rw [hI];simp at hc;simp [hc]
    · obtain rfl:i=x.Kids.length:=by have:=of_decide_eq_false hc;omega
      exact qAF rfl (by rw [hI];simp [anyK])
  · rw [if_neg (by simpa using hc)] at hae
    have hg:=hae
    refine Sem.loop (fun i:Nat=>i≤x.Kids.length∧x.above d=anyK (fun i y=>y.above (d+qAY x.Kind i)) (x.Kids.drop i) i) (fun i=>(⟨[(1,.int .i64 d),(17,.lst 4 (x.Kids.map GCore.enc) false),(18,.int .i64 (x.Kids.length:Nat)),(19,.int .i64 (i:Nat))],[(2,x.enc)],[]⟩:VSt)) (fun i=>x.Kids.length-i) 0 (by kernel_rfl) ⟨Nat.zero_le _,by simpa using hg⟩ (Can.sub (by simp [go_sem]) (by simp [go_sem])) ?_
    rintro i ⟨hi,hI⟩
    simp only [go_sem]
    refine qAA ?_ ?_<;>intro hc<;>simp only [hc,go_sem]
    · have hlt:i<x.Kids.length:=by have:=of_decide_eq_true hc;omega
      simp only [List.getElem?_map,List.getElem?_eq_getElem hlt,Option.map_some,go_sem]
      refine qAE (k:=4) (by rfl) (by simp [go_sem]) (GCore.isAgg _) (by decide) ?_;simp only [go_sem]
      refine qAB qhT ?_
      simp only [go_sem]
      have hm:=List.getElem_mem hlt
      have hk:=GCore.kid_sz hm
      have hp:=GCore.dep_kid hm
      have hb:=qCT x.Kind i
      rw [qAJ (n:=d+qAY x.Kind i) (by omega) (by omega)]
      refine qAB (ih _ hm _ (qBB ho hm) (by omega) (by omega)) ?_
      simp only [go_sem]
      rw [qCE hlt,anyK] at hI
      refine qAA ?_ ?_<;>intro hc<;>simp only [hc,go_sem]
      · exact qAF rfl (by rw [hI];simp at hc;simp [hc])
      · simp only [qAK (show i<4611686018427387904 by omega)];refine qAH (i+1) ⟨by omega, ?_⟩ (by omega) (Can.sub (by simp [go_sem]) (by simp [go_sem]))
        rw [hI];simp at hc;simp [hc]
    · obtain rfl:i=x.Kids.length:=by have:=of_decide_eq_false hc;omega
      exact qAF rfl (by rw [hI];simp [anyK])
theorem c521 {x:GCore} (hz:x.sz≤1048576) (hd:x.dep≤2097152) (hs:x.size≤2097152):Pure Gm 521 [x.enc] (.bool x.closed):=by
  refine Pure.intro [] [] g521 (by kernel_rfl) rfl (by simp [AV.trees,AV.tree,go_sem]) rfl ?_
  simp only [F521,qAC,go_sem]
  refine qAN GCore.ln ?_
  simp only [go_sem]
  refine qAB (c391 hz hd hs) ?_
  simp only [go_sem]
  refine qAG ?_ ?_<;>intro hc<;>simp only [hc,go_sem]
  · refine qAB (c880 x 0 (qA4 hc).1 hz (by omega)) ?_
    simp only [go_sem]
    exact qAF rfl (by unfold GCore.closed;rw [hc];rfl)
  · exact qAF rfl (by unfold GCore.closed;rw [hc];rfl)
end Go.Ab
namespace Go.Ab
open Go
set_option maxRecDepth 10000
set_option maxHeartbeats 2000000
attribute [local simp] qBF qAT
def anyT (p:GCore→Bool):GCore→Bool:=GCore.fold fun x rs=>p x || rs.any id
theorem qc4 (p:GCore→Bool) (x:GCore):anyT p x=(p x || x.Kids.any (anyT p)):=by
  unfold anyT;rw [GCore.fold_eq];simp
@[go_sem] theorem zLA {g:Nat} {cs:List AV}:(AV.fn g cs).part 0 none=some (.fn g cs):=nr rfl
def zJP (g:Nat) (cs:List AV) (p:GCore→Bool):Prop:=∀y:GCore,y.sz≤1048576→Pure Gm g (y.enc::cs) (.bool (p y))
theorem c993 {g:Nat} {cs:List AV} {y:GCore} {b:Bool} (ht:AV.trees cs=true) (h:Pure Gm 615 [y.enc,.fn g cs] (.bool b)):Pure Gm 993 [y.enc,.ept (.fn g cs) 0] (.bool b):=by
  refine Pure.intro [] [] g993 (by kernel_rfl) rfl (by simp [AV.trees,AV.tree,go_sem,ht]) rfl ?_
  simp only [F993,qAC,go_sem]
  refine qAN GCore.ln ?_
  simp only [go_sem]
  refine qAB h ?_
  simp only [go_sem]
  exact qAF rfl rfl
theorem c615 (x:GCore):∀(g:Nat) (cs:List AV) (p:GCore→Bool) (ht:AV.trees cs=true) (hp:zJP g cs p) (hz:x.sz≤1048576),Pure Gm 615 [x.enc,.fn g cs] (.bool (anyT p x)):=by
  induction x using GCore.ind with
  | _ x ih=>
  intro g cs p ht hp hz
  refine Pure.intro [3] [] g615 (by kernel_rfl) rfl (by simp [AV.trees,AV.tree,go_sem,ht]) rfl ?_
  simp only [F615,qAC,go_sem]
  have hL:=x.len_sz
  refine qAN GCore.ln ?_
  simp only [go_sem]
  refine qCF rfl ?_
  simp only [go_sem]
  simp only [go_sem,List.nil_append,List.cons_append,List.set_cons_zero,List.set_cons_succ]
  refine qAB (hp x hz) ?_
  simp only [go_sem]
  refine qAG ?_ ?_<;>intro hc<;>simp only [hc,go_sem]
  · refine qAB (c581 (f:=.fn 993 [.ept (.fn g cs) 0]) (anyT p) (by simp [AV.trees,AV.tree,ht]) x.Kids (fun y hy=>⟨993,_,rfl,c993 ht (ih y hy g cs p ht hp (by have:=GCore.kid_sz hy;omega))⟩) (by omega)) ?_
    simp only [go_sem]
    exact qAF rfl (by rw [qc4,hc];rfl)
  · exact qAF rfl (by rw [qc4];simp at hc;simp [hc])
theorem zFX {n m:Int}:Pure Gm 1169 [.int .i64 n,.ept (.int .i64 m) 0] (.bool (decide (m≤n))):=by
  refine Pure.intro [] [] zL9 (by kernel_rfl) rfl (by simp [AV.trees,AV.tree,go_sem]) rfl ?_
  simp only [qkM,qAC,go_sem]
  exact qAF rfl rfl
def qdP (n:Int) (x:GCore):Bool:=(decide (x.Kind=11)&&decide (n≤x.Value)) || x.Data.any fun k=>decide (n≤k)
theorem zFQ (n:Int) (xs:List Int):(xs.all fun k=>decide (k<n))= !(xs.any fun k=>decide (n≤k)):=by
  induction xs with
  | nil=>rfl
  | cons a xs ih=>
    simp only [List.all_cons,List.any_cons,ih,Bool.not_or]
    congr 1
    rw [Bool.eq_iff_iff];simp
theorem qhO {α:Type} {p q:α→Bool}:∀{xs:List α},(∀x∈xs,p x= !q x)→xs.all p= !xs.any q
  |[],_=>rfl
  | x::xs,h=>by simp only [List.all_cons,List.any_cons,Bool.not_or];rw [h x (by simp),qhO (fun y hy=>h y (by simp [hy]))]
theorem qmO (n:Int):∀x:GCore,x.refs n= !anyT (qdP n) x:=GCore.ind fun x ih=>by
  rw [GCore.refs_eq,qc4,qdP,zFQ,Bool.not_or,Bool.not_or,qhO ih]
theorem zKB {x:GCore} {m:Int} (hz:x.sz≤1048576):Pure Gm 1168 [x.enc,.ept (.int .i64 m) 0] (.bool (qdP m x)):=by
  refine Pure.intro [] [] zL8 (by kernel_rfl) rfl (by simp [AV.trees,AV.tree,go_sem]) rfl ?_
  simp only [qkL,qAC,go_sem]
  have hL:=x.len_sz
  refine qAN GCore.ln ?_
  simp only [go_sem]
  refine qAG ?_ ?_<;>intro hc<;>simp only [hc,go_sem]
  · have h11:=hc
    refine qAG ?_ ?_<;>intro hc<;>simp only [hc,go_sem]
    · refine qAB (c397 (f:=.fn 1169 [.ept (.int .i64 m) 0]) (fun n=>decide (m≤n)) rfl x.Data (fun y _=>⟨1169,_,rfl,zFX⟩) (by omega)) ?_
      simp only [go_sem]
      exact qAF rfl (by unfold qdP;rw [h11,hc];rfl)
    · exact qAF rfl (by unfold qdP;rw [h11];simp at hc;simp [hc])
  · refine qAB (c397 (f:=.fn 1169 [.ept (.int .i64 m) 0]) (fun n=>decide (m≤n)) rfl x.Data (fun y _=>⟨1169,_,rfl,zFX⟩) (by omega)) ?_
    simp only [go_sem]
    exact qAF rfl (by unfold qdP;simp at hc;simp [hc])
theorem c847 {x:GCore} {n:Int} (hz:x.sz≤1048576):Pure Gm 847 [x.enc,.int .i64 n] (.bool (x.refs n)):=by
  refine Pure.intro [3] [] g847 (by kernel_rfl) rfl (by simp [AV.trees,AV.tree,go_sem]) rfl ?_
  simp only [F847,qAC,go_sem]
  refine qAN GCore.ln ?_
  simp only [go_sem]
  refine qCF rfl ?_
  simp only [go_sem]
  simp only [go_sem,List.nil_append,List.cons_append,List.set_cons_zero,List.set_cons_succ]
  refine qAB (c615 x 1168 [.ept (.int .i64 n) 0] (qdP n) rfl (fun y hy=>zKB hy) hz) ?_
  simp only [go_sem]
  exact qAF rfl (by rw [qmO])
theorem c851 {x:GCore} {b:GBook} (hz:x.sz≤1048576) (hd:x.dep≤2097152) (hs:x.size≤2097152):Pure Gm 851 [x.enc,.ept b.enc 0] (.bool (!(x.closed&&x.refs b.Defs.length))):=by
  refine Pure.intro [] [] g851 (by kernel_rfl) rfl (by simp [AV.trees,AV.tree,go_sem]) rfl ?_
  simp only [F851,qAC,go_sem]
  refine qAN GCore.ln ?_
  simp only [go_sem]
  refine qAB (c521 hz hd hs) ?_
  simp only [go_sem]
  refine qAG ?_ ?_<;>intro hc<;>simp only [hc,go_sem]
  · refine qAB (c847 hz) ?_
    simp only [go_sem]
    exact qAF rfl (by simp at hc;simp [hc])
  · exact qAF rfl (by simp at hc;simp [hc])
theorem c498 {b:GBook} (hz:b.sz≤1048576):Pure Gm 498 [b.enc] (.bool b.ok):=by
  refine Pure.intro [1] [] g498 (by kernel_rfl) rfl (by simp [AV.trees,AV.tree,go_sem]) rfl ?_
  simp only [F498,qAC,go_sem]
  have hz':b.Defs.length+sumN GCore.sz b.Defs≤1048576:=hz
  refine qCF rfl ?_
  simp only [go_sem]
  simp only [go_sem,List.nil_append,List.cons_append,List.set_cons_zero,List.set_cons_succ]
  refine qAG ?_ ?_<;>intro hc<;>simp only [hc,go_sem]
  · have h1:=of_decide_eq_false hc
    refine qAA ?_ ?_<;>intro hc<;>simp only [hc,go_sem]
    · exact qAF rfl (by have:=of_decide_eq_true hc;unfold GBook.ok inI;rw [decide_eq_false (p:=(b.Defs.length:Int)≤24) (by omega)];simp)
    have h2:=of_decide_eq_false hc
    refine qAB (c581 (f:=.fn 851 [.ept b.enc 0]) (fun x=> !(x.closed&&x.refs b.Defs.length)) (by simp [AV.trees,AV.tree,go_sem]) b.Defs (fun y hy=>⟨851,_,rfl,c851 (by have:=qA9 (f:=GCore.sz) hy;omega) (by have:=qA9 (f:=GCore.sz) hy;have:=y.dep_size;have:=y.size_sz;omega) (by have:=qA9 (f:=GCore.sz) hy;have:=y.size_sz;omega)⟩) (by omega)) ?_
    simp only [go_sem]
    exact qAF rfl (by unfold GBook.ok inI;rw [qI2,decide_eq_true (p:=(1:Int)≤b.Defs.length) (by omega),decide_eq_true (p:=(b.Defs.length:Int)≤24) (by omega)];rfl)
  · exact qAF rfl (by simp at hc;unfold GBook.ok inI;rw [decide_eq_false (p:=(1:Int)≤b.Defs.length) (by omega)];simp)
end Go.Ab
namespace Go.Ab
open Go
set_option maxRecDepth 10000
set_option maxHeartbeats 2000000
attribute [local simp] qBF qAT
theorem qUF (k:Int):(if decide (k=6)=true then (1:Int) else 0)=boxI k:=by unfold boxI;simp
theorem qI6 (k:Int):0≤boxI k∧boxI k≤1:=by unfold boxI;split<;>omega
theorem qoU (x:GCore):∀(v l:Int) (xs:List Int) (_:x.ok=true) (_:x.sz≤1048576) (_:0≤v∧v+x.dep≤4194304) (_:0≤l∧l+x.dep≤4194304) (_:xs.length+x.size≤4194304),
    Acc Gm 1194 [x.enc,.int .i64 v,.int .i64 l] 1 (xs.map encI) ((xs++x.levels v l).map encI):=by
  induction x using GCore.ind with
  | _ x ih=>
  intro v l xs hok hz hv hl hx h id K ho hK
  have hL:=x.len_sz
  have hid:id<h.length:=(List.getElem?_eq_some_iff.1 ho).1
  refine qAZ.run [] [] zME (by kernel_rfl) rfl ?_
  simp only [List.cons_append,List.nil_append,qkR,qAC,go_sem]
  refine qAN GCore.ln ?_
  simp only [go_sem]
  have fin:x.levels v l=qB8 (fun i y=>GCore.levels y (v+qAY x.Kind i) (l+boxI x.Kind)) x.Kids 0→True:=fun _=>trivial
  have hb0:=qI6 x.Kind
  refine qAG ?_ ?_<;>intro hc<;>simp only [hc,go_sem]
  · have hk:=of_decide_eq_true hc
    refine qAA ?_ ?_<;>intro hc<;>simp only [hc,go_sem]
    · refine qBY (el:=xs.map encI) qFH (by rw [List.getElem?_append_left hid];exact ho) (by simp) (by omega) ?_
      simp only [go_sem]
      have e:x.levels v l=[l]:=by rw [x.levels_eq];simp_all
      rw [e] at hK
      have:=hK _ _ (Grown.ofApp (X:=[.row 1 [.int .i64 l] true]) (Grown.app (by rw [List.getElem?_append_left hid];exact ho)) hid)
      simpa [encI] using this
    have hk1:x.levels v l=qB8 (fun i y=>GCore.levels y (v+qAY x.Kind i) (l+boxI x.Kind)) x.Kids 0:=by
      rw [x.levels_eq,if_pos hk,if_neg (of_decide_eq_false hc),qVD hok hk];rfl
    refine Sem.loop (fun a:Nat×List AObj×Nat=>a.1≤x.Kids.length∧Grown h id 1 ((xs++qB8 (fun i y=>GCore.levels y (v+qAY x.Kind i) (l+boxI x.Kind)) (x.Kids.take a.1) 0).map encI) a.2.1 a.2.2)
      (fun a=>(⟨[(1,.int .i64 v),(2,.int .i64 l),(3,.slice 1 a.2.2 0 (xs.length+(qB8 (fun i y=>GCore.levels y (v+qAY x.Kind i) (l+boxI x.Kind)) (x.Kids.take a.1) 0).length) false),(25,.lst 4 (x.Kids.map GCore.enc) false),(26,.int .i64 (x.Kids.length:Nat)),(27,.int .i64 (a.1:Nat))],[(4,x.enc)],a.2.1⟩:VSt)) (fun a=>x.Kids.length-a.1) (0,h,id) (by kernel_rfl) ⟨Nat.zero_le _,by simpa [qB8] using Grown.refl ho⟩
      (Can.sub (by simp [go_sem,qB8]) (by simp [go_sem])) ?_
    rintro ⟨i,h',id'⟩ ⟨hi,hG⟩
    simp only at hi hG
    simp only [go_sem]
    have hfl:=qC5 x v l i
    refine qAA ?_ ?_<;>intro hc<;>simp only [hc,go_sem]
    · have hlt:i<x.Kids.length:=by have:=of_decide_eq_true hc;omega
      simp only [List.getElem?_map,List.getElem?_eq_getElem hlt,Option.map_some,go_sem]
      have hm:=List.getElem_mem hlt
      have hk:=GCore.kid_sz hm
      have hp:=GCore.dep_kid hm
      have hb:=qCT x.Kind i
      have hft:=qEZ (f:=fun i y=>GCore.levels y (v+qAY x.Kind i) (l+boxI x.Kind)) (k:=0) hlt
      have hfl2:=qC5 x v l (i+1)
      rw [hft,Nat.zero_add,List.length_append] at hfl2
      refine qAE (k:=4) (by rfl) (by simp [go_sem]) (GCore.isAgg _) (by decide) ?_;simp only [go_sem]
      refine qAB qhT ?_
      simp only [go_sem]
      refine qAB c566 ?_
      simp only [go_sem]
      rw [qUF,qAJ (n:=v+qAY x.Kind i) (by omega) (by omega),qAJ (n:=l+boxI x.Kind) (by omega) (by omega)]
      have hsz:=GCore.size_kid hlt v l
      refine qFP (ih _ hm (v+qAY x.Kind i) (l+boxI x.Kind) (xs++qB8 (fun i y=>GCore.levels y (v+qAY x.Kind i) (l+boxI x.Kind)) (x.Kids.take i) 0) (qBB hok hm) (by omega) (by omega) (by omega) (by rw [List.length_append];omega)) hG.at' (by simp) rfl ?_
      intro h2 id2 hG2
      simp only [go_sem]
      simp only [qAK (show i<4611686018427387904 by omega)]
      refine qAH (i+1,h2,id2) ⟨by omega, ?_⟩ (by simp only;omega) (Can.sub ?_ (by simp [go_sem]))
      · rw [hft,Nat.zero_add,←List.append_assoc]
        exact hG.trans hG2
      · simp only [hft,Nat.zero_add]
        simp [go_sem,Nat.add_assoc]
    · have e:i=x.Kids.length:=by have:=of_decide_eq_false hc;omega
      subst e
      rw [List.take_length] at hG⊢
      rw [hk1] at hK
      have:=hK _ _ hG
      simpa using this
  · have hk1:x.levels v l=qB8 (fun i y=>GCore.levels y (v+qAY x.Kind i) (l+boxI x.Kind)) x.Kids 0:=by rw [x.levels_eq,if_neg (by simpa using hc)]
    refine Sem.loop (fun a:Nat×List AObj×Nat=>a.1≤x.Kids.length∧Grown h id 1 ((xs++qB8 (fun i y=>GCore.levels y (v+qAY x.Kind i) (l+boxI x.Kind)) (x.Kids.take a.1) 0).map encI) a.2.1 a.2.2)
      (fun a=>(⟨[(1,.int .i64 v),(2,.int .i64 l),(3,.slice 1 a.2.2 0 (xs.length+(qB8 (fun i y=>GCore.levels y (v+qAY x.Kind i) (l+boxI x.Kind)) (x.Kids.take a.1) 0).length) false),(25,.lst 4 (x.Kids.map GCore.enc) false),(26,.int .i64 (x.Kids.length:Nat)),(27,.int .i64 (a.1:Nat))],[(4,x.enc)],a.2.1⟩:VSt)) (fun a=>x.Kids.length-a.1) (0,h,id) (by kernel_rfl) ⟨Nat.zero_le _,by simpa [qB8] using Grown.refl ho⟩
      (Can.sub (by simp [go_sem,qB8]) (by simp [go_sem])) ?_
    rintro ⟨i,h',id'⟩ ⟨hi,hG⟩
    simp only at hi hG
    simp only [go_sem]
    have hfl:=qC5 x v l i
    refine qAA ?_ ?_<;>intro hc<;>simp only [hc,go_sem]
    · have hlt:i<x.Kids.length:=by have:=of_decide_eq_true hc;omega
      simp only [List.getElem?_map,List.getElem?_eq_getElem hlt,Option.map_some,go_sem]
      have hm:=List.getElem_mem hlt
      have hk:=GCore.kid_sz hm
      have hp:=GCore.dep_kid hm
      have hb:=qCT x.Kind i
      have hft:=qEZ (f:=fun i y=>GCore.levels y (v+qAY x.Kind i) (l+boxI x.Kind)) (k:=0) hlt
      have hfl2:=qC5 x v l (i+1)
      rw [hft,Nat.zero_add,List.length_append] at hfl2
      refine qAE (k:=4) (by rfl) (by simp [go_sem]) (GCore.isAgg _) (by decide) ?_;simp only [go_sem]
      refine qAB qhT ?_
      simp only [go_sem]
      refine qAB c566 ?_
      simp only [go_sem]
      rw [qUF,qAJ (n:=v+qAY x.Kind i) (by omega) (by omega),qAJ (n:=l+boxI x.Kind) (by omega) (by omega)]
      have hsz:=GCore.size_kid hlt v l
      refine qFP (ih _ hm (v+qAY x.Kind i) (l+boxI x.Kind) (xs++qB8 (fun i y=>GCore.levels y (v+qAY x.Kind i) (l+boxI x.Kind)) (x.Kids.take i) 0) (qBB hok hm) (by omega) (by omega) (by omega) (by rw [List.length_append];omega)) hG.at' (by simp) rfl ?_
      intro h2 id2 hG2
      simp only [go_sem]
      simp only [qAK (show i<4611686018427387904 by omega)]
      refine qAH (i+1,h2,id2) ⟨by omega, ?_⟩ (by simp only;omega) (Can.sub ?_ (by simp [go_sem]))
      · rw [hft,Nat.zero_add,←List.append_assoc]
        exact hG.trans hG2
      · simp only [hft,Nat.zero_add]
        simp [go_sem,Nat.add_assoc]
    · have e:i=x.Kids.length:=by have:=of_decide_eq_false hc;omega
      subst e
      rw [List.take_length] at hG⊢
      rw [hk1] at hK
      have:=hK _ _ hG
      simpa using this
end Go.Ab
namespace Go.Ab
open Go
set_option maxRecDepth 10000
set_option maxHeartbeats 2000000
def qCJ (s:List Int×Option Int) (x:Int):List Int×Option Int:=(if s.2=some x then s.1 else s.1++[x],some x)
def comp (xs:List Int):List Int:=(xs.foldl qCJ ([],none)).1
theorem qKD:∀(xs:List Int) (s:List Int×Option Int),(xs.foldl qCJ s).2=match xs.getLast? with | some y=>some y | none=>s.2
  |[],_=>rfl
  | x::xs,s=>by
    rw [List.foldl_cons,qKD xs (qCJ s x)]
    rw [List.getLast?_cons]
    cases xs.getLast?<;>rfl
theorem qJB {xs:List Int} {i:Nat} (h:i+1<xs.length):comp (xs.take (i+2))=if xs[i]'(by omega)=xs[i+1] then comp (xs.take (i+1)) else comp (xs.take (i+1))++[xs[i+1]]:=by
  unfold comp
  rw [List.take_succ_eq_append_getElem h,List.foldl_append]
  simp only [List.foldl_cons,List.foldl_nil]
  have e:(List.foldl qCJ ([],none) (xs.take (i+1))).2=some (xs[i]'(by omega)):=by
    rw [qKD,List.getLast?_eq_getElem?]
    simp only [List.length_take]
    rw [List.getElem?_take]
    simp [show min (i+1) xs.length-1=i by omega,show i<xs.length by omega]
  generalize List.foldl qCJ ([],none) (xs.take (i+1))=s at e⊢
  simp only [qCJ,e,Option.some.injEq]
theorem qlW {xs:List Int} (h:1≤xs.length):comp (xs.take 1)=xs.take 1:=by
  match xs,h with
  | x::xs,_=>rfl
theorem qfS {xs:List Int} (h:xs.length<2):comp xs=xs:=by
  match xs,h with
  |[],_=>rfl
  |[x],_=>rfl
theorem qe6 {h:List AObj} {id:Nat} {o:AObj} (ho:h[id]?=some o):h.set id o=h:=List.ext_getElem? fun i=>by
  rw [List.getElem?_set]
  split
  · rename_i e;subst e
    split
    · rw [ho]
    · rename_i hn;rw [List.getElem?_eq_none (by omega)]
  · rfl
theorem qTV {h:List AObj} {id p:Nat} {xs:List Int} (ho:h[id]?=some (.row 1 (xs.map encI) true)) (hp:p<xs.length):orow none 0 p h[id]?=some (.int .i64 xs[p]):=by
  rw [ho]
  simp only [orow,List.getElem?_map,List.getElem?_eq_getElem hp,Option.map_some,encI]
  rfl
theorem qTU {h:List AObj} {id p:Nat} {xs:List Int} {v:Int} (ho:h[id]?=some (.row 1 (xs.map encI) true)) (hp:xs[p]?=some v):orow none 0 p h[id]?=some (.int .i64 v):=by
  rw [ho]
  simp only [orow,List.getElem?_map,hp,Option.map_some,encI]
  rfl
theorem qTH {α:Type} {zs xs:List α} {m:Nat} (h:zs.drop m=xs.drop m) {i:Nat} (hi:m≤i):zs[i]?=xs[i]?:=by
  have:=congrArg (fun l:List α=>l[i-m]?) h
  simp only [List.getElem?_drop] at this
  rwa [show m+(i-m)=i by omega] at this
theorem qpP {h:List AObj} {id:Nat} {xs:List Int} {K:AV→List AObj→Prop} (ho:h[id]?=some (.row 1 (xs.map encI) true)) (hl:xs.length≤4194304)
    (hK:K (.slice 1 id 0 (comp xs).length false) (h.set id (.row 1 ((comp xs).map encI) true))):qAZ Gm 1042 [.slice 1 id 0 xs.length false] h K:=by
  refine qAZ.cut id (comp xs).length 1 ?_
  refine qAZ.run [] [] zLM (by kernel_rfl) rfl ?_
  simp only [qjZ,qAC,go_sem]
  have hid:id<h.length:=(List.getElem?_eq_some_iff.1 ho).1
  have same:comp xs=xs→∃el,h[id]?=some (AObj.row 1 el true)∧K (.slice 1 id 0 xs.length false) (h.set id (AObj.row 1 (el.take (comp xs).length) true)):=by
    intro e
    refine ⟨_,ho, ?_⟩
    rw [e] at hK⊢
    rwa [List.take_of_length_le (by simp)]
  refine qAA ?_ ?_<;>intro hc<;>simp only [hc,go_sem]
  · exact same (qfS (by have:=of_decide_eq_true hc;omega))
  have hn:=of_decide_eq_false hc
  refine Sem.loop (fun j:Nat=>j+1≤xs.length∧comp (xs.take (j+1))=xs.take (j+1)) (fun j=>(⟨[(0,.slice 1 id 0 xs.length false),(3,.int .i64 ((j+1:Nat):Int))],[],h⟩:VSt)) (fun j=>xs.length-j) 0 (by kernel_rfl) ⟨by omega,qlW (by omega)⟩ (Can.sub (by simp [go_sem]) (by simp [go_sem])) ?_
  rintro j ⟨hj,hI⟩
  simp only [go_sem]
  refine qAA ?_ ?_<;>intro hc<;>simp only [hc,go_sem]
  · have hlt:j+1<xs.length:=by have:=of_decide_eq_true hc;omega
    have hj0:j<xs.length:=by omega
    rw [qHB hlt]
    simp only [Nat.zero_add,go_sem]
    rw [qTV ho hlt]
    simp only [go_sem]
    rw [show ((j+1:Nat):Int)-1=(j:Int) by omega,qAJ (n:=(j:Int)) (by omega) (by omega),qHB hj0]
    simp only [Nat.zero_add,go_sem]
    rw [qTV ho hj0]
    simp only [go_sem]
    refine qAA ?_ ?_<;>intro hc<;>simp only [hc,go_sem]
    · have hd:=of_decide_eq_true hc
      refine qdU (v:=.slice 1 id (j+1) (xs.length-(j+1)) false) (by simp [val,bnd,go_sem,show (0:Int)≤(j:Int)+1∧(j:Int)+1≤(xs.length:Int) by omega]) ?_
      simp only [go_sem]
      have hcp:comp (xs.take (j+2))=xs.take (j+1):=by rw [qJB hlt,if_pos hd.symm,hI]
      refine Sem.loop (fun a:Nat×List Int×Nat×List AObj=>j+1+a.1+1≤xs.length∧a.2.1.length=xs.length∧a.2.1.drop (j+1+a.1)=xs.drop (j+1+a.1)∧a.2.1.take a.2.2.1=comp (xs.take (j+1+a.1+1))∧a.2.2.1≤j+1+a.1∧a.2.2.2=h.set id (.row 1 (a.2.1.map encI) true))
        (fun a=>(⟨[(0,.slice 1 id 0 xs.length false),(3,.int .i64 (a.2.2.1:Nat)),(4,.slice 1 id (j+1) (xs.length-(j+1)) false),(5,.int .i64 ((a.1+1:Nat):Int))],[],a.2.2.2⟩:VSt)) (fun a=>xs.length-a.1) (0,xs,j+1,h) (by kernel_rfl) ⟨by first | omega | (simp only;omega),rfl,rfl,hcp.symm,Nat.le_refl _,(qe6 ho).symm⟩ (Can.sub (by simp [go_sem]) (by simp [go_sem])) ?_
      rintro ⟨q,zs,k,h'⟩ ⟨hq,hzl,hzd,hzt,hkq,hh⟩
      simp only at hq hzl hzd hzt hkq hh⊢
      subst hh
      have ho':(h.set id (AObj.row 1 (zs.map encI) true))[id]?=some (.row 1 (zs.map encI) true):=by simp [hid]
      simp only [go_sem]
      refine qAA ?_ ?_<;>intro hc<;>simp only [hc,go_sem]
      · have hq2:q+1<xs.length-(j+1):=by have:=of_decide_eq_true hc;omega
        have hx1:j+1+q+1<xs.length:=by omega
        have hx0:j+1+q<xs.length:=by omega
        rw [qHB hq2]
        simp only [go_sem]
        rw [qTU (v:=xs[j+1+q+1]) ho' (by rw [show j+1+(q+1)=j+1+q+1 by omega,qTH hzd (by omega),List.getElem?_eq_getElem hx1])]
        simp only [go_sem]
        rw [show ((q+1:Nat):Int)-1=(q:Int) by omega,qAJ (n:=(q:Int)) (by omega) (by omega),qHB (n:=q) (by omega)]
        simp only [go_sem]
        rw [qTU (v:=xs[j+1+q]) ho' (by rw [qTH hzd (by omega),List.getElem?_eq_getElem hx0])]
        simp only [go_sem]
        have hcs:=qJB (xs:=xs) (i:=j+1+q) hx1
        refine qAA ?_ ?_<;>intro hc<;>simp only [hc,go_sem]
        · have hne:¬xs[j+1+q]=xs[j+1+q+1]:=by simp at hc;exact fun e=>hc e.symm
          rw [if_neg hne] at hcs
          have hk:k<zs.length:=by omega
          rw [qHB hq2]
          simp only [go_sem]
          rw [qTU (v:=xs[j+1+q+1]) ho' (by rw [show j+1+(q+1)=j+1+q+1 by omega,qTH hzd (by omega),List.getElem?_eq_getElem hx1])]
          simp only [go_sem]
          rw [qHB (n:=k) (by omega)]
          simp only [Nat.zero_add,go_sem]
          refine qD3 (by rfl) ho' (by rw [List.getElem?_map,List.getElem?_eq_getElem hk];rfl) (by rfl) ?_
          simp only [go_sem]
          have hm:(zs.map encI).set k (.int .i64 xs[j+1+q+1])=(zs.set k xs[j+1+q+1]).map encI:=by simp [List.map_set,encI]
          rw [List.set_set,hm,qAJ (n:=((q+1:Nat):Int)+1) (by omega) (by omega),qAJ (n:=(k:Int)+1) (by omega) (by omega)]
          refine qAH (q+1,zs.set k xs[j+1+q+1],k+1,h.set id (.row 1 ((zs.set k xs[j+1+q+1]).map encI) true)) ⟨by first | omega | (simp only;omega),by simpa using hzl, ?_, ?_,by first | omega | (simp only;omega),rfl⟩ (by first | omega | (simp only;omega)) (Can.sub (by simp [go_sem]) (by simp [go_sem]))
          · simp only
            rw [List.drop_set_of_lt (by omega)]
            have:=congrArg (List.drop 1) hzd
            simpa [List.drop_drop,Nat.add_assoc] using this
          · simp only
            rw [show j+1+(q+1)+1=j+1+q+2 by omega,hcs,←hzt,List.take_succ_eq_append_getElem (by simpa using hk),List.take_set_of_le (Nat.le_refl _)]
            simp
        · have heq:xs[j+1+q]=xs[j+1+q+1]:=by simp at hc;exact hc.symm
          rw [if_pos heq] at hcs
          rw [qAJ (n:=((q+1:Nat):Int)+1) (by omega) (by omega)]
          refine qAH (q+1,zs,k,h.set id (.row 1 (zs.map encI) true)) ⟨by first | omega | (simp only;omega),hzl, ?_, ?_,by first | omega | (simp only;omega),rfl⟩ (by first | omega | (simp only;omega)) (Can.sub (by simp [go_sem]) (by simp [go_sem]))
          · simp only
            have:=congrArg (List.drop 1) hzd
            simpa [List.drop_drop,Nat.add_assoc] using this
          · simp only
            rw [show j+1+(q+1)+1=j+1+q+2 by omega,hcs,←hzt]
      · have hqe:j+1+q+1=xs.length:=by have:=of_decide_eq_false hc;omega
        rw [hqe,List.take_length] at hzt
        have hkl:(comp xs).length=k:=by rw [←hzt];simp;omega
        refine qdU (v:=.slice 1 id k (xs.length-k) false) (by simp [val,bnd,go_sem,show k≤xs.length by omega]) ?_
        simp only [go_sem]
        refine zF0 ho' (by simp;omega) (by simp;omega) ?_
        simp only [go_sem]
        refine qdU (v:=.slice 1 id 0 k false) (by simp [val,bnd,go_sem,show k≤xs.length by omega]) ?_
        simp only [go_sem]
        have hlen:(List.take k (List.map encI zs)).length=k:=by simp;omega
        refine ⟨_,by rw [List.set_set,List.getElem?_set_self hid], ?_⟩
        rw [List.set_set,List.set_set,hkl,List.take_append_of_le_length (by omega),List.take_of_length_le (by omega),←List.map_take,hzt]
        rw [hkl] at hK
        exact hK
    · rw [qAJ (n:=((j+1:Nat):Int)+1) (by omega) (by omega)]
      have hd:=of_decide_eq_false hc
      refine qAH (j+1) ⟨by omega, ?_⟩ (by omega) (Can.sub (by simp [go_sem]) (by simp [go_sem]))
      rw [show j+1+1=j+2 from rfl,qJB hlt,if_neg (fun e=>hd e.symm),hI,←List.take_succ_eq_append_getElem hlt]
  · have e:j+1=xs.length:=by have:=of_decide_eq_false hc;omega
    rw [e,List.take_length] at hI
    exact same hI
end Go.Ab
namespace Go.Ab
open Go
set_option maxRecDepth 10000
set_option maxHeartbeats 2000000
attribute [local simp] qBF qAT
theorem zKF {x y:GCore} {l:Int} {b:Bool} (hl:0≤l∧l≤100) (h:Pure Gm 881 [y.enc,.int .i64 (l+boxI x.Kind)] (.bool b)):Pure Gm 1195 [y.enc,.ept (.int .i64 l) 0,.ept x.enc 0] (.bool (!b)):=by
  refine Pure.intro [] [] zMF (by kernel_rfl) rfl (by simp [AV.trees,AV.tree,go_sem]) rfl ?_
  simp only [qkS,qAC,go_sem]
  refine qAN GCore.ln ?_
  simp only [go_sem]
  have hb:=qI6 x.Kind
  refine qAB c566 ?_
  simp only [go_sem]
  rw [qUF,qAJ (by omega) (by omega)]
  refine qAB h ?_
  simp only [go_sem]
  exact qAF rfl rfl
theorem qlV:∀(xs:List Int),decide ((comp xs).length≤1)=xs.all fun k=>decide (some k=xs.head?):=by
  have key:∀(xs acc:List Int) (o:Option Int),acc.length≤(xs.foldl qCJ (acc,o)).1.length:=by
    intro xs
    induction xs with
    | nil=>intro acc o;exact Nat.le_refl _
    | cons x xs ih=>
      intro acc o
      rw [List.foldl_cons]
      unfold qCJ
      split
      · exact ih _ _
      · refine Nat.le_trans ?_ (ih _ _)
        simp
  have k2:∀(xs:List Int) (n:Int),decide ((xs.foldl qCJ ([n],some n)).1.length≤1)=xs.all fun k=>decide (k=n):=by
    intro xs n
    induction xs with
    | nil=>rfl
    | cons x xs ih=>
      rw [List.foldl_cons,List.all_cons]
      by_cases e:x=n
      · subst e
        rw [show qCJ ([x],some x) x=([x],some x) by simp [qCJ],ih];simp
      · rw [show qCJ ([n],some n) x=([n,x],some x) by simp [qCJ,Ne.symm e]]
        have:=key xs [n,x] (some x)
        rw [decide_eq_false (by simp at this;omega),decide_eq_false e];rfl
  intro xs
  cases xs with
  | nil=>rfl
  | cons x xs=>
    unfold comp
    rw [List.foldl_cons,show qCJ ([],none) x=([x],some x) by simp [qCJ],k2]
    simp
theorem qhW (n:Int) (L:List Int):∃r,comp (n::L)=n::r:=by
  have key:∀(xs acc:List Int) (o:Option Int),∃r,(xs.foldl qCJ (acc,o)).1=acc++r:=by
    intro xs
    induction xs with
    | nil=>intro acc o;exact ⟨[],by simp⟩
    | cons x xs ih=>
      intro acc o
      rw [List.foldl_cons]
      unfold qCJ
      split
      · exact ih _ _
      · obtain ⟨r,hr⟩:=ih (acc++[x]) (some x)
        refine ⟨x::r, ?_⟩
        show (List.foldl qCJ (acc++[x],some x) xs).1=_
        rw [hr];simp
  obtain ⟨r,hr⟩:=key L [n] (some n)
  refine ⟨r, ?_⟩
  unfold comp
  rw [List.foldl_cons,show qCJ ([],none) n=([n],some n) by simp [qCJ],hr];rfl
theorem lv7 {L:List Int} {l:Int}:(L.all (fun n=>decide (n=l)) || L.all (fun n=>decide (n=l+1)))=(decide ((comp L).length≤1)&&(match L with |[]=>true | n::_=>decide (n=l) || decide (n=l+1))):=by
  rw [qlV]
  cases L with
  | nil=>rfl
  | cons n L=>
    simp only [List.all_cons,List.head?_cons,Option.some.injEq,decide_true,Bool.true_and]
    by_cases e:n=l
    · subst e
      simp
      intro h;omega
    · by_cases e2:n=l+1
      · subst e2;simp [e]
      · simp [e,e2]
theorem qEA {h:List AObj} {id:Nat} {n:Int} {L:List Int} (ho:h[id]?=some (.row 1 ((n::L).map encI) true)):orow none 0 0 h[id]?=some (.int .i64 n):=qTU ho rfl
theorem c881 (x:GCore):∀(l:Int) (ho:x.ok=true) (hz:x.sz≤1048576) (hl:0≤l∧l≤9) (hd:x.dep≤1000) (hq:x.size≤2097152),Pure Gm 881 [x.enc,.int .i64 l] (.bool (x.strat l)):=by
  induction x using GCore.ind with
  | _ x ih=>
  intro l ho hz hl hd hq
  refine Pure.intro [2,3] [] g881 (by kernel_rfl) rfl (by simp [AV.trees,AV.tree,go_sem]) rfl ?_
  simp only [F881,qAC,go_sem]
  have hL:=x.len_sz
  have h01:∀{y:GCore},y∈x.Kids→y.sz≤1048576∧y.dep≤1000∧y.size≤2097152:=fun hy=>by
    have:=GCore.kid_sz hy;have:=GCore.dep_kid hy;have:=qA9 (f:=GCore.size) hy;have:=x.size_eq;omega
  have hb:=qI6 x.Kind
  have bad:∀{h:List AObj},x.strat l=false→Fin (some [.bool false]) h (.bool (x.strat l)):=fun h=>qAF rfl (by rw [h])
  refine qCF GCore.ln ?_
  simp only [go_sem]
  refine qCF rfl ?_
  simp only [go_sem]
  simp only [go_sem,List.nil_append,List.cons_append,List.set_cons_zero,List.set_cons_succ]
  refine qAA ?_ ?_<;>intro hc<;>simp only [hc,go_sem]
  · exact bad (by rw [x.strat_eq,decide_eq_false (by have:=of_decide_eq_true hc;omega)];rfl)
  have h8:decide (l≤8)=true:=decide_eq_true (by have:=of_decide_eq_false hc;omega)
  have hl8:=of_decide_eq_true h8
  have lvb:∀{h:List AObj},lvOk x l=false→Fin (some [.bool false]) h (.bool (x.strat l)):=fun h=>bad (by rw [x.strat_eq,h];simp)
  have hP:=c581 (f:=.fn 1195 [.ept (.int .i64 l) 0,.ept x.enc 0]) (fun y=> !(y.strat (l+boxI x.Kind))) (by simp [AV.trees,AV.tree,go_sem]) x.Kids (fun y hy=>⟨1195,_,rfl,zKF (by omega) (ih y hy (l+boxI x.Kind) (qBB ho hy) (h01 hy).1 (by omega) (h01 hy).2.1 (h01 hy).2.2)⟩) (by omega)
  have good:∀{h:List AObj},lvOk x l=true→Fin (some [.bool (!(x.Kids.any fun y=> !(y.strat (l+boxI x.Kind))))]) h (.bool (x.strat l)):=fun h=>qAF rfl (by rw [qI2,x.strat_eq,h8,h];rfl)
  refine qAA ?_ ?_<;>intro hc<;>simp only [hc,go_sem]
  · have hk4:=of_decide_eq_true hc
    obtain ⟨a,hK⟩:=qEJ ((qBE ho).2 (.inl hk4))
    have ham:a∈x.Kids:=by rw [hK];simp
    have hlv:lvOk x l=(decide ((a.levels 0 l).length≤1)&&(a.levels 0 l).all (fun n=>decide (n=l))):=by unfold lvOk;rw [if_pos hk4,hK];rfl
    simp only [hK,List.map_cons,List.map_nil,Option.map_some,go_sem]
    have hacc:=qoU a 0 l [] (qBB ho ham) (h01 ham).1 (by have:=(h01 ham).2.1;omega) (by have:=(h01 ham).2.1;omega) (by simp;have:=(h01 ham).2.2;omega)
    have hll:=GCore.levels_len a 0 l
    have hqa:=(h01 ham).2.2
    rw [List.nil_append] at hacc
    generalize a.levels 0 l=L at hlv hacc hll
    refine qCW hacc rfl ?_
    intro h' id' hG
    simp only [go_sem]
    refine qAG ?_ ?_<;>intro hc<;>simp only [hc,go_sem]
    · have h1:=of_decide_eq_false hc
      refine qAG ?_ ?_<;>intro hc<;>simp only [hc,go_sem]
      · obtain ⟨n,rfl⟩:=qEJ (xs:=L) (by have:=of_decide_eq_true hc;omega)
        simp only [go_sem]
        rw [qEA hG.at']
        simp only [go_sem]
        refine qAA ?_ ?_<;>intro hc<;>simp only [hc,go_sem]
        · exact lvb (by rw [hlv];simp at hc;simp [hc])
        · refine qAB hP ?_
          simp only [go_sem]
          exact good (by rw [hlv];simp at hc;simp [hc])
      · have h2:L=[]:=List.length_eq_zero_iff.1 (by simp at hc;omega)
        subst h2
        refine qAB hP ?_
        simp only [go_sem]
        exact good (by rw [hlv];rfl)
    · exact lvb (by rw [hlv,decide_eq_false (by simp at hc;omega)];rfl)
  refine qAA ?_ ?_<;>intro hc<;>simp only [hc,go_sem]
  · have hk7:=of_decide_eq_true hc
    obtain ⟨a,c,hK⟩:=qEK ((qBE ho).1 (by omega))
    have hcm:c∈x.Kids:=by rw [hK];simp
    have hlv:lvOk x l=(decide ((comp (c.levels 0 l)).length≤1)&&(match c.levels 0 l with |[]=>true | n::_=>decide (n=l) || decide (n=l+1))):=by
      rw [←lv7];unfold lvOk;rw [if_neg (by omega),if_pos hk7,hK];rfl
    simp only [hK,List.map_cons,List.map_nil,Option.map_some,go_sem]
    have hacc:=qoU c 0 l [] (qBB ho hcm) (h01 hcm).1 (by have:=(h01 hcm).2.1;omega) (by have:=(h01 hcm).2.1;omega) (by simp;have:=(h01 hcm).2.2;omega)
    have hll:=GCore.levels_len c 0 l
    have hqa:=(h01 hcm).2.2
    rw [List.nil_append] at hacc
    generalize c.levels 0 l=L at hlv hacc hll
    refine qCW hacc rfl ?_
    intro h' id' hG
    simp only [go_sem]
    refine qAS (qpP hG.at' (by omega) ?_)
    simp only [go_sem]
    refine qAG ?_ ?_<;>intro hc<;>simp only [hc,go_sem]
    rotate_left
    · exact lvb (by rw [hlv,decide_eq_false (by simp at hc;omega)];rfl)
    have h1:decide ((comp L).length≤1)=true:=decide_eq_true (by have:=of_decide_eq_false hc;omega)
    rw [h1,Bool.true_and] at hlv
    refine qAG ?_ ?_<;>intro hc<;>simp only [hc,go_sem]
    rotate_left
    · have h2:L=[]:=List.length_eq_zero_iff.1 (by simp at hc;rw [hc];rfl)
      refine qAB hP ?_
      simp only [go_sem]
      exact good (by rw [hlv,h2])
    obtain ⟨n,L',hLn⟩:∃n L',L=n::L':=by
      cases L with
      | nil=>exact absurd hc (by simp)
      | cons n L=>exact ⟨n,L,rfl⟩
    obtain ⟨r,hr⟩:=qhW n L'
    have ho2:(h'.set id' (AObj.row 1 ((comp L).map encI) true))[id']?=some (.row 1 ((n::r).map encI) true):=by rw [List.getElem?_set_self hG.lt,hLn,hr]
    have hp0:=of_decide_eq_true hc
    rw [qUY (by omega) (by omega)]
    simp only [go_sem]
    rw [show (0+(0:Int).toNat)=0 from rfl,qEA ho2]
    simp only [go_sem]
    refine qAG ?_ ?_<;>intro hc<;>simp only [hc,go_sem]
    · rw [qUY (by omega) (by omega)]
      simp only [go_sem]
      rw [show (0+(0:Int).toNat)=0 from rfl,qEA ho2]
      simp only [go_sem]
      rw [qAJ (by omega) (by omega)]
      refine qAA ?_ ?_<;>intro hc<;>simp only [hc,go_sem]
      · exact lvb (by rw [hlv,hLn];simp at hc;rename_i h;simp at h;simp [hc,h])
      · refine qAB hP ?_
        simp only [go_sem]
        exact good (by rw [hlv,hLn];simp at hc;simp [hc])
    · refine qAB hP ?_
      simp only [go_sem]
      exact good (by rw [hlv,hLn];simp at hc;simp [hc])
  · refine qAB hP ?_
    simp only [go_sem]
    exact good (by unfold lvOk;rename_i h4;rw [if_neg (of_decide_eq_false h4),if_neg (of_decide_eq_false hc)])
theorem c522 {x:GCore} (hz:x.sz≤1048576) (hs:x.size≤2097152):Pure Gm 522 [x.enc] (.bool (x.closed&&x.strat 0)):=by
  refine Pure.intro [] [] g522 (by kernel_rfl) rfl (by simp [AV.trees,AV.tree,go_sem]) rfl ?_
  simp only [F522,qAC,go_sem]
  have hds:=x.dep_size
  have hss:=x.size_sz
  refine qAN GCore.ln ?_
  simp only [go_sem]
  refine qAB (c521 hz (by omega) hs) ?_
  simp only [go_sem]
  refine qAG ?_ ?_<;>intro hc<;>simp only [hc,go_sem]
  · obtain ⟨h1,h2,h3⟩:=qCG hc
    refine qAB (c881 x 0 h1 hz (by omega) (by omega) hs) ?_
    simp only [go_sem]
    exact qAF rfl rfl
  · exact qAF rfl rfl
theorem zKC {x:GCore} (hz:x.sz≤1048576) (hs:x.size≤2097152):Pure Gm 1170 [x.enc] (.bool (!(x.closed&&x.strat 0))):=by
  refine Pure.intro [] [] zMA (by kernel_rfl) rfl (by simp [AV.trees,AV.tree,go_sem]) rfl ?_
  simp only [qkN,qAC,go_sem]
  refine qAN GCore.ln ?_
  simp only [go_sem]
  refine qAB (c522 hz hs) ?_
  simp only [go_sem]
  exact qAF rfl rfl
theorem c848 {b:GBook} (hz:b.sz≤1048576):Pure Gm 848 [b.enc] (.bool (b.Defs.all fun x=>x.closed&&x.strat 0)):=by
  refine Pure.intro [] [] g848 (by kernel_rfl) rfl (by simp [AV.trees,AV.tree,go_sem]) rfl ?_
  simp only [F848,qAC,go_sem]
  have hz':b.Defs.length+sumN GCore.sz b.Defs≤1048576:=hz
  refine qAN rfl ?_;simp only [go_sem]
  refine qAB (c581 (f:=.fn 1170 []) (fun x=> !(x.closed&&x.strat 0)) rfl b.Defs (fun y hy=>⟨1170,_,rfl,zKC (by have:=qA9 (f:=GCore.sz) hy;omega) (by have:=qA9 (f:=GCore.sz) hy;have:=y.size_sz;omega)⟩) (by omega)) ?_
  simp only [go_sem]
  exact qAF rfl (by rw [qI2])
end Go.Ab
namespace Go.Ab
open Go
set_option maxRecDepth 10000
set_option maxHeartbeats 2000000
attribute [local simp] qBF qAT
theorem c834 {xs:List Int} {n:Int} (hl:xs.length≤4194304):Pure Gm 834 [.lst 1 (xs.map encI) false,.int .i64 n] (.int .i64 (qCL (fun k=>decide (n=k)) xs 0)):=by
  refine Pure.intro [] [] g834 (by kernel_rfl) rfl (by simp [AV.trees,AV.tree,go_sem]) rfl ?_
  simp only [F834,qAC,go_sem]
  refine Sem.loop (fun i:Nat=>i≤xs.length∧qCL (fun k=>decide (n=k)) xs 0=qCL (fun k=>decide (n=k)) (xs.drop i) i) (fun i=>(⟨[(0,.lst 1 (xs.map encI) false),(1,.int .i64 n),(7,.int .i64 (xs.length:Nat)),(8,.int .i64 (i:Nat))],[],[]⟩:VSt)) (fun i=>xs.length-i) 0 (by kernel_rfl) ⟨Nat.zero_le _,by simp⟩ (Can.sub (by simp [go_sem]) (by simp [go_sem])) ?_
  rintro i ⟨hi,hI⟩
  simp only [go_sem]
  refine qAA ?_ ?_<;>intro hc<;>simp only [hc,go_sem]
  · have hlt:i<xs.length:=by have:=of_decide_eq_true hc;omega
    simp only [List.getElem?_map,List.getElem?_eq_getElem hlt,Option.map_some,go_sem]
    rw [List.drop_eq_getElem_cons hlt,qCL] at hI
    simp only [encI,go_sem]
    refine qAA ?_ ?_<;>intro hc<;>simp only [hc,go_sem]
    · exact qAF rfl (by rw [hI,hc];rfl)
    · rw [hc] at hI
      simp only [qAK (show i<4611686018427387904 by omega)];refine qAH (i+1) ⟨by omega, ?_⟩ (by omega) (Can.sub (by simp [go_sem]) (by simp [go_sem]))
      exact hI
  · obtain rfl:i=xs.length:=by have:=of_decide_eq_false hc;omega
    exact qAF rfl (by rw [hI,List.drop_length];rfl)
theorem c647 {xs:List Int} {n:Int} (hl:xs.length≤4194304):Pure Gm 647 [.lst 1 (xs.map encI) false,.int .i64 n] (.bool (xs.any fun k=>decide (n=k))):=by
  refine Pure.intro [] [] g647 (by kernel_rfl) rfl (by simp [AV.trees,AV.tree,go_sem]) rfl ?_
  simp only [F647,qAC,go_sem]
  simp only [ctnF,qAC,go_sem]
  refine qAB (c834 hl) ?_
  simp only [go_sem]
  exact qAF rfl (by rw [qFF])
theorem zHK (x:Int):w32 x=IntKind.i64.wrap (IntKind.i32.wrap x):=by
  unfold w32
  congr 1
  simp only [IntKind.wrap,IntKind.bits,IntKind.signed]
  simp
theorem qfP {x:Int}:Pure Gm 1400 [.int .i64 x] (.int .i64 (w32 x)):=by
  refine Pure.intro [] [] zMT (by kernel_rfl) rfl (by simp [AV.trees,AV.tree,go_sem]) rfl ?_
  simp only [qk6,qAC,go_sem]
  exact qAF rfl (by rw [zHK])
theorem qo1 {x:Int}:Pure Gm 1120 [.int .i64 x] ((GCore.mk 11 x [] []).enc):=by
  refine Pure.intro [] [] zLU (by kernel_rfl) rfl (by simp [AV.trees,AV.tree,go_sem]) (by simp [go_sem]) ?_
  simp only [qj7,qAC,go_sem]
  refine qAE (k:=4) (by rfl) (by rfl) (by exact ⟨_,rfl⟩) (by decide) ?_;simp only [go_sem]
  exact qA7 qFD
theorem c726 {x:Int}:Pure Gm 726 [.int .i64 x] ((GCore.mk 2 x [] []).enc):=by
  refine Pure.intro [] [] g726 (by kernel_rfl) rfl (by simp [AV.trees,AV.tree,go_sem]) (by simp [go_sem]) ?_
  simp only [F726,qAC,go_sem]
  refine qAE (k:=4) (by rfl) (by rfl) (by exact ⟨_,rfl⟩) (by decide) ?_;simp only [go_sem]
  exact qA7 qFD
theorem zKJ {f a:GCore}:Pure Gm 1401 [f.enc,a.enc] ((appC f a).enc):=by
  refine Pure.intro [] [] zMU (by kernel_rfl) rfl (by simp [AV.trees,AV.tree,go_sem]) (by simp [go_sem]) ?_
  simp only [qk7,qAC,go_sem]
  refine qAN GCore.ln ?_
  simp only [go_sem]
  refine qAN GCore.ln ?_
  simp only [go_sem]
  refine qAE (k:=4) (by rfl) (by rfl) (by exact ⟨_,rfl⟩) (by decide) ?_;simp only [go_sem]
  exact qA7 (qFR .nils (Cv.row rfl rfl (qBF [f,a]) (by decide)))
theorem zJ1 {k a b:Int}:Pure Gm 1118 [.int .i64 k,.int .i64 a,.int .i64 b] (.int .i64 (opI k a b)):=by
  refine Pure.intro [] [] zLS (by kernel_rfl) rfl (by simp [AV.trees,AV.tree,go_sem]) rfl ?_
  simp only [qj5,qAC,go_sem]
  refine qAB qfP ?_
  simp only [go_sem]
  refine qAB qfP ?_
  simp only [go_sem]
  unfold opI
  refine qAA ?_ ?_<;>intro hc<;>simp only [hc,go_sem]
  · rw [if_pos (of_decide_eq_true hc)]
    refine qAB qfP ?_
    simp only [go_sem]
    exact qAF rfl rfl
  rw [if_neg (of_decide_eq_false hc)]
  refine qAA ?_ ?_<;>intro hc<;>simp only [hc,go_sem]
  · rw [if_pos (of_decide_eq_true hc)]
    refine qAB qfP ?_
    simp only [go_sem]
    exact qAF rfl rfl
  rw [if_neg (of_decide_eq_false hc)]
  refine qAA ?_ ?_<;>intro hc<;>simp only [hc,go_sem]
  · rw [if_pos (of_decide_eq_true hc)]
    refine qAB qfP ?_
    simp only [go_sem]
    exact qAF rfl rfl
  rw [if_neg (of_decide_eq_false hc)]
  refine qAA ?_ ?_<;>intro hc<;>simp only [hc,go_sem]
  · rw [if_pos (of_decide_eq_true hc)]
    refine qAA ?_ ?_<;>intro hc<;>simp only [hc,go_sem]
    · rw [if_pos (of_decide_eq_true hc)]
      exact qAF rfl rfl
    rw [if_neg (of_decide_eq_false hc)]
    have hq:=of_decide_eq_false hc
    simp only [if_neg hq,go_sem]
    refine qAB qfP ?_
    simp only [go_sem]
    exact qAF rfl rfl
  rw [if_neg (of_decide_eq_false hc)]
  refine qAA ?_ ?_<;>intro hc<;>simp only [hc,go_sem]
  · rw [if_pos (of_decide_eq_true hc)]
    refine qAB c566 ?_
    simp only [go_sem]
    exact qAF rfl (by simp)
  rw [if_neg (of_decide_eq_false hc)]
  refine qAA ?_ ?_<;>intro hc<;>simp only [hc,go_sem]
  · rw [if_pos (of_decide_eq_true hc)]
    refine qAB c566 ?_
    simp only [go_sem]
    exact qAF rfl (by simp)
  rw [if_neg (of_decide_eq_false hc)]
  exact qAF rfl rfl
theorem zJ2 {d:Int} {as:List GCore} (hn:as.length≤1048576):Pure Gm 1119 [.int .i64 d,.lst 4 (as.map GCore.enc) false] ((qDU d as).enc):=by
  refine Pure.intro [] [] zLT (by kernel_rfl) rfl (by simp [AV.trees,AV.tree,go_sem]) (by simp [go_sem]) ?_
  simp only [qj6,qAC,go_sem]
  refine qAB qo1 ?_
  simp only [go_sem]
  refine qAE (k:=4) (by rfl) (by simp [go_sem]) (GCore.isAgg _) (by decide) ?_;simp only [go_sem]
  refine Sem.loop (fun i:Nat=>i≤as.length∧True) (fun i=>(⟨[(10,.lst 4 (as.map GCore.enc) false),(11,.int .i64 (as.length:Nat)),(12,.int .i64 (i:Nat))],[(5,((as.take i).foldl appC (.mk 11 d [] [])).enc),(4,.agg [.int .i64 0,.int .i64 0,.nils,.nils])],[]⟩:VSt)) (fun i=>as.length-i) 0 (by kernel_rfl) ⟨Nat.zero_le _,trivial⟩ (Can.sub (by simp [go_sem]) (by simp [go_sem])) ?_
  rintro i ⟨hi,hI⟩
  simp only [go_sem]
  refine qAA ?_ ?_<;>intro hc<;>simp only [hc,go_sem]
  · have hlt:i<as.length:=by have:=of_decide_eq_true hc;omega
    simp only [List.getElem?_map,List.getElem?_eq_getElem hlt,Option.map_some,go_sem]
    refine qAE (k:=4) (by rfl) (by simp [go_sem]) (GCore.isAgg _) (by decide) ?_;simp only [go_sem]
    refine qAB zKJ ?_
    simp only [go_sem]
    refine qKO GCore.ln GCore.putcore ?_
    simp only [go_sem]
    simp only [qAK (show i<4611686018427387904 by omega)]
    refine qAH (i+1) ⟨by omega,trivial⟩ (by omega) (Can.sub (by simp [go_sem]) ?_)
    rw [List.take_succ_eq_append_getElem hlt,List.foldl_append]
    simp [go_sem]
  · obtain rfl:i=as.length:=by have:=of_decide_eq_false hc;omega
    rw [List.take_length]
    refine qAE (k:=4) (by rfl) (by simp [go_sem]) (GCore.isAgg _) (by decide) ?_;simp only [go_sem]
    exact qA7 (.refl (by simp [go_sem]))
theorem c758 {x:GCore} (hz:x.sz≤1048576) (ho:x.ok=true):Pure Gm 758 [x.enc] (.int .i64 (redK x)):=by
  refine Pure.intro [] [] g758 (by kernel_rfl) rfl (by simp [AV.trees,AV.tree,go_sem]) rfl ?_
  simp only [F758,qAC,go_sem]
  have hL:=x.len_sz
  refine qAN GCore.ln ?_
  simp only [go_sem]
  refine qAA ?_ ?_<;>intro hc<;>simp only [hc,go_sem]
  · have:x.Kids=[]:=List.length_eq_zero_iff.1 (by have:=of_decide_eq_true hc;omega)
    exact qAF rfl (by unfold redK;rw [this])
  have hne:¬x.Kids.length=0:=by have:=of_decide_eq_false hc;omega
  by_cases h5:x.Kind=5
  · obtain ⟨a,b,hK⟩:=qEK ((qBE ho).1 (by omega))
    have hr:redK x=if a.Kind=4 then 1 else if a.Kind=11 then 4 else 0:=by unfold redK;rw [hK];simp only [];rw [if_pos h5]
    simp only [hK,List.map_cons,List.map_nil,Option.map_some,go_sem]
    refine qAE (k:=4) (by rfl) (by simp [go_sem]) (GCore.isAgg _) (by decide) ?_;simp only [go_sem]
    rw [hr,h5]
    simp only [go_sem]
    refine qAA ?_ ?_<;>intro hc<;>simp only [hc,go_sem]
    · exact qAF rfl (by rw [if_pos (of_decide_eq_true hc)])
    rw [if_neg (of_decide_eq_false hc)]
    refine qAA ?_ ?_<;>intro hc<;>simp only [hc,go_sem]
    · exact qAF rfl (by rw [if_pos (of_decide_eq_true hc)])
    · exact qAF rfl (by rw [if_neg (of_decide_eq_false hc)])
  by_cases h3:x.Kind=3
  · obtain ⟨a,b,hK⟩:=qEK ((qBE ho).1 (by omega))
    have hr:redK x=if a.Kind=11 then 4 else if a.Kind=2 then (if b.Kind=2 then 2 else if b.Kind=11 then 4 else 0) else 0:=by unfold redK;rw [hK];simp only [];rw [if_neg h5,if_pos h3]
    have hr2:redK x=if a.Kind=2∧b.Kind=2 then 2 else if a.Kind=11 then 4 else if a.Kind=2∧b.Kind=11 then 4 else 0:=by
      rw [hr]
      by_cases e1:a.Kind=11
      · simp [e1]
      · by_cases e2:a.Kind=2
        · simp [e2]
        · simp [e1,e2]
    simp only [hK,List.map_cons,List.map_nil,Option.map_some,go_sem]
    refine qAE (k:=4) (by rfl) (by simp [go_sem]) (GCore.isAgg _) (by decide) ?_;simp only [go_sem]
    rw [hr2]
    refine qAA ?_ ?_<;>intro hc<;>simp only [hc,go_sem]
    · exact absurd (of_decide_eq_true hc) h5
    refine qAA ?_ ?_<;>intro hc<;>simp only [hc,go_sem]
    rotate_left
    · exact absurd h3 (of_decide_eq_false hc)
    simp only [hK,List.map_cons,List.map_nil,Option.map_some,go_sem]
    refine qAE (k:=4) (by rfl) (by simp [go_sem]) (GCore.isAgg _) (by decide) ?_;simp only [go_sem]
    repeat' (first | (first | (refine qAG ?_ ?_<;>intro hc<;>simp only [hc,go_sem]) | (refine qAA ?_ ?_<;>intro hc<;>simp only [hc,go_sem])) | refine qAF rfl ?_)
    all_goals (refine congrArg (AV.int IntKind.i64) ?_;simp_all<;>omega)
  obtain ⟨a,ys,hK⟩:∃a ys,x.Kids=a::ys:=by
    cases h:x.Kids with
    | nil=>rw [h] at hne;exact absurd rfl hne
    | cons a ys=>exact ⟨a,ys,rfl⟩
  simp only [hK,List.map_cons,List.map_nil,Option.map_some,go_sem]
  refine qAE (k:=4) (by rfl) (by simp [go_sem]) (GCore.isAgg _) (by decide) ?_;simp only [go_sem]
  refine qAA ?_ ?_<;>intro hc<;>simp only [hc,go_sem]
  · exact absurd (of_decide_eq_true hc) h5
  refine qAA ?_ ?_<;>intro hc<;>simp only [hc,go_sem]
  · exact absurd (of_decide_eq_true hc) h3
  by_cases h9:x.Kind=9
  · have hr:redK x=if a.Kind=8∧a.Value<(x.Data.length:Nat) then 3 else if a.Kind=11 then 4 else 0:=by unfold redK;rw [hK];simp only [];rw [if_neg h5,if_neg h3,if_pos h9]
    rw [hr]
    repeat' (first | (first | (refine qAG ?_ ?_<;>intro hc<;>simp only [hc,go_sem]) | (refine qAA ?_ ?_<;>intro hc<;>simp only [hc,go_sem])) | refine qAF rfl ?_)
    all_goals (refine congrArg (AV.int IntKind.i64) ?_;simp_all<;>omega)
  by_cases h10:x.Kind=10
  · have hr:redK x=if a.Kind=2 then 3 else if a.Kind=11 then 4 else 0:=by unfold redK;rw [hK];simp only [];rw [if_neg h5,if_neg h3,if_neg h9,if_pos h10]
    rw [hr]
    repeat' (first | (first | (refine qAG ?_ ?_<;>intro hc<;>simp only [hc,go_sem]) | (refine qAA ?_ ?_<;>intro hc<;>simp only [hc,go_sem])) | refine qAF rfl ?_)
    all_goals (refine congrArg (AV.int IntKind.i64) ?_;simp_all<;>omega)
  refine qAA ?_ ?_<;>intro hc<;>simp only [hc,go_sem]
  · exact absurd (of_decide_eq_true hc) h9
  refine qAA ?_ ?_<;>intro hc<;>simp only [hc,go_sem]
  · exact absurd (of_decide_eq_true hc) h10
  exact qAF rfl (by rw [qVJ h5 h3 h9 h10])
end Go.Ab
namespace Go.Ab
open Go
set_option maxRecDepth 10000
set_option maxHeartbeats 2000000
attribute [local simp] qBF qAT
theorem qeQ {α:Type} {f:α→Nat} {b:Nat}:∀{xs:List α},xs≠[]→maxN (fun y=>f y+b) xs=maxN f xs+b
  |[x],_=>by simp [maxN]
  | x::y::xs,_=>by
    have:=qeQ (f:=f) (b:=b) (xs:=y::xs) (by simp)
    simp only [maxN,Nat.max_def] at this⊢
    repeat' split at this
    all_goals (repeat' split)
    all_goals omega
theorem qlR {x:GCore} (h:x.ok=true):maxN (fun y=>GCore.boxes y+(if x.Kind=6 then 1 else 0)) x.Kids=x.boxes:=by
  rw [x.boxes_eq]
  by_cases e:x.Kids=[]
  · rw [e]
    have:¬x.Kind=6:=fun h6=>by
      have:=(qBE h).2 (.inr (.inl h6))
      rw [e] at this;cases this
    rw [if_neg this];rfl
  · exact qeQ e
theorem zFR (k:Int):boxI k=((if k=6 then 1 else 0:Nat):Int):=by unfold boxI;split<;>rfl
theorem zKD (x:GCore):∀(ho:x.ok=true) (hz:x.sz≤1048576) (hd:x.dep≤2097152),Pure Gm 1171 [x.enc] (.int .i64 (x.boxes:Nat)):=by
  induction x using GCore.ind with
  | _ x ih=>
  intro ho hz hd
  refine Pure.intro [] [] zMB (by kernel_rfl) rfl (by simp [AV.trees,AV.tree,go_sem]) rfl ?_
  simp only [qkO,qAC,go_sem]
  have hL:=x.len_sz
  have hbd:=x.boxes_dep
  refine qAN GCore.ln ?_
  simp only [go_sem]
  refine Sem.loop (fun i:Nat=>i≤x.Kids.length∧True) (fun i=>(⟨[(3,.int .i64 ((maxN (fun y=>GCore.boxes y+(if x.Kind=6 then 1 else 0)) (x.Kids.take i):Nat):Int)),(7,.lst 4 (x.Kids.map GCore.enc) false),(8,.int .i64 (x.Kids.length:Nat)),(9,.int .i64 (i:Nat))],[(1,x.enc)],[]⟩:VSt)) (fun i=>x.Kids.length-i) 0 (by kernel_rfl) ⟨Nat.zero_le _,by trivial⟩ (Can.sub (by simp [go_sem]) (by simp [go_sem])) ?_
  rintro i ⟨hi,hI⟩
  simp only [go_sem]
  refine qAA ?_ ?_<;>intro hc<;>simp only [hc,go_sem]
  · have hlt:i<x.Kids.length:=by have:=of_decide_eq_true hc;omega
    simp only [List.getElem?_map,List.getElem?_eq_getElem hlt,Option.map_some,go_sem]
    have hm:=List.getElem_mem hlt
    have hk:=GCore.kid_sz hm
    have hp:=GCore.dep_kid hm
    have hb:=qI6 x.Kind
    have hkb:=x.Kids[i].boxes_dep
    refine qAE (k:=4) (by rfl) (by simp [go_sem]) (GCore.isAgg _) (by decide) ?_;simp only [go_sem]
    refine qAB (ih _ hm (qBB ho hm) (by omega) (by omega)) ?_
    simp only [go_sem]
    refine qAB c566 ?_
    simp only [go_sem]
    rw [qUF,qAJ (n:=(x.Kids[i].boxes:Int)+boxI x.Kind) (by omega) (by omega)]
    have e2:max ((maxN (fun y=>GCore.boxes y+(if x.Kind=6 then 1 else 0)) (x.Kids.take i):Nat):Int) ((x.Kids[i].boxes:Int)+boxI x.Kind)=((maxN (fun y=>GCore.boxes y+(if x.Kind=6 then 1 else 0)) (x.Kids.take (i+1)):Nat):Int):=by rw [qES hlt,zFR];omega
    rw [e2]
    simp only [qAK (show i<4611686018427387904 by omega)];refine qAH (i+1) ⟨by omega, ?_⟩ (by omega) (Can.sub (by simp [go_sem]) (by simp [go_sem]))
    trivial
  · obtain rfl:i=x.Kids.length:=by have:=of_decide_eq_false hc;omega
    rw [List.take_length,qlR ho]
    exact qAF rfl rfl
theorem c385 (x:GCore):∀(hz:x.sz≤1048576),Pure Gm 385 [x.enc] (x.enc):=by
  induction x using GCore.ind with
  | _ x ih=>
  intro hz
  refine Pure.intro [] [] g385 (by kernel_rfl) rfl (by simp [AV.trees,AV.tree,go_sem]) (by simp [go_sem]) ?_
  simp only [F385,qAC,go_sem]
  have hL:=x.len_sz
  refine qAN GCore.ln ?_
  simp only [go_sem]
  refine qEX (n401 x.Data (by omega)) ?_
  simp only [go_sem]
  simp only [lay,lI,go_sem,List.nil_append,List.cons_append]
  refine qAE (k:=4) (by rfl) (by rfl) (by exact ⟨_,rfl⟩) (by decide) ?_;simp only [go_sem]
  refine Sem.loop (fun i:Nat=>i≤x.Kids.length) (fun i=>(⟨[(15,.lst 4 (x.Kids.map GCore.enc) false),(16,.int .i64 (x.Kids.length:Nat)),(17,.int .i64 (i:Nat))],[(1,x.enc),(3,.agg [.int .i64 x.Kind,.int .i64 x.Value,.slice 1 0 0 x.Data.length false,.slice 4 1 0 i false]),(2,.agg [.int .i64 0,.int .i64 0,.nils,.nils])],[.row 1 (x.Data.map encI) true,.row 4 ((x.Kids.take i).map GCore.enc) true]⟩:VSt)) (fun i=>x.Kids.length-i) 0 (by kernel_rfl) (Nat.zero_le _)
    (Can.renum [some 0,none] rfl ⟨.row rfl (VR2s.of_eq rfl (by simp [qAT])),.ph,trivial⟩ ⟨⟨_,rfl,.tree (by simp [AV.tree,go_sem])⟩,⟨_,rfl,.tree rfl⟩,⟨_,rfl,.tree rfl⟩,trivial⟩
      ⟨⟨_,rfl,.tree (by simp [go_sem])⟩,⟨_,rfl,.agg rfl (VR2s.cons (.tree rfl) (VR2s.cons (.tree rfl) (VR2s.cons (.slice rfl) (VR2s.cons (.ph rfl) VR2s.nil)))).2⟩,⟨_,rfl,.tree rfl⟩,trivial⟩) ?_
  intro i hi
  simp only [go_sem]
  refine qAA ?_ ?_<;>intro hc<;>simp only [hc,go_sem]
  · have hlt:i<x.Kids.length:=by have:=of_decide_eq_true hc;omega
    simp only [List.getElem?_map,List.getElem?_eq_getElem hlt,Option.map_some,go_sem]
    have hm:=List.getElem_mem hlt
    have hk:=GCore.kid_sz hm
    refine qAE (k:=4) (by rfl) (by simp [go_sem]) (GCore.isAgg _) (by decide) ?_;simp only [go_sem]
    refine qAB (ih _ hm (by omega)) ?_
    simp only [go_sem]
    refine qBY (el:=(x.Kids.take i).map GCore.enc) rfl rfl (by simp;omega) (by omega) ?_
    simp only [go_sem]
    simp only [qAK (show i<4611686018427387904 by omega)]
    refine qAH (i+1) (by omega) (by omega) ?_
    refine Can.renum [some 0,some 3] rfl ⟨.row rfl (VR2s.of_eq rfl (by simp [qAT])),.row rfl (VR2s.of_eq (by rw [List.take_succ_eq_append_getElem hlt,List.map_append];rfl) (qBF _)),trivial⟩ ⟨⟨_,rfl,.tree (by simp [AV.tree,go_sem])⟩,⟨_,rfl,.tree rfl⟩,⟨_,rfl,.tree rfl⟩,trivial⟩
      ⟨⟨_,rfl,.tree (by simp [go_sem])⟩,⟨_,rfl,.agg rfl (VR2s.cons (.tree rfl) (VR2s.cons (.tree rfl) (VR2s.cons (.slice rfl) (VR2s.cons (.slice rfl) VR2s.nil)))).2⟩,⟨_,rfl,.tree rfl⟩,trivial⟩
  · obtain rfl:i=x.Kids.length:=by have:=of_decide_eq_false hc;omega
    rw [List.take_length]
    refine qAE (k:=4) (by rfl) (by rfl) (by exact ⟨_,rfl⟩) (by decide) ?_;simp only [go_sem]
    have:=qFR (h:=[.row 1 (x.Data.map encI) true,.row 4 (x.Kids.map GCore.enc) true]) (k:=x.Kind) (v:=x.Value) (d:=x.Data) (ks:=x.Kids) (D:=.slice 1 0 0 x.Data.length false) (K:=.slice 4 1 0 x.Kids.length false) (Cv.row rfl (by simp) (by simp [qAT]) (by decide)) (Cv.row rfl (by simp) (qBF _) (by decide))
    rw [GCore.eta] at this
    exact qA7 this
end Go.Ab
namespace Go.Ab
open Go
set_option maxRecDepth 10000
set_option maxHeartbeats 2000000
attribute [local simp] qBF qAT
def mapV (φ:GCore→Int→GCore):GCore→Int→GCore:=GCore.fold fun x rs d=>if x.Kind=1 then φ x d else .mk x.Kind x.Value x.Data (mapK (fun i (r:Int→GCore)=>r (d+qAY x.Kind i)) rs 0)
theorem qdO (φ:GCore→Int→GCore) (x:GCore) (d:Int):mapV φ x d=if x.Kind=1 then φ x d else .mk x.Kind x.Value x.Data (mapK (fun i y=>mapV φ y (d+qAY x.Kind i)) x.Kids 0):=by
  unfold mapV;rw [GCore.fold_eq,qHL]
def zJQ (g:Nat) (cs:List AV) (φ:GCore→Int→GCore):Prop:=∀(y:GCore) (d:Int),y.Kind=1→y.ok=true→0≤d∧d≤1048576→Pure Gm g (y.enc::.int .i64 d::cs) (φ y d).enc
theorem zFY (x:GCore):∀(g:Nat) (cs:List AV) (φ:GCore→Int→GCore) (d:Int) (ht:AV.trees cs=true) (hp:zJQ g cs φ) (ho:x.ok=true) (hz:x.sz≤1048576) (hd:0≤d∧d+x.dep≤1048576),Pure Gm 1316 [x.enc,.int .i64 d,.fn g cs] ((mapV φ x d).enc):=by
  induction x using GCore.ind with
  | _ x ih=>
  intro g cs φ d ht hp ho hz hd
  refine Pure.intro [] [] zMG (by kernel_rfl) rfl (by simp [AV.trees,AV.tree,go_sem,ht]) (by simp [go_sem]) ?_
  simp only [qkT,qAC,go_sem]
  have hL:=x.len_sz
  have hres:=qdO φ x d
  refine qAN GCore.ln ?_
  simp only [go_sem]
  refine qAA ?_ ?_<;>intro hc<;>simp only [hc,go_sem]
  · have h1:=of_decide_eq_true hc
    rw [if_pos h1] at hres
    refine qAB (hp x d h1 ho (by omega)) ?_
    simp only [go_sem]
    refine qAE (k:=4) (by rfl) (by simp [go_sem]) (GCore.isAgg _) (by decide) ?_;simp only [go_sem]
    rw [hres]
    exact qA7 (.refl (by simp [go_sem]))
  rw [if_neg (of_decide_eq_false hc)] at hres
  refine qEX (n401 x.Data (by omega)) ?_
  simp only [go_sem]
  simp only [lay,lI,go_sem,List.nil_append,List.cons_append]
  refine qAE (k:=4) (by rfl) (by rfl) (by exact ⟨_,rfl⟩) (by decide) ?_;simp only [go_sem]
  refine Sem.loop (fun i:Nat=>i≤x.Kids.length) (fun i=>(⟨[(1,.int .i64 d),(2,.fn g cs),(26,.lst 4 (x.Kids.map GCore.enc) false),(27,.int .i64 (x.Kids.length:Nat)),(28,.int .i64 (i:Nat))],[(3,x.enc),(7,.agg [.int .i64 x.Kind,.int .i64 x.Value,.slice 1 0 0 x.Data.length false,.slice 4 1 0 i false]),(6,.agg [.int .i64 0,.int .i64 0,.nils,.nils])],[.row 1 (x.Data.map encI) true,.row 4 ((mapK (fun i y=>mapV φ y (d+qAY x.Kind i)) (x.Kids.take i) 0).map GCore.enc) true]⟩:VSt)) (fun i=>x.Kids.length-i) 0 (by kernel_rfl) (Nat.zero_le _)
    (Can.renum [some 0,none] rfl ⟨.row rfl (VR2s.of_eq rfl (by simp [qAT])),.ph,trivial⟩ ⟨⟨_,rfl,.tree rfl⟩,⟨_,rfl,.tree (by simp [AV.tree,ht])⟩,⟨_,rfl,.tree (by simp [AV.tree,go_sem])⟩,⟨_,rfl,.tree rfl⟩,⟨_,rfl,.tree rfl⟩,trivial⟩
      ⟨⟨_,rfl,.tree (by simp [go_sem])⟩,⟨_,rfl,.agg rfl (VR2s.cons (.tree rfl) (VR2s.cons (.tree rfl) (VR2s.cons (.slice rfl) (VR2s.cons (.ph rfl) VR2s.nil)))).2⟩,⟨_,rfl,.tree rfl⟩,trivial⟩) ?_
  intro i hi
  simp only [go_sem]
  refine qAA ?_ ?_<;>intro hc<;>simp only [hc,go_sem]
  · have hlt:i<x.Kids.length:=by have:=of_decide_eq_true hc;omega
    simp only [List.getElem?_map,List.getElem?_eq_getElem hlt,Option.map_some,go_sem]
    have hm:=List.getElem_mem hlt
    have hk:=GCore.kid_sz hm
    have hkd:=GCore.dep_kid hm
    have hb:=qCT x.Kind i
    refine qAE (k:=4) (by rfl) (by simp [go_sem]) (GCore.isAgg _) (by decide) ?_;simp only [go_sem]
    refine qAB qhT ?_
    simp only [go_sem]
    rw [qAJ (n:=d+qAY x.Kind i) (by omega) (by omega)]
    refine qAB (ih _ hm g cs φ (d+qAY x.Kind i) ht hp (qBB ho hm) (by omega) (by omega)) ?_
    simp only [go_sem]
    refine qBY (el:=(mapK (fun i y=>mapV φ y (d+qAY x.Kind i)) (x.Kids.take i) 0).map GCore.enc) rfl rfl (by simp [qED];omega) (by omega) ?_
    simp only [go_sem]
    simp only [qAK (show i<4611686018427387904 by omega)]
    refine qAH (i+1) (by omega) (by omega) ?_
    refine Can.renum [some 0,some 3] rfl ⟨.row rfl (VR2s.of_eq rfl (by simp [qAT])),.row rfl (VR2s.of_eq (by rw [qF9 hlt,Nat.zero_add];simp) (qBF _)),trivial⟩ ⟨⟨_,rfl,.tree rfl⟩,⟨_,rfl,.tree (by simp [AV.tree,ht])⟩,⟨_,rfl,.tree (by simp [AV.tree,go_sem])⟩,⟨_,rfl,.tree rfl⟩,⟨_,rfl,.tree rfl⟩,trivial⟩
      ⟨⟨_,rfl,.tree (by simp [go_sem])⟩,⟨_,rfl,.agg rfl (VR2s.cons (.tree rfl) (VR2s.cons (.tree rfl) (VR2s.cons (.slice rfl) (VR2s.cons (.slice rfl) VR2s.nil)))).2⟩,⟨_,rfl,.tree rfl⟩,trivial⟩
  · obtain rfl:i=x.Kids.length:=by have:=of_decide_eq_false hc;omega
    rw [List.take_length]
    refine qAE (k:=4) (by rfl) (by rfl) (by exact ⟨_,rfl⟩) (by decide) ?_;simp only [go_sem]
    rw [hres]
    exact qA7 (qFR (d:=x.Data) (D:=.slice 1 0 0 x.Data.length false) (K:=.slice 4 1 0 x.Kids.length false) (Cv.row rfl (by simp) (by simp [qAT]) (by decide)) (Cv.row rfl (by simp [qED]) (qBF _) (by decide)))
end Go.Ab
namespace Go.Ab
open Go
set_option maxRecDepth 10000
set_option maxHeartbeats 2000000
attribute [local simp] qBF qAT
theorem qdN {α β:Type} {f g:Nat→α→β}:∀{xs:List α} {k:Nat},(∀x∈xs,∀k,f k x=g k x)→mapK f xs k=mapK g xs k
  |[],_,_=>rfl
  | x::xs,k,h=>by simp only [mapK];rw [h x (by simp) k,qdN (fun y hy=>h y (by simp [hy]))]
def qVT (a f:Int) (y:GCore) (d:Int):GCore:=if d+f≤y.Value then .mk y.Kind (y.Value+a) y.Data y.Kids else y
theorem GCore.putval {y:GCore} {n:Int}:y.enc.put 1 (.int .i64 n)=some (GCore.mk y.Kind n y.Data y.Kids).enc:=by rw [GCore.enc_eq,GCore.enc_eq];rfl
theorem qf9 (a f:Int):∀(x:GCore) (d:Int),x.ok=true→mapV (qVT a f) x d=x.shift a (f+d):=GCore.ind fun x ih d ho=>by
  rw [qdO,GCore.shift_eq]
  split
  · rename_i h1
    have hk:=qVD ho h1
    unfold qVT qG8
    rw [hk]
    by_cases h:d+f≤x.Value
    · rw [if_pos h,if_pos ⟨h1,by omega⟩];rfl
    · rw [if_neg h,if_neg (fun q=>h (by omega))]
      have:=GCore.eta x
      rw [hk] at this
      rw [←this];rfl
  · rename_i h1
    unfold qG8
    rw [if_neg (fun q=>h1 q.1)]
    congr 1
    refine qdN fun y hy k=> ?_
    rw [ih y hy _ (qBB ho hy)]
    congr 1
    omega
def putF (arg:GCore) (y:GCore) (d:Int):GCore:=if y.Value=d then arg.shift d 0 else if d<y.Value then .mk y.Kind (y.Value-1) y.Data y.Kids else y
theorem zKO {y:GCore} {d a f:Int} (h1:y.Kind=1) (ho:y.ok=true) (hd:0≤d∧d≤1048576) (ha:0≤a∧a≤1048576) (hf:0≤f∧f≤1048576):Pure Gm 1462 [y.enc,.int .i64 d,.ept (.int .i64 f) 0,.ept (.int .i64 a) 0] ((qVT a f y d).enc):=by
  refine Pure.intro [] [] zMZ (by kernel_rfl) rfl (by simp [AV.trees,AV.tree,go_sem]) (by simp [go_sem]) ?_
  simp only [qlC,qAC,go_sem]
  have hv:=qeU ho
  unfold qJV inI at hv
  simp [h1] at hv
  refine qAN GCore.ln ?_
  simp only [go_sem]
  rw [qAJ (n:=d+f) (by omega) (by omega)]
  unfold qVT
  refine qAA ?_ ?_<;>intro hc<;>simp only [hc,go_sem]
  · rw [if_pos (by have:=of_decide_eq_true hc;omega),qAJ (n:=y.Value+a) (by omega) (by omega)]
    refine qKO (by rfl) GCore.putval ?_
    simp only [go_sem]
    refine qAE (k:=4) (by rfl) (by simp [go_sem]) (GCore.isAgg _) (by decide) ?_;simp only [go_sem]
    exact qA7 (.refl (by simp [go_sem]))
  · rw [if_neg (by have:=of_decide_eq_false hc;omega)]
    refine qAE (k:=4) (by rfl) (by simp [go_sem]) (GCore.isAgg _) (by decide) ?_;simp only [go_sem]
    exact qA7 (.refl (by simp [go_sem]))
theorem zKH {x:GCore} {a f:Int} (ho:x.ok=true) (hz:x.sz≤1048576) (hd:x.dep≤1048576) (ha:0≤a∧a≤1048576) (hf:0≤f∧f≤1048576):Pure Gm 1318 [x.enc,.int .i64 a,.int .i64 f] ((x.shift a f).enc):=by
  refine Pure.intro [4,5] [] zMI (by kernel_rfl) rfl (by simp [AV.trees,AV.tree,go_sem]) (by simp [go_sem]) ?_
  simp only [qkV,qAC,go_sem]
  refine qAN GCore.ln ?_
  simp only [go_sem]
  refine qCF rfl ?_
  simp only [go_sem]
  refine qCF rfl ?_
  simp only [go_sem]
  simp only [go_sem,List.nil_append,List.cons_append,List.set_cons_zero,List.set_cons_succ]
  refine qAB (zFY x 1462 [.ept (.int .i64 f) 0,.ept (.int .i64 a) 0] (qVT a f) 0 rfl (fun y d h1 ho hd=>zKO h1 ho hd ha hf) ho hz (by omega)) ?_
  simp only [go_sem]
  refine qAE (k:=4) (by rfl) (by simp [go_sem]) (GCore.isAgg _) (by decide) ?_;simp only [go_sem]
  rw [qf9 a f x 0 ho,Int.add_zero]
  exact qA7 (.refl (by simp [go_sem]))
theorem zKG {y arg:GCore} {d:Int} (h1:y.Kind=1) (ho:y.ok=true) (hd:0≤d∧d≤1048576) (hao:arg.ok=true) (haz:arg.sz≤1048576) (had:arg.dep≤1048576):Pure Gm 1317 [y.enc,.int .i64 d,.ept arg.enc 0] ((putF arg y d).enc):=by
  refine Pure.intro [] [] zMH (by kernel_rfl) rfl (by simp [AV.trees,AV.tree,go_sem]) (by simp [go_sem]) ?_
  simp only [qkU,qAC,go_sem]
  have hv:=qeU ho
  unfold qJV inI at hv
  simp [h1] at hv
  refine qAN GCore.ln ?_
  simp only [go_sem]
  unfold putF
  refine qAA ?_ ?_<;>intro hc<;>simp only [hc,go_sem]
  · rw [if_pos (of_decide_eq_true hc)]
    refine qAB (zKH hao haz had hd (by omega)) ?_
    simp only [go_sem]
    refine qAE (k:=4) (by rfl) (by simp [go_sem]) (GCore.isAgg _) (by decide) ?_;simp only [go_sem]
    exact qA7 (.refl (by simp [go_sem]))
  rw [if_neg (of_decide_eq_false hc)]
  refine qAA ?_ ?_<;>intro hc<;>simp only [hc,go_sem]
  · rw [if_pos (by have:=of_decide_eq_true hc;omega),qAJ (n:=y.Value-1) (by omega) (by omega)]
    refine qKO (by rfl) GCore.putval ?_
    simp only [go_sem]
    refine qAE (k:=4) (by rfl) (by simp [go_sem]) (GCore.isAgg _) (by decide) ?_;simp only [go_sem]
    exact qA7 (.refl (by simp [go_sem]))
  · rw [if_neg (by have:=of_decide_eq_false hc;omega)]
    refine qAE (k:=4) (by rfl) (by simp [go_sem]) (GCore.isAgg _) (by decide) ?_;simp only [go_sem]
    exact qA7 (.refl (by simp [go_sem]))
theorem qpG {x:GCore} (h:x.ok=true) (hk:x.Kind=1):x.Data=[]:=by
  have h:=qDV h
  unfold qB3 inI at h
  simp only [Bool.and_eq_true,decide_eq_true_eq] at h
  obtain ⟨⟨⟨_,h1,h2⟩,_⟩,_⟩:=h
  simp [shp,hk] at h1 h2
  exact h2
theorem qmD (arg:GCore):∀(x:GCore) (d:Int),x.ok=true→mapV (putF arg) x d=GCore.put arg x d:=GCore.ind fun x ih d ho=>by
  rw [qdO,GCore.put_eq]
  split
  · rename_i h1
    have hk:=qVD ho h1
    have hd:=qpG ho h1
    unfold putF
    split
    · rfl
    rename_i h2
    have e:GCore.mk 1 x.Value [] []=x:=by
      have:=GCore.eta x
      rwa [hk,hd,h1] at this
    unfold putV
    split
    · rename_i h3
      rw [h1,hk,hd]
    · rename_i h3
      exact e.symm
  · congr 1
    exact qdN fun y hy k=>ih y hy _ (qBB ho hy)
theorem c992 {x arg:GCore} (ho:x.ok=true) (hz:x.sz≤1048576) (hd:x.dep≤1048576) (hao:arg.ok=true) (haz:arg.sz≤1048576) (had:arg.dep≤1048576):Pure Gm 992 [x.enc,arg.enc] ((GCore.put arg x 0).enc):=by
  refine Pure.intro [3] [] g992 (by kernel_rfl) rfl (by simp [AV.trees,AV.tree,go_sem]) (by simp [go_sem]) ?_
  simp only [F992,qAC,go_sem]
  refine qAN GCore.ln ?_
  simp only [go_sem]
  refine qCF GCore.ln ?_
  simp only [go_sem]
  simp only [go_sem,List.nil_append,List.cons_append,List.set_cons_zero,List.set_cons_succ]
  refine qAB (zFY x 1317 [.ept arg.enc 0] (putF arg) 0 (by simp [AV.trees,AV.tree,go_sem]) (fun y d h1 ho hd=>zKG h1 ho hd hao haz had) ho hz (by omega)) ?_
  simp only [go_sem]
  refine qAE (k:=4) (by rfl) (by simp [go_sem]) (GCore.isAgg _) (by decide) ?_;simp only [go_sem]
  rw [qmD arg x 0 ho]
  exact qA7 (.refl (by simp [go_sem]))
end Go.Ab
namespace Go.Ab
open Go
set_option maxRecDepth 10000
set_option maxHeartbeats 2000000
attribute [local simp] qBF qAT
@[go_sem] theorem d21:decide ((2:Int)=1)=false:=nr rfl
@[go_sem] theorem d31:decide ((3:Int)=1)=false:=nr rfl
@[go_sem] theorem d32:decide ((3:Int)=2)=false:=nr rfl
@[go_sem] theorem d41:decide ((4:Int)=1)=false:=nr rfl
@[go_sem] theorem d42:decide ((4:Int)=2)=false:=nr rfl
@[go_sem] theorem d43:decide ((4:Int)=3)=false:=nr rfl
theorem s769 {h:List AObj} {xs:List GCore} {K:AV→List AObj→Prop} (hne:xs≠[]) (hl:xs.length≤4194304) (hK:K (.slice 4 h.length 0 xs.length false) (h++[.row 4 (xs.map GCore.enc) true])):qAZ Gm 769 [.lst 4 (xs.map GCore.enc) false] h K:=by
  refine qAZ.run [] [] g769 (by kernel_rfl) rfl ?_
  match xs,hne with
  | x::xs,_=>
  simp only [F769,qUH,qAC,List.map_cons,go_sem]
  refine qI5 Els.lst (by simp only [List.length_cons,List.length_map] at hl⊢;omega) ?_
  simp only [go_sem]
  simpa using hK
theorem zKS {b:GBook} {x a c k:GCore} (hx:x.valid=true) (hK:x.Kids=[a,c]) (hk:a.Kids=[k]):Pure Gm 759 [b.enc,.int .i64 1,x.enc] ((GCore.put c k 0).enc):=by
  refine Pure.intro [] [] g759 (by kernel_rfl) rfl (by simp [AV.trees,AV.tree,go_sem]) (by simp [go_sem]) ?_
  simp only [F759,qAC,go_sem]
  have ham:a∈x.Kids:=by rw [hK];simp
  have hcm:c∈x.Kids:=by rw [hK];simp
  have hkm:k∈a.Kids:=by rw [hk];simp
  obtain ⟨c1,c2,c3,c4,c5⟩:=qA4 (qA1 hx hcm)
  obtain ⟨k1,k2,k3,k4,k5⟩:=qA4 (qA1 (qA1 hx ham) hkm)
  refine qAN rfl ?_;simp only [go_sem]
  refine qAN GCore.ln ?_
  simp only [go_sem]
  replace hK:=And.intro hK hk
  simp only [hK,List.map_cons,List.map_nil,Option.map_some,go_sem]
  refine qAB (c992 k1 (by omega) (by omega) c1 (by omega) (by omega)) ?_
  simp only [go_sem]
  refine qAE (k:=4) (by rfl) (by simp [go_sem]) (GCore.isAgg _) (by decide) ?_;simp only [go_sem]
  exact qA7 (.refl (by simp [go_sem]))
theorem zKT {b:GBook} {x a c:GCore} (hK:x.Kids=[a,c]):Pure Gm 759 [b.enc,.int .i64 2,x.enc] ((GCore.mk 2 (opI x.Value a.Value c.Value) [] []).enc):=by
  refine Pure.intro [] [] g759 (by kernel_rfl) rfl (by simp [AV.trees,AV.tree,go_sem]) (by simp [go_sem]) ?_
  simp only [F759,qAC,go_sem]
  refine qAN rfl ?_;simp only [go_sem]
  refine qAN GCore.ln ?_
  simp only [go_sem]
  simp only [hK,List.map_cons,List.map_nil,Option.map_some,go_sem]
  refine qAB zJ1 ?_
  simp only [go_sem]
  refine qAB c726 ?_
  simp only [go_sem]
  refine qAE (k:=4) (by rfl) (by simp [go_sem]) (GCore.isAgg _) (by decide) ?_;simp only [go_sem]
  exact qA7 (.refl (by simp [go_sem]))
theorem zKU {b:GBook} {x a:GCore} (ho:x.ok=true) (hz:x.sz≤1048576) (hK:x.Kids=[a]) (hr:redK x=3):Pure Gm 759 [b.enc,.int .i64 3,x.enc] ((qDU (redD x) a.Kids).enc):=by
  refine Pure.intro [] [] g759 (by kernel_rfl) rfl (by simp [AV.trees,AV.tree,go_sem]) (by simp [go_sem]) ?_
  simp only [F759,qAC,go_sem]
  have ham:a∈x.Kids:=by rw [hK];simp
  have haz:=GCore.kid_sz ham
  have hal:=a.len_sz
  have hd:x.Data.length<9223372036854775808:=by have:=x.sz_eq;omega
  obtain ⟨y,hK',h9 | h10⟩:=red3 ho hr
  · rw [hK'] at hK;cases hK
    have hK:=hK'
    refine qAN rfl ?_;simp only [go_sem]
    refine qAN GCore.ln ?_
    simp only [go_sem]
    refine qAA ?_ ?_<;>intro hc<;>simp only [hc,go_sem]
    rotate_left
    · exact absurd h9.1 (of_decide_eq_false hc)
    obtain ⟨n,hV⟩:∃n:Nat,a.Value=n:=⟨a.Value.toNat,by omega⟩
    have hlt:n<x.Data.length:=by omega
    have hrd:redD x=x.Data[n]:=by
      unfold redD;rw [hK];simp only [];rw [if_neg (by omega),hV];simp [hlt]
    replace hK:=And.intro hK hV
    simp only [hK,List.map_cons,List.map_nil,Option.map_some,go_sem]
    simp only [List.getElem?_map,List.getElem?_eq_getElem hlt,Option.map_some,go_sem]
    simp only [encI,go_sem]
    simp only [hK,List.map_cons,List.map_nil,Option.map_some,go_sem]
    refine qAB (zJ2 (by omega)) ?_
    simp only [go_sem]
    refine qAE (k:=4) (by rfl) (by simp [go_sem]) (GCore.isAgg _) (by decide) ?_;simp only [go_sem]
    rw [hrd]
    exact qA7 (.refl (by simp [go_sem]))
  · rw [hK'] at hK;cases hK
    have hK:=hK'
    obtain ⟨d,e,hD⟩:=qEK h10.2.2
    have hrd:redD x=if a.Value=0 then e else d:=by
      unfold redD;rw [hK];simp only [];rw [if_pos h10.1,hD];rfl
    have hyk:a.Kids=[]:=qm8 (qBB ho ham) h10.2.1
    refine qAN rfl ?_;simp only [go_sem]
    refine qAN GCore.ln ?_
    simp only [go_sem]
    refine qAA ?_ ?_<;>intro hc<;>simp only [hc,go_sem]
    · have:=of_decide_eq_true hc;omega
    replace hK:=And.intro hK hD
    simp only [hK,List.map_cons,List.map_nil,Option.map_some,go_sem]
    refine qAB c566 ?_
    simp only [go_sem]
    rw [hyk,hrd]
    by_cases h0:a.Value=0
    · rw [if_pos h0]
      simp only [h0,hD,List.map_cons,List.map_nil,go_sem]
      simp only [Option.map_some,encI,go_sem]
      refine qAB qo1 ?_
      simp only [go_sem]
      refine qAE (k:=4) (by rfl) (by simp [go_sem]) (GCore.isAgg _) (by decide) ?_;simp only [go_sem]
      exact qA7 (.refl (by simp [go_sem]))
    · rw [if_neg h0]
      simp only [show decide (a.Value=0)=false from decide_eq_false h0,go_sem]
      simp only [Option.map_some,encI,go_sem]
      refine qAB qo1 ?_
      simp only [go_sem]
      refine qAE (k:=4) (by rfl) (by simp [go_sem]) (GCore.isAgg _) (by decide) ?_;simp only [go_sem]
      exact qA7 (.refl (by simp [go_sem]))
theorem zKV {b:GBook} {x a c:GCore} {n:Nat} (ho:x.ok=true) (hz:x.sz≤1048576) (h5:x.Kind=5) (hK:x.Kids=[a,c]) (h11:a.Kind=11) (hV:a.Value=n) (hlt:n<b.Defs.length):Pure Gm 759 [b.enc,.int .i64 4,x.enc] ((appC b.Defs[n] c).enc):=by
  refine Pure.intro [] [] g759 (by kernel_rfl) rfl (by simp [AV.trees,AV.tree,go_sem]) (by simp [go_sem]) ?_
  simp only [F759,qAC,go_sem]
  refine qAN rfl ?_;simp only [go_sem]
  refine qAN GCore.ln ?_
  simp only [go_sem]
  refine qAS (s769 (by rw [hK];simp) (by rw [hK];simp) ?_)
  simp only [go_sem]
  refine qAE (k:=4) (by rfl) (by rfl) (by exact ⟨_,rfl⟩) (by decide) ?_;simp only [go_sem]
  have e11:decide (a.Kind=11)=true:=decide_eq_true h11
  replace hK:=And.intro hK hV
  simp only [hK,List.map_cons,List.map_nil,Option.map_some,go_sem]
  simp only [e11,go_sem]
  refine qAB c566 ?_
  simp only [go_sem]
  simp only [hK,List.map_cons,List.map_nil,Option.map_some,go_sem]
  simp only [List.getElem?_map,List.getElem?_eq_getElem hlt,Option.map_some,go_sem]
  rw [qUY (by omega) (by omega)]
  simp only [go_sem]
  refine qD3 (by simp [go_sem]) rfl rfl GCore.putcore ?_
  simp only [go_sem]
  refine qAE (k:=4) (by rfl) (by rfl) (by exact ⟨_,rfl⟩) (by decide) ?_;simp only [go_sem]
  have hn:=qDV ho
  unfold qB3 qJV inI at hn
  simp [shp,h5] at hn
  have e:appC b.Defs[n] c=GCore.mk x.Kind x.Value x.Data [b.Defs[n],c]:=by
    unfold appC;rw [h5,hn.1.2,hn.1.1.2]
  rw [e]
  exact qA7 (qGP rfl rfl)
end Go.Ab
namespace Go.Ab
open Go
set_option maxRecDepth 10000
set_option maxHeartbeats 2000000
attribute [local simp] qBF qAT
def qJ1 (p:Bool):AV:=.bool p
theorem qGI (I:List Bool):AV.trees (I.map qJ1)=true:=qA0 (enc:=qJ1) (fun _=>rfl) I
attribute [local simp] qGI
def simE (b:GBook) (lim:Int) (I:List Bool):AV:=.agg [.lst 4 (b.Defs.map GCore.enc) false,.int .i64 lim,.lst 1 (I.map qJ1) false]
@[go_sem] theorem zSU {b:GBook} {lim:Int} {I:List Bool}:(simE b lim I).part 0 (some 1)=some b.enc:=nr rfl
@[go_sem] theorem zQQ {b:GBook} {lim:Int} {I:List Bool}:(simE b lim I).part 0 none=some (.lst 4 (b.Defs.map GCore.enc) false):=nr rfl
@[go_sem] theorem zSV {b:GBook} {lim:Int} {I:List Bool}:(simE b lim I).part 2 none=some (.lst 1 (I.map qJ1) false):=nr rfl
@[go_sem] theorem zSW {b:GBook} {lim:Int} {I:List Bool}:(simE b lim I).tree=true:=by simp [simE,AV.tree,AV.trees,qBF,qGI]
def letR (x c:GCore) (l:Int):GCore×Bool:=if (letC x l).2=0 then (GCore.put (letC x l).1 c 0,true) else (qAX,false)
theorem qdG {h:List AObj} {y:GCore×Bool} (e:y=(qAX,false)):Fin (some [.agg [.int .i64 0,.int .i64 0,.nils,.nils],.bool false]) h (.tup [y.1.enc,.bool y.2]):=by
  subst e;exact qCQ (cv2 qCB rfl)
theorem zF7 {h:List AObj} {x:GCore} {p:Bool} {y:GCore×Bool} (e:y=(x,p)):Fin (some [x.enc,.bool p]) h (.tup [y.1.enc,.bool y.2]):=by
  subst e;exact qCQ (cv2 (.refl (by simp [go_sem])) rfl)
theorem zKE {b:GBook} {lim:Int} {I:List Bool} {x a c:GCore} {l:Int} (hx:x.valid=true) (h7:x.Kind=7) (hK:x.Kids=[a,c]) (hs:lvOk x l=true) (hl:0≤l∧l≤1000):Pure Gm 1172 [.ept (simE b lim I) 0,x.enc,.int .i64 l] (.tup [(letR x c l).1.enc,.bool (letR x c l).2]):=by
  refine Pure.intro [] [] zMC (by kernel_rfl) rfl (by simp [AV.trees,AV.tree,go_sem]) (by simp [AV.tree,AV.trees,go_sem]) ?_
  simp only [qkP,qAC,go_sem]
  have ham:a∈x.Kids:=by rw [hK];simp
  have hcm:c∈x.Kids:=by rw [hK];simp
  have hav:=qA1 hx ham
  have hcv:=qA1 hx hcm
  obtain ⟨a1,a2,a3,a4,a5⟩:=qA4 hav
  obtain ⟨c1,c2,c3,c4,c5⟩:=qA4 hcv
  have hr:letC x l=let1 a (c.levels 0 l) l:=by unfold letC;rw [hK]
  have hlv:(match c.levels 0 l with |[]=>true | n::_=>decide (n=l) || decide (n=l+1))=true:=by
    have:=hs
    unfold lvOk at this
    rw [if_neg (by omega),if_pos h7,hK] at this
    simp only [List.getElem?_cons_succ,List.getElem?_cons_zero] at this
    rw [lv7,Bool.and_eq_true] at this
    exact this.2
  have ok:∀{h:List AObj} {y:GCore},let1 a (c.levels 0 l) l=(y,0)→Fin (some [(GCore.put y c 0).enc,.bool true]) h (.tup [(letR x c l).1.enc,.bool (letR x c l).2]):=fun e=>zF7 (by unfold letR;rw [hr,e,if_pos rfl])
  have bad:∀{h:List AObj},let1 a (c.levels 0 l) l=(qAX,3)→Fin (some [.agg [.int .i64 0,.int .i64 0,.nils,.nils],.bool false]) h (.tup [(letR x c l).1.enc,.bool (letR x c l).2]):=fun e=>qdG (by unfold letR;rw [hr,e];rfl)
  refine qAN GCore.ln ?_
  simp only [go_sem]
  simp only [hK,List.map_cons,List.map_nil,Option.map_some,go_sem]
  refine qAE (k:=4) (by rfl) (by simp [go_sem]) (GCore.isAgg _) (by decide) ?_;simp only [go_sem]
  refine qAE (k:=4) (by rfl) (by simp [go_sem]) (GCore.isAgg _) (by decide) ?_;simp only [go_sem]
  refine qAE (k:=4) (by rfl) (by simp [go_sem]) (GCore.isAgg _) (by decide) ?_;simp only [go_sem]
  have hacc:=qoU c 0 l [] c1 (by omega) (by omega) (by omega) (by simp;omega)
  have hll:=GCore.levels_len c 0 l
  rw [List.nil_append] at hacc
  generalize c.levels 0 l=L at hlv hacc hll ok bad hr
  by_cases h6:a.Kind=6
  · obtain ⟨k,hk⟩:=qEJ ((qBE a1).2 (by omega))
    have hkm:k∈a.Kids:=by rw [hk];simp
    obtain ⟨k1,k2,k3,k4,k5⟩:=qA4 (qA1 hav hkm)
    have hk0:kid0 a=k:=by unfold kid0;rw [hk];rfl
    refine qAA ?_ ?_<;>intro hc<;>simp only [hc,go_sem]
    rotate_left
    · exact absurd h6 (of_decide_eq_false hc)
    replace hK:=And.intro hK hk
    simp only [hK,List.map_cons,List.map_nil,Option.map_some,go_sem]
    refine qKO GCore.ln GCore.putcore ?_
    simp only [go_sem]
    refine qCW hacc rfl ?_
    intro h' id' hG
    simp only [go_sem]
    refine qAA ?_ ?_<;>intro hc<;>simp only [hc,go_sem]
    · refine qAB (c992 c1 (by omega) (by omega) a1 (by omega) (by omega)) ?_
      simp only [go_sem]
      refine qAE (k:=4) (by rfl) (by simp [go_sem]) (GCore.isAgg _) (by decide) ?_;simp only [go_sem]
      exact ok (by unfold let1;rw [if_pos (by have:=of_decide_eq_true hc;omega)])
    have h0:¬L.length=0:=by have:=of_decide_eq_false hc;omega
    refine qAA ?_ ?_<;>intro hc<;>simp only [hc,go_sem]
    · refine qAB (c992 c1 (by omega) (by omega) k1 (by omega) (by omega)) ?_
      simp only [go_sem]
      refine qAE (k:=4) (by rfl) (by simp [go_sem]) (GCore.isAgg _) (by decide) ?_;simp only [go_sem]
      exact ok (by unfold let1;rw [if_neg h0,if_neg (by omega),hk0,if_pos ⟨h6,of_decide_eq_true hc⟩])
    have hn2:¬a.Kind=2:=by omega
    have hn6:¬(a.Kind=6∧(kid0 a).Kind=2):=by rw [hk0];exact fun h=>of_decide_eq_false hc h.2
    refine qAG ?_ ?_<;>intro hc<;>simp only [hc,go_sem]
    rotate_left
    · have h1:¬L.length=1:=by simp at hc;omega
      refine qAE (k:=4) (by rfl) (by rfl) (by exact ⟨_,rfl⟩) (by decide) ?_;simp only [go_sem]
      exact bad (by unfold let1;rw [if_neg h0,if_neg hn2,if_neg hn6,if_neg (fun h=>h1 h.1),if_neg (fun h=>h1 h.1)])
    have h1:=of_decide_eq_true hc
    obtain ⟨n,rfl⟩:∃n,L=[n]:=qEJ (by omega)
    simp only [go_sem]
    rw [qEA hG.at']
    simp only [go_sem]
    refine qAA ?_ ?_<;>intro hc<;>simp only [hc,go_sem]
    · have hnl:=of_decide_eq_true hc
      refine qAB (c992 c1 (by omega) (by omega) a1 (by omega) (by omega)) ?_
      simp only [go_sem]
      refine qAE (k:=4) (by rfl) (by simp [go_sem]) (GCore.isAgg _) (by decide) ?_;simp only [go_sem]
      exact ok (by unfold let1;rw [if_neg h0,if_neg hn2,if_neg hn6,if_pos ⟨rfl,by rw [hnl];rfl⟩])
    have hnl:=of_decide_eq_false hc
    have hn1:n=l+1:=by simp [hnl] at hlv;exact hlv
    have h8:¬([n].length=1∧[n].head?=some l):=by rintro ⟨_,h⟩;simp at h;exact hnl h
    refine qAG ?_ ?_<;>intro hc<;>simp only [hc,go_sem]
    rotate_left
    · exact absurd hc (by simp)
    rw [qEA hG.at']
    simp only [go_sem]
    rw [qAJ (by omega) (by omega)]
    refine qAG ?_ ?_<;>intro hc<;>simp only [hc,go_sem]
    rotate_left
    · exact absurd hn1 (by simpa using hc)
    refine qAA ?_ ?_<;>intro hc<;>simp only [hc,go_sem]
    · refine qAB (c992 c1 (by omega) (by omega) k1 (by omega) (by omega)) ?_
      simp only [go_sem]
      refine qAE (k:=4) (by rfl) (by simp [go_sem]) (GCore.isAgg _) (by decide) ?_;simp only [go_sem]
      exact ok (by unfold let1;rw [if_neg h0,if_neg hn2,if_neg hn6,if_neg h8,if_pos ⟨rfl,h6⟩,hk0])
    · exact absurd h6 (of_decide_eq_false hc)
  · refine qAA ?_ ?_<;>intro hc<;>simp only [hc,go_sem]
    · exact absurd (of_decide_eq_true hc) h6
    refine qCW hacc rfl ?_
    intro h' id' hG
    simp only [go_sem]
    refine qAA ?_ ?_<;>intro hc<;>simp only [hc,go_sem]
    · refine qAB (c992 c1 (by omega) (by omega) a1 (by omega) (by omega)) ?_
      simp only [go_sem]
      refine qAE (k:=4) (by rfl) (by simp [go_sem]) (GCore.isAgg _) (by decide) ?_;simp only [go_sem]
      exact ok (by unfold let1;rw [if_pos (by have:=of_decide_eq_true hc;omega)])
    have h0:¬L.length=0:=by have:=of_decide_eq_false hc;omega
    refine qAA ?_ ?_<;>intro hc<;>simp only [hc,go_sem]
    · refine qAB (c992 c1 (by omega) (by omega) a1 (by omega) (by omega)) ?_
      simp only [go_sem]
      refine qAE (k:=4) (by rfl) (by simp [go_sem]) (GCore.isAgg _) (by decide) ?_;simp only [go_sem]
      exact ok (by unfold let1;rw [if_neg h0,if_pos (of_decide_eq_true hc)])
    have hn2:¬a.Kind=2:=of_decide_eq_false hc
    have hn6:¬(a.Kind=6∧(kid0 a).Kind=2):=fun h=>h6 h.1
    refine qAG ?_ ?_<;>intro hc<;>simp only [hc,go_sem]
    rotate_left
    · have h1:¬L.length=1:=by simp at hc;omega
      refine qAE (k:=4) (by rfl) (by rfl) (by exact ⟨_,rfl⟩) (by decide) ?_;simp only [go_sem]
      exact bad (by unfold let1;rw [if_neg h0,if_neg hn2,if_neg hn6,if_neg (fun h=>h1 h.1),if_neg (fun h=>h1 h.1)])
    have h1:=of_decide_eq_true hc
    obtain ⟨n,rfl⟩:∃n,L=[n]:=qEJ (by omega)
    simp only [go_sem]
    rw [qEA hG.at']
    simp only [go_sem]
    refine qAA ?_ ?_<;>intro hc<;>simp only [hc,go_sem]
    · have hnl:=of_decide_eq_true hc
      refine qAB (c992 c1 (by omega) (by omega) a1 (by omega) (by omega)) ?_
      simp only [go_sem]
      refine qAE (k:=4) (by rfl) (by simp [go_sem]) (GCore.isAgg _) (by decide) ?_;simp only [go_sem]
      exact ok (by unfold let1;rw [if_neg h0,if_neg hn2,if_neg hn6,if_pos ⟨rfl,by rw [hnl];rfl⟩])
    have hnl:=of_decide_eq_false hc
    have hn1:n=l+1:=by simp [hnl] at hlv;exact hlv
    have h8:¬([n].length=1∧[n].head?=some l):=by rintro ⟨_,h⟩;simp at h;exact hnl h
    refine qAG ?_ ?_<;>intro hc<;>simp only [hc,go_sem]
    rotate_left
    · exact absurd hc (by simp)
    rw [qEA hG.at']
    simp only [go_sem]
    rw [qAJ (by omega) (by omega)]
    refine qAG ?_ ?_<;>intro hc<;>simp only [hc,go_sem]
    rotate_left
    · exact absurd hn1 (by simpa using hc)
    refine qAA ?_ ?_<;>intro hc<;>simp only [hc,go_sem]
    · exact absurd (of_decide_eq_true hc) h6
    refine qAE (k:=4) (by rfl) (by rfl) (by exact ⟨_,rfl⟩) (by decide) ?_;simp only [go_sem]
    exact bad (by unfold let1;rw [if_neg h0,if_neg hn2,if_neg hn6,if_neg h8,if_neg (fun h=>h6 h.2)])
end Go.Ab
namespace Go.Ab
open Go
set_option maxRecDepth 10000
set_option maxHeartbeats 2000000
attribute [local simp] qBF qAT qGI
def at1 (b:GBook) (I:List Bool) (x a c:GCore) (l:Int):GCore×Int:=
  if redK x=2 then (.mk 2 (opI x.Value a.Value c.Value) [] [],1) else if redK x=3 then (qDU (redD x) a.Kids,2)
  else if redK x=1 then (GCore.put c (kid0 a) 0,3)
  else if x.Kind=5∧a.Kind=11∧I.getD a.Value.toNat false=true∧l+(b.Defs.getD a.Value.toNat qAX).boxes≤8 then (appC (b.Defs.getD a.Value.toNat qAX) c,5)
  else if x.Kind=7∧(letR x c l).2=true then ((letR x c l).1,4) else (qAX,0)
def atC (b:GBook) (I:List Bool) (x:GCore) (l:Int):GCore×Int:=match x.Kids with
  |[]=>(qAX,0)
  | a::ys=>at1 b I x a (ys.headD qAX) l
theorem qfN {b:GBook} {I:List Bool} {x a:GCore} {ys:List GCore} {l:Int} (hK:x.Kids=a::ys):atC b I x l=at1 b I x a (ys.headD qAX) l:=by unfold atC;rw [hK]
theorem qlN {b:GBook} {I:List Bool} {x a c:GCore} {l:Int} (hK:x.Kids=[a,c]):atC b I x l=at1 b I x a c l:=by
  rw [qfN hK,List.headD_cons]
theorem zG6 {x a:GCore} {ys:List GCore} (h5:x.Kind=5) (hK:x.Kids=a::ys) (h11:a.Kind=11):redK x=4:=by
  unfold redK;rw [hK];simp only [];rw [if_pos h5,if_neg (by omega),if_pos h11]
theorem qKJ {h:List AObj} {x:GCore} {p:Int} {y:GCore×Int} (e:y=(x,p)):Fin (some [x.enc,.int .i64 p]) h (.tup [y.1.enc,.int .i64 y.2]):=by
  subst e;exact qCQ (cv2 (.refl (by simp [go_sem])) rfl)
theorem qGS {h:List AObj} {y:GCore×Int} (e:y=(qAX,0)):Fin (some [.agg [.int .i64 0,.int .i64 0,.nils,.nils],.int .i64 0]) h (.tup [y.1.enc,.int .i64 y.2]):=by
  subst e;exact qCQ (cv2 qCB rfl)
theorem qVK {x:GCore} (ho:x.ok=true):redK x=0∨(redK x=1∧x.Kind=5∧∃a c k,x.Kids=[a,c]∧a.Kind=4∧a.Kids=[k])∨(redK x=2∧x.Kind=3∧∃a c,x.Kids=[a,c]∧a.Kind=2∧c.Kind=2)∨(redK x=3∧∃a,x.Kids=[a])∨(redK x=4∧∃a ys,x.Kids=a::ys∧(x.Kind=5→a.Kind=11)):=by
  by_cases h5:x.Kind=5
  · obtain ⟨a,c,hK⟩:=qEK ((qBE ho).1 (by omega))
    have ham:a∈x.Kids:=by rw [hK];simp
    have hr:redK x=if a.Kind=4 then 1 else if a.Kind=11 then 4 else 0:=by unfold redK;rw [hK];simp only [];rw [if_pos h5]
    by_cases h4:a.Kind=4
    · obtain ⟨k,hk⟩:=qEJ ((qBE (qBB ho ham)).2 (.inl h4))
      exact .inr (.inl ⟨by rw [hr,if_pos h4],h5,a,c,k,hK,h4,hk⟩)
    · by_cases h11:a.Kind=11
      · exact .inr (.inr (.inr (.inr ⟨by rw [hr,if_neg h4,if_pos h11],a,[c],hK,fun _=>h11⟩)))
      · exact .inl (by rw [hr,if_neg h4,if_neg h11])
  by_cases h3:x.Kind=3
  · obtain ⟨a,c,hK⟩:=qEK ((qBE ho).1 (by omega))
    have hr:redK x=if a.Kind=11 then 4 else if a.Kind=2 then (if c.Kind=2 then 2 else if c.Kind=11 then 4 else 0) else 0:=by unfold redK;rw [hK];simp only [];rw [if_neg h5,if_pos h3]
    by_cases h11:a.Kind=11
    · exact .inr (.inr (.inr (.inr ⟨by rw [hr,if_pos h11],a,[c],hK,fun h=>absurd h h5⟩)))
    · by_cases h2:a.Kind=2
      · by_cases c2:c.Kind=2
        · exact .inr (.inr (.inl ⟨by rw [hr,if_neg h11,if_pos h2,if_pos c2],h3,a,c,hK,h2,c2⟩))
        · by_cases c11:c.Kind=11
          · exact .inr (.inr (.inr (.inr ⟨by rw [hr,if_neg h11,if_pos h2,if_neg c2,if_pos c11],a,[c],hK,fun h=>absurd h h5⟩)))
          · exact .inl (by rw [hr,if_neg h11,if_pos h2,if_neg c2,if_neg c11])
      · exact .inl (by rw [hr,if_neg h11,if_neg h2])
  by_cases h9:x.Kind=9∨x.Kind=10
  · obtain ⟨a,hK⟩:=qEJ ((qBE ho).2 (by omega))
    by_cases e0:redK x=0
    · exact .inl e0
    by_cases e3:redK x=3
    · exact .inr (.inr (.inr (.inl ⟨e3,a,hK⟩)))
    · refine .inr (.inr (.inr (.inr ⟨?_,a,[],hK,fun h=>absurd h h5⟩)))
      unfold redK at e0 e3⊢
      rw [hK] at e0 e3⊢
      simp only [] at e0 e3⊢
      rw [if_neg h5,if_neg h3] at e0 e3⊢
      split at e0<;>rename_i hh
      · rw [if_pos hh] at e3⊢
        split at e0<;>simp_all
      · rw [if_neg hh] at e3⊢
        split at e0<;>simp_all
  · exact .inl (qVJ h5 h3 (fun h=>h9 (.inl h)) (fun h=>h9 (.inr h)))
theorem c850 {b:GBook} {lim:Int} {I:List Bool} {x:GCore} {l:Int} (hb:b.ok=true) (hbz:b.sz≤1048576) (hx:x.valid=true) (hf:x.refs b.Defs.length=true) (hI:I.length=b.Defs.length) (hs:x.strat l=true) (hl:0≤l∧l≤1000):Pure Gm 850 [.ept (simE b lim I) 0,x.enc,.int .i64 l] (.tup [(atC b I x l).1.enc,.int .i64 (atC b I x l).2]):=by
  refine Pure.intro [] [] g850 (by kernel_rfl) rfl (by simp [AV.trees,AV.tree,go_sem]) (by simp [AV.tree,AV.trees,go_sem]) ?_
  simp only [F850,qAC,go_sem]
  obtain ⟨ho,hd,hsz,hz,hv⟩:=qA4 hx
  have hlv:lvOk x l=true:=by
    rw [x.strat_eq] at hs;simp only [Bool.and_eq_true] at hs;exact hs.1.2
  refine qAN GCore.ln ?_
  simp only [go_sem]
  refine qAB (c758 (by omega) ho) ?_
  simp only [go_sem]
  rcases qVK ho with h0 | ⟨h1,h5,a,c,k,hK,h4,hk⟩ | ⟨h2,h3,a,c,hK,ha,hc2⟩ | ⟨h3,a,hK⟩ | ⟨h4,a,ys,hK,h11⟩
  · rw [h0]
    simp only [show decide ((0:Int)=2)=false from rfl,show decide ((0:Int)=3)=false from rfl,show decide ((0:Int)=1)=false from rfl,show decide ((0:Int)=4)=false from rfl,go_sem]
    refine qAA ?_ ?_<;>intro hc<;>simp only [hc,go_sem]
    · have h7:=of_decide_eq_true hc
      obtain ⟨a,c,hK⟩:=qEK ((qBE ho).1 (by omega))
      refine qAB (zKE hx h7 hK hlv hl) ?_
      simp only [go_sem]
      refine qAE (k:=4) (by rfl) (by simp [go_sem]) (GCore.isAgg _) (by decide) ?_;simp only [go_sem]
      have hat:atC b I x l=if (letR x c l).2=true then ((letR x c l).1,4) else (qAX,0):=by
        rw [qlN hK];unfold at1
        rw [if_neg (by omega),if_neg (by omega),if_neg (by omega),if_neg (by omega)]
        by_cases e:(letR x c l).2=true
        · rw [if_pos ⟨h7,e⟩,if_pos e]
        · rw [if_neg (fun h=>e h.2),if_neg e]
      refine qAA ?_ ?_<;>intro hc<;>simp only [hc,go_sem]
      · refine qAE (k:=4) (by rfl) (by simp [go_sem]) (GCore.isAgg _) (by decide) ?_;simp only [go_sem]
        exact qKJ (by rw [hat,if_pos hc])
      · refine qAE (k:=4) (by rfl) (by rfl) (by exact ⟨_,rfl⟩) (by decide) ?_;simp only [go_sem]
        exact qGS (by rw [hat,if_neg (by simp [hc])])
    · have h7:=of_decide_eq_false hc
      refine qAE (k:=4) (by rfl) (by rfl) (by exact ⟨_,rfl⟩) (by decide) ?_;simp only [go_sem]
      exact qGS (by
        cases hK:x.Kids with
        | nil=>unfold atC;rw [hK]
        | cons a ys=>
          rw [qfN hK];unfold at1
          rw [if_neg (by omega),if_neg (by omega),if_neg (by omega),if_neg (fun h=>by have:=zG6 h.1 hK h.2.1;omega),if_neg (fun h=>h7 h.1)])
  · rw [h1]
    simp only [show decide ((1:Int)=2)=false from rfl,show decide ((1:Int)=3)=false from rfl,go_sem]
    refine qAB (zKS hx hK hk) ?_
    simp only [go_sem]
    refine qAE (k:=4) (by rfl) (by simp [go_sem]) (GCore.isAgg _) (by decide) ?_;simp only [go_sem]
    exact qKJ (by rw [qlN hK];unfold at1;rw [if_neg (by omega),if_neg (by omega),if_pos h1];unfold kid0;rw [hk];rfl)
  · rw [h2]
    simp only [go_sem]
    refine qAB (zKT hK) ?_
    simp only [go_sem]
    refine qAE (k:=4) (by rfl) (by simp [go_sem]) (GCore.isAgg _) (by decide) ?_;simp only [go_sem]
    exact qKJ (by rw [qlN hK];unfold at1;rw [if_pos h2])
  · rw [h3]
    simp only [show decide ((3:Int)=2)=false from rfl,go_sem]
    refine qAB (zKU ho (by omega) hK h3) ?_
    simp only [go_sem]
    refine qAE (k:=4) (by rfl) (by simp [go_sem]) (GCore.isAgg _) (by decide) ?_;simp only [go_sem]
    exact qKJ (by rw [qfN hK];unfold at1;rw [if_neg (by omega),if_pos h3])
  · rw [h4]
    simp only [show decide ((4:Int)=2)=false from rfl,show decide ((4:Int)=3)=false from rfl,show decide ((4:Int)=1)=false from rfl,go_sem]
    simp only [hK,List.map_cons,List.map_nil,Option.map_some,go_sem]
    refine qAG ?_ ?_<;>intro hc<;>simp only [hc,go_sem]
    · have h5:=of_decide_eq_true hc
      have ham:a∈x.Kids:=by rw [hK];simp
      have hav:=qHP (qBB ho ham) (qDQ hf ham) (h11 h5)
      obtain ⟨n,hV⟩:∃n:Nat,a.Value=n:=⟨a.Value.toNat,by omega⟩
      have hlt:n<b.Defs.length:=by omega
      have hltI:n<I.length:=by omega
      obtain ⟨c,hy⟩:∃c,ys=[c]:=by
        obtain ⟨u,v,hK'⟩:=qEK ((qBE ho).1 (by omega))
        rw [hK'] at hK;cases hK;exact ⟨_,rfl⟩
      subst hy
      have hat:atC b I x l=if I[n]=true∧l+b.Defs[n].boxes≤8 then (appC b.Defs[n] c,5) else (qAX,0):=by
        rw [qlN hK];unfold at1
        rw [if_neg (by omega),if_neg (by omega),if_neg (by omega),hV]
        simp only [Int.toNat_natCast,List.getD_eq_getElem?_getD,List.getElem?_eq_getElem hltI,List.getElem?_eq_getElem hlt,Option.getD_some]
        by_cases e:I[n]=true∧l+b.Defs[n].boxes≤8
        · rw [if_pos e,if_pos ⟨h5,h11 h5,e⟩]
        · rw [if_neg e,if_neg (fun h=>e h.2.2),if_neg (fun h=>by omega)]
      have hK0:=hK
      replace hK:=And.intro hK hV
      simp only [hK,List.map_cons,List.map_nil,Option.map_some,go_sem]
      simp only [List.getElem?_map,List.getElem?_eq_getElem hltI,Option.map_some,go_sem]
      simp only [qJ1,go_sem]
      have hdv:=qA4 ((qGM hb).2 _ (List.getElem_mem hlt)).1
      have hbd:=b.Defs[n].boxes_dep
      refine qAG ?_ ?_<;>intro hc<;>simp only [hc,go_sem]
      · have hi:=hc
        simp only [List.getElem?_map,List.getElem?_eq_getElem hlt,Option.map_some,go_sem]
        refine qAB (zKD b.Defs[n] hdv.1 (by omega) (by omega)) ?_
        simp only [go_sem]
        rw [qAJ (by omega) (by omega)]
        refine qAA ?_ ?_<;>intro hc<;>simp only [hc,go_sem]
        · refine qAB (zKV ho (by omega) h5 hK0 (h11 h5) hV hlt) ?_
          simp only [go_sem]
          refine qAE (k:=4) (by rfl) (by simp [go_sem]) (GCore.isAgg _) (by decide) ?_;simp only [go_sem]
          exact qKJ (by rw [hat,if_pos ⟨hi,of_decide_eq_true hc⟩])
        have hn:=of_decide_eq_false hc
        refine qAA ?_ ?_<;>intro hc<;>simp only [hc,go_sem]
        · have:=of_decide_eq_true hc;omega
        refine qAE (k:=4) (by rfl) (by rfl) (by exact ⟨_,rfl⟩) (by decide) ?_;simp only [go_sem]
        exact qGS (by rw [hat,if_neg (fun h=>hn h.2)])
      · have hn:¬I[n]=true:=by simp at hc;simp [hc]
        refine qAA ?_ ?_<;>intro hc<;>simp only [hc,go_sem]
        · have:=of_decide_eq_true hc;omega
        refine qAE (k:=4) (by rfl) (by rfl) (by exact ⟨_,rfl⟩) (by decide) ?_;simp only [go_sem]
        exact qGS (by rw [hat,if_neg (fun h=>hn h.1)])
    · have h5:¬x.Kind=5:=by simpa using hc
      have h7:¬x.Kind=7:=fun h=>by have:=qVJ (x:=x) (by omega) (by omega) (by omega) (by omega);omega
      refine qAA ?_ ?_<;>intro hc<;>simp only [hc,go_sem]
      · exact absurd (of_decide_eq_true hc) h7
      refine qAE (k:=4) (by rfl) (by rfl) (by exact ⟨_,rfl⟩) (by decide) ?_;simp only [go_sem]
      exact qGS (by rw [qfN hK];unfold at1;rw [if_neg (by omega),if_neg (by omega),if_neg (by omega),if_neg (fun h=>h5 h.1),if_neg (fun h=>h7 h.1)])
end Go.Ab
namespace Go.Ab
open Go
set_option maxRecDepth 10000
set_option maxHeartbeats 2000000
attribute [local simp] qBF qAT qGI
def qE8 (x:GCore):List (Int→GCore×Int)→Nat→Int→GCore×Int
  |[],_,_=>(qAX,0)
  | r::rs,i,l=>if (r l).2=0 then qE8 x rs (i+1) l else (.mk x.Kind x.Value x.Data (x.Kids.set i (r l).1),(r l).2)
def qEV (b:GBook) (I:List Bool):GCore→Int→GCore×Int:=GCore.fold fun x rs l=>
  if (atC b I x l).2=0 then qE8 x rs 0 (l+boxI x.Kind) else atC b I x l
theorem qT5 (b:GBook) (I:List Bool) (x:GCore) (l:Int):qEV b I x l=
    if (atC b I x l).2=0 then qE8 x (x.Kids.map (qEV b I)) 0 (l+boxI x.Kind) else atC b I x l:=by
  unfold qEV;rw [GCore.fold_eq]
theorem qJE {x:GCore} {f:GCore→Int→GCore×Int} {i:Nat} {l:Int} (h:i<x.Kids.length):
    qE8 x ((x.Kids.drop i).map f) i l=if (f x.Kids[i] l).2=0 then qE8 x ((x.Kids.drop (i+1)).map f) (i+1) l else (.mk x.Kind x.Value x.Data (x.Kids.set i (f x.Kids[i] l).1),(f x.Kids[i] l).2):=by
  rw [List.drop_eq_getElem_cons h,List.map_cons,qE8]
theorem qo6 {h:List AObj} {v:AV} {g:GCore} {p:Int} {y:GCore×Int} (hc:Cv h v g.enc) (e:y=(g,p)):Fin (some [v,.int .i64 p]) h (.tup [y.1.enc,.int .i64 y.2]):=by
  subst e;exact qCQ (cv2 hc rfl)
theorem c494 (x:GCore):∀(b:GBook) (lim:Int) (I:List Bool) (l:Int) (hb:b.ok=true) (hbz:b.sz≤1048576) (hx:x.valid=true) (hf:x.refs b.Defs.length=true) (hIl:I.length=b.Defs.length) (hs:x.strat l=true) (hl:0≤l∧l≤1000),Pure Gm 494 [.ept (simE b lim I) 0,x.enc,.int .i64 l] (.tup [(qEV b I x l).1.enc,.int .i64 (qEV b I x l).2]):=by
  induction x using GCore.ind with
  | _ x ih=>
  intro b lim I l hb hbz hx hf hIl hs hl
  refine Pure.intro [] [] g494 (by kernel_rfl) rfl (by simp [AV.trees,AV.tree,go_sem]) (by simp [AV.tree,AV.trees,go_sem]) ?_
  simp only [F494,qAC,go_sem]
  obtain ⟨ho,hd,hsz,hz,hv⟩:=qA4 hx
  have hL:=x.len_sz
  have hres:=qT5 b I x l
  have hbx:=qI6 x.Kind
  have hst:l≤8∧∀y∈x.Kids,y.strat (l+boxI x.Kind)=true:=by
    rw [x.strat_eq] at hs;simp only [Bool.and_eq_true,List.all_eq_true,decide_eq_true_eq] at hs;exact ⟨hs.1.1,hs.2⟩
  refine qAN GCore.ln ?_
  simp only [go_sem]
  refine qAB (c850 hb hbz hx hf hIl hs hl) ?_
  simp only [go_sem]
  refine qAE (k:=4) (by rfl) (by simp [go_sem]) (GCore.isAgg _) (by decide) ?_;simp only [go_sem]
  refine qAA ?_ ?_<;>intro hc<;>simp only [hc,go_sem]
  · refine qAE (k:=4) (by rfl) (by simp [go_sem]) (GCore.isAgg _) (by decide) ?_;simp only [go_sem]
    rw [if_neg (by simpa using hc)] at hres
    exact qKJ (by rw [hres])
  rw [if_pos (by simpa using hc)] at hres
  refine Sem.loop (fun i:Nat=>i≤x.Kids.length∧qEV b I x l=qE8 x ((x.Kids.drop i).map (qEV b I)) i (l+boxI x.Kind)) (fun i=>(⟨[(0,.ept (simE b lim I) 0),(2,.int .i64 l),(27,.lst 4 (x.Kids.map GCore.enc) false),(28,.int .i64 (x.Kids.length:Nat)),(29,.int .i64 (i:Nat))],[(4,x.enc),(6,.agg [.int .i64 0,.int .i64 0,.nils,.nils])],[]⟩:VSt)) (fun i=>x.Kids.length-i) 0 (by kernel_rfl) ⟨Nat.zero_le _,hres⟩ (Can.sub (by simp [go_sem]) (by simp [go_sem])) ?_
  rintro i ⟨hi,hI⟩
  simp only [go_sem]
  refine qAA ?_ ?_<;>intro hc<;>simp only [hc,go_sem]
  · have hlt:i<x.Kids.length:=by have:=of_decide_eq_true hc;omega
    simp only [List.getElem?_map,List.getElem?_eq_getElem hlt,Option.map_some,go_sem]
    have hkm:=List.getElem_mem hlt
    refine qAE (k:=4) (by rfl) (by simp [go_sem]) (GCore.isAgg _) (by decide) ?_;simp only [go_sem]
    refine qAB c566 ?_
    simp only [go_sem]
    rw [qUF,qAJ (n:=l+boxI x.Kind) (by omega) (by omega)]
    refine qAB (ih _ hkm b lim I (l+boxI x.Kind) hb hbz (qA1 hx hkm) (qDQ hf hkm) hIl (hst.2 _ hkm) (by omega)) ?_
    simp only [go_sem]
    refine qAE (k:=4) (by rfl) (by simp [go_sem]) (GCore.isAgg _) (by decide) ?_;simp only [go_sem]
    rw [qJE hlt] at hI
    refine qAA ?_ ?_<;>intro hc<;>simp only [hc,go_sem]
    · rw [if_neg (by simpa using hc)] at hI
      refine qAS (s769 (by intro e;rw [e] at hlt;simp at hlt) (by omega) ?_)
      simp only [go_sem]
      refine qAE (k:=4) (by rfl) (by rfl) (by exact ⟨_,rfl⟩) (by decide) ?_;simp only [go_sem]
      rw [qHB hlt]
      simp only [Nat.zero_add,go_sem]
      refine qD3 (by simp [go_sem]) rfl (by simp [hlt];rfl) GCore.putcore ?_
      simp only [go_sem]
      refine qAE (k:=4) (by rfl) (by rfl) (by exact ⟨_,rfl⟩) (by decide) ?_;simp only [go_sem]
      exact qo6 (qGP (by simp [List.map_set]) (by simp)) hI
    · rw [if_pos (by simpa using hc)] at hI
      simp only [qAK (show i<4611686018427387904 by omega)];refine qAH (i+1) ⟨by omega, ?_⟩ (by omega) (Can.sub (by simp [go_sem]) (by simp [go_sem]))
      exact hI
  · obtain rfl:i=x.Kids.length:=by have:=of_decide_eq_false hc;omega
    refine qAE (k:=4) (by rfl) (by rfl) (by exact ⟨_,rfl⟩) (by decide) ?_;simp only [go_sem]
    exact qGS (by rw [hI,List.drop_length];rfl)
end Go.Ab
namespace Go.Ab
open Go
set_option maxRecDepth 10000
set_option maxHeartbeats 2000000
def RW (h:List AObj) (id:Nat) (ys:List Int):List AObj:=h.set id (.row 1 (ys.map encI) true)
def gI (ys:List Int) (e:Int):Int:=ys.getD e.toNat 0
def swI (ys:List Int) (i j:Int):List Int:=(ys.set i.toNat (gI ys j)).set j.toNat (gI ys i)
theorem qpV {ys:List Int} {i j:Int}:(swI ys i j).length=ys.length:=by simp [swI]
theorem qBD {ys:List Int} {i j:Int} (hi:0≤i) (hi2:i<ys.length) (hj:0≤j) (hj2:j<ys.length):(swI ys i j).Perm ys:=by
  have h1:i.toNat<ys.length:=by omega
  have h2:j.toNat<ys.length:=by omega
  have:=List.set_set_perm h1 h2
  unfold swI gI
  rwa [List.getD_eq_getElem?_getD,List.getD_eq_getElem?_getD,List.getElem?_eq_getElem h1,List.getElem?_eq_getElem h2]
theorem qhM {h:List AObj} {id:Nat} {ys:List Int}:(RW h id ys).length=h.length:=by simp [RW]
theorem zFO {h:List AObj} {id:Nat} {ys:List Int} (hid:id<h.length):(RW h id ys)[id]?=some (.row 1 (ys.map encI) true):=by simp [RW,hid]
theorem zFP {h:List AObj} {id:Nat} {ys zs:List Int}:(RW h id ys).set id (.row 1 (zs.map encI) true)=RW h id zs:=by simp [RW]
theorem qhL {h ex:List AObj} {id:Nat} {ys:List Int} (hid:id<h.length):RW h id ys++ex=RW (h++ex) id ys:=by simp [RW,List.set_append_left,hid]
theorem zJR {h:List AObj} {id:Nat} {ys:List Int} (ho:h[id]?=some (.row 1 (ys.map encI) true)):RW h id ys=h:=qe6 ho
theorem qAR {w id len:Nat} {k:IntKind} {n:Int} (h0:0≤n) (h:n<len):idx w (some (.slice w id 0 len false)) (some (.int k n))=some (.ptr id n.toNat 0):=by rw [qUY h0 h,Nat.zero_add]
theorem qAM {h:List AObj} {id:Nat} {ys:List Int} {e:Int} (hid:id<h.length) (h0:0≤e) (he:e<ys.length):orow none 0 e.toNat (RW h id ys)[id]?=some (.int .i64 (gI ys e)):=by
  have h1:e.toNat<ys.length:=by omega
  rw [zFO hid,gI,List.getD_eq_getElem?_getD,List.getElem?_eq_getElem h1]
  simp only [orow,List.getElem?_map,List.getElem?_eq_getElem h1,Option.map_some,encI,Option.getD_some]
  rfl
section
variable {E:Ev} {ks:List Fr1} {s m:LEnv} {h:List AObj} {Q:AExit→VSt→Prop} {l:List AOper}
theorem qBW {id:Nat} {ys:List Int} {e v:Int} (hid:id<h.length) (h0:0≤e) (he:e<ys.length):
    R E (.ops l::ks) ⟨s,m,RW h id (ys.set e.toNat v)⟩ Q→Sto E 1 (some (.ptr id e.toNat 0)) (some (.int .i64 v)) l ks ⟨s,m,RW h id ys⟩ Q:=by
  intro hr
  have h1:e.toNat<ys.length:=by omega
  refine qD3 (by rfl) (zFO hid) (by rw [List.getElem?_map,List.getElem?_eq_getElem h1];rfl) (by rfl) ?_
  have hm:(ys.map encI).set e.toNat (.int .i64 v)=(ys.set e.toNat v).map encI:=by simp [List.map_set,encI]
  rw [hm,zFP];exact hr
theorem qAO {n:Int} (h: -9223372036854775808≤n) (h':n≤9223372036854775807):IntKind.i64.wrap n=n:=qAJ h h'
end
theorem zKA (a:Int):Pure Gm 1167 [.int .i64 a] (.bool false):=by
  refine Pure.intro [] [] zL7 (by kernel_rfl) rfl (by simp [AV.trees,AV.tree,go_sem]) rfl ?_
  simp only [qkK,qAC,go_sem]
  repeat' (first | (refine qAN rfl ?_;simp only [go_sem]) | (first | (refine qAG ?_ ?_<;>intro hc<;>simp only [hc,go_sem]) | (refine qAA ?_ ?_<;>intro hc<;>simp only [hc,go_sem])) | refine qAF rfl ?_ | refine qB1 (by rfl) ?_)
  all_goals (simp_all<;>omega)
theorem qEO (a b:Int):Pure Gm 1345 [.int .i64 a,.int .i64 b] (.bool (decide (a<b))):=by
  refine Pure.intro [] [] zMP (by kernel_rfl) rfl (by simp [AV.trees,AV.tree,go_sem]) rfl ?_
  simp only [qk2,qAC,go_sem]
  refine qAB (zKA _) ?_
  simp only [go_sem]
  exact qAF rfl rfl
theorem zQE {h:List AObj} {id n:Nat} {xs:List Int} {a b:Int} {K:AV→List AObj→Prop} (hid:id<h.length) (hn:xs.length=n) (hl:n≤4194304) (hab:0≤a∧a≤b∧b≤n)
    (hK:∀ys,ys.Perm xs→K (.tup []) (RW h id ys)):qAZ Gm 1339 [.slice 1 id 0 n false,.int .i64 a,.int .i64 b] (RW h id xs) K:=by
  refine qAZ.run [] [] zMJ (by kernel_rfl) rfl ?_
  simp only [qkW,qAC,go_sem]
  rw [qAO (by omega) (by omega)]
  refine Sem.loop (fun q:Int×List Int=>a+1≤q.1∧q.1≤max b (a+1)∧q.2.Perm xs) (fun q=>(⟨[(0,.slice 1 id 0 n false),(1,.int .i64 a),(2,.int .i64 b),(6,.int .i64 q.1)],[],RW h id q.2⟩:VSt)) (fun q=>(b-q.1).toNat) (a+1,xs) (by kernel_rfl) ⟨by simp only;omega,by simp only;omega,.refl _⟩ (Can.sub (by simp [go_sem]) (by simp [go_sem])) ?_
  rintro ⟨i,ys⟩ ⟨h1,h2,h3⟩
  simp only at h1 h2 h3⊢
  have hyl:=h3.length_eq
  simp only [go_sem]
  refine qAA ?_ ?_<;>intro hc<;>simp only [hc,go_sem]
  · have hib:=of_decide_eq_true hc
    refine Sem.loop (fun q:Int×List Int=>a≤q.1∧q.1≤i∧q.2.Perm xs) (fun q=>(⟨[(0,.slice 1 id 0 n false),(1,.int .i64 a),(2,.int .i64 b),(6,.int .i64 i),(7,.int .i64 q.1)],[],RW h id q.2⟩:VSt)) (fun q=>(q.1-a).toNat) (i,ys) (by kernel_rfl) ⟨by simp only;omega,by simp only;omega,h3⟩ (Can.sub (by simp [go_sem]) (by simp [go_sem])) ?_
    rintro ⟨j,zs⟩ ⟨g1,g2,g3⟩
    simp only at g1 g2 g3⊢
    have hzl:=g3.length_eq
    simp only [go_sem]
    refine qAG ?_ ?_<;>intro hc<;>simp only [hc,go_sem]
    · have hja:=of_decide_eq_true hc
      simp (disch:=omega) only [go_sem,qAO,qAR,qAM]
      refine qAB (qEO _ _) ?_
      simp only [go_sem]
      refine qAA ?_ ?_<;>intro hc<;>simp only [hc,go_sem]
      · simp (disch:=omega) only [go_sem,qAO,qAR,qAM]
        refine qBW hid (by omega) (by omega) ?_;simp (disch:=omega) only [go_sem,qAO,qAR,qAM];refine qBW hid (by omega) (by rw [List.length_set];omega) ?_;simp (disch:=omega) only [go_sem,qAO,qAR,qAM]
        refine qAH (j-1,swI zs j (j-1)) ⟨by simp only;omega,by simp only;omega,(qBD (by omega) (by omega) (by omega) (by omega)).trans g3⟩ (by simp only;omega) (Can.sub (by simp [go_sem]) (by simp [go_sem]))
      · simp (disch:=omega) only [go_sem,qAO,qAR,qAM]
        refine qAH (i+1,zs) ⟨by simp only;omega,by simp only;omega,g3⟩ (by simp only;omega) (Can.sub (by simp [go_sem]) (by simp [go_sem]))
    · simp (disch:=omega) only [go_sem,qAO,qAR,qAM]
      refine qAH (i+1,zs) ⟨by simp only;omega,by simp only;omega,g3⟩ (by simp only;omega) (Can.sub (by simp [go_sem]) (by simp [go_sem]))
  · exact hK _ h3
end Go.Ab
namespace Go.Ab
open Go
set_option maxRecDepth 10000
set_option maxHeartbeats 2000000
theorem zQI {h:List AObj} {id n:Nat} {xs:List Int} {a b:Int} {K:AV→List AObj→Prop} (hid:id<h.length) (hn:xs.length=n) (hl:n≤4194304) (hab:0≤a∧a≤b∧b≤n)
    (hK:∀ys,ys.Perm xs→K (.tup []) (RW h id ys)):qAZ Gm 1343 [.slice 1 id 0 n false,.int .i64 a,.int .i64 b] (RW h id xs) K:=by
  refine qAZ.run [] [] zMN (by kernel_rfl) rfl ?_
  simp only [qk0,qAC,go_sem]
  simp (config:={maxSteps:=2000000}) (disch:=omega) only [go_sem,qAO,qAR,qAM,Int.reduceEq]
  refine Sem.loop (fun q:Int×Int×List Int=>a≤q.1∧q.2.1≤b-1∧q.2.2.Perm xs) (fun q=>(⟨[(0,.slice 1 id 0 n false),(6,.int .i64 q.1),(7,.int .i64 q.2.1)],[],RW h id q.2.2⟩:VSt)) (fun q=>(b-q.1).toNat) (a,b-1,xs) (by kernel_rfl) ⟨(by simp only;omega),(by simp only;omega),.refl _⟩ (Can.sub (by simp [go_sem]) (by simp [go_sem])) ?_
  rintro ⟨i,j,ys⟩ ⟨h1,h2,h3⟩
  simp only at h1 h2 h3⊢
  have hyl:=h3.length_eq
  simp only [go_sem]
  refine qAA ?_ ?_<;>intro hc<;>simp only [hc,go_sem]
  · have hij:=of_decide_eq_true hc
    simp (config:={maxSteps:=2000000}) (disch:=omega) only [go_sem,qAO,qAR,qAM,Int.reduceEq]
    refine qBW hid (by omega) (by omega) ?_;simp (config:={maxSteps:=2000000}) (disch:=omega) only [go_sem,qAO,qAR,qAM,Int.reduceEq];refine qBW hid (by omega) (by rw [List.length_set];omega) ?_;simp (maxSteps:=2000000) (disch:=omega) only [go_sem,qAO,qAR,qAM,Int.reduceEq]
    refine qAH (i+1,j-1,swI ys i j) ⟨(by simp only;omega),(by simp only;omega),(qBD (by omega) (by omega) (by omega) (by omega)).trans h3⟩ (by simp only;omega) (Can.sub (by simp [go_sem]) (by simp [go_sem]))
  · exact hK _ h3
theorem zG8 {h:List AObj} {id n:Nat} {xs:List Int} {lo hi fi:Int} {K:AV→List AObj→Prop} (hid:id<h.length) (hn:xs.length=n) (hl:n≤4194304) (hab:0≤lo∧lo≤n∧0≤hi∧0≤fi∧fi+hi≤n)
    (hK:∀ys,ys.Perm xs→K (.tup []) (RW h id ys)):qAZ Gm 1476 [.slice 1 id 0 n false,.int .i64 lo,.int .i64 hi,.int .i64 fi] (RW h id xs) K:=by
  refine qAZ.run [] [] zM0 (by kernel_rfl) rfl ?_
  simp only [qlD,qAC,go_sem]
  refine Sem.loop (fun q:Int×List Int=>0≤q.1∧q.1≤n∧q.2.Perm xs) (fun q=>(⟨[(0,.slice 1 id 0 n false),(2,.int .i64 hi),(3,.int .i64 fi),(8,.int .i64 q.1)],[],RW h id q.2⟩:VSt)) (fun q=>(n-q.1).toNat) (lo,xs) (by kernel_rfl) ⟨(by simp only;omega),(by simp only;omega),.refl _⟩ (Can.sub (by simp [go_sem]) (by simp [go_sem])) ?_
  rintro ⟨i,ys⟩ ⟨h1,h2,h3⟩
  simp only at h1 h2 h3⊢
  have hyl:=h3.length_eq
  simp (config:={maxSteps:=2000000}) (disch:=omega) only [go_sem,qAO,qAR,qAM,Int.reduceEq]
  refine qAA ?_ ?_<;>intro hc<;>simp only [hc,go_sem]
  · exact hK _ h3
  have hch:=of_decide_eq_false hc
  simp (config:={maxSteps:=2000000}) (disch:=omega) only [go_sem,qAO,qAR,qAM,Int.reduceEq]
  --the greater child
  have key:∀(c:Int) (p:LEnv),c=2*i+1∨(c=2*i+2∧c<hi)→True:=fun _ _ _=>trivial
  refine qAG ?_ ?_<;>intro hc<;>simp only [hc,go_sem]
  · have hc2:=of_decide_eq_true hc
    simp (config:={maxSteps:=2000000}) (disch:=omega) only [go_sem,qAO,qAR,qAM,Int.reduceEq]
    refine qAB (qEO _ _) ?_
    simp only [go_sem]
    refine qAA ?_ ?_<;>intro hc<;>simp only [hc,go_sem]
    · simp (config:={maxSteps:=2000000}) (disch:=omega) only [go_sem,qAO,qAR,qAM,Int.reduceEq]
      refine qAB (qEO _ _) ?_
      simp only [go_sem]
      refine qAA ?_ ?_<;>intro hc<;>simp only [hc,go_sem]
      · exact hK _ h3
      · simp (config:={maxSteps:=2000000}) (disch:=omega) only [go_sem,qAO,qAR,qAM,Int.reduceEq]
        refine qBW hid (by omega) (by omega) ?_;simp (config:={maxSteps:=2000000}) (disch:=omega) only [go_sem,qAO,qAR,qAM,Int.reduceEq];refine qBW hid (by omega) (by rw [List.length_set];omega) ?_;simp (maxSteps:=2000000) (disch:=omega) only [go_sem,qAO,qAR,qAM,Int.reduceEq]
        refine qAH (2*i+1+1,swI ys (fi+i) (fi+(2*i+1+1))) ⟨(by simp only;omega),(by simp only;omega),(qBD (by omega) (by omega) (by omega) (by omega)).trans h3⟩ (by simp only;omega) (Can.sub (by simp [go_sem]) (by simp [go_sem]))
    · simp (config:={maxSteps:=2000000}) (disch:=omega) only [go_sem,qAO,qAR,qAM,Int.reduceEq]
      refine qAB (qEO _ _) ?_
      simp only [go_sem]
      refine qAA ?_ ?_<;>intro hc<;>simp only [hc,go_sem]
      · exact hK _ h3
      · simp (config:={maxSteps:=2000000}) (disch:=omega) only [go_sem,qAO,qAR,qAM,Int.reduceEq]
        refine qBW hid (by omega) (by omega) ?_;simp (config:={maxSteps:=2000000}) (disch:=omega) only [go_sem,qAO,qAR,qAM,Int.reduceEq];refine qBW hid (by omega) (by rw [List.length_set];omega) ?_;simp (maxSteps:=2000000) (disch:=omega) only [go_sem,qAO,qAR,qAM,Int.reduceEq]
        refine qAH (2*i+1,swI ys (fi+i) (fi+(2*i+1))) ⟨(by simp only;omega),(by simp only;omega),(qBD (by omega) (by omega) (by omega) (by omega)).trans h3⟩ (by simp only;omega) (Can.sub (by simp [go_sem]) (by simp [go_sem]))
  · simp (config:={maxSteps:=2000000}) (disch:=omega) only [go_sem,qAO,qAR,qAM,Int.reduceEq]
    refine qAB (qEO _ _) ?_
    simp only [go_sem]
    refine qAA ?_ ?_<;>intro hc<;>simp only [hc,go_sem]
    · exact hK _ h3
    · simp (config:={maxSteps:=2000000}) (disch:=omega) only [go_sem,qAO,qAR,qAM,Int.reduceEq]
      refine qBW hid (by omega) (by omega) ?_;simp (config:={maxSteps:=2000000}) (disch:=omega) only [go_sem,qAO,qAR,qAM,Int.reduceEq];refine qBW hid (by omega) (by rw [List.length_set];omega) ?_;simp (maxSteps:=2000000) (disch:=omega) only [go_sem,qAO,qAR,qAM,Int.reduceEq]
      refine qAH (2*i+1,swI ys (fi+i) (fi+(2*i+1))) ⟨(by simp only;omega),(by simp only;omega),(qBD (by omega) (by omega) (by omega) (by omega)).trans h3⟩ (by simp only;omega) (Can.sub (by simp [go_sem]) (by simp [go_sem]))
theorem td2 {x:Int} (h: -1≤x):0≤x.tdiv 2∧x.tdiv 2≤max x 0:=by
  by_cases h0:0≤x
  · rw [Int.tdiv_eq_ediv_of_nonneg h0];omega
  · rw [show x= -1 by omega];decide
theorem zQF {h:List AObj} {id n:Nat} {xs:List Int} {a b:Int} {K:AV→List AObj→Prop} (hid:id<h.length) (hn:xs.length=n) (hl:n≤4194304) (hab:0≤a∧a≤b∧b≤n)
    (hK:∀ys,ys.Perm xs→K (.tup []) (RW h id ys)):qAZ Gm 1340 [.slice 1 id 0 n false,.int .i64 a,.int .i64 b] (RW h id xs) K:=by
  refine qAZ.run [] [] zMK (by kernel_rfl) rfl ?_
  simp only [qkX,qAC,go_sem]
  have ht:=td2 (x:=b-a-1) (by omega)
  simp (config:={maxSteps:=2000000}) (disch:=omega) only [go_sem,qAO,qAR,qAM,Int.reduceEq]
  refine qB5 (fun q:Int×List Int=> -1≤q.1∧q.1≤b-a∧q.2.Perm xs) (fun q=>(⟨[(0,.slice 1 id 0 n false),(6,.int .i64 a),(7,.int .i64 0),(8,.int .i64 (b-a)),(9,.int .i64 q.1)],[],RW h id q.2⟩:VSt)) (fun q=>(q.1+1).toNat) ((b-a-1).tdiv 2,xs)
    (fun zs:List Int=>zs.Perm xs) (fun zs=>(⟨[(0,.slice 1 id 0 n false),(6,.int .i64 a),(7,.int .i64 0),(8,.int .i64 (b-a))],[],RW h id zs⟩:VSt)) (by kernel_rfl) ⟨(by simp only;omega),(by simp only;omega),.refl _⟩ (Can.sub (by simp [go_sem]) (by simp [go_sem])) ?_ ?_
  · rintro ⟨i,ys⟩ ⟨h1,h2,h3⟩
    simp only at h1 h2 h3⊢
    have hyl:=h3.length_eq
    simp only [go_sem]
    refine qAA ?_ ?_<;>intro hc<;>simp only [hc,go_sem]
    · have hc2:=of_decide_eq_true hc
      refine qAS (zG8 hid (by omega) hl (by omega) fun zs hz=> ?_)
      simp (config:={maxSteps:=2000000}) (disch:=omega) only [go_sem,qAO,qAR,qAM,Int.reduceEq]
      exact qA8 (i-1,zs) ⟨(by simp only;omega),(by simp only;omega),hz.trans h3⟩ (by simp only;omega) (Can.sub (by simp [go_sem]) (by simp [go_sem]))
    · exact qBN ys h3 (Can.sub (by simp [go_sem]) (by simp [go_sem]))
  · intro ys h3
    have hyl:=h3.length_eq
    simp (config:={maxSteps:=2000000}) (disch:=omega) only [go_sem,qAO,qAR,qAM,Int.reduceEq]
    refine Sem.loop (fun q:Int×List Int=> -1≤q.1∧q.1≤b-a-1∧q.2.Perm xs) (fun q=>(⟨[(0,.slice 1 id 0 n false),(6,.int .i64 a),(7,.int .i64 0),(10,.int .i64 q.1)],[],RW h id q.2⟩:VSt)) (fun q=>(q.1+1).toNat) (b-a-1,ys) (by kernel_rfl) ⟨(by simp only;omega),(by simp only;omega),h3⟩ (Can.sub (by simp [go_sem]) (by simp [go_sem])) ?_
    rintro ⟨i,zs⟩ ⟨g1,g2,g3⟩
    simp only at g1 g2 g3⊢
    have hzl:=g3.length_eq
    simp only [go_sem]
    refine qAA ?_ ?_<;>intro hc<;>simp only [hc,go_sem]
    · have hc2:=of_decide_eq_true hc
      simp (config:={maxSteps:=2000000}) (disch:=omega) only [go_sem,qAO,qAR,qAM,Int.reduceEq]
      refine qBW hid (by omega) (by omega) ?_;simp (config:={maxSteps:=2000000}) (disch:=omega) only [go_sem,qAO,qAR,qAM,Int.reduceEq];refine qBW hid (by omega) (by rw [List.length_set];omega) ?_;simp (maxSteps:=2000000) (disch:=omega) only [go_sem,qAO,qAR,qAM,Int.reduceEq]
      refine qAS (zG8 (xs:=swI zs a (a+i)) hid (by rw [qpV];omega) hl (by omega) fun us hu=> ?_)
      simp (config:={maxSteps:=2000000}) (disch:=omega) only [go_sem,qAO,qAR,qAM,Int.reduceEq]
      exact qAH (i-1,us) ⟨(by simp only;omega),(by simp only;omega),hu.trans ((qBD (by omega) (by omega) (by omega) (by omega)).trans g3)⟩ (by simp only;omega) (Can.sub (by simp [go_sem]) (by simp [go_sem]))
    · exact hK _ g3
end Go.Ab
namespace Go.Ab
open Go
set_option maxRecDepth 10000
set_option maxHeartbeats 2000000
def bx (k:IntKind) (x:Int):AObj:=.row 1 [.int k x] true
theorem qm0 {h:List AObj} {o:AObj} {id:Nat} {ys:List Int} (hid:id<h.length):(RW (h++[o]) id ys)[h.length]?=some o:=by
  unfold RW;rw [List.getElem?_set_ne (by omega),List.getElem?_append_right (Nat.le_refl _),Nat.sub_self];rfl
theorem qoS {h:List AObj} {o o':AObj} {id:Nat} {ys:List Int} (hid:id<h.length):(RW (h++[o]) id ys).set h.length o'=RW (h++[o']) id ys:=by
  unfold RW;rw [List.set_comm _ _ (by omega)];congr 1;simp
theorem zGJ {h:List AObj} {o:AObj} {id:Nat} (hid:id<h.length):id<(h++[o]).length:=by simp;omega
theorem qJN {h:List AObj} {id:Nat} {ys:List Int} {k:IntKind} {x:Int} (hid:id<h.length):orow none 0 0 (RW (h++[bx k x]) id ys)[h.length]?=some (.int k x):=by
  rw [qm0 hid];rfl
theorem qjO {E:Ev} {ks:List Fr1} {s m:LEnv} {h:List AObj} {Q:AExit→VSt→Prop} {l:List AOper} {id:Nat} {ys:List Int} {k:IntKind} {x y:Int} (hid:id<h.length)
    (hr:R E (.ops l::ks) ⟨s,m,RW (h++[bx k y]) id ys⟩ Q):Sto E 1 (some (.ptr h.length 0 0)) (some (.int k y)) l ks ⟨s,m,RW (h++[bx k x]) id ys⟩ Q:=by
  refine qD3 (by rfl) (qm0 hid) (by rfl) (by rfl) ?_
  rw [show (AObj.row 1 (([AV.int k x]).set 0 (AV.int k y)) true)=bx k y from rfl,qoS hid];exact hr
theorem qpS {h:List AObj} {id n:Nat} {xs:List Int} {a b x:Int} {K:AV→List AObj→Prop} (hid:id<h.length) (hn:xs.length=n) (hab:0≤a∧a<n∧0≤b∧b<n)
    (hK:∀(p q y:Int),((p=a∧q=b)∨(p=b∧q=a))→K (.tup [.int .i64 p,.int .i64 q]) (RW (h++[bx .i64 y]) id xs)):qAZ Gm 1529 [.slice 1 id 0 n false,.int .i64 a,.int .i64 b,.ptr h.length 0 0] (RW (h++[bx .i64 x]) id xs) K:=by
  refine qAZ.run [] [] zM7 (by kernel_rfl) rfl ?_
  have hid':=zGJ (o:=bx .i64 x) hid
  simp only [qlK,qAC,go_sem]
  simp (config:={maxSteps:=2000000}) (disch:=omega) only [go_sem,qAO,qAR,qAM,Int.reduceEq]
  refine qAB (qEO _ _) ?_
  simp only [go_sem]
  refine qAA ?_ ?_<;>intro hc<;>simp only [hc,go_sem]
  · rw [qJN hid]
    simp only [go_sem]
    refine qjO hid ?_
    simp only [go_sem]
    exact hK _ _ _ (.inr ⟨rfl,rfl⟩)
  · exact hK _ _ _ (.inl ⟨rfl,rfl⟩)
theorem qpR {h:List AObj} {id n:Nat} {xs:List Int} {a b c x:Int} {K:AV→List AObj→Prop} (hid:id<h.length) (hn:xs.length=n) (hab:0≤a∧a<n∧0≤b∧b<n∧0≤c∧c<n)
    (hK:∀(p y:Int),(p=a∨p=b∨p=c)→K (.int .i64 p) (RW (h++[bx .i64 y]) id xs)):qAZ Gm 1480 [.slice 1 id 0 n false,.int .i64 a,.int .i64 b,.int .i64 c,.ptr h.length 0 0] (RW (h++[bx .i64 x]) id xs) K:=by
  refine qAZ.run [] [] zM4 (by kernel_rfl) rfl ?_
  simp only [qlH,qAC,go_sem]
  refine qAS (qpS hid hn (by omega) fun p q y hpq=> ?_)
  simp only [go_sem]
  refine qAS (qpS hid hn (by omega) fun p2 q2 y2 hpq2=> ?_)
  simp only [go_sem]
  refine qAS (qpS hid hn (by omega) fun p3 q3 y3 hpq3=> ?_)
  simp only [go_sem]
  exact hK _ _ (by omega)
theorem qpQ {h:List AObj} {id n:Nat} {xs:List Int} {a x:Int} {K:AV→List AObj→Prop} (hid:id<h.length) (hn:xs.length=n) (hl:n≤4194304) (hab:1≤a∧a+1<n)
    (hK:∀(p y:Int),(a-1≤p∧p≤a+1)→K (.int .i64 p) (RW (h++[bx .i64 y]) id xs)):qAZ Gm 1479 [.slice 1 id 0 n false,.int .i64 a,.ptr h.length 0 0] (RW (h++[bx .i64 x]) id xs) K:=by
  refine qAZ.run [] [] zM3 (by kernel_rfl) rfl ?_
  simp only [qlG,qAC,go_sem]
  simp (config:={maxSteps:=2000000}) (disch:=omega) only [go_sem,qAO,qAR,qAM,Int.reduceEq]
  refine qAS (qpR hid hn (by omega) fun p y hpq=> ?_)
  simp only [go_sem]
  exact hK _ _ (by omega)
theorem zQH {h:List AObj} {id n:Nat} {xs:List Int} {a b:Int} {K:AV→List AObj→Prop} (hid:id<h.length) (hn:xs.length=n) (hl:n≤4194304) (hab:0≤a∧a+8≤b∧b≤n)
    (hK:∀(p t y:Int),(a≤p∧p<b)→K (.tup [.int .i64 p,.int .i64 t]) (RW (h++[bx .i64 y]) id xs)):qAZ Gm 1342 [.slice 1 id 0 n false,.int .i64 a,.int .i64 b] (RW h id xs) K:=by
  refine qAZ.run [] [] zMM (by kernel_rfl) rfl ?_
  simp only [qkZ,qAC,go_sem]
  have ht:(b-a).tdiv 4=(b-a)/4:=Int.tdiv_eq_ediv_of_nonneg (by omega)
  have hb:(RW h id xs).length=h.length:=qhM
  have hx:RW h id xs++[AObj.row 1 [AV.int .i64 0] true]=RW (h++[bx .i64 0]) id xs:=qhL hid
  simp (disch:=omega) only [go_sem,qAO,Int.reduceEq,ht,hb,hx]
  have h8:decide ((8:Int)≤b-a)=true:=decide_eq_true (by omega)
  simp only [h8,go_sem]
  --the choice by the number of changes
  refine qAA ?_ ?_<;>intro hc<;>simp only [hc,go_sem]
  · have h50:=of_decide_eq_true hc
    refine qAS (qpQ hid hn hl (by omega) fun p y hp=> ?_)
    simp only [go_sem]
    refine qAS (qpQ hid hn hl (by omega) fun p2 y2 hp2=> ?_)
    simp only [go_sem]
    refine qAS (qpQ hid hn hl (by omega) fun p3 y3 hp3=> ?_)
    simp only [go_sem]
    refine qAS (qpR hid hn (by omega) fun q y hq=> ?_)
    simp only [go_sem]
    rw [qJN hid]
    simp only [go_sem]
    refine qAA ?_ ?_<;>intro hc<;>simp only [hc,go_sem]
    · exact hK _ _ _ (by omega)
    · refine qAA ?_ ?_<;>intro hc<;>simp only [hc,go_sem]
      · exact hK _ _ _ (by omega)
      · exact hK _ _ _ (by omega)
  · refine qAS (qpR hid hn (by omega) fun q y hq=> ?_)
    simp only [go_sem]
    rw [qJN hid]
    simp only [go_sem]
    refine qAA ?_ ?_<;>intro hc<;>simp only [hc,go_sem]
    · exact hK _ _ _ (by omega)
    · refine qAA ?_ ?_<;>intro hc<;>simp only [hc,go_sem]
      · exact hK _ _ _ (by omega)
      · exact hK _ _ _ (by omega)
end Go.Ab
namespace Go.Ab
open Go
set_option maxRecDepth 10000
set_option maxHeartbeats 2000000
def lenT:List UInt8:=[0,1,2,2,3,3,3,3,4,4,4,4,4,4,4,4,5,5,5,5,5,5,5,5,5,5,5,5,5,5,5,5,6,6,6,6,6,6,6,6,6,6,6,6,6,6,6,6,6,6,6,6,6,6,6,6,6,6,6,6,6,6,6,6,7,7,7,7,7,7,7,7,7,7,7,7,7,7,7,7,7,7,7,7,7,7,7,7,7,7,7,7,7,7,7,7,7,7,7,7,7,7,7,7,7,7,7,7,7,7,7,7,7,7,7,7,7,7,7,7,7,7,7,7,7,7,7,7,8,8,8,8,8,8,8,8,8,8,8,8,8,8,8,8,8,8,8,8,8,8,8,8,8,8,8,8,8,8,8,8,8,8,8,8,8,8,8,8,8,8,8,8,8,8,8,8,8,8,8,8,8,8,8,8,8,8,8,8,8,8,8,8,8,8,8,8,8,8,8,8,8,8,8,8,8,8,8,8,8,8,8,8,8,8,8,8,8,8,8,8,8,8,8,8,8,8,8,8,8,8,8,8,8,8,8,8,8,8,8,8,8,8,8,8,8,8,8,8,8,8,8,8,8,8,8,8]
def tb (n:Int):Int:=((lenT.getD n.toNat 0).toNat:Int)
theorem qnF:∀n:_root_.Fin 256,(lenT[n.1]?).isSome=true∧(lenT.getD n.1 0).toNat≤8∧(1≤n.1→2^(lenT.getD n.1 0).toNat≤2*n.1):=by decide
theorem qVV {n:Int} (h:0≤n∧n≤255):0≤tb n∧tb n≤8∧(1≤n→(2:Int)^(tb n).toNat≤2*n):=by
  have:=qnF ⟨n.toNat,by omega⟩
  simp only at this
  unfold tb
  refine ⟨by omega,by omega,fun h1=> ?_⟩
  have h2:=this.2.2 (by omega)
  rw [Int.toNat_natCast]
  have h3:((2^(lenT.getD n.toNat 0).toNat:Nat):Int)≤((2*n.toNat:Nat):Int):=Int.ofNat_le.2 h2
  rw [Int.natCast_pow] at h3
  simpa [Int.toNat_of_nonneg h.1] using h3
theorem qmY {n:Int} (h:0≤n∧n≤255):qjH (some (.str lenT)) (some (.int .u8 n))=some (.int .u8 (tb n)):=by
  have:=(qnF ⟨n.toNat,by omega⟩).1
  simp only [qjH,h.1,if_true]
  simp only at this
  obtain ⟨b,hb⟩:=Option.isSome_iff_exists.1 this
  unfold tb
  rw [hb,List.getD_eq_getElem?_getD,hb]
  rfl
def lenI (x:Int):Int:=if 65536≤x then (if 256≤x/65536 then 24+tb (x/65536/256) else 16+tb (x/65536)) else if 256≤x then 8+tb (x/256) else tb x
theorem qGZ {a:Nat} {b:Int} {y:Int} (hb:0≤b) (h:(2:Int)^b.toNat≤2*y):(2:Int)^((a:Int)+b).toNat≤2*(y*2^a):=by
  rw [Int.toNat_add (by omega) hb,Int.toNat_natCast,Int.pow_add]
  have h2:(0:Int)≤2^a:=Int.le_of_lt (Int.pow_pos (by omega))
  have:=Int.mul_le_mul_of_nonneg_left h h2
  calc (2:Int)^a*2^b.toNat≤2^a*(2*y):=this
    _=2*(y*2^a):=by rw [Int.mul_comm,Int.mul_assoc]
theorem qiK {x:Int} (h:0≤x∧x<4294967296):0≤lenI x∧lenI x≤32∧(1≤x→(2:Int)^(lenI x).toNat≤2*x):=by
  unfold lenI
  by_cases h1:65536≤x
  · rw [if_pos h1]
    by_cases h2:256≤x/65536
    · rw [if_pos h2]
      have:=qVV (n:=x/65536/256) (by omega)
      refine ⟨by omega,by omega,fun _=> ?_⟩
      have:=qGZ (a:=24) this.1 (this.2.2 (by omega))
      refine Int.le_trans this ?_
      simp only [show ((2:Int)^24)=16777216 from rfl]
      omega
    · rw [if_neg h2]
      have:=qVV (n:=x/65536) (by omega)
      refine ⟨by omega,by omega,fun _=> ?_⟩
      have:=qGZ (a:=16) this.1 (this.2.2 (by omega))
      refine Int.le_trans this ?_
      simp only [show ((2:Int)^16)=65536 from rfl]
      omega
  · rw [if_neg h1]
    by_cases h2:256≤x
    · rw [if_pos h2]
      have:=qVV (n:=x/256) (by omega)
      refine ⟨by omega,by omega,fun _=> ?_⟩
      have:=qGZ (a:=8) this.1 (this.2.2 (by omega))
      refine Int.le_trans this ?_
      simp only [show ((2:Int)^8)=256 from rfl]
      omega
    · rw [if_neg h2]
      have:=qVV (n:=x) (by omega)
      exact ⟨by omega,by omega,fun _=>this.2.2 (by omega)⟩
def shf2 (op:BinOp):Option AV→Option AV→Option AV
  | some (.int k a),some (.int _ b)=>shOp op k a b
  | _,_=>none
section
variable {E:Ev} {ks:List Fr1} {s m:LEnv} {h:List AObj} {Q:AExit→VSt→Prop} {l:List AOper} {i:Nat} {d:Option Nat} {g:Option (Nat×Bool)} {ck:List AOper} {x y:Ao} {op:BinOp}
@[go_sem] theorem zNK:Go1 E (.mk i d g (.shft op x y) ck) l ks ⟨s,m,h⟩ Q=Put E (shf2 op (ev (toE s) x) (ev (toE s) y)) d l ks ⟨s,m,h⟩ Q:=by
  rw [qA6 rfl fun _=>rfl]
  congr 1
@[go_sem] theorem zST {k k':IntKind} {a b:Int}:shf2 op (some (.int k a)) (some (.int k' b))=shOp op k a b:=nr rfl
end
theorem zHB {k:IntKind} {a b:Int} (h0:0≤b):shOp .shr k a b=some (.int k (a.fdiv (2^(min b.toNat k.bits)))):=by unfold shOp;rw [if_neg (by omega)]
theorem zQN {k:IntKind} {a b:Int} (h0:0≤b):shOp .shl k a b=some (.int k (k.wrap (a*2^(min b.toNat k.bits)))):=by unfold shOp;rw [if_neg (by omega)]
theorem zQO {a:Int} (h:0≤a):shOp .shr .u64 a 16=some (.int .u64 (a/65536)):=by
  rw [zHB (by omega),Int.fdiv_eq_ediv_of_nonneg _ (by decide)];rfl
theorem shr8 {a:Int} (h:0≤a):shOp .shr .u64 a 8=some (.int .u64 (a/256)):=by
  rw [zHB (by omega),Int.fdiv_eq_ediv_of_nonneg _ (by decide)];rfl
theorem qfH {n:Int} (h:0≤n∧n≤255):IntKind.u8.wrap n=n:=IntWalk.u8_in n h
theorem qG4 {n:Int} (h:0≤n∧n≤18446744073709551615):IntKind.u64.wrap n=n:=IntWalk.u64_in n h
theorem zKI {x:Int} (h:0≤x∧x<4294967296):Pure Gm 1349 [.int .u64 x] (.int .i64 (lenI x)):=by
  refine Pure.intro [] [] zMS (by kernel_rfl) rfl (by simp [AV.trees,AV.tree,go_sem]) rfl ?_
  simp only [qk5,qAC,go_sem]
  have h0:decide ((4294967296:Int)≤x)=false:=decide_eq_false (by omega)
  simp only [h0,go_sem]
  refine qAA ?_ ?_<;>intro hc<;>simp only [hc,go_sem]
  · have h1:=of_decide_eq_true hc
    simp (disch:=omega) only [zQO,qAO,go_sem]
    refine qAA ?_ ?_<;>intro hc<;>simp only [hc,go_sem]
    · have h2:=of_decide_eq_true hc
      have tl:=qVV (n:=x/65536/256) (by omega)
      simp (disch:=omega) only [shr8,qAO,qfH,go_sem]
      refine qdU (qmY (n:=x/65536/256) (by omega)) ?_
      simp (disch:=omega) only [qAO,go_sem]
      exact qAF rfl (by unfold lenI;rw [if_pos h1,if_pos h2];rfl)
    · have h2:=of_decide_eq_false hc
      have tl:=qVV (n:=x/65536) (by omega)
      simp (disch:=omega) only [qAO,qfH,go_sem]
      refine qdU (qmY (n:=x/65536) (by omega)) ?_
      simp (disch:=omega) only [qAO,go_sem]
      exact qAF rfl (by unfold lenI;rw [if_pos h1,if_neg h2,Int.zero_add])
  · have h1:=of_decide_eq_false hc
    refine qAA ?_ ?_<;>intro hc<;>simp only [hc,go_sem]
    · have h2:=of_decide_eq_true hc
      have tl:=qVV (n:=x/256) (by omega)
      simp (disch:=omega) only [shr8,qAO,qfH,go_sem]
      refine qdU (qmY (n:=x/256) (by omega)) ?_
      simp (disch:=omega) only [qAO,go_sem]
      exact qAF rfl (by unfold lenI;rw [if_neg h1,if_pos h2];rfl)
    · have h2:=of_decide_eq_false hc
      have tl:=qVV (n:=x) (by omega)
      simp (disch:=omega) only [qAO,qfH,go_sem]
      refine qdU (qmY (n:=x) (by omega)) ?_
      simp (disch:=omega) only [qAO,go_sem]
      exact qAF rfl (by unfold lenI;rw [if_neg h1,if_neg h2,Int.zero_add])
theorem zFT {x:Int} (h:0≤x∧x<4294967296):Pure Gm 1054 [.int .u64 x] (.int .i64 (lenI x)):=by
  refine Pure.intro [] [] zLQ (by kernel_rfl) rfl (by simp [AV.trees,AV.tree,go_sem]) rfl ?_
  simp only [qj3,qAC,go_sem]
  refine qAB (zKI h) ?_
  simp only [go_sem]
  exact qAF rfl rfl
theorem zKP {x:Int} (h:1≤x∧x<1073741824):Pure Gm 1477 [.int .i64 x] (.int .u64 (2^(lenI x).toNat)):=by
  refine Pure.intro [] [] zM1 (by kernel_rfl) rfl (by simp [AV.trees,AV.tree,go_sem]) rfl ?_
  simp only [qlE,qAC,go_sem]
  have tl:=qiK (x:=x) (by omega)
  simp (disch:=omega) only [qG4,go_sem]
  refine qAB (zFT (by omega)) ?_
  simp only [go_sem]
  have hm:min (lenI x).toNat IntKind.u64.bits=(lenI x).toNat:=Nat.min_eq_left (by show _≤64;omega)
  have hp:=tl.2.2 (by omega)
  have hp0:(0:Int)≤2^(lenI x).toNat:=Int.le_of_lt (Int.pow_pos (by omega))
  rw [zQN (by omega),hm,Int.one_mul,qG4 (by omega)]
  simp only [go_sem]
  exact qAF rfl rfl
theorem zQM {h:List AObj} {id:Nat} {xs:List Int} {x:Int} {K:AV→List AObj→Prop} (hid:id<h.length)
    (hK:∀y:Int,K (.int .u64 y) (RW (h++[bx .u64 y]) id xs)):qAZ Gm 1478 [.ptr h.length 0 0] (RW (h++[bx .u64 x]) id xs) K:=by
  refine qAZ.run [] [] zM2 (by kernel_rfl) rfl ?_
  simp only [qlF,qAC,go_sem]
  have sl:∀a:Int,shOp .shl .u64 a 13=some (.int .u64 (IntKind.u64.wrap (a*2^13))):=fun a=>rfl
  have sr:∀a:Int,shOp .shr .u64 a 7=some (.int .u64 (a.fdiv (2^7))):=fun a=>rfl
  have sl2:∀a:Int,shOp .shl .u64 a 17=some (.int .u64 (IntKind.u64.wrap (a*2^17))):=fun a=>rfl
  have xo:∀a b:Int,∃c:Int,qEB .xor .u64 a b=some (.int .u64 c):=fun a b=>⟨_,rfl⟩
  simp only [qJN hid,sl,go_sem]
  obtain ⟨c1,e1⟩:=xo x (IntKind.u64.wrap (x*2^13))
  simp only [e1,go_sem]
  refine qjO hid ?_
  simp only [qJN hid,sr,go_sem]
  obtain ⟨c2,e2⟩:=xo c1 (c1.fdiv (2^7))
  simp only [e2,go_sem]
  refine qjO hid ?_
  simp only [qJN hid,sl2,go_sem]
  obtain ⟨c3,e3⟩:=xo c2 (IntKind.u64.wrap (c2*2^17))
  simp only [e3,go_sem]
  refine qjO hid ?_
  simp only [qJN hid,go_sem]
  exact hK _
theorem zJU {a c:Int} (hc:0≤c∧c<9223372036854775808):∃o:Int,qEB .and .u64 a c=some (.int .u64 o)∧0≤o∧o≤c:=by
  refine ⟨_,rfl, ?_⟩
  have h1:(BitVec.ofInt IntKind.u64.bits a&&&BitVec.ofInt IntKind.u64.bits c).toNat≤c.toNat:=by
    rw [BitVec.toNat_and]
    refine Nat.le_trans Nat.and_le_right ?_
    rw [BitVec.toNat_ofInt]
    show (c%((2^64:Nat):Int)).toNat≤_
    omega
  rw [qG4 (by omega)]
  omega
theorem zQG {h:List AObj} {id n:Nat} {xs:List Int} {a b:Int} {K:AV→List AObj→Prop} (hid:id<h.length) (hn:xs.length=n) (hl:n≤4194304) (hab:0≤a∧a+8≤b∧b≤n)
    (hK:∀(ys:List Int) (y:Int),ys.Perm xs→K (.tup []) (RW (h++[bx .u64 y]) id ys)):qAZ Gm 1341 [.slice 1 id 0 n false,.int .i64 a,.int .i64 b] (RW h id xs) K:=by
  refine qAZ.run [] [] zML (by kernel_rfl) rfl ?_
  simp only [qkY,qAC,go_sem]
  have ht:(b-a).tdiv 4=(b-a)/4:=Int.tdiv_eq_ediv_of_nonneg (by omega)
  have hb:(RW h id xs).length=h.length:=qhM
  have hx:RW h id xs++[AObj.row 1 [AV.int .u64 0] true]=RW (h++[bx .u64 0]) id xs:=qhL hid
  have h8:decide ((8:Int)≤b-a)=true:=decide_eq_true (by omega)
  simp (disch:=omega) only [go_sem,qAO,h8]
  simp (disch:=omega) only [go_sem,qAO,qG4,Int.reduceEq,ht,hb,hx]
  refine qjO hid ?_
  simp only [go_sem]
  have tl:=qiK (x:=b-a) (by omega)
  have hp:=tl.2.2 (by omega)
  have hp0:(0:Int)<2^(lenI (b-a)).toNat:=Int.pow_pos (by omega)
  refine qAB (zKP (by omega)) ?_
  generalize (2:Int)^(lenI (b-a)).toNat=P at hp hp0
  simp (disch:=omega) only [go_sem,qAO,Int.reduceEq,ht]
  refine Sem.loop (fun q:Int×Int×List Int=>a+(b-a)/4*2-1≤q.1∧q.1≤a+(b-a)/4*2+2∧q.2.2.Perm xs) (fun q=>(⟨[(0,.slice 1 id 0 n false),(1,.int .i64 a),(6,.int .i64 (b-a)),(7,.ptr h.length 0 0),(8,.int .u64 P),(9,.int .i64 q.1)],[],RW (h++[bx .u64 q.2.1]) id q.2.2⟩:VSt)) (fun q=>(a+(b-a)/4*2+2-q.1).toNat) (a+(b-a)/4*2-1,b-a,xs) (by kernel_rfl) ⟨(by first | omega | (simp only;omega)),(by first | omega | (simp only;omega)),.refl _⟩ (Can.sub (by simp [go_sem]) (by simp [go_sem])) ?_
  rintro ⟨i,y,ys⟩ ⟨h1,h2,h3⟩
  simp only at h1 h2 h3⊢
  have hyl:=h3.length_eq
  simp (disch:=omega) only [go_sem,qAO,Int.reduceEq,ht]
  refine qAA ?_ ?_<;>intro hc<;>simp only [hc,go_sem]
  · have hle:=of_decide_eq_true hc
    refine qAS (zQM hid fun y2=> ?_)
    have hid':=zGJ (o:=bx .u64 y2) hid
    simp (disch:=omega) only [go_sem,qG4]
    obtain ⟨o,e,o1,o2⟩:=zJU (a:=y2) (c:=P-1) (by omega)
    simp (disch:=omega) only [e,go_sem,qAO]
    refine qAA ?_ ?_<;>intro hc<;>simp only [hc,go_sem]
    · have hge:=of_decide_eq_true hc
      simp (config:={maxSteps:=2000000}) (disch:=omega) only [go_sem,qAO,qAR,qAM,Int.reduceEq]
      refine qBW hid' (by omega) (by omega) ?_;simp (config:={maxSteps:=2000000}) (disch:=omega) only [go_sem,qAO,qAR,qAM,Int.reduceEq];refine qBW hid' (by omega) (by rw [List.length_set];omega) ?_;simp (maxSteps:=2000000) (disch:=omega) only [go_sem,qAO,qAR,qAM,Int.reduceEq]
      exact qAH (i+1,y2,swI ys i (a+(o-(b-a)))) ⟨(by first | omega | (simp only;omega)),(by first | omega | (simp only;omega)),(qBD (by omega) (by omega) (by omega) (by omega)).trans h3⟩ (by first | omega | (simp only;omega)) (Can.sub (by simp [go_sem]) (by simp [go_sem]))
    · have hlt:=of_decide_eq_false hc
      simp (config:={maxSteps:=2000000}) (disch:=omega) only [go_sem,qAO,qAR,qAM,Int.reduceEq]
      refine qBW hid' (by omega) (by omega) ?_;simp (config:={maxSteps:=2000000}) (disch:=omega) only [go_sem,qAO,qAR,qAM,Int.reduceEq];refine qBW hid' (by omega) (by rw [List.length_set];omega) ?_;simp (maxSteps:=2000000) (disch:=omega) only [go_sem,qAO,qAR,qAM,Int.reduceEq]
      exact qAH (i+1,y2,swI ys i (a+o)) ⟨(by first | omega | (simp only;omega)),(by first | omega | (simp only;omega)),(qBD (by omega) (by omega) (by omega) (by omega)).trans h3⟩ (by first | omega | (simp only;omega)) (Can.sub (by simp [go_sem]) (by simp [go_sem]))
  · exact hK _ _ h3
end Go.Ab
namespace Go.Ab
open Go
set_option maxRecDepth 10000
set_option maxHeartbeats 2000000
theorem zQK {h:List AObj} {id n:Nat} {xs:List Int} {a b p:Int} {K:AV→List AObj→Prop} (hid:id<h.length) (hn:xs.length=n) (hl:n≤4194304) (hab:0≤a∧a<b∧b≤n∧a≤p∧p<b)
    (hK:∀(ys:List Int) (m:Int),ys.Perm xs→a+1≤m→m≤b→K (.int .i64 m) (RW h id ys)):qAZ Gm 1346 [.slice 1 id 0 n false,.int .i64 a,.int .i64 b,.int .i64 p] (RW h id xs) K:=by
  refine qAZ.run [] [] zMQ (by kernel_rfl) rfl ?_
  simp only [qk3,qAC,go_sem]
  simp (config:={maxSteps:=2000000}) (disch:=omega) only [go_sem,qAO,qAR,qAM,Int.reduceEq]
  refine qBW hid (by omega) (by omega) ?_;simp (config:={maxSteps:=2000000}) (disch:=omega) only [go_sem,qAO,qAR,qAM,Int.reduceEq];refine qBW hid (by omega) (by rw [List.length_set];omega) ?_;simp (maxSteps:=2000000) (disch:=omega) only [go_sem,qAO,qAR,qAM,Int.reduceEq]
  refine qB5 (fun q:Int×Int×List Int=>a+1≤q.1∧q.2.1≤b-1∧q.1≤b∧q.2.2.Perm xs) (fun q=>(⟨[(0,.slice 1 id 0 n false),(1,.int .i64 a),(9,.int .i64 q.1),(10,.int .i64 q.2.1)],[],RW h id q.2.2⟩:VSt)) (fun q=>(q.2.1+1-q.1).toNat) (a+1,b-1,swI xs a p)
    (fun q:Int×List Int=>a+1≤q.1∧q.1≤b∧q.2.Perm xs) (fun q=>(⟨[(9,.int .i64 q.1)],[],RW h id q.2⟩:VSt)) (by kernel_rfl) ⟨(by first | omega | (simp only;omega)),(by first | omega | (simp only;omega)),(by first | omega | (simp only;omega)),qBD (by omega) (by omega) (by omega) (by omega)⟩ (Can.sub (by simp [go_sem]) (by simp [go_sem])) ?_ ?_
  · rintro ⟨i,j,ys⟩ ⟨h1,h2,h3,h4⟩
    simp only at h1 h2 h3 h4⊢
    have hyl:=h4.length_eq
    simp only [go_sem]
    refine qB5 (fun i':Int=>i≤i'∧i'≤max i (j+1)) (fun i'=>(⟨[(0,.slice 1 id 0 n false),(1,.int .i64 a),(9,.int .i64 i'),(10,.int .i64 j)],[],RW h id ys⟩:VSt)) (fun i'=>(j+1-i').toNat) i
      (fun i':Int=>i≤i'∧i'≤max i (j+1)) (fun i'=>(⟨[(0,.slice 1 id 0 n false),(1,.int .i64 a),(9,.int .i64 i'),(10,.int .i64 j)],[],RW h id ys⟩:VSt)) (by kernel_rfl) ⟨(by first | omega | (simp only;omega)),(by first | omega | (simp only;omega))⟩ (Can.sub (by simp [go_sem]) (by simp [go_sem])) ?_ ?_
    · rintro i' ⟨k1,k2⟩
      simp only [go_sem]
      refine qAG ?_ ?_<;>intro hc<;>simp only [hc,go_sem]
      · have hle:=of_decide_eq_true hc
        simp (config:={maxSteps:=2000000}) (disch:=omega) only [go_sem,qAO,qAR,qAM,Int.reduceEq]
        refine qAB (qEO _ _) ?_
        simp only [go_sem]
        refine qAA ?_ ?_<;>intro hc<;>simp only [hc,go_sem]
        · simp (config:={maxSteps:=2000000}) (disch:=omega) only [go_sem,qAO,qAR,qAM,Int.reduceEq]
          exact qA8 (i'+1) ⟨(by first | omega | (simp only;omega)),(by first | omega | (simp only;omega))⟩ (by first | omega | (simp only;omega)) (Can.sub (by simp [go_sem]) (by simp [go_sem]))
        · exact qBN i' ⟨by omega,by omega⟩ (Can.sub (by simp [go_sem]) (by simp [go_sem]))
      · exact qBN i' ⟨by omega,by omega⟩ (Can.sub (by simp [go_sem]) (by simp [go_sem]))
    rintro i' ⟨k1,k2⟩
    simp only [go_sem]
    refine qB5 (fun j':Int=>j'≤j) (fun j'=>(⟨[(0,.slice 1 id 0 n false),(1,.int .i64 a),(9,.int .i64 i'),(10,.int .i64 j')],[],RW h id ys⟩:VSt)) (fun j'=>(j'+1).toNat) j
      (fun j':Int=>j'≤j) (fun j'=>(⟨[(0,.slice 1 id 0 n false),(1,.int .i64 a),(9,.int .i64 i'),(10,.int .i64 j')],[],RW h id ys⟩:VSt)) (by kernel_rfl) (by first | omega | (simp only;omega)) (Can.sub (by simp [go_sem]) (by simp [go_sem])) ?_ ?_
    · rintro j' m2
      simp only [go_sem]
      refine qAG ?_ ?_<;>intro hc<;>simp only [hc,go_sem]
      · have hle:=of_decide_eq_true hc
        simp (config:={maxSteps:=2000000}) (disch:=omega) only [go_sem,qAO,qAR,qAM,Int.reduceEq]
        refine qAB (qEO _ _) ?_
        simp only [go_sem]
        refine qAA ?_ ?_<;>intro hc<;>simp only [hc,go_sem]
        · simp (config:={maxSteps:=2000000}) (disch:=omega) only [go_sem,qAO,qAR,qAM,Int.reduceEq]
          exact qA8 (j'-1) (by first | omega | (simp only;omega)) (by first | omega | (simp only;omega)) (Can.sub (by simp [go_sem]) (by simp [go_sem]))
        · exact qBN j' (by omega) (Can.sub (by simp [go_sem]) (by simp [go_sem]))
      · exact qBN j' (by omega) (Can.sub (by simp [go_sem]) (by simp [go_sem]))
    rintro j' m2
    simp only [go_sem]
    refine qAA ?_ ?_<;>intro hc<;>simp only [hc,go_sem]
    · exact qBN (i',ys) ⟨(by first | omega | (simp only;omega)),(by first | omega | (simp only;omega)),h4⟩ (Can.sub (by simp [go_sem]) (by simp [go_sem]))
    · have hle:=of_decide_eq_false hc
      simp (config:={maxSteps:=2000000}) (disch:=omega) only [go_sem,qAO,qAR,qAM,Int.reduceEq]
      refine qBW hid (by omega) (by omega) ?_;simp (config:={maxSteps:=2000000}) (disch:=omega) only [go_sem,qAO,qAR,qAM,Int.reduceEq];refine qBW hid (by omega) (by rw [List.length_set];omega) ?_;simp (maxSteps:=2000000) (disch:=omega) only [go_sem,qAO,qAR,qAM,Int.reduceEq]
      exact qA8 (i'+1,j'-1,swI ys i' j') ⟨(by first | omega | (simp only;omega)),(by first | omega | (simp only;omega)),(by first | omega | (simp only;omega)),(qBD (by omega) (by omega) (by omega) (by omega)).trans h4⟩ (by first | omega | (simp only;omega)) (Can.sub (by simp [go_sem]) (by simp [go_sem]))
  · rintro ⟨i,ys⟩ ⟨h1,h2,h3⟩
    simp only [go_sem]
    exact hK _ _ h3 h1 h2
end Go.Ab
namespace Go.Ab
open Go
set_option maxRecDepth 10000
set_option maxHeartbeats 2000000
theorem zQL {h:List AObj} {id n:Nat} {xs:List Int} {a b p:Int} {K:AV→List AObj→Prop} (hid:id<h.length) (hn:xs.length=n) (hl:n≤4194304) (hab:0≤a∧a<b∧b≤n∧a≤p∧p<b)
    (hK:∀(ys:List Int) (m:Int) (r:Bool),ys.Perm xs→a≤m→m<b→K (.tup [.int .i64 m,.bool r]) (RW h id ys)):qAZ Gm 1347 [.slice 1 id 0 n false,.int .i64 a,.int .i64 b,.int .i64 p] (RW h id xs) K:=by
  refine qAZ.run [] [] zMR (by kernel_rfl) rfl ?_
  simp only [qk4,qAC,go_sem]
  simp (config:={maxSteps:=2000000}) (disch:=omega) only [go_sem,qAO,qAR,qAM,Int.reduceEq]
  refine qBW hid (by omega) (by omega) ?_;simp (config:={maxSteps:=2000000}) (disch:=omega) only [go_sem,qAO,qAR,qAM,Int.reduceEq];refine qBW hid (by omega) (by rw [List.length_set];omega) ?_;simp (maxSteps:=2000000) (disch:=omega) only [go_sem,qAO,qAR,qAM,Int.reduceEq]
  have hp1:(swI xs a p).Perm xs:=qBD (by omega) (by omega) (by omega) (by omega)
  show Sem _ _ ⟨_,_,RW h id (swI xs a p)⟩ _
  have hb:(RW h id xs).length=h.length:=qhM
  rw [hb]
  generalize swI xs a p=ys at hp1⊢
  have hyl:=hp1.length_eq
  refine qB5 (fun i':Int=>a+1≤i') (fun i'=>(⟨[(0,.slice 1 id 0 n false),(1,.int .i64 a),(10,.int .i64 i'),(11,.int .i64 (b-1))],[],RW h id ys⟩:VSt)) (fun i'=>(b-i').toNat) (a+1)
      (fun i':Int=>a+1≤i') (fun i'=>(⟨[(0,.slice 1 id 0 n false),(1,.int .i64 a),(10,.int .i64 i'),(11,.int .i64 (b-1))],[],RW h id ys⟩:VSt)) (by kernel_rfl) (by first | omega | (simp only;omega)) (Can.sub (by simp [go_sem]) (by simp [go_sem])) ?_ ?_
  · rintro i' k1
    simp only [go_sem]
    refine qAG ?_ ?_<;>intro hc<;>simp only [hc,go_sem]
    · have hle:=of_decide_eq_true hc
      simp (config:={maxSteps:=2000000}) (disch:=omega) only [go_sem,qAO,qAR,qAM,Int.reduceEq]
      refine qAB (qEO _ _) ?_
      simp only [go_sem]
      refine qAA ?_ ?_<;>intro hc<;>simp only [hc,go_sem]
      · simp (config:={maxSteps:=2000000}) (disch:=omega) only [go_sem,qAO,qAR,qAM,Int.reduceEq]
        exact qA8 (i'+1) (by first | omega | (simp only;omega)) (by first | omega | (simp only;omega)) (Can.sub (by simp [go_sem]) (by simp [go_sem]))
      · exact qBN i' (by omega) (Can.sub (by simp [go_sem]) (by simp [go_sem]))
    · exact qBN i' (by omega) (Can.sub (by simp [go_sem]) (by simp [go_sem]))
  rintro i' k1
  simp only [go_sem]
  refine qB5 (fun j':Int=>a≤j'∧j'≤b-1) (fun j'=>(⟨[(0,.slice 1 id 0 n false),(1,.int .i64 a),(10,.int .i64 i'),(11,.int .i64 j')],[],RW h id ys⟩:VSt)) (fun j'=>(j'+1).toNat) (b-1)
      (fun j':Int=>a≤j'∧j'≤b-1) (fun j'=>(⟨[(0,.slice 1 id 0 n false),(1,.int .i64 a),(10,.int .i64 i'),(11,.int .i64 j')],[],RW h id ys⟩:VSt)) (by kernel_rfl) ⟨(by first | omega | (simp only;omega)),(by first | omega | (simp only;omega))⟩ (Can.sub (by simp [go_sem]) (by simp [go_sem])) ?_ ?_
  · rintro j' ⟨m1,m2⟩
    simp only [go_sem]
    refine qAG ?_ ?_<;>intro hc<;>simp only [hc,go_sem]
    · have hle:=of_decide_eq_true hc
      simp (config:={maxSteps:=2000000}) (disch:=omega) only [go_sem,qAO,qAR,qAM,Int.reduceEq]
      refine qAB (qEO _ _) ?_
      simp only [go_sem]
      refine qAA ?_ ?_<;>intro hc<;>simp only [hc,go_sem]
      · simp (config:={maxSteps:=2000000}) (disch:=omega) only [go_sem,qAO,qAR,qAM,Int.reduceEq]
        exact qA8 (j'-1) ⟨(by first | omega | (simp only;omega)),(by first | omega | (simp only;omega))⟩ (by first | omega | (simp only;omega)) (Can.sub (by simp [go_sem]) (by simp [go_sem]))
      · exact qBN j' ⟨by omega,by omega⟩ (Can.sub (by simp [go_sem]) (by simp [go_sem]))
    · exact qBN j' ⟨by omega,by omega⟩ (Can.sub (by simp [go_sem]) (by simp [go_sem]))
  rintro j' ⟨m1,m2⟩
  simp only [go_sem]
  refine qAA ?_ ?_<;>intro hc<;>simp only [hc,go_sem]
  · simp (config:={maxSteps:=2000000}) (disch:=omega) only [go_sem,qAO,qAR,qAM,Int.reduceEq]
    refine qBW hid (by omega) (by omega) ?_;simp (config:={maxSteps:=2000000}) (disch:=omega) only [go_sem,qAO,qAR,qAM,Int.reduceEq];refine qBW hid (by omega) (by rw [List.length_set];omega) ?_;simp (maxSteps:=2000000) (disch:=omega) only [go_sem,qAO,qAR,qAM,Int.reduceEq]
    exact hK _ _ _ ((qBD (by omega) (by omega) (by omega) (by omega)).trans hp1) m1 (by omega)
  have hle:=of_decide_eq_false hc
  simp (config:={maxSteps:=2000000}) (disch:=omega) only [go_sem,qAO,qAR,qAM,Int.reduceEq]
  refine qBW hid (by omega) (by omega) ?_;simp (config:={maxSteps:=2000000}) (disch:=omega) only [go_sem,qAO,qAR,qAM,Int.reduceEq];refine qBW hid (by omega) (by rw [List.length_set];omega) ?_;simp (maxSteps:=2000000) (disch:=omega) only [go_sem,qAO,qAR,qAM,Int.reduceEq]
  have hp2:(swI ys i' j').Perm xs:=(qBD (by omega) (by omega) (by omega) (by omega)).trans hp1
  refine qB5 (fun q:Int×Int×List Int=>a+1≤q.1∧a≤q.2.1∧q.2.1≤b-1∧q.2.2.Perm xs) (fun q=>(⟨[(0,.slice 1 id 0 n false),(1,.int .i64 a),(10,.int .i64 q.1),(11,.int .i64 q.2.1)],[],RW h id q.2.2⟩:VSt)) (fun q=>(q.2.1+1-q.1).toNat) (i'+1,j'-1,swI ys i' j')
    (fun q:Int×List Int=>a≤q.1∧q.1≤b-1∧q.2.Perm xs) (fun q=>(⟨[(0,.slice 1 id 0 n false),(1,.int .i64 a),(11,.int .i64 q.1)],[],RW h id q.2⟩:VSt)) (by kernel_rfl) ⟨(by first | omega | (simp only;omega)),(by first | omega | (simp only;omega)),(by first | omega | (simp only;omega)),hp2⟩ (Can.sub (by simp [go_sem]) (by simp [go_sem])) ?_ ?_
  · clear hp2 hp1 k1 m1 m2 hle hyl hc
    rintro ⟨i,j,zs⟩ ⟨h1,h2,h3,h4⟩
    simp only at h1 h2 h3 h4⊢
    have hzl:=h4.length_eq
    simp only [go_sem]
    refine qB5 (fun i':Int=>i≤i') (fun i'=>(⟨[(0,.slice 1 id 0 n false),(1,.int .i64 a),(10,.int .i64 i'),(11,.int .i64 j)],[],RW h id zs⟩:VSt)) (fun i'=>(j+1-i').toNat) i
      (fun i':Int=>i≤i') (fun i'=>(⟨[(0,.slice 1 id 0 n false),(1,.int .i64 a),(10,.int .i64 i'),(11,.int .i64 j)],[],RW h id zs⟩:VSt)) (by kernel_rfl) (by first | omega | (simp only;omega)) (Can.sub (by simp [go_sem]) (by simp [go_sem])) ?_ ?_
    · rintro i' k1
      simp only [go_sem]
      refine qAG ?_ ?_<;>intro hc<;>simp only [hc,go_sem]
      · have hle:=of_decide_eq_true hc
        simp (config:={maxSteps:=2000000}) (disch:=omega) only [go_sem,qAO,qAR,qAM,Int.reduceEq]
        refine qAB (qEO _ _) ?_
        simp only [go_sem]
        refine qAA ?_ ?_<;>intro hc<;>simp only [hc,go_sem]
        · simp (config:={maxSteps:=2000000}) (disch:=omega) only [go_sem,qAO,qAR,qAM,Int.reduceEq]
          exact qA8 (i'+1) (by first | omega | (simp only;omega)) (by first | omega | (simp only;omega)) (Can.sub (by simp [go_sem]) (by simp [go_sem]))
        · exact qBN i' (by omega) (Can.sub (by simp [go_sem]) (by simp [go_sem]))
      · exact qBN i' (by omega) (Can.sub (by simp [go_sem]) (by simp [go_sem]))
    rintro i' k1
    simp only [go_sem]
    refine qB5 (fun j':Int=>a≤j'∧j'≤j) (fun j'=>(⟨[(0,.slice 1 id 0 n false),(1,.int .i64 a),(10,.int .i64 i'),(11,.int .i64 j')],[],RW h id zs⟩:VSt)) (fun j'=>(j'+1).toNat) j
      (fun j':Int=>a≤j'∧j'≤j) (fun j'=>(⟨[(0,.slice 1 id 0 n false),(1,.int .i64 a),(10,.int .i64 i'),(11,.int .i64 j')],[],RW h id zs⟩:VSt)) (by kernel_rfl) ⟨(by first | omega | (simp only;omega)),(by first | omega | (simp only;omega))⟩ (Can.sub (by simp [go_sem]) (by simp [go_sem])) ?_ ?_
    · rintro j' ⟨m1,m2⟩
      simp only [go_sem]
      refine qAG ?_ ?_<;>intro hc<;>simp only [hc,go_sem]
      · have hle:=of_decide_eq_true hc
        simp (config:={maxSteps:=2000000}) (disch:=omega) only [go_sem,qAO,qAR,qAM,Int.reduceEq]
        refine qAB (qEO _ _) ?_
        simp only [go_sem]
        refine qAA ?_ ?_<;>intro hc<;>simp only [hc,go_sem]
        · simp (config:={maxSteps:=2000000}) (disch:=omega) only [go_sem,qAO,qAR,qAM,Int.reduceEq]
          exact qA8 (j'-1) ⟨(by first | omega | (simp only;omega)),(by first | omega | (simp only;omega))⟩ (by first | omega | (simp only;omega)) (Can.sub (by simp [go_sem]) (by simp [go_sem]))
        · exact qBN j' ⟨by omega,by omega⟩ (Can.sub (by simp [go_sem]) (by simp [go_sem]))
      · exact qBN j' ⟨by omega,by omega⟩ (Can.sub (by simp [go_sem]) (by simp [go_sem]))
    rintro j' ⟨m1,m2⟩
    simp only [go_sem]
    refine qAA ?_ ?_<;>intro hc<;>simp only [hc,go_sem]
    · exact qBN (j',zs) ⟨(by first | omega | (simp only;omega)),(by first | omega | (simp only;omega)),h4⟩ (Can.sub (by simp [go_sem]) (by simp [go_sem]))
    · have hle:=of_decide_eq_false hc
      simp (config:={maxSteps:=2000000}) (disch:=omega) only [go_sem,qAO,qAR,qAM,Int.reduceEq]
      refine qBW hid (by omega) (by omega) ?_;simp (config:={maxSteps:=2000000}) (disch:=omega) only [go_sem,qAO,qAR,qAM,Int.reduceEq];refine qBW hid (by omega) (by rw [List.length_set];omega) ?_;simp (maxSteps:=2000000) (disch:=omega) only [go_sem,qAO,qAR,qAM,Int.reduceEq]
      exact qA8 (i'+1,j'-1,swI zs i' j') ⟨(by first | omega | (simp only;omega)),(by first | omega | (simp only;omega)),(by first | omega | (simp only;omega)),(qBD (by omega) (by omega) (by omega) (by omega)).trans h4⟩ (by first | omega | (simp only;omega)) (Can.sub (by simp [go_sem]) (by simp [go_sem]))
  · rintro ⟨j,zs⟩ ⟨h1,h2,h3⟩
    have hzl:=h3.length_eq
    simp only at h1 h2 h3 hzl⊢
    simp (config:={maxSteps:=2000000}) (disch:=omega) only [go_sem,qAO,qAR,qAM,Int.reduceEq]
    refine qBW hid (by omega) (by omega) ?_;simp (config:={maxSteps:=2000000}) (disch:=omega) only [go_sem,qAO,qAR,qAM,Int.reduceEq];refine qBW hid (by omega) (by rw [List.length_set];omega) ?_;simp (maxSteps:=2000000) (disch:=omega) only [go_sem,qAO,qAR,qAM,Int.reduceEq]
    exact hK _ _ _ ((qBD (by omega) (by omega) (by omega) (by omega)).trans h3) h1 (by omega)
end Go.Ab
