/- Texts Cor9 .. Cor42: the abstract machine, its laws and contracts of functions: lemmas for the statement. No condition. -/
import Derived.Test.YteekllacfpafoaaGreatP6
set_option linter.unusedSimpArgs false
set_option linter.unusedVariables false
namespace Go.Ab
open Go
set_option maxRecDepth 10000
set_option maxHeartbeats 2000000
def qA.names:qA→List Int→List Int:=qA.fold fun x rs out=>rs.foldl (fun o r=>r o) (x.Data.foldl zC (if x.Kind=11 then zC out x.Value else out))
theorem Yx {α β γ:Type} (f:γ→β→γ) (g:α→β):∀(xs:List α) (c:γ),(xs.map g).foldl f c=xs.foldl (fun c x=>f c (g x)) c
  |[],_=>rfl
  | x::xs,c=>by simp [Yx f g xs]
theorem qA.names_eq (x:qA) (out:List Int):x.names out=x.Kids.foldl (fun o y=>y.names o) (x.Data.foldl zC (if x.Kind=11 then zC out x.Value else out)):=by
  unfold qA.names;rw [qA.fold_eq,Yx]
theorem Yy {α β:Type} (f:β→α→β) {xs:List α} {i:Nat} (h:i<xs.length) (c:β):(xs.take (i+1)).foldl f c=f ((xs.take i).foldl f c) xs[i]:=by
  rw [List.take_add_one,gEg h,List.foldl_append];rfl
theorem Vi:∀(ds out:List Int),(ds.foldl zC out).length≤out.length+ds.length
  |[],out=>by simp
  | d::ds,out=>by
    simp only [List.foldl_cons,List.length_cons]
    have:=Vi ds (zC out d);have:=Vh out d;omega
theorem qA.names_len:∀(x:qA) (out:List Int),(x.names out).length≤out.length+x.sz+1:=qA.ind fun x ih out=>by
  rw [x.names_eq,x.sz_eq]
  have h:∀(ks:List qA),(∀y∈ks,∀o:List Int,(y.names o).length≤o.length+y.sz+1)→∀o:List Int,(ks.foldl (fun o y=>y.names o) o).length≤o.length+ks.length+qF qA.sz ks:=by
    intro ks
    induction ks with
    | nil=>intro _ o;simp [qF]
    | cons a ks ihk=>
      intro h o
      simp only [List.foldl_cons,List.length_cons,qF]
      have:=h a (by simp) o
      have:=ihk (fun y hy=>h y (by simp [hy])) (a.names o)
      omega
  have h1:=h x.Kids ih (x.Data.foldl zC (if x.Kind=11 then zC out x.Value else out))
  have h2:=Vi x.Data (if x.Kind=11 then zC out x.Value else out)
  have h3:(if x.Kind=11 then zC out x.Value else out).length≤out.length+1:=by
    split
    · exact Vh _ _
    · omega
  omega
theorem qdV (x:qA) (o:List Int) (i:Nat):((x.Kids.take i).foldl (fun o y=>y.names o) o).length+(qF qA.sz (x.Kids.drop i)+(x.Kids.drop i).length)≤o.length+(x.Kids.length+qF qA.sz x.Kids):=by
  have h:∀(ks:List qA) (i:Nat) (o:List Int),((ks.take i).foldl (fun o y=>y.names o) o).length+(qF qA.sz (ks.drop i)+(ks.drop i).length)≤o.length+(ks.length+qF qA.sz ks):=by
    intro ks
    induction ks with
    | nil=>intro i o;simp [qF]
    | cons a ks ih=>
      intro i o
      cases i with
      | zero=>simp [qF];omega
      | succ i=>
        simp only [List.take_succ_cons,List.foldl_cons,List.drop_succ_cons,List.length_cons,qF]
        have:=ih i (a.names o)
        have:=a.names_len o
        omega
  exact h _ _ _
theorem qXF (x:qA):∀(out:List Int) (hz:x.sz≤1048576) (ho:out.length+x.sz≤2000000),Pure Gm 1407 [.ept x.enc 0,.lst 1 (out.map qE) false] (.lst 1 ((x.names out).map qE) false):=by
  induction x using qA.ind with
  | _ x ih=>
  intro out hz ho
  refine Pure.intro [] [] qaS (by kernel_rfl) rfl (by simp [AV.trees,AV.tree,qf,qA.tr]) (by simp [AV.tree,qf]) ?_
  simp only [XC,qL,go_sem]
  have hL:=x.len_sz
  have hse:=x.sz_eq
  obtain ⟨o0,ho0⟩:∃o0,o0=(if x.Kind=11 then zC out x.Value else out):=⟨_,rfl⟩
  have hnm:x.names out=x.Kids.foldl (fun o y=>y.names o) (x.Data.foldl zC o0):=by rw [x.names_eq,ho0]
  have hl0:o0.length≤out.length+1:=by rw [ho0];split;exact Vh _ _;omega
  refine qD ?_ ?_<;>intro hc<;>simp only [hc,go_sem]
  refine qG (c920 (by omega)) ?_
  simp only [go_sem]
  have h0:o0=zC out x.Value:=by rw [ho0,if_pos (odT hc)]
  rotate_left
  have h0:o0=out:=by rw [ho0,if_neg (odF hc)]
  all_goals
    refine Sem.loop (fun i:Nat=>i≤x.Data.length∧True) (fun i=>(⟨[(0,.ept x.enc 0),(1,.lst 1 (((x.Data.take i).foldl zC o0).map qE) false),(5,.int .i64 (i:Nat))],[],[]⟩:VSt)) (fun i=>x.Data.length-i) 0 (by kernel_rfl) ⟨Nat.zero_le _,by trivial⟩ (Can.sub (by simp [go_sem,h0]) (by simp [go_sem])) ?_
    rintro i ⟨hi,hI⟩
    simp only [go_sem]
    refine qD ?_ ?_<;>intro hc<;>simp only [hc,go_sem]
    · have hlt:i<x.Data.length:=by have:=odT hc;omega
      simp only [List.getElem?_map,gEg hlt,Option.map_some,go_sem]
      simp only [qE]
      simp only [go_sem]
      have:=Vi (x.Data.take i) o0
      rw [List.length_take] at this
      refine qG (c920 (by omega)) ?_
      simp only [go_sem]
      simp only [qe (show i<4611686018427387904 by omega)]
      refine qY (i+1) ⟨by omega,trivial⟩ (by omega) (Can.sub ?_ (by simp [go_sem]))
      rw [Yy zC hlt]
      simp [go_sem]
    · obtain rfl:i=x.Data.length:=by have:=odF hc;omega
      rw [List.take_length]
      have hd:=Vi x.Data o0
      obtain ⟨o1,h1⟩:∃o1,o1=x.Data.foldl zC o0:=⟨_,rfl⟩
      rw [←h1] at hnm hd⊢
      refine Sem.loop (fun i:Nat=>i≤x.Kids.length∧True) (fun i=>(⟨[(0,.ept x.enc 0),(1,.lst 1 (((x.Kids.take i).foldl (fun o y=>qA.names y o) o1).map qE) false),(6,.int .i64 (i:Nat))],[],[]⟩:VSt)) (fun i=>x.Kids.length-i) 0 (by kernel_rfl) ⟨Nat.zero_le _,by trivial⟩ (Can.sub (by simp [go_sem]) (by simp [go_sem])) ?_
      rintro i ⟨hi,hI⟩
      simp only [go_sem]
      refine qD ?_ ?_<;>intro hc<;>simp only [hc,go_sem]
      · have hlt:i<x.Kids.length:=by have:=odT hc;omega
        simp only [List.getElem?_map,gEg hlt,Option.map_some,go_sem]
        have hm:=List.getElem_mem hlt
        have hk:=qA.kid_sz hm
        have hb:=qdV x o1 i
        rw [jk hlt] at hb
        simp only [qF,List.length_cons] at hb
        refine qG (ih _ hm _ (by omega) (by omega)) ?_
        simp only [go_sem]
        simp only [qe (show i<4611686018427387904 by omega)]
        refine qY (i+1) ⟨by omega,trivial⟩ (by omega) (Can.sub ?_ (by simp [go_sem]))
        rw [Yy (fun (o:List Int) (y:qA)=>y.names o) hlt]
        simp [go_sem]
      · obtain rfl:i=x.Kids.length:=by have:=odF hc;omega
        rw [List.take_length]
        exact qK (by simp [AV.tree,qf]) (by rw [hnm])
end Go.Ab
namespace Go.Ab
open Go
set_option maxRecDepth 10000
set_option maxHeartbeats 2000000
def qr (b:qI):List (List Int):=b.Defs.map fun c=>c.names []
def Ed (U:List (List Int)) (a b:Int):Prop:=b∈U.getD a.toNat []
open Classical in
noncomputable def wJ (U:List (List Int)) (d:Int):Bool:=decide (Relation.TransGen (Ed U) d d)
def ZL (U:List (List Int)):Prop:=∀ys∈U,∀k∈ys,0≤k∧k<U.length
theorem VV:∀(n:Nat) (xs:List Int),xs.Nodup→(∀x∈xs,0≤x∧x<n)→xs.length≤n
  | 0,[],_,_=>Nat.le_refl _
  | 0,x::xs,_,h=>by have:=h x (by simp);omega
  | n+1,xs,hd,h=>by
    by_cases hm:(n:Int)∈xs
    · have h1:=VV n (xs.erase n) (hd.erase _) (fun x hx=>by
        have h2:=h x (List.mem_of_mem_erase hx)
        have h3:x≠n:=by rintro rfl;exact (hd.not_mem_erase) hx
        omega)
      rw [List.length_erase_of_mem hm] at h1
      omega
    · have:=VV n xs hd (fun x hx=>by
        have h2:=h x hx
        have h3:x≠n:=by rintro rfl;exact hm hx
        omega)
      omega
structure jZ (U:List (List Int)) (d:Int) (i:Nat) (seen:List Int):Prop where
  nd:seen.Nodup
  rng:∀s∈seen,0≤s∧s<U.length
  rch:∀s∈seen,Relation.TransGen (Ed U) d s
  beg:∀s,Ed U d s→s∈seen
  cls:∀j,j<i→∀s,seen[j]?=some s→∀k,Ed U s k→k∈seen
theorem jZ.len {U:List (List Int)} {d:Int} {i:Nat} {seen:List Int} (h:jZ U d i seen):seen.length≤U.length:=VV _ _ h.nd h.rng
theorem jZ.done {U:List (List Int)} {d:Int} {seen:List Int} (h:jZ U d seen.length seen):(seen.any fun k=>decide (k=d))=wJ U d:=by
  unfold wJ
  rw [Bool.eq_iff_iff]
  simp only [List.any_eq_true,decide_eq_true_eq]
  constructor
  · rintro ⟨k,hk,rfl⟩;exact h.rch _ hk
  · intro hr
    refine ⟨d, ?_,rfl⟩
    have key:∀{b:Int},Relation.TransGen (Ed U) d b→b∈seen:=by
      intro b hb
      induction hb with
      | single h1=>exact h.beg _ h1
      | tail _ h2 ih=>
        obtain ⟨j,hj,e⟩:=List.getElem_of_mem ih
        exact h.cls j hj _ (by rw [gEg hj,e]) _ h2
    exact key hr
theorem jZ.next {U:List (List Int)} {d:Int} {i:Nat} {seen':List Int} {e:Int} (h:jZ U d i seen') (hp:seen'[i]?=some e) (he:∀k,Ed U e k→k∈seen'):jZ U d (i+1) seen':=
  ⟨h.nd,h.rng,h.rch,h.beg,fun j hj s hs k hk=>by
    rcases Nat.lt_succ_iff_lt_or_eq.1 hj with hj | rfl
    · exact h.cls j hj s hs k hk
    · rw [hp] at hs;cases hs;exact he k hk⟩
theorem jZ.push {U:List (List Int)} (hU:ZL U) {d:Int} {i:Nat} {seen:List Int} {e k:Int} (h:jZ U d i seen) (hi:i≤seen.length) (he:e∈seen) (hk:Ed U e k) (hn:k∉seen):jZ U d i (seen++[k]) where
  nd:=by
    rw [List.nodup_append]
    refine ⟨h.nd,by simp, ?_⟩
    intro a ha b hb
    simp at hb
    rintro rfl
    rw [hb] at ha
    exact hn ha
  rng:=fun s hs=>by
    rcases List.mem_append.1 hs with hs | hs
    · exact h.rng s hs
    · simp at hs
      subst hs
      unfold Ed at hk
      rw [List.getD_eq_getElem?_getD] at hk
      cases hq:U[e.toNat]? with
      | none=>rw [hq] at hk;simp at hk
      | some ys=>rw [hq] at hk;exact hU ys (List.mem_of_getElem? hq) _ hk
  rch:=fun s hs=>by
    rcases List.mem_append.1 hs with hs | hs
    · exact h.rch s hs
    · simp at hs;subst hs;exact .tail (h.rch e he) hk
  beg:=fun s hs=>List.mem_append.2 (.inl (h.beg s hs))
  cls:=fun j hj s hs k' hk'=>by
    rw [List.getElem?_append_left (by omega)] at hs
    exact List.mem_append.2 (.inl (h.cls j hj s hs k' hk'))
theorem QI (U:List (List Int)):AV.trees (U.map (jl 1 qE))=true:=zg (shL shI).tree U
noncomputable def zt (U:List (List Int)) (n:Nat):List Int:=((List.range n).map fun (k:Nat)=>(k:Int)).filter (wJ U)
theorem qT9 (U:List (List Int)) (n:Nat):zt U (n+1)=if wJ U n then zt U n++[(n:Int)] else zt U n:=by
  unfold zt
  rw [List.range_succ,List.map_append,List.filter_append]
  simp only [List.map_cons,List.map_nil,List.filter_cons,List.filter_nil]
  split<;>simp
theorem qT8 (U:List (List Int)) (n:Nat):(zt U n).length≤n:=by
  unfold zt
  refine Nat.le_trans (List.length_filter_le _ _) (by simp)
theorem qW2 {b:qI} (hz:b.sz≤1048576):Pure Gm 1162 [.ept b.enc 0] (.lst 1 ((qr b).map (jl 1 qE)) false):=by
  refine Pure.intro [] [] qZ1 (by kernel_rfl) rfl (by simp [AV.trees,AV.tree,go_sem]) (by simp [AV.tree,QI]) ?_
  simp only [Wk,qL,go_sem]
  have hz':b.Defs.length+qF qA.sz b.Defs≤1048576:=hz
  have hul:(qr b).length=b.Defs.length:=by simp [qr]
  refine Sem.loop (fun i:Nat=>i≤b.Defs.length) (fun i=>(⟨[(0,.ept b.enc 0),(3,.slice 1 0 0 i false),(4,.int .i64 (i:Nat))],[],[.row 1 (((qr b).take i).map (jl 1 qE)) true]⟩:VSt)) (fun i=>b.Defs.length-i) 0 (by kernel_rfl) (Nat.zero_le _)
    (Can.renum [none] rfl ⟨.ph,trivial⟩ ⟨⟨_,rfl,.tree (by simp [AV.tree,go_sem])⟩,⟨_,rfl,.ph2 rfl⟩,⟨_,rfl,.tree rfl⟩,trivial⟩ trivial) ?_
  intro i hi
  simp only [go_sem]
  refine qD ?_ ?_<;>intro hc<;>simp only [hc,go_sem]
  · have hlt:i<b.Defs.length:=by have:=odT hc;omega
    simp only [List.getElem?_map,gEg hlt,Option.map_some,go_sem]
    have hm:=List.getElem_mem hlt
    have hs:=zV (f:=qA.sz) hm
    refine qXV (.same (.clip .nil)) ?_
    refine qG (qXF b.Defs[i] [] (by omega) (by simp;omega)) ?_
    simp only [go_sem]
    refine jO (el:=((qr b).take i).map (jl 1 qE)) rfl rfl (by simp;omega) (by omega) ?_
    simp only [go_sem]
    simp only [qe (show i<4611686018427387904 by omega)]
    refine qY (i+1) (by omega) (by omega) ?_
    refine Can.renum [some 2] rfl ⟨.row rfl (VR2s.of_eq ?_ (QI _)),trivial⟩ ⟨⟨_,rfl,.tree (by simp [AV.tree,go_sem])⟩,⟨_,rfl,.slice rfl⟩,⟨_,rfl,.tree rfl⟩,trivial⟩ trivial
    rw [List.take_add_one,gEg (by omega)]
    simp [qr,jl]
  · obtain rfl:i=b.Defs.length:=by have:=odF hc;omega
    rw [List.take_of_length_le (by omega)]
    exact qy (Cv.row rfl (by simp [hul]) (QI _) (by decide))
end Go.Ab
namespace Go.Ab
open Go
set_option maxRecDepth 10000
set_option maxHeartbeats 2000000
theorem qPA {xs:List Int} {c:Bool} {n:Nat}:(lay (.lst 1 (xs.map qE) c) n).1=.slice 1 n 0 xs.length false:=by simp [lay]
theorem qPB {xs:List Int} {c:Bool} {n:Nat}:(lay (.lst 1 (xs.map qE) c) n).2=[.row 1 (xs.map qE) true]:=by simp [lay,lI]
theorem qO8 {w id len i:Nat} {c:Bool} {k:IntKind} (h:i<len):idx w (some (.slice w id 0 len c)) (some (.int k (i:Int)))=some (.ptr id i 0):=by
  unfold idx;simp [h]
theorem jZ.start {U:List (List Int)} (hU:ZL U) {d:Nat} (hd:d<U.length) (hn:U[d].Nodup):jZ U d 0 U[d] where
  nd:=hn
  rng:=fun s hs=>hU _ (List.getElem_mem hd) s hs
  rch:=fun s hs=>.single (by unfold Ed;rw [List.getD_eq_getElem?_getD,Int.toNat_natCast,gEg hd];exact hs)
  beg:=fun s hs=>by unfold Ed at hs;rw [List.getD_eq_getElem?_getD,Int.toNat_natCast,gEg hd] at hs;exact hs
  cls:=fun j hj=>by omega
theorem c835 {b:qI} (hz:b.sz≤1048576) (hn:b.Defs.length≤24) (hU:ZL (qr b)) (hN:∀ys∈qr b,ys.Nodup):Pure Gm 835 [.ept b.enc 0] (.lst 1 ((zt (qr b) b.Defs.length).map qE) false):=by
  refine Pure.intro [] [] g835 (by kernel_rfl) rfl (by simp [AV.trees,AV.tree,go_sem]) (by simp [AV.tree,qf]) ?_
  simp only [X9,qL,go_sem]
  have hul:(qr b).length=b.Defs.length:=by simp [qr]
  have hus:∀ys∈qr b,ys.length≤2097152:=by
    intro ys hy
    simp only [qr,List.mem_map] at hy
    obtain ⟨c,hc,rfl⟩:=hy
    have h1:=qA.names_len c []
    have h2:=zV (f:=qA.sz) hc
    have h3:b.Defs.length+qF qA.sz b.Defs≤1048576:=hz
    simp at h1;omega
  refine qG (qW2 hz) ?_
  simp only [go_sem]
  generalize qr b=U at hU hul hus hN⊢
  refine Sem.loop (fun i:Nat=>i≤b.Defs.length) (fun i=>(⟨[(0,.ept b.enc 0),(3,.lst 1 (U.map (jl 1 qE)) false),(4,.slice 1 0 0 (zt U i).length false),(5,.int .i64 (i:Nat))],[],[.row 1 ((zt U i).map qE) true]⟩:VSt)) (fun i=>b.Defs.length-i) 0 (by kernel_rfl) (Nat.zero_le _)
    (Can.renum [none] rfl ⟨.ph,trivial⟩ ⟨⟨_,rfl,.tree (by simp [AV.tree,go_sem])⟩,⟨_,rfl,.tree (by simp [AV.tree,QI])⟩,⟨_,rfl,.ph2 rfl⟩,⟨_,rfl,.tree rfl⟩,trivial⟩ trivial) ?_
  intro d hd
  simp only [go_sem]
  refine qD ?_ ?_<;>intro hc<;>simp only [hc,go_sem]
  · have hlt:d<b.Defs.length:=by have:=odT hc;omega
    have hltU:d<U.length:=by omega
    simp only [List.getElem?_map,gEg hltU,Option.map_some,jl,go_sem]
    refine j4 (n402 U[d] (by have:=hus _ (List.getElem_mem hltU);omega)) ?_
    simp only [go_sem,qPA,qPB,List.nil_append,List.cons_append]
    refine Sem.loop (fun a:Nat×List Int=>a.1≤a.2.length∧jZ U d a.1 a.2) (fun a=>(⟨[(0,.ept b.enc 0),(3,.lst 1 (U.map (jl 1 qE)) false),(4,.slice 1 0 0 (zt U d).length false),(5,.int .i64 (d:Nat)),(6,.slice 1 1 0 a.2.length false),(7,.int .i64 (a.1:Nat))],[],[.row 1 ((zt U d).map qE) true,.row 1 (a.2.map qE) true]⟩:VSt)) (fun a=>U.length-a.1) (0,U[d]) (by kernel_rfl) ⟨Nat.zero_le _,jZ.start hU hltU (hN _ (List.getElem_mem hltU))⟩
      (Can.sub (by simp [go_sem]) (by simp [go_sem])) ?_
    rintro ⟨i,seen⟩ ⟨hi,hS⟩
    simp only at hi hS
    simp only [go_sem]
    have hsl:=hS.len
    refine qD ?_ ?_<;>intro hc<;>simp only [hc,go_sem]
    · have hlti:i<seen.length:=by have:=odT hc;omega
      have he:=hS.rng _ (List.getElem_mem hlti)
      have hme:=List.getElem_mem hlti
      obtain ⟨e,hE⟩:∃e:Nat,seen[i]=(e:Int):=⟨seen[i].toNat,by omega⟩
      have hltE:e<U.length:=by omega
      have hEd:∀k,Ed U (e:Int) k↔k∈U[e]:=by intro k;unfold Ed;rw [List.getD_eq_getElem?_getD,Int.toNat_natCast,gEg hltE];rfl
      have hue:=hus _ (List.getElem_mem hltE)
      refine Sem.loop (fun a:Nat×List Int=>a.1≤U[e].length∧i<a.2.length∧a.2[i]?=some (e:Int)∧jZ U d i a.2∧∀y∈U[e].take a.1,y∈a.2) (fun a=>(⟨[(0,.ept b.enc 0),(3,.lst 1 (U.map (jl 1 qE)) false),(4,.slice 1 0 0 (zt U d).length false),(5,.int .i64 (d:Nat)),(6,.slice 1 1 0 a.2.length false),(7,.int .i64 (i:Nat)),(8,.int .i64 (a.1:Nat))],[],[.row 1 ((zt U d).map qE) true,.row 1 (a.2.map qE) true]⟩:VSt)) (fun a=>U[e].length-a.1) (0,seen) (by kernel_rfl) ⟨Nat.zero_le _,hlti,by rw [gEg hlti,hE],hS,by simp⟩
        (Can.sub (by simp [go_sem]) (by simp [go_sem])) ?_
      rintro ⟨k,sn⟩ ⟨hk,hi2,hse,hS2,hin⟩
      simp only at hk hi2 hse hS2 hin
      simp only [go_sem]
      simp only [qO8 hi2,List.getElem?_map,hse,Option.map_some,qE,gEg hltE,jl,go_sem]
      refine qD ?_ ?_<;>intro hc<;>simp only [hc,go_sem]
      · have hltk:k<U[e].length:=by have:=odT hc;omega
        simp only [qO8 hi2,List.getElem?_map,hse,Option.map_some,qE,gEg hltE,jl,gEg hltk,go_sem]
        have hsl2:=hS2.len
        have hky:Ed U (e:Int) U[e][k]:=(hEd _).2 (List.getElem_mem hltk)
        have htk:∀(sn':List Int),(∀y∈sn,y∈sn')→U[e][k]∈sn'→∀y∈U[e].take (k+1),y∈sn':=by
          intro sn' h1 h2 y hy
          rw [List.take_add_one,gEg hltk] at hy
          rcases List.mem_append.1 hy with hy | hy
          · exact h1 y (hin y hy)
          · simp at hy;subst hy;exact h2
        refine jI (vs':=[.lst 1 (sn.map qE) false,.int .i64 U[e][k]]) (Cvs.cons (Cv.row rfl (by simp) (qf _) (by decide)) (Cvs.cons (.refl rfl) Cvs.nil)) (qOD (by omega)) rfl ?_
        simp only [go_sem]
        refine qD ?_ ?_<;>intro hc<;>simp only [hc,go_sem]
        · simp only [qO8 hi2,List.getElem?_map,hse,Option.map_some,qE,gEg hltE,jl,gEg hltk,go_sem]
          have hnm:U[e][k]∉sn:=by
            intro hm
            have h2:(sn.any fun q=>decide (q=U[e][k]))=true:=List.any_eq_true.2 ⟨_,hm,by simp⟩
            have h3:=nt hc
            rw [h2] at h3;cases h3
          refine jO (el:=sn.map qE) rfl rfl (by simp) (by omega) ?_
          simp only [go_sem]
          simp only [qe (show k<4611686018427387904 by omega)]
          refine qY (k+1,sn++[U[e][k]]) ⟨by simp only;omega,by simp;omega,by simp only;rw [List.getElem?_append_left hi2];exact hse,jZ.push hU hS2 (by omega) (List.mem_of_getElem? hse) hky hnm,htk _ (fun y hy=>by simp [hy]) (by simp)⟩ (by simp only;omega) ?_
          simp only [List.length_append,List.length_cons,List.length_nil,Nat.zero_add]
          exact Can.renum [some 0,some 3] rfl ⟨.row rfl (VR2s.of_eq rfl (qf _)),.row rfl (VR2s.of_eq (by simp [qE]) (qf _)),trivial⟩ ⟨⟨_,rfl,.tree (by simp [AV.tree,go_sem])⟩,⟨_,rfl,.tree (by simp [AV.tree,QI])⟩,⟨_,rfl,.slice rfl⟩,⟨_,rfl,.tree rfl⟩,⟨_,rfl,.slice rfl⟩,⟨_,rfl,.tree rfl⟩,⟨_,rfl,.tree rfl⟩,trivial⟩ trivial
        · have hmm:U[e][k]∈sn:=by
            have h2:=nf hc
            simp only [List.any_eq_true,decide_eq_true_eq] at h2
            obtain ⟨q,hq,rfl⟩:=h2
            exact hq
          simp only [qe (show k<4611686018427387904 by omega)]
          exact qY (k+1,sn) ⟨by simp only;omega,hi2,hse,hS2,htk _ (fun y hy=>hy) hmm⟩ (by simp only;omega) (Can.sub (by simp [go_sem]) (by simp [go_sem]))
      · have ek:k=U[e].length:=by have:=odF hc;omega
        subst ek
        rw [List.take_length] at hin
        have hsl2:=hS2.len
        simp only [qe (show i<4611686018427387904 by omega)]
        refine qY (i+1,sn) ⟨by simp only;omega,hS2.next hse (fun y hy=>hin y ((hEd y).1 hy))⟩ (by simp only;omega) (Can.sub (by simp [go_sem]) (by simp [go_sem]))
    · have e:i=seen.length:=by have:=odF hc;omega
      subst e
      refine jI (vs':=[.lst 1 (seen.map qE) false,.int .i64 (d:Int)]) (Cvs.cons (Cv.row rfl (by simp) (qf _) (by decide)) (Cvs.cons (.refl rfl) Cvs.nil)) (qOD (by omega)) rfl ?_
      simp only [go_sem]
      rw [hS.done]
      refine qD ?_ ?_<;>intro hc<;>simp only [hc,go_sem]
      · refine jO (el:=(zt U d).map qE) rfl rfl (by simp) (by have:=qT8 U d;omega) ?_
        simp only [go_sem]
        simp only [qe (show d<4611686018427387904 by omega)]
        refine qY (d+1) (by omega) (by omega) ?_
        rw [show zt U (d+1)=zt U d++[(d:Int)] by rw [qT9,if_pos hc]]
        simp only [List.length_append,List.length_cons,List.length_nil,Nat.zero_add]
        exact Can.renum [some 3] rfl ⟨.row rfl (VR2s.of_eq (by simp [qE]) (qf _)),trivial⟩ ⟨⟨_,rfl,.tree (by simp [AV.tree,go_sem])⟩,⟨_,rfl,.tree (by simp [AV.tree,QI])⟩,⟨_,rfl,.slice rfl⟩,⟨_,rfl,.tree rfl⟩,trivial⟩ trivial
      · simp only [qe (show d<4611686018427387904 by omega)]
        refine qY (d+1) (by omega) (by omega) ?_
        rw [show zt U (d+1)=zt U d by rw [qT9,if_neg (by rw [hc];decide)]]
        exact Can.renum [some 0] rfl ⟨.row rfl (VR2s.of_eq rfl (qf _)),trivial⟩ ⟨⟨_,rfl,.tree (by simp [AV.tree,go_sem])⟩,⟨_,rfl,.tree (by simp [AV.tree,QI])⟩,⟨_,rfl,.slice rfl⟩,⟨_,rfl,.tree rfl⟩,trivial⟩ trivial
  · have e:d=b.Defs.length:=by have:=odF hc;omega
    subst e
    exact qy (Cv.row rfl (by simp) (qf _) (by decide))
end Go.Ab
namespace Go.Ab
open Go
set_option maxRecDepth 10000
set_option maxHeartbeats 2000000
def zB {α β:Type} (f:Nat→α→β):List α→Nat→List β
  |[],_=>[]
  | x::xs,i=>f i x::zB f xs (i+1)
theorem VO {α β γ:Type} (f:Nat→β→γ) (g:α→β):∀(xs:List α) (i:Nat),zB f (xs.map g) i=zB (fun k x=>f k (g x)) xs i
  |[],_=>rfl
  | x::xs,i=>by simp [zB,VO f g xs]
theorem wc {α β:Type} (f:Nat→α→β):∀(xs:List α) (i:Nat),(zB f xs i).length=xs.length
  |[],_=>rfl
  | x::xs,i=>by simp [zB,wc f xs]
theorem VP {α β:Type} {f:Nat→α→β}:∀{xs:List α} {i k:Nat} (h:i<xs.length),zB f (xs.take (i+1)) k=zB f (xs.take i) k++[f (k+i) xs[i]]
  |[],i,k,h=>by simp at h
  | x::xs,0,k,h=>by simp [zB]
  | x::xs,i+1,k,h=>by
    simp only [List.take_succ_cons,zB,List.getElem_cons_succ,List.cons_append]
    rw [VP (i:=i) (k:=k+1) (by simpa using h)]
    congr 3
    congr 1
    omega
theorem qTC {α β:Type} {f:Nat→α→β}:∀{xs:List α} {i:Nat} {y:β},y∈zB f xs i→∃x∈xs,∃k,y=f k x
  |[],_,_,h=>by simp [zB] at h
  | x::xs,i,y,h=>by
    simp only [zB,List.mem_cons] at h
    rcases h with rfl | h
    · exact ⟨x,by simp,i,rfl⟩
    · obtain ⟨z,hz,k,e⟩:=qTC h;exact ⟨z,by simp [hz],k,e⟩
def qA.vb (m:Int):qA→Bool:=qA.fold fun x rs=>(!decide (x.Kind=1) || inI x.Value 0 m)&&rs.all id
theorem qA.vb_eq (m:Int) (x:qA):x.vb m=((!decide (x.Kind=1) || inI x.Value 0 m)&&x.Kids.all (qA.vb m)):=by
  unfold qA.vb;rw [qA.fold_eq];simp
theorem WG {x y:qA} {m:Int} (h:x.vb m=true) (hy:y∈x.Kids):y.vb m=true:=by
  rw [x.vb_eq,Bool.and_eq_true,List.all_eq_true] at h;exact h.2 y hy
theorem V0 {x:qA} {m:Int} (h:x.vb m=true) (hk:x.Kind=1):0≤x.Value∧x.Value≤m:=by
  rw [x.vb_eq,Bool.and_eq_true] at h
  have:=h.1
  simp [hk,inI] at this;exact this
def wC (k v a f:Int):Int:=if k=1∧f≤v then v+a else v
def qA.shift (a:Int):qA→Int→qA:=qA.fold fun x rs f=>.mk x.Kind (wC x.Kind x.Value a f) x.Data (zB (fun i (r:Int→qA)=>r (f+qV x.Kind i)) rs 0)
theorem qA.shift_eq (a:Int) (x:qA) (f:Int):x.shift a f=.mk x.Kind (wC x.Kind x.Value a f) x.Data (zB (fun i y=>y.shift a (f+qV x.Kind i)) x.Kids 0):=by
  unfold qA.shift;rw [qA.fold_eq,VO]
theorem QW {h:List qC} {id n:Nat} {k v:Int} {d:List Int} {ks:List qA} (ho:h[id]?=some (.row 4 (ks.map qA.enc) true)) (hn:ks.length=n):
    Cv h (.agg [.int .i64 k,.int .i64 v,.lst 1 (d.map qE) false,.slice 4 id 0 n false]) (qA.mk k v d ks).enc:=by
  rw [qA.enc_eq]
  refine .agg rfl ?_
  simp only [List.zip_cons_cons,List.zip_nil_left,List.mem_cons,List.not_mem_nil,or_false,qA.Kind,qA.Value,qA.Data,qA.Kids]
  rintro p (rfl | rfl | rfl | rfl)
  · exact .refl rfl
  · exact .refl rfl
  · exact .refl (by simp [AV.tree,qf])
  · exact Cv.row ho (by simpa using hn) (zg qA.isSh.tree _) (by decide)
theorem zJ (xs:List qA):AV.trees (xs.map qA.enc)=true:=zg qA.isSh.tree xs
theorem c766 (x:qA):∀(a f:Int) (hz:x.sz≤1048576) (ha:0≤a∧a≤4294967296) (hf:0≤f∧f+x.dep≤4294967296) (hv:x.vb 4294967296=true),Pure Gm 766 [.ept x.enc 0,.int .i64 a,.int .i64 f] ((x.shift a f).enc):=by
  induction x using qA.ind with
  | _ x ih=>
  intro a f hz ha hf hv
  refine Pure.intro [] [] g766 (by kernel_rfl) rfl (by simp [AV.trees,AV.tree,go_sem]) (by simp [go_sem]) ?_
  simp only [X3,qL,go_sem]
  have hL:=x.len_sz
  refine qG (c402 x.Data (by omega)) ?_
  simp only [go_sem]
  refine qO (k:=4) (by rfl) (by rfl) (by exact ⟨_,rfl⟩) (by decide) ?_
  simp only [go_sem]
  obtain ⟨w,hw⟩:∃w,w=wC x.Kind x.Value a f:=⟨_,rfl⟩
  have hres:=x.shift_eq a f
  rw [←hw] at hres
  refine qZ ?_ ?_<;>intro hc<;>simp only [hc,go_sem]
  refine qD ?_ ?_<;>intro hc<;>simp only [hc,go_sem]
  have hk1:=V0 hv (odT (by assumption))
  rw [qi (by omega) (by omega)]
  have h0:x.Value+a=w:=by
    rename_i h1
    rw [hw,wC,if_pos ⟨odT h1,odT hc⟩]
  rotate_left
  have h0:x.Value=w:=by
    rw [hw,wC,if_neg (fun q=>absurd q.2 (odF hc))]
  rotate_left
  have h0:x.Value=w:=by
    rw [hw,wC,if_neg (fun q=>absurd q.1 (odF hc))]
  all_goals
    rw [h0]
    refine Sem.loop (fun i:Nat=>i≤x.Kids.length) (fun i=>(⟨[(0,.ept x.enc 0),(1,.int .i64 a),(2,.int .i64 f),(8,.int .i64 (i:Nat))],[(7,.agg [.int .i64 x.Kind,.int .i64 w,.lst 1 (x.Data.map qE) false,.slice 4 0 0 i false]),(6,.agg [.int .i64 0,.int .i64 0,.nils,.nils])],[.row 4 ((zB (fun i y=>qA.shift a y (f+qV x.Kind i)) (x.Kids.take i) 0).map qA.enc) true]⟩:VSt)) (fun i=>x.Kids.length-i) 0 (by kernel_rfl) (Nat.zero_le _)
      (Can.renum [none] rfl ⟨.ph,trivial⟩ ⟨⟨_,rfl,.tree (by simp [AV.tree,go_sem])⟩,⟨_,rfl,.tree rfl⟩,⟨_,rfl,.tree rfl⟩,⟨_,rfl,.tree rfl⟩,trivial⟩
        ⟨⟨_,rfl,.agg rfl (VR2s.cons (.tree rfl) (VR2s.cons (.tree rfl) (VR2s.cons (.tree (by simp [AV.tree,qf])) (VR2s.cons (.ph rfl) VR2s.nil)))).2⟩,⟨_,rfl,.tree rfl⟩,trivial⟩) ?_
    intro i hi
    simp only [go_sem]
    refine qD ?_ ?_<;>intro hc<;>simp only [hc,go_sem]
    · have hlt:i<x.Kids.length:=by have:=odT hc;omega
      simp only [List.getElem?_map,gEg hlt,Option.map_some,go_sem]
      have hm:=List.getElem_mem hlt
      have hk:=qA.kid_sz hm
      have hp:=qA.dep_kid hm
      have hb:=jt x.Kind i
      refine qG ZT ?_
      simp only [go_sem]
      rw [qi (n:=f+qV x.Kind i) (by omega) (by omega)]
      refine qG (ih _ hm a (f+qV x.Kind i) (by omega) ha (by omega) (WG hv hm)) ?_
      simp only [go_sem]
      refine jO (el:=(zB (fun i y=>qA.shift a y (f+qV x.Kind i)) (x.Kids.take i) 0).map qA.enc) rfl rfl (by simp [wc];omega) (by omega) ?_
      simp only [go_sem]
      simp only [qe (show i<4611686018427387904 by omega)]
      refine qY (i+1) (by omega) (by omega) ?_
      refine Can.renum [some 2] rfl ⟨.row rfl (VR2s.of_eq (by rw [VP hlt,Nat.zero_add];simp) (zJ _)),trivial⟩ ⟨⟨_,rfl,.tree (by simp [AV.tree,go_sem])⟩,⟨_,rfl,.tree rfl⟩,⟨_,rfl,.tree rfl⟩,⟨_,rfl,.tree rfl⟩,trivial⟩
        ⟨⟨_,rfl,.agg rfl (VR2s.cons (.tree rfl) (VR2s.cons (.tree rfl) (VR2s.cons (.tree (by simp [AV.tree,qf])) (VR2s.cons (.slice rfl) VR2s.nil)))).2⟩,⟨_,rfl,.tree rfl⟩,trivial⟩
    · obtain rfl:i=x.Kids.length:=by have:=odF hc;omega
      rw [List.take_length]
      refine qO (k:=4) (by rfl) (by rfl) (by exact ⟨_,rfl⟩) (by decide) ?_
      simp only [go_sem]
      rw [hres]
      exact qy (QW rfl (wc _ _ _))
end Go.Ab
namespace Go.Ab
open Go
set_option maxRecDepth 10000
set_option maxHeartbeats 2000000
theorem Zu {α:Type} {f:α→Nat} {xs:List α} {i:Nat} (h:i<xs.length):qz f (xs.take (i+1))=max (qz f (xs.take i)) (f xs[i]):=by
  induction xs generalizing i with
  | nil=>simp at h
  | cons a xs ih=>
    cases i with
    | zero=>simp [qz]
    | succ i=>
      simp only [List.take_succ_cons,qz,List.getElem_cons_succ,ih (by simpa using h)]
      show max _ _=max (max _ _) _
      rw [Nat.max_assoc]
theorem WA {α:Type} (f:α→Nat):∀(xs:List α) (i:Nat),qF f (xs.take i)≤qF f xs
  |[],i=>by simp
  | a::xs,0=>by simp [qF]
  | a::xs,i+1=>by simp only [List.take_succ_cons,qF];have:=WA f xs i;omega
@[go_sem] theorem zEF {α:Type} (f:α→Nat):qz f []=0:=rfl
theorem qTG (a b:Nat):(if (b:Int)<(a:Int) then (a:Int) else (b:Int))=((max a b:Nat):Int):=by
  split<;>omega
theorem qA.dep_size:∀x:qA,x.dep≤x.size:=qA.ind fun x ih=>by
  rw [x.dep_eq,x.size_eq]
  have:∀xs:List qA,(∀y∈xs,y.dep≤y.size)→qz qA.dep xs≤qF qA.size xs:=by
    intro xs
    induction xs with
    | nil=>intro _;simp [qz]
    | cons a xs ihx=>
      intro h
      have h1:=h a (by simp)
      have h2:=ihx (fun y hy=>h y (by simp [hy]))
      simp only [qz,qF]
      show max _ _≤_
      omega
  have:=this _ ih
  omega
def qA.fits (x:qA):Bool:=decide (x.size≤400)&&decide (x.dep≤80)
def qA.left:qA→Int→Int:=qA.fold fun _ rs l=>rs.foldl (fun l (r:Int→Int)=>if l<0 then l else r l) (l-1)
theorem qA.left_eq (x:qA) (l:Int):x.left l=x.Kids.foldl (fun l y=>if l<0 then l else y.left l) (l-1):=by
  unfold qA.left;rw [qA.fold_eq,Yx]
theorem qPG:∀(ks:List qA) (l:Int),l<0→ks.foldl (fun l y=>if l<0 then l else qA.left y l) l=l
  |[],_,_=>rfl
  | k::ks,l,h=>by simp only [List.foldl_cons,if_pos h];exact qPG ks l h
theorem qA.left_spec:∀(x:qA) (l:Int),0≤l→(0≤x.left l↔(x.size:Int)≤l)∧(0≤x.left l→x.left l=l-x.size)∧-1≤x.left l:=qA.ind fun x ih l hl=>by
  rw [x.left_eq,x.size_eq]
  have key:∀(ks:List qA),(∀y∈ks,∀l:Int,0≤l→(0≤y.left l↔(y.size:Int)≤l)∧(0≤y.left l→y.left l=l-y.size)∧-1≤y.left l)→∀m:Int,-1≤m→
      (0≤ks.foldl (fun l y=>if l<0 then l else qA.left y l) m↔(qF qA.size ks:Int)≤m∧0≤m)∧(0≤ks.foldl (fun l y=>if l<0 then l else qA.left y l) m→ks.foldl (fun l y=>if l<0 then l else qA.left y l) m=m-qF qA.size ks)∧
      -1≤ks.foldl (fun l y=>if l<0 then l else qA.left y l) m:=by
    intro ks
    induction ks with
    | nil=>intro _ m hm;simp [qF];omega
    | cons a ks ihk=>
      intro h m hm
      by_cases h0:m<0
      · rw [qPG _ _ h0]
        refine ⟨⟨fun q=>by omega,fun q=>by omega⟩,fun q=>by omega,hm⟩
      · simp only [List.foldl_cons,if_neg h0,qF]
        have h1:=h a (by simp) m (by omega)
        have h2:=ihk (fun y hy=>h y (by simp [hy])) (a.left m) h1.2.2
        refine ⟨⟨fun q=> ?_,fun q=> ?_⟩,fun q=> ?_,h2.2.2⟩
        · have h3:=h2.1.1 q
          have h4:=h1.2.1 h3.2
          omega
        · refine h2.1.2 ?_
          have h4:=h1.1.2 (by omega)
          have h5:=h1.2.1 h4
          omega
        · have h3:=h2.1.1 q
          have h4:=h1.2.1 h3.2
          rw [h2.2.1 q];omega
  have:=key x.Kids ih (l-1) (by omega)
  refine ⟨⟨fun q=> ?_,fun q=> ?_⟩,fun q=> ?_,this.2.2⟩
  · have:=this.1.1 q;omega
  · exact this.1.2 (by omega)
  · rw [this.2.1 q];omega
def qA.boxes:qA→Nat:=qA.fold fun x rs=>qz id rs+if x.Kind=6 then 1 else 0
theorem qA.boxes_eq (x:qA):x.boxes=qz qA.boxes x.Kids+if x.Kind=6 then 1 else 0:=by
  unfold qA.boxes;rw [qA.fold_eq,qPO];rfl
theorem qA.boxes_dep:∀x:qA,x.boxes≤x.dep:=qA.ind fun x ih=>by
  rw [x.boxes_eq,x.dep_eq]
  have:qz qA.boxes x.Kids≤qz qA.dep x.Kids:=by
    rw [Zt]
    intro y hy
    exact Nat.le_trans (ih y hy) ((Zt qA.dep _ x.Kids).1 (Nat.le_refl _) y hy)
  split<;>omega
theorem c856 {a b:Int}:Pure Gm 856 [.int .i64 a,.int .i64 b] (.int .i64 (if b<a then a else b)):=by
  refine Pure.intro [] [] g856 (by kernel_rfl) rfl (by simp [AV.trees,AV.tree,go_sem]) rfl ?_
  simp only [YG,qL,go_sem]
  repeat' (first | (refine qa rfl ?_;simp only [go_sem]) | (first | (refine qZ ?_ ?_<;>intro hc<;>simp only [hc,go_sem]) | (refine qD ?_ ?_<;>intro hc<;>simp only [hc,go_sem])) | refine qK rfl ?_ | refine jU (by rfl) ?_)
  all_goals (simp_all<;>omega)
theorem qRA (x:qA):∀(hz:x.sz≤1048576) (hd:x.dep≤1048576),Pure Gm 1123 [.ept x.enc 0] (.int .i64 (x.dep:Nat)):=by
  induction x using qA.ind with
  | _ x ih=>
  intro hz hd
  refine Pure.intro [] [] qZT (by kernel_rfl) rfl (by simp [AV.trees,AV.tree,go_sem]) rfl ?_
  simp only [Wc,qL,go_sem]
  have hL:=x.len_sz
  have hde:=x.dep_eq
  refine Sem.loop (fun i:Nat=>i≤x.Kids.length∧True) (fun i=>(⟨[(0,.ept x.enc 0),(3,.int .i64 (qz qA.dep (x.Kids.take i):Nat)),(4,.int .i64 (i:Nat))],[],[]⟩:VSt)) (fun i=>x.Kids.length-i) 0 (by kernel_rfl) ⟨Nat.zero_le _,by trivial⟩ (Can.sub (by simp [go_sem]) (by simp [go_sem])) ?_
  rintro i ⟨hi,hI⟩
  simp only [go_sem]
  refine qD ?_ ?_<;>intro hc<;>simp only [hc,go_sem]
  · have hlt:i<x.Kids.length:=by have:=odT hc;omega
    simp only [List.getElem?_map,gEg hlt,Option.map_some,go_sem]
    have hm:=List.getElem_mem hlt
    have hk:=qA.kid_sz hm
    have hp:=qA.dep_kid hm
    refine qG (ih _ hm (by omega) (by omega)) ?_
    simp only [go_sem]
    refine qG c856 ?_
    simp only [go_sem]
    rw [qTG,←Zu hlt]
    simp only [qe (show i<4611686018427387904 by omega)];refine qY (i+1) ⟨by omega, ?_⟩ (by omega) (Can.sub (by simp [go_sem]) (by simp [go_sem]))
    trivial
  · obtain rfl:i=x.Kids.length:=by have:=odF hc;omega
    rw [List.take_length,qi (by omega) (by omega)]
    exact qK rfl (by rw [hde];simp;omega)
theorem qXK (x:qA):∀(hz:x.sz≤1048576),Pure Gm 1504 [.ept x.enc 0] (.int .i64 (x.size:Nat)):=by
  induction x using qA.ind with
  | _ x ih=>
  intro hz
  refine Pure.intro [] [] qa1 (by kernel_rfl) rfl (by simp [AV.trees,AV.tree,go_sem]) rfl ?_
  simp only [XL,qL,go_sem]
  have hL:=x.len_sz
  have hde:=x.size_eq
  have hsz:=x.size_sz
  refine Sem.loop (fun i:Nat=>i≤x.Kids.length∧True) (fun i=>(⟨[(0,.ept x.enc 0),(3,.int .i64 ((1+qF qA.size (x.Kids.take i):Nat):Int)),(4,.int .i64 (i:Nat))],[],[]⟩:VSt)) (fun i=>x.Kids.length-i) 0 (by kernel_rfl) ⟨Nat.zero_le _,by trivial⟩ (Can.sub (by simp [go_sem]) (by simp [go_sem])) ?_
  rintro i ⟨hi,hI⟩
  simp only [go_sem]
  refine qD ?_ ?_<;>intro hc<;>simp only [hc,go_sem]
  · have hlt:i<x.Kids.length:=by have:=odT hc;omega
    simp only [List.getElem?_map,gEg hlt,Option.map_some,go_sem]
    have hm:=List.getElem_mem hlt
    have hk:=qA.kid_sz hm
    have ht:=Q7 (f:=qA.size) hlt
    have hle:=WA qA.size x.Kids (i+1)
    refine qG (ih _ hm (by omega)) ?_
    simp only [go_sem]
    have e1:((1+qF qA.size (x.Kids.take i):Nat):Int)+x.Kids[i].size=((1+qF qA.size (x.Kids.take (i+1)):Nat):Int):=by omega
    rw [e1,qi (n:=((1+qF qA.size (x.Kids.take (i+1)):Nat):Int)) (by omega) (by omega)]
    simp only [qe (show i<4611686018427387904 by omega)];refine qY (i+1) ⟨by omega, ?_⟩ (by omega) (Can.sub (by simp [go_sem]) (by simp [go_sem]))
    trivial
  · obtain rfl:i=x.Kids.length:=by have:=odF hc;omega
    rw [List.take_length]
    exact qK rfl (by rw [hde])
theorem qXL (x:qA):∀(hz:x.sz≤1048576) (hd:x.dep≤1048576),Pure Gm 1505 [.ept x.enc 0] (.int .i64 (x.boxes:Nat)):=by
  induction x using qA.ind with
  | _ x ih=>
  intro hz hd
  refine Pure.intro [] [] qa2 (by kernel_rfl) rfl (by simp [AV.trees,AV.tree,go_sem]) rfl ?_
  simp only [XM,qL,go_sem]
  have hL:=x.len_sz
  have hde:=x.boxes_eq
  have hbd:=x.boxes_dep
  refine Sem.loop (fun i:Nat=>i≤x.Kids.length∧True) (fun i=>(⟨[(0,.ept x.enc 0),(3,.int .i64 (qz qA.boxes (x.Kids.take i):Nat)),(4,.int .i64 (i:Nat))],[],[]⟩:VSt)) (fun i=>x.Kids.length-i) 0 (by kernel_rfl) ⟨Nat.zero_le _,by trivial⟩ (Can.sub (by simp [go_sem]) (by simp [go_sem])) ?_
  rintro i ⟨hi,hI⟩
  simp only [go_sem]
  refine qD ?_ ?_<;>intro hc<;>simp only [hc,go_sem]
  · have hlt:i<x.Kids.length:=by have:=odT hc;omega
    simp only [List.getElem?_map,gEg hlt,Option.map_some,go_sem]
    have hm:=List.getElem_mem hlt
    have hk:=qA.kid_sz hm
    have hp:=qA.dep_kid hm
    refine qG (ih _ hm (by omega) (by omega)) ?_
    simp only [go_sem]
    refine qG c856 ?_
    simp only [go_sem]
    rw [qTG,←Zu hlt]
    simp only [qe (show i<4611686018427387904 by omega)];refine qY (i+1) ⟨by omega, ?_⟩ (by omega) (Can.sub (by simp [go_sem]) (by simp [go_sem]))
    trivial
  · obtain rfl:i=x.Kids.length:=by have:=odF hc;omega
    rw [List.take_length]
    refine qD ?_ ?_<;>intro hc<;>simp only [hc,go_sem]
    · rw [if_pos (odT hc)] at hde
      rw [qi (by omega) (by omega)]
      exact qK rfl (by rw [hde];simp)
    · rw [if_neg (odF hc)] at hde
      exact qK rfl (by rw [hde];simp)
theorem qW0 (x:qA):∀(l:Int) (hz:x.sz≤1048576) (hl:0≤l∧l≤1048576),Pure Gm 1128 [.ept x.enc 0,.int .i64 l] (.int .i64 (x.left l)):=by
  induction x using qA.ind with
  | _ x ih=>
  intro l hz hl
  refine Pure.intro [] [] qZY (by kernel_rfl) rfl (by simp [AV.trees,AV.tree,go_sem]) rfl ?_
  simp only [Wh,qL,go_sem]
  have hL:=x.len_sz
  rw [qi (by omega) (by omega)]
  refine Sem.loop (fun i:Nat=>i≤x.Kids.length∧-1≤(x.Kids.take i).foldl (fun l y=>if l<0 then l else qA.left y l) (l-1)∧(x.Kids.take i).foldl (fun l y=>if l<0 then l else qA.left y l) (l-1)≤1048576) (fun i=>(⟨[(0,.ept x.enc 0),(1,.int .i64 ((x.Kids.take i).foldl (fun l y=>if l<0 then l else qA.left y l) (l-1))),(5,.int .i64 (i:Nat))],[],[]⟩:VSt)) (fun i=>x.Kids.length-i) 0 (by kernel_rfl) ⟨Nat.zero_le _,by simp;omega⟩ (Can.sub (by simp [go_sem]) (by simp [go_sem])) ?_
  rintro i ⟨hi,hI,hI2⟩
  simp only [go_sem]
  obtain ⟨m,hm0⟩:∃m,m=(x.Kids.take i).foldl (fun l y=>if l<0 then l else qA.left y l) (l-1):=⟨_,rfl⟩
  have hrest:x.left l=(x.Kids.drop i).foldl (fun l y=>if l<0 then l else qA.left y l) m:=by
    rw [x.left_eq,hm0,←List.foldl_append,List.take_append_drop]
  refine qZ ?_ ?_<;>intro hc<;>simp only [hc,go_sem]
  · have hlt:i<x.Kids.length:=by have:=odT hc;omega
    rw [←hm0]
    rw [←hm0] at hI hI2
    refine qD ?_ ?_<;>intro hc<;>simp only [hc,go_sem]
    · have h0:=odT hc
      simp only [List.getElem?_map,gEg hlt,Option.map_some,go_sem]
      have hm:=List.getElem_mem hlt
      have hk:=qA.kid_sz hm
      refine qG (ih _ hm m (by omega) (by omega)) ?_
      simp only [go_sem]
      have hs:=x.Kids[i].left_spec m (by omega)
      have hp:=x.Kids[i].size_pos
      have hf:(x.Kids.take (i+1)).foldl (fun l y=>if l<0 then l else qA.left y l) (l-1)=x.Kids[i].left m:=by
        rw [Yy (fun (l:Int) (y:qA)=>if l<0 then l else y.left l) hlt,←hm0,if_neg (by omega)]
      simp only [qe (show i<4611686018427387904 by omega)]
      refine qY (i+1) ⟨by omega,by rw [hf];exact hs.2.2, ?_⟩ (by omega) (Can.sub (by simp [go_sem,hf]) (by simp [go_sem]))
      rw [hf]
      by_cases hq:0≤x.Kids[i].left m
      · rw [hs.2.1 hq];omega
      · omega
    · have h0:=odF hc
      exact qK rfl (by rw [hrest,qPG _ _ (by omega)])
  · have e:i=x.Kids.length:=by have:=odF hc;omega
    rw [←hm0]
    exact qK rfl (by rw [hrest,e,List.drop_length];rfl)
theorem c765 {x:qA} (hz:x.sz≤1048576) (hd:x.dep≤1048576):Pure Gm 765 [.ept x.enc 0] (.bool x.fits):=by
  refine Pure.intro [] [] g765 (by kernel_rfl) rfl (by simp [AV.trees,AV.tree,go_sem]) rfl ?_
  simp only [X2,qL,go_sem]
  refine qG (qW0 x 400 hz (by omega)) ?_
  simp only [go_sem]
  have h1:=(x.left_spec 400 (by omega)).1
  refine qZ ?_ ?_<;>intro hc<;>simp only [hc,go_sem]
  · refine qG (qRA x hz hd) ?_
    simp only [go_sem]
    have h2:x.size≤400:=by have:=h1.1 (odT hc);omega
    exact qK rfl (by unfold qA.fits;rw [decide_eq_true h2];simp;omega)
  · have h2:¬x.size≤400:=by intro h;have:=h1.2 (by omega);exact absurd this (odF hc)
    exact qK rfl (by unfold qA.fits;rw [decide_eq_false h2];rfl)
end Go.Ab
namespace Go.Ab
open Go
set_option maxRecDepth 10000
set_option maxHeartbeats 2000000
def zx {α:Type} (f:Nat→α→Nat):List α→Nat→Nat
  |[],_=>0
  | x::xs,i=>f i x+zx f xs (i+1)
theorem qVA {α β:Type} (f:Nat→β→Nat) (g:α→β):∀(xs:List α) (i:Nat),zx f (xs.map g) i=zx (fun k x=>f k (g x)) xs i
  |[],_=>rfl
  | x::xs,i=>by simp [zx,qVA f g xs]
theorem qVB {α:Type} {f:Nat→α→Nat}:∀{xs:List α} {i k:Nat} (h:i<xs.length),zx f (xs.take (i+1)) k=zx f (xs.take i) k+f (k+i) xs[i]
  |[],i,k,h=>by simp at h
  | x::xs,0,k,h=>by simp [zx]
  | x::xs,i+1,k,h=>by
    simp only [List.take_succ_cons,zx,List.getElem_cons_succ]
    rw [qVB (i:=i) (k:=k+1) (by simpa using h),show k+1+i=k+(i+1) by omega]
    omega
theorem qU9 {α:Type} {f:Nat→α→Nat} {g:α→Nat}:∀{xs:List α} {k:Nat},(∀x∈xs,∀k,f k x≤g x)→zx f xs k≤qF g xs
  |[],_,_=>by simp [zx]
  | x::xs,k,h=>by
    simp only [zx,qF]
    have:=h x (by simp) k
    have:=qU9 (f:=f) (g:=g) (xs:=xs) (k:=k+1) (fun y hy=>h y (by simp [hy]))
    omega
@[go_sem] theorem zG6 {α:Type} (f:Nat→α→Nat) (k:Nat):zx f [] k=0:=rfl
def qA.count:qA→Int→Nat:=qA.fold fun x rs v=>if x.Kind=1 then (if x.Value=v then 1 else 0) else zx (fun i (r:Int→Nat)=>r (v+qV x.Kind i)) rs 0
theorem qA.count_eq (x:qA) (v:Int):x.count v=if x.Kind=1 then (if x.Value=v then 1 else 0) else zx (fun i y=>y.count (v+qV x.Kind i)) x.Kids 0:=by
  unfold qA.count;rw [qA.fold_eq,qVA]
theorem qA.count_size:∀(x:qA) (v:Int),x.count v≤x.size:=qA.ind fun x ih v=>by
  rw [x.count_eq,x.size_eq]
  split
  · split<;>omega
  · have:=qU9 (f:=fun i y=>qA.count y (v+qV x.Kind i)) (g:=qA.size) (xs:=x.Kids) (k:=0) (fun y hy k=>ih y hy _)
    omega
def qA.high:qA→Int:=qA.fold fun x rs=>rs.foldl (fun n (r:Int)=>if r<n then n else r) (if x.Kind=1 then x.Value else-1)
theorem qA.high_eq (x:qA):x.high=x.Kids.foldl (fun n y=>if y.high<n then n else y.high) (if x.Kind=1 then x.Value else-1):=by
  unfold qA.high;rw [qA.fold_eq,Yx]
def wg (v d:Int):Int:=if d<v then v-1 else v
def qA.put (arg:qA):qA→Int→qA:=qA.fold fun x rs d=>
  if x.Kind=1 then (if x.Value=d then arg.shift d 0 else .mk 1 (wg x.Value d) [] []) else .mk x.Kind x.Value x.Data (zB (fun i (r:Int→qA)=>r (d+qV x.Kind i)) rs 0)
theorem qA.put_eq (arg x:qA) (d:Int):qA.put arg x d=if x.Kind=1 then (if x.Value=d then arg.shift d 0 else .mk 1 (wg x.Value d) [] []) else .mk x.Kind x.Value x.Data (zB (fun i y=>qA.put arg y (d+qV x.Kind i)) x.Kids 0):=by
  unfold qA.put;rw [qA.fold_eq,VO]
theorem Yh {h:List qC} {k v:Int} {d:List Int} {ks:List qA} {D K:AV} (hd:Cv h D (.lst 1 (d.map qE) false)) (hk:Cv h K (.lst 4 (ks.map qA.enc) false)):
    Cv h (.agg [.int .i64 k,.int .i64 v,D,K]) (qA.mk k v d ks).enc:=by
  rw [qA.enc_eq]
  refine .agg rfl ?_
  simp only [List.zip_cons_cons,List.zip_nil_left,List.mem_cons,List.not_mem_nil,or_false,qA.Kind,qA.Value,qA.Data,qA.Kids]
  rintro p (rfl | rfl | rfl | rfl)
  · exact .refl rfl
  · exact .refl rfl
  · exact hd
  · exact hk
theorem qA.isAgg (x:qA):∃cs,x.enc=.agg cs:=⟨_,x.enc_eq⟩
theorem J3 {h:List qC} {k v:Int}:Cv h (.agg [.int .i64 k,.int .i64 v,.nils,.nils]) (qA.mk k v [] []).enc:=Yh .nils .nils
theorem qWX (x:qA):∀(v:Int) (hz:x.sz≤1048576) (hv:0≤v∧v+x.dep≤4294967296),Pure Gm 1121 [.ept x.enc 0,.int .i64 v] (.int .i64 (x.count v:Nat)):=by
  induction x using qA.ind with
  | _ x ih=>
  intro v hz hv
  refine Pure.intro [] [] qZR (by kernel_rfl) rfl (by simp [AV.trees,AV.tree,go_sem]) rfl ?_
  simp only [Wa,qL,go_sem]
  have hL:=x.len_sz
  have hce:=x.count_eq v
  have hcs:=x.count_size v
  have hsz:=x.size_sz
  refine qD ?_ ?_<;>intro hc<;>simp only [hc,go_sem]
  · rw [if_pos (odT hc)] at hce
    refine qD ?_ ?_<;>intro hc<;>simp only [hc,go_sem]
    · rw [if_pos (odT hc)] at hce
      exact qK rfl (by rw [hce];rfl)
    · rw [if_neg (odF hc)] at hce
      exact qK rfl (by rw [hce];rfl)
  rw [if_neg (odF hc)] at hce
  refine Sem.loop (fun i:Nat=>i≤x.Kids.length∧zx (fun i y=>qA.count y (v+qV x.Kind i)) (x.Kids.take i) 0≤qF qA.size (x.Kids.take i)) (fun i=>(⟨[(0,.ept x.enc 0),(1,.int .i64 v),(5,.int .i64 (zx (fun i y=>qA.count y (v+qV x.Kind i)) (x.Kids.take i) 0:Nat)),(6,.int .i64 (i:Nat))],[],[]⟩:VSt)) (fun i=>x.Kids.length-i) 0 (by kernel_rfl) ⟨Nat.zero_le _,by simp [zx]⟩ (Can.sub (by simp [go_sem]) (by simp [go_sem])) ?_
  rintro i ⟨hi,hI⟩
  simp only [go_sem]
  refine qD ?_ ?_<;>intro hc<;>simp only [hc,go_sem]
  · have hlt:i<x.Kids.length:=by have:=odT hc;omega
    simp only [List.getElem?_map,gEg hlt,Option.map_some,go_sem]
    have hm:=List.getElem_mem hlt
    have hk:=qA.kid_sz hm
    have hp:=qA.dep_kid hm
    have hb:=jt x.Kind i
    have hse:=x.size_eq
    have hst:=Q7 (f:=qA.size) hlt
    have hsl:=WA qA.size x.Kids (i+1)
    have hkc:=qA.count_size x.Kids[i] (v+qV x.Kind i)
    have hsk:=qVB (f:=fun i y=>qA.count y (v+qV x.Kind i)) (k:=0) hlt
    rw [Nat.zero_add] at hsk
    refine qG ZT ?_
    simp only [go_sem]
    rw [qi (n:=v+qV x.Kind i) (by omega) (by omega)]
    refine qG (ih _ hm _ (by omega) (by omega)) ?_
    simp only [go_sem]
    have e1:((zx (fun i y=>qA.count y (v+qV x.Kind i)) (x.Kids.take i) 0:Nat):Int)+(qA.count x.Kids[i] (v+qV x.Kind i):Nat)=((zx (fun i y=>qA.count y (v+qV x.Kind i)) (x.Kids.take (i+1)) 0:Nat):Int):=by omega
    rw [e1,qi (n:=((zx (fun i y=>qA.count y (v+qV x.Kind i)) (x.Kids.take (i+1)) 0:Nat):Int)) (by omega) (by omega)]
    simp only [qe (show i<4611686018427387904 by omega)];refine qY (i+1) ⟨by omega, ?_⟩ (by omega) (Can.sub (by simp [go_sem]) (by simp [go_sem]))
    omega
  · obtain rfl:i=x.Kids.length:=by have:=odF hc;omega
    rw [List.take_length]
    exact qK rfl (by rw [hce])
theorem qWZ (x:qA):∀(hz:x.sz≤1048576),Pure Gm 1124 [.ept x.enc 0] (.int .i64 x.high):=by
  induction x using qA.ind with
  | _ x ih=>
  intro hz
  refine Pure.intro [] [] qZU (by kernel_rfl) rfl (by simp [AV.trees,AV.tree,go_sem]) rfl ?_
  simp only [Wd,qL,go_sem]
  have hL:=x.len_sz
  obtain ⟨n0,hn0⟩:∃n0,n0=(if x.Kind=1 then x.Value else-1):=⟨_,rfl⟩
  have hh:=x.high_eq
  rw [←hn0] at hh
  refine qD ?_ ?_<;>intro hc<;>simp only [hc,go_sem]
  have h0:n0=x.Value:=by rw [hn0,if_pos (odT hc)]
  rotate_left
  have h0:n0= -1:=by rw [hn0,if_neg (odF hc)]
  all_goals
    refine Sem.loop (fun i:Nat=>i≤x.Kids.length∧True) (fun i=>(⟨[(0,.ept x.enc 0),(3,.int .i64 ((x.Kids.take i).foldl (fun n y=>if qA.high y<n then n else qA.high y) n0)),(4,.int .i64 (i:Nat))],[],[]⟩:VSt)) (fun i=>x.Kids.length-i) 0 (by kernel_rfl) ⟨Nat.zero_le _,by trivial⟩ (Can.sub (by simp [go_sem,h0]) (by simp [go_sem])) ?_
    rintro i ⟨hi,hI⟩
    simp only [go_sem]
    refine qD ?_ ?_<;>intro hc<;>simp only [hc,go_sem]
    · have hlt:i<x.Kids.length:=by have:=odT hc;omega
      simp only [List.getElem?_map,gEg hlt,Option.map_some,go_sem]
      have hm:=List.getElem_mem hlt
      have hk:=qA.kid_sz hm
      refine qG (ih _ hm (by omega)) ?_
      simp only [go_sem]
      refine qG c856 ?_
      simp only [go_sem]
      rw [←Yy (fun (n:Int) (y:qA)=>if y.high<n then n else y.high) hlt]
      simp only [qe (show i<4611686018427387904 by omega)];refine qY (i+1) ⟨by omega, ?_⟩ (by omega) (Can.sub (by simp [go_sem]) (by simp [go_sem]))
      trivial
    · obtain rfl:i=x.Kids.length:=by have:=odF hc;omega
      rw [List.take_length]
      exact qK rfl (by rw [hh])
theorem c387 {x:qA} (hz:x.sz≤1048576) (hd:x.dep≤1048576) (hv:x.vb 4294967296=true):Pure Gm 387 [.ept x.enc 0] ((x.shift 0 0).enc):=by
  refine Pure.intro [] [] g387 (by kernel_rfl) rfl (by simp [AV.trees,AV.tree,go_sem]) (by simp [go_sem]) ?_
  simp only [XW,qL,go_sem]
  refine qG (c766 x 0 0 hz (by omega) (by omega) hv) ?_
  simp only [go_sem]
  refine qO (k:=4) (by rfl) (by simp [go_sem]) (qA.isAgg _) (by decide) ?_
  simp only [go_sem]
  exact qK (by simp [go_sem]) rfl
end Go.Ab
namespace Go.Ab
open Go
set_option maxRecDepth 10000
set_option maxHeartbeats 2000000
theorem qWY (x:qA):∀(arg:qA) (d:Int) (hz:x.sz≤1048576) (hv:x.vb 4294967296=true) (hd:0≤d∧d+x.dep≤2147483648) (haz:arg.sz≤1048576) (had:arg.dep≤1048576) (hav:arg.vb 4294967296=true),Pure Gm 1122 [.ept x.enc 0,.ept arg.enc 0,.int .i64 d] ((qA.put arg x d).enc):=by
  induction x using qA.ind with
  | _ x ih=>
  intro arg d hz hv hd haz had hav
  refine Pure.intro [] [] qZS (by kernel_rfl) rfl (by simp [AV.trees,AV.tree,go_sem]) (by simp [go_sem]) ?_
  simp only [Wb,qL,go_sem]
  have hL:=x.len_sz
  have hres:=qA.put_eq arg x d
  refine qD ?_ ?_<;>intro hc<;>simp only [hc,go_sem]
  · have hk1:=V0 hv (odT hc)
    rw [if_pos (odT hc)] at hres
    refine qD ?_ ?_<;>intro hc<;>simp only [hc,go_sem]
    · rw [if_pos (odT hc)] at hres
      refine qG (c766 arg d 0 haz (by omega) (by omega) hav) ?_
      simp only [go_sem]
      refine qO (k:=4) (by rfl) (by simp [go_sem]) (qA.isAgg _) (by decide) ?_
      simp only [go_sem]
      exact qK (by simp [go_sem]) (by rw [hres])
    rw [if_neg (odF hc)] at hres
    refine qO (k:=4) (by rfl) (by rfl) (by exact ⟨_,rfl⟩) (by decide) ?_
    simp only [go_sem]
    refine qD ?_ ?_<;>intro hc<;>simp only [hc,go_sem]
    · rw [qi (by omega) (by omega)]
      refine qO (k:=4) (by rfl) (by rfl) (by exact ⟨_,rfl⟩) (by decide) ?_
      simp only [go_sem]
      rw [hres,show wg x.Value d=x.Value-1 by unfold wg;rw [if_pos (odT hc)]]
      exact qy J3
    · refine qO (k:=4) (by rfl) (by rfl) (by exact ⟨_,rfl⟩) (by decide) ?_
      simp only [go_sem]
      rw [hres,show wg x.Value d=x.Value by unfold wg;rw [if_neg (odF hc)]]
      exact qy J3
  rw [if_neg (odF hc)] at hres
  refine qG (c402 x.Data (by omega)) ?_
  simp only [go_sem]
  refine qO (k:=4) (by rfl) (by rfl) (by exact ⟨_,rfl⟩) (by decide) ?_
  simp only [go_sem]
  refine Sem.loop (fun i:Nat=>i≤x.Kids.length) (fun i=>(⟨[(0,.ept x.enc 0),(1,.ept arg.enc 0),(2,.int .i64 d),(9,.int .i64 (i:Nat))],[(8,.agg [.int .i64 x.Kind,.int .i64 x.Value,.lst 1 (x.Data.map qE) false,.slice 4 0 0 i false]),(6,.agg [.int .i64 0,.int .i64 0,.nils,.nils])],[.row 4 ((zB (fun i y=>qA.put arg y (d+qV x.Kind i)) (x.Kids.take i) 0).map qA.enc) true]⟩:VSt)) (fun i=>x.Kids.length-i) 0 (by kernel_rfl) (Nat.zero_le _)
    (Can.renum [none] rfl ⟨.ph,trivial⟩ ⟨⟨_,rfl,.tree (by simp [AV.tree,go_sem])⟩,⟨_,rfl,.tree (by simp [AV.tree,go_sem])⟩,⟨_,rfl,.tree rfl⟩,⟨_,rfl,.tree rfl⟩,trivial⟩
      ⟨⟨_,rfl,.agg rfl (VR2s.cons (.tree rfl) (VR2s.cons (.tree rfl) (VR2s.cons (.tree (by simp [AV.tree,qf])) (VR2s.cons (.ph rfl) VR2s.nil)))).2⟩,⟨_,rfl,.tree rfl⟩,trivial⟩) ?_
  intro i hi
  simp only [go_sem]
  refine qD ?_ ?_<;>intro hc<;>simp only [hc,go_sem]
  · have hlt:i<x.Kids.length:=by have:=odT hc;omega
    simp only [List.getElem?_map,gEg hlt,Option.map_some,go_sem]
    have hm:=List.getElem_mem hlt
    have hk:=qA.kid_sz hm
    have hp:=qA.dep_kid hm
    have hb:=jt x.Kind i
    refine qG ZT ?_
    simp only [go_sem]
    rw [qi (n:=d+qV x.Kind i) (by omega) (by omega)]
    refine qG (ih _ hm arg (d+qV x.Kind i) (by omega) (WG hv hm) (by omega) haz had hav) ?_
    simp only [go_sem]
    refine jO (el:=(zB (fun i y=>qA.put arg y (d+qV x.Kind i)) (x.Kids.take i) 0).map qA.enc) rfl rfl (by simp [wc];omega) (by omega) ?_
    simp only [go_sem]
    simp only [qe (show i<4611686018427387904 by omega)]
    refine qY (i+1) (by omega) (by omega) ?_
    refine Can.renum [some 2] rfl ⟨.row rfl (VR2s.of_eq (by rw [VP hlt,Nat.zero_add];simp) (zJ _)),trivial⟩ ⟨⟨_,rfl,.tree (by simp [AV.tree,go_sem])⟩,⟨_,rfl,.tree (by simp [AV.tree,go_sem])⟩,⟨_,rfl,.tree rfl⟩,⟨_,rfl,.tree rfl⟩,trivial⟩
      ⟨⟨_,rfl,.agg rfl (VR2s.cons (.tree rfl) (VR2s.cons (.tree rfl) (VR2s.cons (.tree (by simp [AV.tree,qf])) (VR2s.cons (.slice rfl) VR2s.nil)))).2⟩,⟨_,rfl,.tree rfl⟩,trivial⟩
  · obtain rfl:i=x.Kids.length:=by have:=odF hc;omega
    rw [List.take_length]
    refine qO (k:=4) (by rfl) (by rfl) (by exact ⟨_,rfl⟩) (by decide) ?_
    simp only [go_sem]
    rw [hres]
    exact qy (QW rfl (wc _ _ _))
end Go.Ab
namespace Go.Ab
open Go
set_option maxRecDepth 10000
set_option maxHeartbeats 2000000
def qA.d4:qA→Bool:=qA.fold fun x rs=>decide (x.Data.length≤4)&&rs.all id
theorem qA.d4_eq (x:qA):x.d4=(decide (x.Data.length≤4)&&x.Kids.all qA.d4):=by
  unfold qA.d4;rw [qA.fold_eq];simp
theorem qOP {x y:qA} (h:x.d4=true) (hy:y∈x.Kids):y.d4=true:=by
  rw [x.d4_eq,Bool.and_eq_true,List.all_eq_true] at h;exact h.2 y hy
theorem qA.sz_d4:∀x:qA,x.d4=true→x.sz+1≤5*x.size:=qA.ind fun x ih h=>by
  have h0:=h
  rw [x.d4_eq,Bool.and_eq_true,decide_eq_true_eq] at h0
  rw [x.sz_eq,x.size_eq]
  have:∀xs:List qA,(∀y∈xs,y.sz+1≤5*y.size)→xs.length+qF qA.sz xs≤5*qF qA.size xs:=by
    intro xs
    induction xs with
    | nil=>intro _;simp [qF]
    | cons a xs ihx=>
      intro h
      have h1:=h a (by simp)
      have h2:=ihx (fun y hy=>h y (by simp [hy]))
      simp only [qF,List.length_cons];omega
  have:=this x.Kids (fun y hy=>ih y hy (qOP h hy))
  omega
theorem QA:∀x:qA,x.ok=true→x.d4=true:=qA.ind fun x ih h=>by
  have h0:=wx h
  unfold zw inI at h0
  simp only [Bool.and_eq_true,decide_eq_true_eq] at h0
  rw [x.d4_eq,Bool.and_eq_true,decide_eq_true_eq,List.all_eq_true]
  refine ⟨?_,fun y hy=>ih y hy (qv h hy)⟩
  have h1:=h0.1.1.2
  have:(shp x.Kind).2.2≤4:=by
    unfold shp
    repeat' split
    all_goals decide
  omega
theorem Zv:∀x:qA,x.ok=true→x.vb 255=true:=qA.ind fun x ih h=>by
  have h0:=wx h
  unfold zw at h0
  simp only [Bool.and_eq_true] at h0
  rw [x.vb_eq,Bool.and_eq_true,List.all_eq_true]
  refine ⟨?_,fun y hy=>ih y hy (qv h hy)⟩
  by_cases hk:x.Kind=1
  · have h1:=h0.1.2
    unfold wi at h1
    rw [if_pos hk] at h1
    rw [h1];simp
  · simp [hk]
theorem WH {m n:Int} (hmn:m≤n):∀x:qA,x.vb m=true→x.vb n=true:=qA.ind fun x ih h=>by
  have h0:=h
  rw [x.vb_eq,Bool.and_eq_true] at h0
  rw [x.vb_eq,Bool.and_eq_true,List.all_eq_true]
  refine ⟨?_,fun y hy=>ih y hy (WG h hy)⟩
  have h1:=h0.1
  simp only [inI,Bool.or_eq_true,Bool.not_eq_true',decide_eq_false_iff_not,Bool.and_eq_true,decide_eq_true_eq] at h1⊢
  rcases h1 with h1 | h1
  · exact .inl h1
  · exact .inr ⟨h1.1,by omega⟩
theorem qPK {α β:Type} {f:Nat→α→β} {p:β→Bool} {xs:List α} {k:Nat} (h:∀x∈xs,∀k,p (f k x)=true):(zB f xs k).all p=true:=by
  rw [List.all_eq_true]
  intro y hy
  obtain ⟨x,hx,k,rfl⟩:=qTC hy
  exact h x hx k
theorem qTD {α β:Type} {f:Nat→α→β} {g:β→Nat} {q:α→Nat}:∀{xs:List α} {k:Nat},(∀x∈xs,∀k,g (f k x)=q x)→qF g (zB f xs k)=qF q xs
  |[],_,_=>rfl
  | x::xs,k,h=>by
    simp only [zB,qF,h x (by simp) k]
    rw [qTD (fun y hy=>h y (by simp [hy]))]
@[go_sem] theorem qA.mk_kids {k v:Int} {d:List Int} {ks:List qA}:(qA.mk k v d ks).Kids=ks:=rfl
@[go_sem] theorem qA.mk_data {k v:Int} {d:List Int} {ks:List qA}:(qA.mk k v d ks).Data=d:=rfl
@[go_sem] theorem qA.mk_kind {k v:Int} {d:List Int} {ks:List qA}:(qA.mk k v d ks).Kind=k:=rfl
@[go_sem] theorem qA.mk_value {k v:Int} {d:List Int} {ks:List qA}:(qA.mk k v d ks).Value=v:=rfl
theorem qf8 (a:Int):∀(x:qA) (f:Int),(x.shift a f).size=x.size:=qA.ind fun x ih f=>by
  rw [x.shift_eq,qA.size_eq,x.size_eq,qA.mk_kids,qTD (q:=qA.size) (fun y hy k=>ih y hy _)]
theorem qf7 (a:Int):∀(x:qA) (f:Int),x.d4=true→(x.shift a f).d4=true:=qA.ind fun x ih f h=>by
  have h0:=h
  rw [x.d4_eq,Bool.and_eq_true] at h0
  rw [x.shift_eq,qA.d4_eq,qA.mk_data,qA.mk_kids,h0.1,qPK (fun y hy k=>ih y hy _ (qOP h hy))];rfl
theorem qPY {arg:qA} (ha:arg.d4=true):∀(x:qA) (d:Int),x.d4=true→(qA.put arg x d).d4=true:=qA.ind fun x ih d h=>by
  have h0:=h
  rw [x.d4_eq,Bool.and_eq_true] at h0
  rw [qA.put_eq]
  split
  · split
    · exact qf7 _ _ _ ha
    · rw [qA.d4_eq];rfl
  · rw [qA.d4_eq,qA.mk_data,qA.mk_kids,h0.1,qPK (fun y hy k=>ih y hy _ (qOP h hy))];rfl
theorem Qw {x:qA} (h:x.ok=true) (hk:x.Kind=1):x.Kids=[]:=by
  have h:=wx h
  unfold zw inI at h
  simp only [Bool.and_eq_true,decide_eq_true_eq] at h
  obtain ⟨⟨⟨⟨h1,h2⟩,_⟩,_⟩,_⟩:=h
  simp [shp,hk] at h1 h2
  exact h2
theorem Vg (arg:qA):∀(x:qA) (d:Int),x.ok=true→((qA.put arg x d).size:Int)=x.size+x.count d*((arg.size:Int)-1):=qA.ind fun x ih d h=>by
  rw [qA.put_eq,x.count_eq]
  by_cases hk:x.Kind=1
  · have hs:x.size=1:=by rw [x.size_eq,Qw h hk];rfl
    rw [if_pos hk,if_pos hk,hs]
    by_cases hv:x.Value=d
    · rw [if_pos hv,if_pos hv,qf8];omega
    · rw [if_neg hv,if_neg hv]
      have:(qA.mk 1 (wg x.Value d) [] []).size=1:=by rw [qA.size_eq];rfl
      rw [this];omega
  · rw [if_neg hk,if_neg hk,qA.size_eq,x.size_eq,qA.mk_kids]
    have key:∀(xs:List qA) (k:Nat),(∀y∈xs,y∈x.Kids)→((qF qA.size (zB (fun i y=>qA.put arg y (d+qV x.Kind i)) xs k):Nat):Int)=(qF qA.size xs:Nat)+(zx (fun i y=>qA.count y (d+qV x.Kind i)) xs k:Nat)*((arg.size:Int)-1):=by
      intro xs
      induction xs with
      | nil=>intro k _;simp [zB,qF,zx]
      | cons a xs ihx=>
        intro k hm
        simp only [zB,qF,zx]
        have h1:=ih a (hm a (by simp)) (d+qV x.Kind k) (qv h (hm a (by simp)))
        have h2:=ihx (k+1) (fun y hy=>hm y (by simp [hy]))
        rw [Int.natCast_add,h1,h2,Int.natCast_add,Int.natCast_add,Int.add_mul]
        omega
    have:=key x.Kids 0 (fun y hy=>hy)
    rw [Int.natCast_add,this,Int.natCast_add]
    omega
theorem qA.putall {x:qA} {a b c d:AV}:(AV.agg [a,b,c,d]).put 0 x.enc=some x.enc:=by rw [qA.enc_eq];rfl
def qR:qA:=.mk 0 0 [] []
theorem w6 {h:List qC}:Cv h (.agg [.int .i64 0,.int .i64 0,.nils,.nils]) qR.enc:=J3
def jC (body arg:qA):Int:=
  if 400<(body.size:Int)+body.count 0*((arg.size:Int)-1) then 4 else if 80<(qA.put arg body 0).dep then 4 else if 255<(qA.put arg body 0).high then 2 else 0
def jV (body arg:qA):qA:=if jC body arg=0 then qA.put arg body 0 else qR
theorem qTM {x:qA} (h:x.valid=true):jq x 80 400=x.size:=by
  unfold qA.valid at h
  simp only [Bool.and_eq_true,decide_eq_true_eq] at h
  unfold jq
  rw [if_pos ⟨h.1.1,by omega,by omega⟩]
theorem zG {x:qA} (h:x.valid=true):x.ok=true∧x.dep≤80∧x.size≤400∧x.sz≤2000∧x.vb 4294967296=true:=by
  unfold qA.valid at h
  simp only [Bool.and_eq_true,decide_eq_true_eq] at h
  have h1:=qA.sz_d4 x (QA x h.1.1)
  exact ⟨h.1.1,h.1.2,h.2,by omega,WH (by omega) x (Zv x h.1.1)⟩
theorem cv2 {h:List qC} {a b v:AV} (hc:Cv h a v) (hb:b.tree=true):Cv h (.tup [a,b]) (.tup [v,b]):=by
  refine .tup rfl ?_
  simp only [List.zip_cons_cons,List.zip_nil_left,List.mem_cons,List.not_mem_nil,or_false]
  rintro p (rfl | rfl)
  · exact hc
  · exact .refl hb
theorem j7 {h:List qC} {a b v:AV} (hc:Cv h (.tup [a,b]) v):Fin (some [a,b]) h v:=by
  unfold Fin;exact hc
theorem c761 {x y:qA} (hx:x.valid=true) (hy:y.valid=true):Pure Gm 761 [.ept x.enc 0,.ept y.enc 0] (.tup [(jV x y).enc,.int .i64 (jC x y)]):=by
  refine Pure.intro [] [] g761 (by kernel_rfl) rfl (by simp [AV.trees,AV.tree,go_sem]) (by simp [AV.tree,AV.trees,go_sem]) ?_
  simp only [Xz,qL,go_sem]
  obtain ⟨x1,x2,x3,x4,x5⟩:=zG hx
  obtain ⟨y1,y2,y3,y4,y5⟩:=zG hy
  have hc0:=x.count_size 0
  refine qG (qWX x 0 (by omega) (by omega)) ?_
  simp only [go_sem]
  refine qG (c643 x 80 400 (by omega) (by omega) (by omega)) ?_
  simp only [go_sem]
  refine qG (c643 y 80 400 (by omega) (by omega) (by omega)) ?_
  simp only [go_sem]
  rw [qTM hx,qTM hy]
  have hyp:=y.size_pos
  have hP0:0≤(x.count 0:Int)*((y.size:Int)-1):=Int.mul_nonneg (by omega) (by omega)
  have hP1:(x.count 0:Int)*((y.size:Int)-1)≤400*400:=Int.mul_le_mul (by omega) (by omega) (by omega) (by omega)
  rw [qi (n:=(y.size:Int)-1) (by omega) (by omega),qi (n:=(x.count 0:Int)*((y.size:Int)-1)) (by omega) (by omega),qi (by omega) (by omega)]
  have hsz:=Vg y x 0 x1
  refine qD ?_ ?_<;>intro hc<;>simp only [hc,go_sem]
  · have hi:jC x y=4:=by unfold jC;rw [if_pos (odT hc)]
    refine qO (k:=4) (by rfl) (by rfl) (by exact ⟨_,rfl⟩) (by decide) ?_
    simp only [go_sem]
    rw [jV,hi,if_neg (by decide)]
    exact j7 (cv2 w6 rfl)
  have h1:=odF hc
  refine qG (qWY x y 0 (by omega) x5 (by omega) (by omega) (by omega) y5) ?_
  simp only [go_sem]
  obtain ⟨o,ho⟩:∃o,o=qA.put y x 0:=⟨_,rfl⟩
  have hod:=qPY (QA y y1) x 0 (QA x x1)
  rw [←ho] at hsz hod⊢
  have hos:=qA.sz_d4 o hod
  have hoz:=qA.dep_size o
  refine jM (by simp [go_sem]) rfl rfl qA.putall ?_
  simp only [go_sem]
  have cvp:Cv [qC.row 4 [o.enc] true] (.ptr 0 0 0) (.ept o.enc 0):=.ptr rfl (by decide) rfl (.refl (by simp [go_sem]))
  refine jI (vs':=[.ept o.enc 0]) (Cvs.cons cvp Cvs.nil) (qRA o (by omega) (by omega)) rfl ?_
  simp only [go_sem]
  refine qD ?_ ?_<;>intro hc<;>simp only [hc,go_sem]
  · have hi:jC x y=4:=by unfold jC;rw [if_neg h1,←ho,if_pos (by have:=odT hc;omega)]
    refine qO (k:=4) (by rfl) (by rfl) (by exact ⟨_,rfl⟩) (by decide) ?_
    simp only [go_sem]
    rw [jV,hi,if_neg (by decide)]
    exact j7 (cv2 w6 rfl)
  have h2:¬80<o.dep:=by have:=odF hc;omega
  refine jI (vs':=[.ept o.enc 0]) (Cvs.cons cvp Cvs.nil) (qWZ o (by omega)) rfl ?_
  simp only [go_sem]
  refine qD ?_ ?_<;>intro hc<;>simp only [hc,go_sem]
  · have hi:jC x y=2:=by unfold jC;rw [if_neg h1,←ho,if_neg h2,if_pos (odT hc)]
    refine qO (k:=4) (by rfl) (by rfl) (by exact ⟨_,rfl⟩) (by decide) ?_
    simp only [go_sem]
    rw [jV,hi,if_neg (by decide)]
    exact j7 (cv2 w6 rfl)
  · have hi:jC x y=0:=by unfold jC;rw [if_neg h1,←ho,if_neg h2,if_neg (odF hc)]
    simp only [go_sem,List.nil_append,List.cons_append,List.set_cons_zero,List.set_cons_succ]
    refine qO (k:=4) (by rfl) (by simp [go_sem]) (qA.isAgg _) (by decide) ?_
    simp only [go_sem]
    rw [jV,hi,if_pos rfl,←ho]
    exact j7 (cv2 (.refl (by simp [go_sem])) rfl)
end Go.Ab
namespace Go.Ab
open Go
set_option maxRecDepth 10000
set_option maxHeartbeats 2000000
def w32 (x:Int):Int:=IntKind.i64.wrap (IntKind.i32.wrap (IntKind.u32.wrap (IntKind.u64.wrap x)))
def opI (k a b:Int):Int:=
  if k=1 then w32 (IntKind.i64.wrap (w32 a+w32 b)) else if k=2 then w32 (IntKind.i64.wrap (w32 a-w32 b)) else if k=3 then w32 (IntKind.i64.wrap (w32 a*w32 b))
  else if k=4 then (if w32 b=0 then 0 else w32 (IntKind.i64.wrap ((w32 a).tdiv (w32 b)))) else if k=5 then (if w32 a<w32 b then 1 else 0) else if k=6 then (if w32 a=w32 b then 1 else 0) else 0
def zr (f a:qA):qA:=.mk 5 0 [] [f,a]
def wo (d:Int) (as:List qA):qA:=as.foldl zr (.mk 11 d [] [])
attribute [local simp] zJ
section
variable {e:Env} {w i:Nat} {el:List AV} {v:AV} {x:Ao} {r:List (Nat×Ao)}
@[go_sem] theorem zAQ {a b:AV} (h:v.cells.length=w):fil e w [a,b] 0 (some v) r=zf e w [v,b] r:=by
  show (if v.cells.length=w∧0<2 then _ else _)=_
  rw [if_pos ⟨h,by omega⟩];rfl
@[go_sem] theorem zAR {a b:AV} (h:v.cells.length=w):fil e w [a,b] 1 (some v) r=zf e w [a,v] r:=by
  show (if v.cells.length=w∧1<2 then _ else _)=_
  rw [if_pos ⟨h,by omega⟩];rfl
@[go_sem] theorem rep2 {v:AV}:List.replicate 2 v=[v,v]:=nr rfl
end
theorem QR {x:Int}:Pure Gm 1125 [.int .i64 x] (.int .i64 (w32 x)):=by
  refine Pure.intro [] [] qZV (by kernel_rfl) rfl (by simp [AV.trees,AV.tree,go_sem]) rfl ?_
  simp only [We,qL,go_sem]
  exact qK rfl rfl
theorem qRB {b:Bool}:Pure Gm 1126 [.bool b] (.int .i64 (if b then 1 else 0)):=by
  refine Pure.intro [] [] qZW (by kernel_rfl) rfl (by simp [AV.trees,AV.tree,go_sem]) rfl ?_
  simp only [Wf,qL,go_sem]
  refine qD ?_ ?_<;>intro hc<;>simp only [hc,go_sem]
  · exact qK rfl rfl
  · exact qK rfl rfl
theorem c762 {k a b:Int}:Pure Gm 762 [.int .i64 k,.int .i64 a,.int .i64 b] (.int .i64 (opI k a b)):=by
  refine Pure.intro [] [] g762 (by kernel_rfl) rfl (by simp [AV.trees,AV.tree,go_sem]) rfl ?_
  simp only [X0,qL,go_sem]
  refine qG QR ?_
  simp only [go_sem]
  refine qG QR ?_
  simp only [go_sem]
  unfold opI
  refine qD ?_ ?_<;>intro hc<;>simp only [hc,go_sem]
  · rw [if_pos (odT hc)]
    refine qG QR ?_
    simp only [go_sem]
    exact qK rfl rfl
  rw [if_neg (odF hc)]
  refine qD ?_ ?_<;>intro hc<;>simp only [hc,go_sem]
  · rw [if_pos (odT hc)]
    refine qG QR ?_
    simp only [go_sem]
    exact qK rfl rfl
  rw [if_neg (odF hc)]
  refine qD ?_ ?_<;>intro hc<;>simp only [hc,go_sem]
  · rw [if_pos (odT hc)]
    refine qG QR ?_
    simp only [go_sem]
    exact qK rfl rfl
  rw [if_neg (odF hc)]
  refine qD ?_ ?_<;>intro hc<;>simp only [hc,go_sem]
  · rw [if_pos (odT hc)]
    refine qD ?_ ?_<;>intro hc<;>simp only [hc,go_sem]
    · rw [if_pos (odT hc)]
      exact qK rfl rfl
    rw [if_neg (odF hc)]
    have hq:=odF hc
    simp only [if_neg hq,go_sem]
    refine qG QR ?_
    simp only [go_sem]
    exact qK rfl rfl
  rw [if_neg (odF hc)]
  refine qD ?_ ?_<;>intro hc<;>simp only [hc,go_sem]
  · rw [if_pos (odT hc)]
    refine qG qRB ?_
    simp only [go_sem]
    exact qK rfl (by simp)
  rw [if_neg (odF hc)]
  refine qD ?_ ?_<;>intro hc<;>simp only [hc,go_sem]
  · rw [if_pos (odT hc)]
    refine qG qRB ?_
    simp only [go_sem]
    exact qK rfl (by simp)
  rw [if_neg (odF hc)]
  exact qK rfl rfl
theorem c381 {x:Int}:Pure Gm 381 [.int .i64 x] ((qA.mk 2 x [] []).enc):=by
  refine Pure.intro [] [] g381 (by kernel_rfl) rfl (by simp [AV.trees,AV.tree,go_sem]) (by simp [go_sem]) ?_
  simp only [XT,qL,go_sem]
  refine qO (k:=4) (by rfl) (by rfl) (by exact ⟨_,rfl⟩) (by decide) ?_
  simp only [go_sem]
  exact qy J3
theorem qOF {x:Int}:Pure Gm 1127 [.int .i64 x] ((qA.mk 11 x [] []).enc):=by
  refine Pure.intro [] [] qZX (by kernel_rfl) rfl (by simp [AV.trees,AV.tree,go_sem]) (by simp [go_sem]) ?_
  simp only [Wg,qL,go_sem]
  refine qO (k:=4) (by rfl) (by rfl) (by exact ⟨_,rfl⟩) (by decide) ?_
  simp only [go_sem]
  exact qy J3
theorem c382 {k v:Int} {ks:List qA}:Pure Gm 382 [.int .i64 k,.int .i64 v,.lst 4 (ks.map qA.enc) false] ((qA.mk k v [] ks).enc):=by
  refine Pure.intro [] [] g382 (by kernel_rfl) rfl (by simp [AV.trees,AV.tree,go_sem]) (by simp [go_sem]) ?_
  simp only [XU,qL,go_sem]
  refine qO (k:=4) (by rfl) (by simp [AV.tree,AV.trees,go_sem]) (by exact ⟨_,rfl⟩) (by decide) ?_
  simp only [go_sem]
  exact qy (Yh .nils (.refl (by simp [AV.tree,go_sem])))
theorem qQ9 {f a:qA}:Pure Gm 1117 [f.enc,a.enc] ((zr f a).enc):=by
  refine Pure.intro [] [] qZN (by kernel_rfl) rfl (by simp [AV.trees,AV.tree,go_sem]) (by simp [go_sem]) ?_
  simp only [WW,qL,go_sem]
  refine qa qA.ln ?_
  simp only [go_sem]
  refine qa qA.ln ?_
  simp only [go_sem]
  have hc:Cv (only [0] [qC.row 4 [f.enc,a.enc] true]) (.slice 4 0 0 2 false) (.lst 4 ([f,a].map qA.enc) false):=Cv.row rfl rfl (zJ _) (by decide)
  refine ZX [0] (Cvs.cons (.refl rfl) (Cvs.cons (.refl rfl) (Cvs.cons hc Cvs.nil))) c382 ?_
  simp only [go_sem]
  refine qO (k:=4) (by rfl) (by simp [go_sem]) (qA.isAgg _) (by decide) ?_
  simp only [go_sem]
  exact qy (.refl (by simp [go_sem]))
def qW (x:qA):Int:=match x.Kids with
  |[]=>0
  | y::ys=>
    if x.Kind=5 then (if y.Kind=4 then 1 else if y.Kind=11 then 4 else 0)
    else if x.Kind=3 then (if y.Kind=11 then 4 else if y.Kind=2 then (match ys with | z::_=>if z.Kind=2 then 2 else if z.Kind=11 then 4 else 0 |[]=>0) else 0)
    else if x.Kind=9 then (if y.Kind=8∧y.Value<(x.Data.length:Nat) then 3 else if y.Kind=11 then 4 else 0)
    else if x.Kind=10 then (if y.Kind=2 then 3 else if y.Kind=11 then 4 else 0) else 0
theorem z7 {α:Type} {xs:List α} (h:xs.length=1):∃a,xs=[a]:=by
  match xs,h with
  |[a],_=>exact ⟨a,rfl⟩
theorem zu {α:Type} {xs:List α} (h:xs.length=2):∃a b,xs=[a,b]:=by
  match xs,h with
  |[a,b],_=>exact ⟨a,b,rfl⟩
def jX (x:qA):Int:=match x.Kids with
  |[]=>0
  | y::_=>if x.Kind=10 then (if y.Value=0 then x.Data.getD 1 0 else x.Data.getD 0 0) else x.Data.getD y.Value.toNat 0
theorem Qz {x:qA} (h5:¬x.Kind=5) (h3:¬x.Kind=3) (h9:¬x.Kind=9) (h10:¬x.Kind=10):qW x=0:=by
  unfold qW;split
  · rfl
  · rw [if_neg h5,if_neg h3,if_neg h9,if_neg h10]
theorem c760 {x:qA} (ho:x.ok=true) (hz:x.sz≤1048576):Pure Gm 760 [.ept x.enc 0] (.int .i64 (qW x)):=by
  refine Pure.intro [] [] g760 (by kernel_rfl) rfl (by simp [AV.trees,AV.tree,go_sem]) rfl ?_
  simp only [Xy,qL,go_sem]
  have hd:x.Data.length<9223372036854775808:=by have:=x.sz_eq;omega
  refine qD ?_ ?_<;>intro hc<;>simp only [hc,go_sem]
  · have h5:=odT hc
    obtain ⟨a,b,hK⟩:=zu ((qx ho).1 (by omega))
    simp only [hK,List.map_cons,List.map_nil,Option.map_some,go_sem]
    have hr:qW x=if a.Kind=4 then 1 else if a.Kind=11 then 4 else 0:=by unfold qW;rw [hK];simp only [];rw [if_pos h5]
    rw [hr]
    refine qD ?_ ?_<;>intro hc<;>simp only [hc,go_sem]
    · exact qK rfl (by rw [if_pos (odT hc)])
    rw [if_neg (odF hc)]
    refine qD ?_ ?_<;>intro hc<;>simp only [hc,go_sem]
    · exact qK rfl (by rw [if_pos (odT hc)])
    · exact qK rfl (by rw [if_neg (odF hc)])
  have h5:=odF hc
  refine qD ?_ ?_<;>intro hc<;>simp only [hc,go_sem]
  · have h3:=odT hc
    obtain ⟨a,b,hK⟩:=zu ((qx ho).1 (by omega))
    simp only [hK,List.map_cons,List.map_nil,Option.map_some,go_sem]
    have hr:qW x=if a.Kind=11 then 4 else if a.Kind=2 then (if b.Kind=2 then 2 else if b.Kind=11 then 4 else 0) else 0:=by unfold qW;rw [hK];simp only [];rw [if_neg h5,if_pos h3]
    rw [hr]
    refine qD ?_ ?_<;>intro hc<;>simp only [hc,go_sem]
    · exact qK rfl (by rw [if_pos (odT hc)])
    rw [if_neg (odF hc)]
    simp only [hK,List.map_cons,List.map_nil,Option.map_some,go_sem]
    refine qD ?_ ?_<;>intro hc<;>simp only [hc,hK,List.map_cons,List.map_nil,Option.map_some,go_sem]
    · rw [if_pos (odT hc)]
      refine qD ?_ ?_<;>intro hc<;>simp only [hc,go_sem]
      · exact qK rfl (by rw [if_pos (odT hc)])
      rw [if_neg (odF hc)]
      refine qD ?_ ?_<;>intro hc<;>simp only [hc,go_sem]
      · exact qK rfl (by rw [if_pos (odT hc)])
      · exact qK rfl (by rw [if_neg (odF hc)])
    · exact qK rfl (by rw [if_neg (odF hc)])
  have h3:=odF hc
  refine qD ?_ ?_<;>intro hc<;>simp only [hc,go_sem]
  · have h9:=odT hc
    obtain ⟨a,hK⟩:=z7 ((qx ho).2 (by omega))
    simp only [hK,List.map_cons,List.map_nil,Option.map_some,go_sem]
    have hr:qW x=if a.Kind=8∧a.Value<(x.Data.length:Nat) then 3 else if a.Kind=11 then 4 else 0:=by unfold qW;rw [hK];simp only [];rw [if_neg h5,if_neg h3,if_pos h9]
    rw [hr]
    refine qZ ?_ ?_<;>intro hc<;>simp only [hc,hK,List.map_cons,List.map_nil,Option.map_some,go_sem]
    · have h8:=odT hc
      refine qD ?_ ?_<;>intro hc<;>simp only [hc,hK,List.map_cons,List.map_nil,Option.map_some,go_sem]
      · exact qK rfl (by rw [if_pos ⟨h8,odT hc⟩])
      have hv:=odF hc
      rw [if_neg (fun h=>hv h.2)]
      refine qD ?_ ?_<;>intro hc<;>simp only [hc,hK,List.map_cons,List.map_nil,Option.map_some,go_sem]
      · exact qK rfl (by rw [if_pos (odT hc)])
      · exact qK rfl (by rw [if_neg (odF hc)])
    · have h8:=odF hc
      rw [if_neg (fun h=>h8 h.1)]
      refine qD ?_ ?_<;>intro hc<;>simp only [hc,hK,List.map_cons,List.map_nil,Option.map_some,go_sem]
      · exact qK rfl (by rw [if_pos (odT hc)])
      · exact qK rfl (by rw [if_neg (odF hc)])
  have h9:=odF hc
  refine qD ?_ ?_<;>intro hc<;>simp only [hc,go_sem]
  · have h10:=odT hc
    obtain ⟨a,hK⟩:=z7 ((qx ho).2 (by omega))
    simp only [hK,List.map_cons,List.map_nil,Option.map_some,go_sem]
    have hr:qW x=if a.Kind=2 then 3 else if a.Kind=11 then 4 else 0:=by unfold qW;rw [hK];simp only [];rw [if_neg h5,if_neg h3,if_neg h9,if_pos h10]
    rw [hr]
    refine qD ?_ ?_<;>intro hc<;>simp only [hc,go_sem]
    · exact qK rfl (by rw [if_pos (odT hc)])
    rw [if_neg (odF hc)]
    refine qD ?_ ?_<;>intro hc<;>simp only [hc,go_sem]
    · exact qK rfl (by rw [if_pos (odT hc)])
    · exact qK rfl (by rw [if_neg (odF hc)])
  have h10:=odF hc
  exact qK rfl (by rw [Qz h5 h3 h9 h10])
theorem qA.putcore {x y:qA}:x.enc.put 0 y.enc=some y.enc:=by rw [x.enc_eq,y.enc_eq];rfl
theorem Va {x:qA} (h:x.ok=true):wi x.Kind x.Value=true:=by
  have h:=wx h
  unfold zw at h
  simp only [Bool.and_eq_true] at h
  exact h.1.2
theorem red3 {x:qA} (ho:x.ok=true) (h:qW x=3):∃y,x.Kids=[y]∧((x.Kind=9∧y.Kind=8∧0≤y.Value∧y.Value<(x.Data.length:Nat))∨(x.Kind=10∧y.Kind=2∧x.Data.length=2)):=by
  have hn:=wx ho
  unfold zw inI at hn
  simp only [Bool.and_eq_true,decide_eq_true_eq] at hn
  obtain ⟨⟨⟨⟨_,_⟩,h3,h4⟩,_⟩,_⟩:=hn
  unfold qW at h
  split at h
  · cases h
  rename_i y ys hK
  have hy:y.ok=true:=qv ho (by rw [hK];simp)
  have hv:=Va hy
  split at h
  · repeat' split at h
    all_goals cases h
  split at h
  · repeat' split at h
    all_goals cases h
  split at h
  · rename_i h9
    obtain ⟨a,hK'⟩:=z7 ((qx ho).2 (by omega))
    rw [hK'] at hK
    cases hK
    refine ⟨y,hK',.inl ?_⟩
    split at h
    · rename_i h8
      refine ⟨h9,h8.1, ?_,h8.2⟩
      unfold wi inI at hv
      simp [h8.1] at hv
      exact hv.1
    · split at h<;>cases h
  split at h
  · rename_i h10
    obtain ⟨a,hK'⟩:=z7 ((qx ho).2 (by omega))
    rw [hK'] at hK
    cases hK
    refine ⟨y,hK',.inr ?_⟩
    split at h
    · rename_i h8
      refine ⟨h10,h8, ?_⟩
      simp [shp,h10] at h3 h4
      omega
    · split at h<;>cases h
  · cases h
theorem c763 {x:qA} {as:List qA} (ho:x.ok=true) (hr:qW x=3) (hz:x.sz≤1048576) (hn:as.length≤1048576) (ha:x.Kind=10→as=[]):Pure Gm 763 [.ept x.enc 0,.lst 4 (as.map qA.enc) false] ((wo (jX x) as).enc):=by
  refine Pure.intro [] [] g763 (by kernel_rfl) rfl (by simp [AV.trees,AV.tree,go_sem]) (by simp [go_sem]) ?_
  simp only [X1,qL,go_sem]
  have hd:x.Data.length<9223372036854775808:=by have:=x.sz_eq;omega
  have hL:=x.len_sz
  obtain ⟨y,hK,h9 | h10⟩:=red3 ho hr
  · refine qD ?_ ?_<;>intro hc<;>simp only [hc,go_sem]
    · have:=odT hc;omega
    obtain ⟨n,hV⟩:∃n:Nat,y.Value=n:=⟨y.Value.toNat,by omega⟩
    have hlt:n<x.Data.length:=by omega
    have hrd:jX x=x.Data[n]:=by
      unfold jX;rw [hK];simp only [];rw [if_neg (by omega),hV];simp [hlt]
    replace hK:=And.intro hK hV
    simp only [hK,List.map_cons,List.map_nil,Option.map_some,go_sem]
    simp only [List.getElem?_map,gEg hlt,Option.map_some,go_sem]
    simp only [qE,go_sem]
    refine qG qOF ?_
    simp only [go_sem]
    refine qO (k:=4) (by rfl) (by simp [go_sem]) (qA.isAgg _) (by decide) ?_
    simp only [go_sem]
    refine Sem.loop (fun i:Nat=>i≤as.length∧True) (fun i=>(⟨[(0,.ept x.enc 0),(1,.lst 4 (as.map qA.enc) false),(6,.int .i64 (i:Nat))],[(5,((as.take i).foldl zr (.mk 11 x.Data[n] [] [])).enc),(4,.agg [.int .i64 0,.int .i64 0,.nils,.nils])],[]⟩:VSt)) (fun i=>as.length-i) 0 (by kernel_rfl) ⟨Nat.zero_le _,trivial⟩ (Can.sub (by simp [go_sem]) (by simp [go_sem])) ?_
    rintro i ⟨hi,hI⟩
    simp only [go_sem]
    refine qD ?_ ?_<;>intro hc<;>simp only [hc,go_sem]
    · have hlt:i<as.length:=by have:=odT hc;omega
      simp only [List.getElem?_map,gEg hlt,Option.map_some,go_sem]
      refine qG qQ9 ?_
      simp only [go_sem]
      refine Qn qA.ln qA.putcore ?_
      simp only [go_sem]
      simp only [qe (show i<4611686018427387904 by omega)]
      refine qY (i+1) ⟨by omega,trivial⟩ (by omega) (Can.sub (by simp [go_sem]) ?_)
      rw [List.take_succ_eq_append_getElem hlt,List.foldl_append]
      simp [go_sem]
    · obtain rfl:i=as.length:=by have:=odF hc;omega
      rw [List.take_length]
      refine qO (k:=4) (by rfl) (by simp [go_sem]) (qA.isAgg _) (by decide) ?_
      simp only [go_sem]
      rw [hrd]
      exact qy (.refl (by simp [go_sem]))
  · obtain ⟨d,e,hD⟩:=zu h10.2.2
    have hrd:jX x=if y.Value=0 then e else d:=by
      unfold jX;rw [hK];simp only [];rw [if_pos h10.1,hD];rfl
    refine qD ?_ ?_<;>intro hc<;>simp only [hc,go_sem]
    · replace hK:=And.intro hK hD
      simp only [hK,List.map_cons,List.map_nil,Option.map_some,go_sem]
      rw [ha h10.1,hrd]
      refine qD ?_ ?_<;>intro hc<;>simp only [hc,hK,List.map_cons,List.map_nil,Option.map_some,go_sem]
      · simp only [qE,go_sem]
        refine qG qOF ?_
        simp only [go_sem]
        refine qO (k:=4) (by rfl) (by simp [go_sem]) (qA.isAgg _) (by decide) ?_
        simp only [go_sem]
        rw [if_neg (by simpa using hc)]
        exact qy (.refl (by simp [go_sem]))
      · simp only [qE,go_sem]
        refine qG qOF ?_
        simp only [go_sem]
        refine qO (k:=4) (by rfl) (by simp [go_sem]) (qA.isAgg _) (by decide) ?_
        simp only [go_sem]
        rw [if_pos (by simpa using hc)]
        exact qy (.refl (by simp [go_sem]))
    · exact absurd h10.1 (odF hc)
end Go.Ab
namespace Go.Ab
open Go
set_option maxRecDepth 10000
set_option maxHeartbeats 2000000
attribute [local simp] zJ qf
def ju (b:qI) (R:List Int) (lim:Int):AV:=.agg [.ept b.enc 0,.lst 1 (R.map qE) false,.int .i64 lim]
@[go_sem] theorem zAE {b:qI} {R:List Int} {lim:Int}:(ju b R lim).part 0 none=some (.ept b.enc 0):=nr rfl
@[go_sem] theorem zAF {b:qI} {R:List Int} {lim:Int}:(ju b R lim).part 1 none=some (.lst 1 (R.map qE) false):=nr rfl
@[go_sem] theorem zAG {b:qI} {R:List Int} {lim:Int}:(ju b R lim).part 2 none=some (.int .i64 lim):=nr rfl
@[go_sem] theorem qYW {b:qI} {R:List Int} {lim:Int}:(ju b R lim).tree=true:=by simp [ju,AV.tree,AV.trees,go_sem]
def wZ (b:qI) (R:List Int) (lim:Int) (x:qA) (l:Int):Bool:=match x.Kids with
  |[]=>false
  | y::_=>decide (y.Kind=11)&&match b.Defs[y.Value.toNat]? with
    | none=>false
    | some d=>decide (d.Kind=4)&& !(R.any fun k=>decide (k=y.Value))&&decide ((d.size:Int)≤lim)&&decide (l+d.boxes≤8)
theorem qSM {b:qI} {R:List Int} {lim l:Int} {x y:qA} {ys:List qA} {n:Nat} (hK:x.Kids=y::ys) (h11:y.Kind=11) (hV:y.Value=n) (hlt:n<b.Defs.length):
    wZ b R lim x l=(decide (b.Defs[n].Kind=4)&& !(R.any fun k=>decide (k=y.Value))&&decide ((b.Defs[n].size:Int)≤lim)&&decide (l+b.Defs[n].boxes≤8)):=by
  unfold wZ;rw [hK];simp only []
  have:y.Value.toNat=n:=by omega
  rw [this,gEg hlt,h11];rfl
theorem qXG {b:qI} {R:List Int} {lim l:Int} {x y:qA} {ys:List qA} (hK:x.Kids=y::ys) (hv:y.Kind=11→0≤y.Value∧y.Value<(b.Defs.length:Nat)) (hz:b.sz≤1048576) (hd:∀d∈b.Defs,d.dep≤1048576) (hR:R.length≤4194304) (hl:0≤l∧l≤1048576):Pure Gm 1408 [.ept (ju b R lim) 0,.ept x.enc 0,.int .i64 l] (.bool (wZ b R lim x l)):=by
  refine Pure.intro [] [] qaT (by kernel_rfl) rfl (by simp [AV.trees,AV.tree,go_sem]) rfl ?_
  simp only [XD,qL,go_sem]
  have hz':b.Defs.length+qF qA.sz b.Defs≤1048576:=hz
  simp only [hK,List.map_cons,List.map_nil,Option.map_some,go_sem]
  refine qD ?_ ?_<;>intro hc<;>simp only [hc,hK,List.map_cons,List.map_nil,Option.map_some,go_sem]
  · exact qK rfl (by unfold wZ;rw [hK];simp only [];simp at hc;simp [hc])
  have h11:y.Kind=11:=by simpa using hc
  obtain ⟨n,hV⟩:∃n:Nat,y.Value=n:=⟨y.Value.toNat,by have:=hv h11;omega⟩
  have hlt:n<b.Defs.length:=by have:=hv h11;omega
  have hm:=List.getElem_mem hlt
  have hdz:=zV (f:=qA.sz) hm
  have hdd:=hd _ hm
  have hr:=qSM (R:=R) (lim:=lim) (l:=l) hK h11 hV hlt
  rw [hr]
  replace hK:=And.intro hK hV
  simp only [hK,List.map_cons,List.map_nil,Option.map_some,go_sem]
  simp only [List.getElem?_map,gEg hlt,Option.map_some,go_sem]
  refine qZ ?_ ?_<;>intro hc<;>simp only [hc,go_sem]
  rotate_left
  · exact qK rfl (by simp)
  refine qG (qOD hR) ?_
  simp only [go_sem]
  refine qZ ?_ ?_<;>intro hc<;>simp only [hc,go_sem]
  rotate_left
  · exact qK rfl (by simp)
  have hbd:=b.Defs[n].boxes_dep
  refine qG (qXK b.Defs[n] (by omega)) ?_
  simp only [go_sem]
  refine qZ ?_ ?_<;>intro hc<;>simp only [hc,go_sem]
  rotate_left
  · exact qK rfl (by simp)
  refine qG (qXL b.Defs[n] (by omega) hdd) ?_
  simp only [go_sem]
  rw [qi (by omega) (by omega)]
  exact qK rfl (by simp)
def zL (a:qA):qA:=a.Kids.headD qR
def zA (a:qA) (L:List Int) (l:Int):qA×Int:=
  if L.length=0 then (a,0) else if a.Kind=2 then (a,0) else if a.Kind=6∧(zL a).Kind=2 then (zL a,0)
  else if L.length=1∧L.head?=some l then (a,0) else if L.length=1∧a.Kind=6 then (zL a,0) else (qR,3)
def zQ (x:qA) (l:Int):qA×Int:=match x.Kids with
  | a::c::_=>zA a (c.levels 0 l) l
  | _=>(qR,3)
@[go_sem] theorem zDB {w id:Nat} {cl:Bool} {k:IntKind}:idx w (some (.slice w id 0 1 cl)) (some (.int k 0))=some (.ptr id 0 0):=Zj (by omega) (by omega)
theorem Qd {h:List qC} {x y:qA×Int} (e:y=x):Fin (some [x.1.enc,.int .i64 x.2]) h (.tup [y.1.enc,.int .i64 y.2]):=by
  subst e;exact j7 (cv2 (.refl (by simp [go_sem])) rfl)
theorem qXH {b:qI} {R:List Int} {lim:Int} {x a c:qA} {ks:List qA} {l:Int} (hK:x.Kids=a::c::ks) (ha:a.Kind=6→∃k kl,a.Kids=k::kl) (hz:x.sz≤1048576) (hq:x.size≤1048576) (hd:x.dep≤1048576) (hl:0≤l∧l≤1048576):Pure Gm 1409 [.ept (ju b R lim) 0,.ept x.enc 0,.int .i64 l] (.tup [(zQ x l).1.enc,.int .i64 (zQ x l).2]):=by
  refine Pure.intro [] [] qaU (by kernel_rfl) rfl (by simp [AV.trees,AV.tree,go_sem]) (by simp [AV.tree,AV.trees,go_sem]) ?_
  simp only [XE,qL,go_sem]
  have hcm:c∈x.Kids:=by rw [hK];simp
  have hcz:=qA.kid_sz hcm
  have hcd:=qA.dep_kid hcm
  have hcs:=zV (f:=qA.size) hcm
  have hxs:=x.size_eq
  have hll:=qA.levels_len c 0 l
  have hr:zQ x l=zA a (c.levels 0 l) l:=by unfold zQ;rw [hK]
  rw [hr]
  simp only [hK,List.map_cons,List.map_nil,Option.map_some,go_sem]
  have hacc:=a990 c 0 l [] (by omega) (by omega) (by omega) (by simp;omega)
  rw [List.nil_append] at hacc
  obtain ⟨L,hL⟩:∃L,L=c.levels 0 l:=⟨_,rfl⟩
  rw [←hL] at hll hacc hr⊢
  refine JW hacc rfl ?_
  intro h' id' hG
  simp only [go_sem]
  refine qZ ?_ ?_<;>intro hc<;>simp only [hc,go_sem]
  rotate_left
  · refine qO (k:=4) (by rfl) (by simp [go_sem]) (qA.isAgg _) (by decide) ?_
    simp only [go_sem]
    exact Qd (x:=(a,0)) (by unfold zA;rw [if_pos (by simp at hc;simp [hc])])
  have h0:¬L.length=0:=by have:=odF hc;omega
  refine qD ?_ ?_<;>intro hc<;>simp only [hc,go_sem]
  · refine qO (k:=4) (by rfl) (by simp [go_sem]) (qA.isAgg _) (by decide) ?_
    simp only [go_sem]
    exact Qd (x:=(a,0)) (by unfold zA;rw [if_neg h0,if_pos (odT hc)])
  have h2:=odF hc
  by_cases h6:a.Kind=6
  · obtain ⟨k,kl,hk⟩:=ha h6
    have hk0:zL a=k:=by unfold zL;rw [hk];rfl
    replace hK:=And.intro hK hk
    refine qZ ?_ ?_<;>intro hc<;>simp only [hc,go_sem]
    rotate_left
    · exact absurd h6 (by simpa using hc)
    simp only [hK,List.map_cons,List.map_nil,Option.map_some,go_sem]
    refine qD ?_ ?_<;>intro hc<;>simp only [hc,hK,List.map_cons,List.map_nil,Option.map_some,go_sem]
    · refine qO (k:=4) (by rfl) (by simp [go_sem]) (qA.isAgg _) (by decide) ?_
      simp only [go_sem]
      exact Qd (x:=(k,0)) (by unfold zA;rw [if_neg h0,if_neg h2,hk0,if_pos ⟨h6,odT hc⟩])
    have h7:¬(a.Kind=6∧(zL a).Kind=2):=by rw [hk0];exact fun h=>odF hc h.2
    refine qZ ?_ ?_<;>intro hc<;>simp only [hc,go_sem]
    rotate_left
    · have h1:¬L.length=1:=by simp at hc;omega
      refine qO (k:=4) (by rfl) (by rfl) (by exact ⟨_,rfl⟩) (by decide) ?_
      simp only [go_sem]
      have e:zA a L l=(qR,3):=by unfold zA;rw [if_neg h0,if_neg h2,if_neg h7,if_neg (fun h=>h1 h.1),if_neg (fun h=>h1 h.1)]
      rw [e]
      exact j7 (cv2 w6 rfl)
    have h1:=odT hc
    obtain ⟨n,rfl⟩:∃n,L=[n]:=z7 (by omega)
    simp only [go_sem]
    rw [hG.at']
    simp only [List.map_cons,List.map_nil,qE,go_sem]
    refine qD ?_ ?_<;>intro hc<;>simp only [hc,go_sem]
    · refine qO (k:=4) (by rfl) (by simp [go_sem]) (qA.isAgg _) (by decide) ?_
      simp only [go_sem]
      exact Qd (x:=(a,0)) (by unfold zA;rw [if_neg h0,if_neg h2,if_neg h7,if_pos ⟨rfl,by rw [odT hc];rfl⟩])
    have h8:¬([n].length=1∧[n].head?=some l):=by rintro ⟨_,h⟩;simp at h;exact odF hc h
    refine qZ ?_ ?_<;>intro hc<;>simp only [hc,go_sem]
    rotate_left
    · exact absurd hc (by simp)
    refine qD ?_ ?_<;>intro hc<;>simp only [hc,hK,List.map_cons,List.map_nil,Option.map_some,go_sem]
    · refine qO (k:=4) (by rfl) (by simp [go_sem]) (qA.isAgg _) (by decide) ?_
      simp only [go_sem]
      exact Qd (x:=(k,0)) (by unfold zA;rw [if_neg h0,if_neg h2,if_neg h7,if_neg h8,if_pos ⟨rfl,h6⟩,hk0])
    · exact absurd h6 (odF hc)
  · refine qZ ?_ ?_<;>intro hc<;>simp only [hc,go_sem]
    · exact absurd (odT hc) h6
    have h7:¬(a.Kind=6∧(zL a).Kind=2):=fun h=>h6 h.1
    refine qZ ?_ ?_<;>intro hc<;>simp only [hc,go_sem]
    rotate_left
    · have h1:¬L.length=1:=by simp at hc;omega
      refine qO (k:=4) (by rfl) (by rfl) (by exact ⟨_,rfl⟩) (by decide) ?_
      simp only [go_sem]
      have e:zA a L l=(qR,3):=by unfold zA;rw [if_neg h0,if_neg h2,if_neg h7,if_neg (fun h=>h1 h.1),if_neg (fun h=>h1 h.1)]
      rw [e]
      exact j7 (cv2 w6 rfl)
    have h1:=odT hc
    obtain ⟨n,rfl⟩:∃n,L=[n]:=z7 (by omega)
    simp only [go_sem]
    rw [hG.at']
    simp only [List.map_cons,List.map_nil,qE,go_sem]
    refine qD ?_ ?_<;>intro hc<;>simp only [hc,go_sem]
    · refine qO (k:=4) (by rfl) (by simp [go_sem]) (qA.isAgg _) (by decide) ?_
      simp only [go_sem]
      exact Qd (x:=(a,0)) (by unfold zA;rw [if_neg h0,if_neg h2,if_neg h7,if_pos ⟨rfl,by rw [odT hc];rfl⟩])
    have h8:¬([n].length=1∧[n].head?=some l):=by rintro ⟨_,h⟩;simp at h;exact odF hc h
    refine qZ ?_ ?_<;>intro hc<;>simp only [hc,go_sem]
    rotate_left
    · exact absurd hc (by simp)
    refine qD ?_ ?_<;>intro hc<;>simp only [hc,go_sem]
    · exact absurd (odT hc) h6
    refine qO (k:=4) (by rfl) (by rfl) (by exact ⟨_,rfl⟩) (by decide) ?_
    simp only [go_sem]
    have e:zA a [n] l=(qR,3):=by unfold zA;rw [if_neg h0,if_neg h2,if_neg h7,if_neg h8,if_neg (fun h=>h6 h.2)]
    rw [e]
    exact j7 (cv2 w6 rfl)
end Go.Ab
namespace Go.Ab
open Go
set_option maxRecDepth 10000
set_option maxHeartbeats 2000000
attribute [local simp] zJ qf
theorem zT {x y:qA} (h:x.valid=true) (hm:y∈x.Kids):y.valid=true:=by
  obtain ⟨h1,h2,h3,_,_⟩:=zG h
  have hd:=qA.dep_kid hm
  have hs:=zV (f:=qA.size) hm
  have hx:=x.size_eq
  unfold qA.valid
  simp only [Bool.and_eq_true,decide_eq_true_eq]
  exact ⟨⟨qv h1 hm,by omega⟩,by omega⟩
theorem wy {n:Int} {x y:qA} (h:x.refs n=true) (hm:y∈x.Kids):y.refs n=true:=by
  rw [qA.refs_eq,Bool.and_eq_true,List.all_eq_true] at h;exact h.2 y hm
theorem Vl {n:Int} {x:qA} (ho:x.ok=true) (h:x.refs n=true) (h11:x.Kind=11):0≤x.Value∧x.Value<n:=by
  rw [qA.refs_eq,Bool.and_eq_true,Bool.and_eq_true] at h
  have h1:=h.1.1
  have hv:=Va ho
  unfold wi inI at hv
  simp [h11] at h1 hv
  omega
theorem qTP {x:qA} (h:x.ok=true) (hk:x.Kind=2):x.Kids=[]:=by
  have h:=wx h
  unfold zw inI at h
  simp only [Bool.and_eq_true,decide_eq_true_eq] at h
  obtain ⟨⟨⟨⟨h1,h2⟩,_⟩,_⟩,_⟩:=h
  simp [shp,hk] at h1 h2
  exact h2
theorem Jx {b:qI} (hb:b.ok=true):b.Defs.length≤24∧∀d∈b.Defs,d.valid=true∧d.refs b.Defs.length=true∧d.dep≤80:=by
  refine ⟨(qOC hb).2,fun d hd=> ?_⟩
  obtain ⟨h1,h2⟩:=ZQ hb hd
  have h3:=(QU h1).2.1
  unfold qA.closed at h1
  simp only [Bool.and_eq_true] at h1
  exact ⟨h1.1,h2,h3⟩
theorem VI {a:qA} {L:List Int} {l:Int} (hv:a.valid=true) (h:(zA a L l).2=0):(zA a L l).1.valid=true:=by
  have hk:a.Kind=6→(zL a).valid=true:=fun h6=>by
    obtain ⟨k,hk⟩:=z7 ((qx (zG hv).1).2 (by omega))
    have:zL a=k:=by unfold zL;rw [hk];rfl
    rw [this];exact zT hv (by rw [hk];simp)
  unfold zA at h⊢
  split
  · exact hv
  split
  · exact hv
  split
  · rename_i h6;exact hk h6.1
  split
  · exact hv
  split
  · rename_i h6;exact hk h6.2
  · rw [if_neg (by assumption),if_neg (by assumption),if_neg (by assumption),if_neg (by assumption),if_neg (by assumption)] at h;cases h
abbrev jG:=qA×Int×Int
def zZ (r:jG):AV:=.tup [r.1.enc,.int .i64 r.2.1,.int .i64 r.2.2]
@[go_sem] theorem qeH {r:jG}:(zZ r).tree=true:=by simp [zZ,AV.tree,AV.trees,go_sem]
theorem wW {h:List qC} {y:jG} {g:qA} {r c:Int} (e:y=(g,r,c)):Fin (some [g.enc,.int .i64 r,.int .i64 c]) h (zZ y):=by
  subst e;unfold Fin;exact (show Cv h (zZ (g,r,c)) (zZ (g,r,c)) from .refl qeH)
theorem Jc {h:List qC} {y:jG} (e:y=(qR,0,0)):Fin (some [.agg [.int .i64 0,.int .i64 0,.nils,.nils],.int .i64 0,.int .i64 0]) h (zZ y):=by
  subst e;unfold Fin
  refine .tup rfl ?_
  simp only [List.zip_cons_cons,List.zip_nil_left,List.mem_cons,List.not_mem_nil,or_false]
  rintro p (rfl | rfl | rfl)
  · exact w6
  · exact .refl rfl
  · exact .refl rfl
def zI (b:qI) (R:List Int) (lim:Int) (x:qA) (l:Int):jG:=match x.Kids with
  |[]=>(qR,0,0)
  | a::ys=>
    if x.Kind=3 then (if a.Kind=2∧(ys.headD qR).Kind=2 then (.mk 2 (opI x.Value a.Value (ys.headD qR).Value) [] [],1,0) else (qR,0,0))
    else if x.Kind=10∨x.Kind=9 then (if qW x=3 then (wo (jX x) a.Kids,2,0) else (qR,0,0))
    else if x.Kind=5 then (if a.Kind=4 then (jV (zL a) (ys.headD qR),3,jC (zL a) (ys.headD qR))
      else if wZ b R lim x l=true then (zr (b.Defs.getD a.Value.toNat qR) (ys.headD qR),5,0) else (qR,0,0))
    else if x.Kind=7 then (if (zQ x l).2=0 then (jV (ys.headD qR) (zQ x l).1,4,jC (ys.headD qR) (zQ x l).1) else (qR,0,0))
    else (qR,0,0)
theorem qW3 {b:qI} {R:List Int} {lim:Int} {x:qA} {l:Int} (hb:b.ok=true) (hbz:b.sz≤1048576) (hx:x.valid=true) (hf:x.refs b.Defs.length=true) (hR:R.length≤24) (hl:0≤l∧l≤1000):Pure Gm 1163 [.ept (ju b R lim) 0,.ept x.enc 0,.int .i64 l] (zZ (zI b R lim x l)):=by
  refine Pure.intro [] [] qZ2 (by kernel_rfl) rfl (by simp [AV.trees,AV.tree,go_sem]) (by simp [AV.tree,AV.trees,go_sem]) ?_
  simp only [Wl,qL,go_sem]
  obtain ⟨ho,hd,hs,hz,hv⟩:=zG hx
  refine qD ?_ ?_<;>intro hc<;>simp only [hc,go_sem]
  · have h3:=odT hc
    obtain ⟨a,c,hK⟩:=zu ((qx ho).1 (by omega))
    have hr:zI b R lim x l=if a.Kind=2∧c.Kind=2 then (.mk 2 (opI x.Value a.Value c.Value) [] [],1,0) else (qR,0,0):=by unfold zI;rw [hK];simp only [];rw [if_pos h3];rfl
    rw [hr]
    simp only [hK,List.map_cons,List.map_nil,Option.map_some,go_sem]
    refine qZ ?_ ?_<;>intro hc<;>simp only [hc,hK,List.map_cons,List.map_nil,Option.map_some,go_sem]
    rotate_left
    · refine qO (k:=4) (by rfl) (by rfl) (by exact ⟨_,rfl⟩) (by decide) ?_;simp only [go_sem]
      exact Jc (if_neg (fun h=>by simp [h.1] at hc))
    have ha:=odT hc
    refine qD ?_ ?_<;>intro hc<;>simp only [hc,hK,List.map_cons,List.map_nil,Option.map_some,go_sem]
    · refine qG c762 ?_
      simp only [go_sem]
      refine qG c381 ?_
      simp only [go_sem]
      refine qO (k:=4) (by rfl) (by simp [go_sem]) (qA.isAgg _) (by decide) ?_;simp only [go_sem]
      rw [if_pos ⟨ha,odT hc⟩]
      exact wW rfl
    · refine qO (k:=4) (by rfl) (by rfl) (by exact ⟨_,rfl⟩) (by decide) ?_;simp only [go_sem]
      exact Jc (if_neg (fun h=>odF hc h.2))
  have h3:=odF hc
  by_cases h10:x.Kind=10∨x.Kind=9
  · obtain ⟨a,hK⟩:=z7 ((qx ho).2 (by omega))
    have ham:a∈x.Kids:=by rw [hK];simp
    have haz:=qA.kid_sz ham
    have hal:=a.len_sz
    have hr:zI b R lim x l=if qW x=3 then (wo (jX x) a.Kids,2,0) else (qR,0,0):=by unfold zI;rw [hK];simp only [];rw [if_neg h3,if_pos h10]
    rw [hr]
    have hak:qW x=3→x.Kind=10→a.Kids=[]:=by
      intro h h'
      obtain ⟨y,hy,h9 | h9⟩:=red3 ho h
      · omega
      · rw [hK] at hy;cases hy
        exact qTP (qv ho ham) h9.2.1
    refine qD ?_ ?_<;>intro hc<;>simp only [hc,go_sem]
    rotate_left
    refine qD ?_ ?_<;>intro hc<;>simp only [hc,go_sem]
    rotate_left
    · have:=odF hc;rename_i h;have:=odF h;omega
    all_goals
      refine qG (c760 ho (by omega)) ?_
      simp only [go_sem]
      refine qD ?_ ?_<;>intro hc<;>simp only [hc,go_sem]
      · have hk3:=odT hc
        simp only [hK,List.map_cons,List.map_nil,Option.map_some,go_sem]
        refine qG (c763 ho hk3 (by omega) (by omega) (hak hk3)) ?_
        simp only [go_sem]
        refine qO (k:=4) (by rfl) (by simp [go_sem]) (qA.isAgg _) (by decide) ?_;simp only [go_sem]
        rw [if_pos hk3]
        exact wW rfl
      · refine qO (k:=4) (by rfl) (by rfl) (by exact ⟨_,rfl⟩) (by decide) ?_;simp only [go_sem]
        exact Jc (if_neg (odF hc))
  refine qD ?_ ?_<;>intro hc<;>simp only [hc,go_sem]
  · exact absurd (.inl (odT hc)) h10
  refine qD ?_ ?_<;>intro hc<;>simp only [hc,go_sem]
  · exact absurd (.inr (odT hc)) h10
  refine qD ?_ ?_<;>intro hc<;>simp only [hc,go_sem]
  · have h5:=odT hc
    obtain ⟨a,c,hK⟩:=zu ((qx ho).1 (by omega))
    have ham:a∈x.Kids:=by rw [hK];simp
    have hcm:c∈x.Kids:=by rw [hK];simp
    have hr:zI b R lim x l=if a.Kind=4 then (jV (zL a) c,3,jC (zL a) c)
      else if wZ b R lim x l=true then (zr (b.Defs.getD a.Value.toNat qR) c,5,0) else (qR,0,0):=by unfold zI;rw [hK];simp only [];rw [if_neg h3,if_neg h10,if_pos h5];rfl
    rw [hr]
    simp only [hK,List.map_cons,List.map_nil,Option.map_some,go_sem]
    refine qD ?_ ?_<;>intro hc<;>simp only [hc,go_sem]
    · have h4:=odT hc
      obtain ⟨k,hk⟩:=z7 ((qx (qv ho ham)).2 (.inl h4))
      have hk0:zL a=k:=by unfold zL;rw [hk];rfl
      have hkm:k∈a.Kids:=by rw [hk];simp
      have hK0:=hK
      replace hK:=And.intro hK hk
      simp only [hK,List.map_cons,List.map_nil,Option.map_some,go_sem]
      refine qG (c761 (zT (zT hx ham) hkm) (zT hx hcm)) ?_
      simp only [go_sem]
      refine qO (k:=4) (by rfl) (by simp [go_sem]) (qA.isAgg _) (by decide) ?_;simp only [go_sem]
      refine qO (k:=4) (by rfl) (by simp [go_sem]) (qA.isAgg _) (by decide) ?_;simp only [go_sem]
      rw [if_pos h4,hk0]
      exact wW rfl
    have h4:=odF hc
    rw [if_neg h4]
    have hav:a.Kind=11→0≤a.Value∧a.Value<(b.Defs.length:Nat):=Vl (qv ho ham) (wy hf ham)
    refine qG (qXG hK hav hbz (fun d hd=>by have:=((Jx hb).2 d hd).2.2;omega) (by omega) (by omega)) ?_
    simp only [go_sem]
    refine qD ?_ ?_<;>intro hc<;>simp only [hc,go_sem]
    · have hi:=hc
      have h11:a.Kind=11:=by
        unfold wZ at hi;rw [hK] at hi;simp only [Bool.and_eq_true,decide_eq_true_eq] at hi;exact hi.1
      obtain ⟨n,hV⟩:∃n:Nat,a.Value=n:=⟨a.Value.toNat,by have:=hav h11;omega⟩
      have hlt:n<b.Defs.length:=by have:=hav h11;omega
      replace hK:=And.intro hK hV
      simp only [hK,List.map_cons,List.map_nil,Option.map_some,go_sem]
      simp only [List.getElem?_map,gEg hlt,Option.map_some,go_sem]
      simp only [hK,List.map_cons,List.map_nil,Option.map_some,go_sem]
      refine qG qQ9 ?_
      simp only [go_sem]
      refine qO (k:=4) (by rfl) (by simp [go_sem]) (qA.isAgg _) (by decide) ?_;simp only [go_sem]
      exact wW (by simp [hlt])
    · refine qO (k:=4) (by rfl) (by rfl) (by exact ⟨_,rfl⟩) (by decide) ?_;simp only [go_sem]
      exact Jc rfl
  have h5:=odF hc
  refine qD ?_ ?_<;>intro hc<;>simp only [hc,go_sem]
  · have h7:=odT hc
    obtain ⟨a,c,hK⟩:=zu ((qx ho).1 (by omega))
    have ham:a∈x.Kids:=by rw [hK];simp
    have hcm:c∈x.Kids:=by rw [hK];simp
    have hr:zI b R lim x l=if (zQ x l).2=0 then (jV c (zQ x l).1,4,jC c (zQ x l).1) else (qR,0,0):=by unfold zI;rw [hK];simp only [];rw [if_neg h3,if_neg h10,if_neg h5,if_pos h7];rfl
    rw [hr]
    have hvl:(zQ x l).2=0→(zQ x l).1.valid=true:=by
      have e:zQ x l=zA a (c.levels 0 l) l:=by unfold zQ;rw [hK]
      rw [e]
      exact VI (zT hx ham)
    refine qG (qXH hK (fun h6=>by obtain ⟨k,hk⟩:=z7 ((qx (qv ho ham)).2 (by omega));exact ⟨k,[],hk⟩) (by omega) (by omega) (by omega) (by omega)) ?_
    simp only [go_sem]
    refine jM (by simp [go_sem]) rfl rfl qA.putall ?_
    simp only [go_sem]
    refine qD ?_ ?_<;>intro hc<;>simp only [hc,go_sem]
    · have h0:=odT hc
      simp only [hK,List.map_cons,List.map_nil,Option.map_some,go_sem]
      refine ZX [0] (vs':=[.ept c.enc 0,.ept (zQ x l).1.enc 0]) (Cvs.cons (.refl (by simp [AV.tree,go_sem])) (Cvs.cons (.ptr rfl (by decide) rfl (.refl (by simp [go_sem]))) Cvs.nil)) (c761 (zT hx hcm) (hvl h0)) ?_
      simp only [go_sem]
      refine qO (k:=4) (by rfl) (by simp [go_sem]) (qA.isAgg _) (by decide) ?_;simp only [go_sem]
      refine qO (k:=4) (by rfl) (by simp [go_sem]) (qA.isAgg _) (by decide) ?_;simp only [go_sem]
      rw [if_pos h0]
      exact wW rfl
    · refine qO (k:=4) (by rfl) (by rfl) (by exact ⟨_,rfl⟩) (by decide) ?_;simp only [go_sem]
      exact Jc (if_neg (odF hc))
  have h7:=odF hc
  refine qO (k:=4) (by rfl) (by rfl) (by exact ⟨_,rfl⟩) (by decide) ?_;simp only [go_sem]
  exact Jc (by unfold zI;split;rfl;rw [if_neg h3,if_neg h10,if_neg h5,if_neg h7])
end Go.Ab
namespace Go.Ab
open Go
set_option maxRecDepth 10000
set_option maxHeartbeats 2000000
attribute [local simp] zJ qf
def j8 (x:qA):List (Int→jG)→Nat→Int→jG
  |[],_,_=>(qR,0,0)
  | r::rs,i,l=>if (r l).2.1=0 then j8 x rs (i+1) l else (.mk x.Kind x.Value x.Data (x.Kids.set i (r l).1),(r l).2)
def jn (b:qI) (R:List Int) (lim:Int):qA→Int→jG:=qA.fold fun x rs l=>
  if (zI b R lim x l).2.1=0 then j8 x rs 0 (l+qd x.Kind) else zI b R lim x l
theorem Zk (b:qI) (R:List Int) (lim:Int) (x:qA) (l:Int):jn b R lim x l=
    if (zI b R lim x l).2.1=0 then j8 x (x.Kids.map (jn b R lim)) 0 (l+qd x.Kind) else zI b R lim x l:=by
  unfold jn;rw [qA.fold_eq]
theorem Zh {x:qA} {f:qA→Int→jG} {i:Nat} {l:Int} (h:i<x.Kids.length):
    j8 x ((x.Kids.drop i).map f) i l=if (f x.Kids[i] l).2.1=0 then j8 x ((x.Kids.drop (i+1)).map f) (i+1) l else (.mk x.Kind x.Value x.Data (x.Kids.set i (f x.Kids[i] l).1),(f x.Kids[i] l).2):=by
  rw [List.drop_eq_getElem_cons h,List.map_cons,j8]
theorem qR6 {h:List qC} {v:AV} {y:jG} {g:qA} {r c:Int} (hc:Cv h v g.enc) (e:y=(g,r,c)):Fin (some [v,.int .i64 r,.int .i64 c]) h (zZ y):=by
  subst e;unfold Fin
  refine .tup rfl ?_
  simp only [List.zip_cons_cons,List.zip_nil_left,List.mem_cons,List.not_mem_nil,or_false]
  rintro p (rfl | rfl | rfl)
  · exact hc
  · exact .refl rfl
  · exact .refl rfl
theorem c836 (x:qA):∀(b:qI) (R:List Int) (lim:Int) (l:Int) (hb:b.ok=true) (hbz:b.sz≤1048576) (hx:x.valid=true) (hf:x.refs b.Defs.length=true) (hR:R.length≤24) (hl:0≤l∧l+x.dep≤1000),Pure Gm 836 [.ept (ju b R lim) 0,.ept x.enc 0,.int .i64 l] (zZ (jn b R lim x l)):=by
  induction x using qA.ind with
  | _ x ih=>
  intro b R lim l hb hbz hx hf hR hl
  refine Pure.intro [] [] g836 (by kernel_rfl) rfl (by simp [AV.trees,AV.tree,go_sem]) (by simp [AV.tree,AV.trees,go_sem]) ?_
  simp only [YA,qL,go_sem]
  obtain ⟨ho,hd,hs,hz,hv⟩:=zG hx
  have hL:=x.len_sz
  have hres:=Zk b R lim x l
  refine qG (qW3 hb hbz hx hf hR (by omega)) ?_
  simp only [zZ,go_sem]
  refine qO (k:=4) (by rfl) (by simp [go_sem]) (qA.isAgg _) (by decide) ?_;simp only [go_sem]
  refine qD ?_ ?_<;>intro hc<;>simp only [hc,go_sem]
  · refine qO (k:=4) (by rfl) (by simp [go_sem]) (qA.isAgg _) (by decide) ?_;simp only [go_sem]
    rw [hres,if_neg (by simpa using hc)]
    exact wW rfl
  rw [if_pos (by simpa using hc)] at hres
  refine qD ?_ ?_<;>intro hc<;>simp only [hc,go_sem]
  · rw [qi (n:=l+1) (by omega) (by omega)]
    have hbx:qd x.Kind=1:=by unfold qd;rw [if_pos (odT hc)]
    obtain ⟨m,hm⟩:∃m,m=l+1:=⟨_,rfl⟩
    rw [hbx,←hm] at hres
    rw [←hm]
    refine Sem.loop (fun i:Nat=>i≤x.Kids.length∧jn b R lim x l=j8 x ((x.Kids.drop i).map (jn b R lim)) i m) (fun i=>(⟨[(0,.ept (ju b R lim) 0),(1,.ept x.enc 0),(2,.int .i64 m),(12,.int .i64 (i:Nat))],[(6,.agg [.int .i64 0,.int .i64 0,.nils,.nils])],[]⟩:VSt)) (fun i=>x.Kids.length-i) 0 (by kernel_rfl) ⟨Nat.zero_le _,hres⟩ (Can.sub (by simp [go_sem]) (by simp [go_sem])) ?_
    rintro i ⟨hi,hI⟩
    simp only [go_sem]
    refine qD ?_ ?_<;>intro hc<;>simp only [hc,go_sem]
    · have hlt:i<x.Kids.length:=by have:=odT hc;omega
      simp only [List.getElem?_map,gEg hlt,Option.map_some,go_sem]
      have hkm:=List.getElem_mem hlt
      have hkd:=qA.dep_kid hkm
      rw [Zh hlt] at hI
      refine qG (ih _ hkm b R lim m hb hbz (zT hx hkm) (wy hf hkm) hR (by omega)) ?_
      simp only [zZ,go_sem]
      refine qO (k:=4) (by rfl) (by simp [go_sem]) (qA.isAgg _) (by decide) ?_;simp only [go_sem]
      refine qD ?_ ?_<;>intro hc<;>simp only [hc,go_sem]
      · rw [if_pos (odT hc)] at hI
        simp only [qe (show i<4611686018427387904 by omega)];refine qY (i+1) ⟨by omega, ?_⟩ (by omega) (Can.sub (by simp [go_sem]) (by simp [go_sem]))
        exact hI
      rw [if_neg (odF hc)] at hI
      refine qQU (ys:=x.Kids.map qA.enc) Els.lst (by simp;omega) ?_
      simp only [go_sem]
      refine qO (k:=4) (by rfl) (by rfl) (by exact ⟨_,rfl⟩) (by decide) ?_;simp only [go_sem]
      rw [z0 hlt]
      simp only [go_sem]
      refine jM (by simp [go_sem]) rfl (by simp [hlt];rfl) qA.putcore ?_
      simp only [go_sem]
      refine qO (k:=4) (by rfl) (by rfl) (by exact ⟨_,rfl⟩) (by decide) ?_;simp only [go_sem]
      refine qR6 (QW (by simp [List.map_set]) (by simp)) hI
    · obtain rfl:i=x.Kids.length:=by have:=odF hc;omega
      refine qO (k:=4) (by rfl) (by rfl) (by exact ⟨_,rfl⟩) (by decide) ?_;simp only [go_sem]
      exact Jc (by rw [hI,List.drop_length];rfl)
  · have hbx:qd x.Kind=0:=by unfold qd;rw [if_neg (odF hc)]
    rw [hbx,Int.add_zero] at hres
    obtain ⟨m,hm⟩:∃m,m=l:=⟨_,rfl⟩
    rw [←hm] at hres⊢
    refine Sem.loop (fun i:Nat=>i≤x.Kids.length∧jn b R lim x m=j8 x ((x.Kids.drop i).map (jn b R lim)) i m) (fun i=>(⟨[(0,.ept (ju b R lim) 0),(1,.ept x.enc 0),(2,.int .i64 m),(12,.int .i64 (i:Nat))],[(6,.agg [.int .i64 0,.int .i64 0,.nils,.nils])],[]⟩:VSt)) (fun i=>x.Kids.length-i) 0 (by kernel_rfl) ⟨Nat.zero_le _,hres⟩ (Can.sub (by simp [go_sem]) (by simp [go_sem])) ?_
    rintro i ⟨hi,hI⟩
    simp only [go_sem]
    refine qD ?_ ?_<;>intro hc<;>simp only [hc,go_sem]
    · have hlt:i<x.Kids.length:=by have:=odT hc;omega
      simp only [List.getElem?_map,gEg hlt,Option.map_some,go_sem]
      have hkm:=List.getElem_mem hlt
      have hkd:=qA.dep_kid hkm
      rw [Zh hlt] at hI
      refine qG (ih _ hkm b R lim m hb hbz (zT hx hkm) (wy hf hkm) hR (by omega)) ?_
      simp only [zZ,go_sem]
      refine qO (k:=4) (by rfl) (by simp [go_sem]) (qA.isAgg _) (by decide) ?_;simp only [go_sem]
      refine qD ?_ ?_<;>intro hc<;>simp only [hc,go_sem]
      · rw [if_pos (odT hc)] at hI
        simp only [qe (show i<4611686018427387904 by omega)];refine qY (i+1) ⟨by omega, ?_⟩ (by omega) (Can.sub (by simp [go_sem]) (by simp [go_sem]))
        exact hI
      rw [if_neg (odF hc)] at hI
      refine qQU (ys:=x.Kids.map qA.enc) Els.lst (by simp;omega) ?_
      simp only [go_sem]
      refine qO (k:=4) (by rfl) (by rfl) (by exact ⟨_,rfl⟩) (by decide) ?_;simp only [go_sem]
      rw [z0 hlt]
      simp only [go_sem]
      refine jM (by simp [go_sem]) rfl (by simp [hlt];rfl) qA.putcore ?_
      simp only [go_sem]
      refine qO (k:=4) (by rfl) (by rfl) (by exact ⟨_,rfl⟩) (by decide) ?_;simp only [go_sem]
      refine qR6 (QW (by simp [List.map_set]) (by simp)) hI
    · obtain rfl:i=x.Kids.length:=by have:=odF hc;omega
      refine qO (k:=4) (by rfl) (by rfl) (by exact ⟨_,rfl⟩) (by decide) ?_;simp only [go_sem]
      exact Jc (by rw [hI,List.drop_length];rfl)
end Go.Ab
namespace Go.Ab
open Go
set_option maxRecDepth 10000
set_option maxHeartbeats 2000000
attribute [local simp] zJ qf
def Asc (n:Int) (xs:List Int):Prop:=xs.Pairwise (· < ·)∧∀k∈xs,0≤k∧k<n
theorem qPW:∀{xs:List Int} {n k:Int},k∈zC xs n→k=n∨k∈xs
  |[],n,k,h=>by simp [zC] at h;exact .inl h
  | x::xs,n,k,h=>by
    unfold zC at h
    split at h
    · rcases List.mem_cons.1 h with rfl | h
      · simp
      · rcases qPW h with h | h
        · exact .inl h
        · simp [h]
    · split at h
      · exact .inr h
      · rcases List.mem_cons.1 h with rfl | h
        · exact .inl rfl
        · exact .inr h
theorem qTY:∀{xs:List Int} {n:Int},xs.Pairwise (· < ·)→(zC xs n).Pairwise (· < ·)
  |[],n,_=>by simp [zC]
  | x::xs,n,h=>by
    rw [List.pairwise_cons] at h
    unfold zC
    split
    · rw [List.pairwise_cons]
      refine ⟨fun k hk=> ?_,qTY h.2⟩
      rcases qPW hk with rfl | hk
      · assumption
      · exact h.1 k hk
    · split
      · rw [List.pairwise_cons];exact h
      · rw [List.pairwise_cons,List.pairwise_cons]
        refine ⟨fun k hk=> ?_,h⟩
        rcases List.mem_cons.1 hk with rfl | hk
        · omega
        · have:=h.1 k hk;omega
theorem Asc.put {n:Int} {xs:List Int} (h:Asc n xs) {k:Int} (hk:0≤k∧k<n):Asc n (zC xs k):=
  ⟨qTY h.1,fun j hj=>by rcases qPW hj with rfl | hj;exact hk;exact h.2 j hj⟩
theorem Asc.puts {n:Int}:∀(ds:List Int) {xs:List Int},Asc n xs→(∀k∈ds,0≤k∧k<n)→Asc n (ds.foldl zC xs)
  |[],_,h,_=>h
  | d::ds,xs,h,hd=>Asc.puts ds (xs:=zC xs d) (h.put (hd d (by simp))) (fun k hk=>hd k (by simp [hk]))
theorem qSE {α β:Type} {f:β→α→β} {P:β→Prop}:∀{xs:List α} {c:β},P c→(∀x∈xs,∀c,P c→P (f c x))→P (xs.foldl f c)
  |[],_,h,_=>h
  | x::xs,_,h,hf=>qSE (xs:=xs) (hf x (by simp) _ h) (fun y hy c hc=>hf y (by simp [hy]) c hc)
theorem qdW (n:Int):∀x:qA,x.ok=true→x.refs n=true→∀out,Asc n out→Asc n (x.names out):=qA.ind fun x ih ho hr out h=>by
  rw [qA.names_eq]
  refine qSE (Asc.puts _ ?_ ?_) (fun y hy c hc=>ih y hy (qv ho hy) (wy hr hy) c hc)
  · split
    · exact h.put (Vl ho hr (by assumption))
    · exact h
  · intro k hk
    rw [qA.refs_eq,Bool.and_eq_true,Bool.and_eq_true,List.all_eq_true] at hr
    have h1:=odT (hr.1.2 k hk)
    have hn:=wx ho
    unfold zw at hn
    simp only [Bool.and_eq_true,List.all_eq_true] at hn
    have h2:=hn.2 k hk
    unfold j5 inI at h2
    simp at h2
    omega
theorem qVN {b:qI} (hb:b.ok=true):∀ys∈qr b,Asc b.Defs.length ys:=by
  intro ys hy
  unfold qr at hy
  obtain ⟨c,hc,rfl⟩:=List.mem_map.1 hy
  obtain ⟨h1,h2⟩:=ZQ hb hc
  exact qdW _ c (QU h1).1 h2 [] ⟨List.Pairwise.nil,by simp⟩
theorem qQH {b:qI} (hb:b.ok=true):ZL (qr b):=fun ys hy k hk=>by
  have:=(qVN hb ys hy).2 k hk
  rw [qr,List.length_map];exact this
theorem qgY {b:qI} (hb:b.ok=true):∀ys∈qr b,ys.Nodup:=fun ys hy=>by
  refine (qVN hb ys hy).1.imp ?_
  intro a b h;omega
theorem qQG {α:Type} {f:α→Nat} {y:α}:∀{xs:List α} {i:Nat} (h:i<xs.length),qF f (xs.set i y)+f xs[i]=qF f xs+f y
  | x::xs,0,_=>by simp [qF];omega
  | x::xs,i+1,h=>by
    have:=qQG (f:=f) (y:=y) (xs:=xs) (i:=i) (by simpa using h)
    simp only [List.set_cons_succ,qF,List.getElem_cons_succ];omega
theorem qN6 (f a:qA):(zr f a).sz=2+f.sz+a.sz:=by rw [qA.sz_eq];simp [zr,qF,go_sem];omega
theorem qO0:∀(as:List qA) (f:qA),(as.foldl zr f).sz≤f.sz+2*as.length+qF qA.sz as
  |[],f=>by simp [qF]
  | a::as,f=>by
    have:=qO0 as (zr f a)
    rw [qN6] at this
    simp only [List.foldl_cons,qF,List.length_cons];omega
theorem qSP {x y:qA} (hx:x.ok=true) (hy:y.ok=true):(jV x y).sz≤4100:=by
  unfold jV
  split
  · rename_i h
    have hs:=Vg y x 0 hx
    have h4:=qA.sz_d4 _ (qPY (QA y hy) x 0 (QA x hx))
    unfold jC at h
    split at h
    · cases h
    · omega
  · have:qR.sz=0:=by rw [qA.sz_eq];rfl
    omega
theorem WI:qR.sz=0:=by rw [qA.sz_eq];rfl
theorem qfE {b:qI} {R:List Int} {lim:Int} {x:qA} {l:Int} (hb:b.ok=true) (hx:x.valid=true):(zI b R lim x l).1.sz≤4100:=by
  obtain ⟨ho,hd,hs,hz,hv⟩:=zG hx
  have hz0:=WI
  unfold zI
  split
  · show qR.sz≤_;omega
  rename_i a ys hK
  have ham:a∈x.Kids:=by rw [hK];simp
  have haz:=qA.kid_sz ham
  have hys:(ys.headD qR).sz≤x.sz:=by
    match ys,hK with
    |[],_=>show qR.sz≤_;omega
    | c::_,hK=>exact qA.kid_sz (by rw [hK];simp)
  split
  · split
    · show qA.sz (.mk 2 _ [] [])≤_;rw [qA.sz_eq];simp [qF,go_sem]
    · show qR.sz≤_;omega
  split
  · split
    · have:=qO0 a.Kids (.mk 11 (jX x) [] [])
      have h1:=a.sz_eq
      have h2:(qA.mk 11 (jX x) [] []).sz=0:=by rw [qA.sz_eq];simp [qF,go_sem]
      show (wo _ _).sz≤_
      unfold wo
      omega
    · show qR.sz≤_;omega
  split
  · split
    · rename_i h4
      obtain ⟨k,hk⟩:=z7 ((qx (qv ho ham)).2 (.inl h4))
      have hk0:zL a=k:=by unfold zL;rw [hk];rfl
      have hkm:k∈a.Kids:=by rw [hk];simp
      rw [hk0]
      refine qSP (qv (qv ho ham) hkm) ?_
      rename_i h5 _
      obtain ⟨a',c,hK'⟩:=zu ((qx ho).1 (by omega))
      rw [hK'] at hK;cases hK
      exact qv ho (by rw [hK'];simp)
    split
    · show (zr _ _).sz≤_
      rw [qN6]
      have:(b.Defs.getD a.Value.toNat qR).sz≤2000:=by
        rw [List.getD_eq_getElem?_getD]
        rcases h:b.Defs[a.Value.toNat]? with _ | d
        · show qR.sz≤_;omega
        · exact (zG ((Jx hb).2 d (List.mem_of_getElem? h)).1).2.2.2.1
      omega
    · show qR.sz≤_;omega
  split
  · rename_i h7
    split
    · rename_i h0
      obtain ⟨a',c,hK'⟩:=zu ((qx ho).1 (by omega))
      have e:zQ x l=zA a' (c.levels 0 l) l:=by unfold zQ;rw [hK']
      rw [hK'] at hK;cases hK
      have hv:=VI (zT hx ham) (by rw [←e];exact h0)
      rw [←e] at hv
      exact qSP (qv ho (by rw [hK'];simp)) (zG hv).1
    · show qR.sz≤_;omega
  · show qR.sz≤_;omega
theorem qR7 {x:qA} {f:qA→Int→jG} {l:Int} (hf:∀y∈x.Kids,(f y l).1.sz≤y.sz+4100):∀(n i:Nat),i+n=x.Kids.length→(j8 x ((x.Kids.drop i).map f) i l).1.sz≤x.sz+4100
  | 0,i,h=>by
    rw [show x.Kids.drop i=[] from List.drop_eq_nil_of_le (by omega)]
    show qR.sz≤_
    rw [WI];omega
  | n+1,i,h=>by
    have hlt:i<x.Kids.length:=by omega
    rw [Zh hlt]
    split
    · exact qR7 hf n (i+1) (by omega)
    · show qA.sz (.mk _ _ _ _)≤_
      have h1:=qQG (f:=qA.sz) (y:=(f x.Kids[i] l).1) hlt
      have h2:=hf _ (List.getElem_mem hlt)
      have h3:=x.sz_eq
      have h4:=zV (f:=qA.sz) (List.getElem_mem hlt)
      rw [qA.sz_eq,qA.mk_data,qA.mk_kids,List.length_set]
      omega
theorem qSN {b:qI} {R:List Int} {lim:Int} (hb:b.ok=true):∀(x:qA) (l:Int),x.valid=true→(jn b R lim x l).1.sz≤x.sz+4100:=qA.ind fun x ih l hx=>by
  rw [Zk]
  split
  · exact qR7 (fun y hy=>ih y hy _ (zT hx hy)) x.Kids.length 0 (by omega)
  · have:=qfE (R:=R) (lim:=lim) (l:=l) hb hx;omega
def j0 (b:qI) (R:List Int) (lim:Int) (x:qA):jG:=
  let o:=jn b R lim x 0
  (o.1,o.2.1,if ¬o.2.1=0∧o.2.2=0∧o.1.fits=false then 4 else o.2.2)
theorem c481 {b:qI} {R:List Int} {lim:Int} {x:qA} (hb:b.ok=true) (hbz:b.sz≤1048576) (hx:x.valid=true) (hf:x.refs b.Defs.length=true) (hR:R.length≤24):Pure Gm 481 [.ept (ju b R lim) 0,.ept x.enc 0] (zZ (j0 b R lim x)):=by
  refine Pure.intro [] [] g481 (by kernel_rfl) rfl (by simp [AV.trees,AV.tree,go_sem]) (by simp [AV.tree,AV.trees,go_sem]) ?_
  simp only [Xb,qL,go_sem]
  obtain ⟨ho,hd,hs,hz,hv⟩:=zG hx
  have hosz:=qSN (R:=R) (lim:=lim) hb x 0 hx
  refine qG (c836 x b R lim 0 hb hbz hx hf hR (by omega)) ?_
  unfold j0
  obtain ⟨o,hoo⟩:∃o,o=jn b R lim x 0:=⟨_,rfl⟩
  rw [←hoo] at hosz⊢
  have hod:=o.1.dep_size
  have hos:=o.1.size_sz
  simp only [zZ,go_sem]
  refine jM (by simp [go_sem]) rfl rfl qA.putall ?_
  simp only [go_sem]
  have cvp:Cv [qC.row 4 [o.1.enc] true] (.ptr 0 0 0) (.ept o.1.enc 0):=.ptr rfl (by decide) rfl (.refl (by simp [go_sem]))
  refine qZ ?_ ?_<;>intro hc<;>simp only [hc,go_sem]
  rotate_left
  · simp only [go_sem,List.nil_append,List.cons_append,List.set_cons_zero,List.set_cons_succ]
    refine qO (k:=4) (by rfl) (by simp [go_sem]) (qA.isAgg _) (by decide) ?_;simp only [go_sem]
    rw [if_neg (fun h=>h.1 (by simpa using hc))];exact wW (y:=(_,_,_)) rfl
  have h1:¬o.2.1=0:=by simpa using hc
  refine qZ ?_ ?_<;>intro hc<;>simp only [hc,go_sem]
  rotate_left
  · simp only [go_sem,List.nil_append,List.cons_append,List.set_cons_zero,List.set_cons_succ]
    refine qO (k:=4) (by rfl) (by simp [go_sem]) (qA.isAgg _) (by decide) ?_;simp only [go_sem]
    rw [if_neg (fun h=>by simp [h.2.1] at hc)];exact wW (y:=(_,_,_)) rfl
  have h2:=odT hc
  refine jI (vs':=[.ept o.1.enc 0]) (Cvs.cons cvp Cvs.nil) (c765 (by omega) (by omega)) rfl ?_
  simp only [go_sem]
  refine qD ?_ ?_<;>intro hc<;>simp only [hc,go_sem]
  · simp only [go_sem,List.nil_append,List.cons_append,List.set_cons_zero,List.set_cons_succ]
    refine qO (k:=4) (by rfl) (by simp [go_sem]) (qA.isAgg _) (by decide) ?_;simp only [go_sem]
    rw [if_pos ⟨h1,h2,by simpa using hc⟩];exact wW (y:=(_,_,_)) rfl
  · simp only [go_sem,List.nil_append,List.cons_append,List.set_cons_zero,List.set_cons_succ]
    refine qO (k:=4) (by rfl) (by simp [go_sem]) (qA.isAgg _) (by decide) ?_;simp only [go_sem]
    rw [if_neg (fun h=>by simp [h.2.2] at hc)];exact wW (y:=(_,_,_)) rfl
theorem c480 {b:qI} {lim:Int} (hb:b.ok=true) (hbz:b.sz≤1048576):Pure Gm 480 [.ept b.enc 0,.int .i64 lim] (.ept (ju b (zt (qr b) b.Defs.length) lim) 0):=by
  refine Pure.intro [] [] g480 (by kernel_rfl) rfl (by simp [AV.trees,AV.tree,go_sem]) (by simp [AV.tree,AV.trees,go_sem]) ?_
  simp only [Xa,qL,go_sem]
  refine qG (c835 hbz (Jx hb).1 (qQH hb) (qgY hb)) ?_
  simp only [go_sem]
  refine jm rfl ?_
  simp only [go_sem]
  exact qy (.ptr rfl (by decide) rfl (.refl qYW))
theorem Vt {b:qI} {c:qA} {limit budget:Int} (h:zR b c limit budget=0):b.ok=true∧c.valid=true∧c.refs b.Defs.length=true∧c.closed=true∧0≤limit∧limit≤40∧0≤budget∧budget≤2000:=by
  unfold zR at h
  split at h
  · rename_i h1
    simp only [Bool.and_eq_true] at h1
    have h2:c.valid=true:=by
      have:=h1.1.2
      unfold qA.closed at this
      simp only [Bool.and_eq_true] at this
      exact this.1
    split at h
    · split at h
      · split at h
        · rename_i h3
          unfold inI at h3
          simp only [Bool.and_eq_true,decide_eq_true_eq] at h3
          exact ⟨h1.1.1,h2,h1.2,h1.1.2,h3.1.1,h3.1.2,h3.2.1,h3.2.2⟩
        · cases h
      · rename_i h4;exact absurd h h4
    · cases h
  · cases h
noncomputable def zo (b:qI):List Int:=zt (qr b) b.Defs.length
end Go.Ab
namespace Go.Ab
open Go
set_option maxRecDepth 10000
set_option maxHeartbeats 2000000
attribute [local simp] zJ qf
def fzp (n id:Nat) (o:Option qC) (st:VSt):VSt:=match o with
  | some (.row w [v] true)=>if w=0 then st else {s:=(n,.ept v 0)::st.s,l:=st.l,h:=st.h.set id .dead}
  | _=>st
def fzo (n:Nat) (v:Option AV) (st:VSt):VSt:=match v with
  | none=>st
  | some (.ept _ _)=>st
  | some (.lst _ _ _)=>st
  | some (.int _ _)=>st
  | some (.bool _)=>st
  | some .nils=>st
  | some (.agg _)=>st
  | some (.ptr id 0 0)=>fzp n id st.h[id]? st
  | _=>JH n st
section
variable {n id:Nat} {s m:qg} {h:List qC} {v x:AV} {st:VSt}
@[go_sem] theorem zA8:JH n ⟨s,m,h⟩=fzo n (get s n) ⟨s,m,h⟩:=by
  unfold fzo
  split<;>rename_i e<;>try (simp only [JH,e];done)
  · simp only [JH,e,fzp]
    split<;>rename_i e2<;>simp only [e2]
    · split<;>split<;>first | rfl | omega
@[go_sem] theorem zBH:get [] n=none:=nr rfl
@[go_sem] theorem zBD:fzo n none st=st:=nr rfl
@[go_sem] theorem zA9 {j:Nat}:fzo n (some (.ept v j)) st=st:=nr rfl
@[go_sem] theorem zBB {w:Nat} {xs:List AV} {c:Bool}:fzo n (some (.lst w xs c)) st=st:=nr rfl
@[go_sem] theorem zBC:fzo n (some .nils) st=st:=nr rfl
@[go_sem] theorem zBA {k:IntKind} {i:Int}:fzo n (some (.int k i)) st=st:=nr rfl
@[go_sem] theorem zBE:fzo n (some (.ptr id 0 0)) ⟨s,m,h⟩=fzp n id h[id]? ⟨s,m,h⟩:=nr rfl
@[go_sem] theorem zBF {w:Nat}:fzp n id (some (.row w [v] true)) ⟨s,m,h⟩=if w=0 then ⟨s,m,h⟩ else ⟨(n,.ept v 0)::s,m,h.set id .dead⟩:=nr rfl
end
theorem ZN {α:Type} (p:α→Bool) (xs:List α):(!xs.any fun x=> !p x)=xs.all p:=by
  induction xs with
  | nil=>rfl
  | cons x xs ih=>simp only [List.any_cons,List.all_cons,Bool.not_or,Bool.not_not,ih]
theorem ZV {f:AV} (p:Int→Bool) (hft:f.tree=true) (xs:List Int) (hf:∀x∈xs,YT Gm f [qE x] (.bool (p x))) (hl:xs.length≤1048576):Pure Gm 397 [.lst 1 (xs.map qE) false,f] (.bool (xs.any p)):=
  qRS shI (gc:=774) g397 g774 f p hft xs hf hl
theorem Yb {f:AV} (p:qA→Bool) (hft:f.tree=true) (xs:List qA) (hf:∀x∈xs,YT Gm f [x.enc] (.bool (p x))) (hl:xs.length≤1048576):Pure Gm 581 [.lst 4 (xs.map qA.enc) false,f] (.bool (xs.any p)):=
  qRS qA.isSh (gc:=958) g581 g958 f p hft xs hf hl
theorem n401 (xs:List Int) (hz:xs.length≤4194304):Fresh Gm 401 [.lst 1 (xs.map qE) false] (.lst 1 (xs.map qE) false):=
  qXZ (w:=1) g401 (lI xs) (jW (fun _=>rfl) xs) (zg shI.tree xs) (by simpa using hz)
theorem c801 {n m:Int}:Pure Gm 801 [.int .i64 n,.ept (.int .i64 m) 0] (.bool (!inI n 0 m)):=by
  refine Pure.intro [] [] g801 (by kernel_rfl) rfl (by simp [AV.trees,AV.tree,go_sem]) rfl ?_
  simp only [X7,qL,go_sem]
  repeat' (first | (refine qa rfl ?_;simp only [go_sem]) | (first | (refine qZ ?_ ?_<;>intro hc<;>simp only [hc,go_sem]) | (refine qD ?_ ?_<;>intro hc<;>simp only [hc,go_sem])) | refine qK rfl ?_ | refine jU (by rfl) ?_)
  all_goals ((simp only [inI,AV.bool.injEq];rw [Bool.eq_iff_iff];simp at*;try omega))
theorem c436 {m:Int} {xs:List Int} (hl:xs.length≤1048576):Pure Gm 436 [.int .i64 m,.lst 1 (xs.map qE) false] (.bool (xs.all fun n=>inI n 0 m)):=by
  refine Pure.intro [2] [] g436 (by kernel_rfl) rfl (by simp [AV.trees,AV.tree,zg shI.tree]) rfl ?_
  simp only [XY,qL,go_sem]
  refine jm rfl ?_
  simp only [go_sem,List.nil_append,List.set_cons_zero]
  refine qG (ZV (f:=.fn 801 [.ept (.int .i64 m) 0]) (fun n=> !inI n 0 m) rfl xs (fun x _=>⟨801,_,rfl,c801⟩) hl) ?_
  simp only [go_sem]
  refine qK rfl ?_
  rw [ZN]
theorem c796 {n:Int}:Pure Gm 796 [.int .i64 n] (.bool (j5 n)):=by
  refine Pure.intro [] [] g796 (by kernel_rfl) rfl (by simp [AV.trees,AV.tree,go_sem]) rfl ?_
  simp only [X6,qL,go_sem]
  repeat' (first | (refine qa rfl ?_;simp only [go_sem]) | (first | (refine qZ ?_ ?_<;>intro hc<;>simp only [hc,go_sem]) | (refine qD ?_ ?_<;>intro hc<;>simp only [hc,go_sem])) | refine qK rfl ?_ | refine jU (by rfl) ?_)
  all_goals ((simp only [j5,inI,AV.bool.injEq];rw [Bool.eq_iff_iff];simp at*;try omega))
theorem qWT {n:Int}:Pure Gm 1050 [.int .i64 n] (.bool (inI n 1 6)):=by
  refine Pure.intro [] [] qZJ (by kernel_rfl) rfl (by simp [AV.trees,AV.tree,go_sem]) rfl ?_
  simp only [WR,qL,go_sem]
  repeat' (first | (refine qa rfl ?_;simp only [go_sem]) | (first | (refine qZ ?_ ?_<;>intro hc<;>simp only [hc,go_sem]) | (refine qD ?_ ?_<;>intro hc<;>simp only [hc,go_sem])) | refine qK rfl ?_ | refine jU (by rfl) ?_)
  all_goals ((simp only [inI,AV.bool.injEq];rw [Bool.eq_iff_iff];simp at*;try omega))
theorem qWU {n:Int}:Pure Gm 1051 [.int .i64 n] (.bool (inI n (-2147483648) 2147483647)):=by
  refine Pure.intro [] [] qZK (by kernel_rfl) rfl (by simp [AV.trees,AV.tree,go_sem]) rfl ?_
  simp only [WS,qL,go_sem]
  repeat' (first | (refine qa rfl ?_;simp only [go_sem]) | (first | (refine qZ ?_ ?_<;>intro hc<;>simp only [hc,go_sem]) | (refine qD ?_ ?_<;>intro hc<;>simp only [hc,go_sem])) | refine qK rfl ?_ | refine jU (by rfl) ?_)
  all_goals ((simp only [inI,AV.bool.injEq];rw [Bool.eq_iff_iff];simp at*;try omega))
theorem qXE {n:Int}:Pure Gm 1402 [.int .i64 n] (.bool (!j5 n)):=by
  refine Pure.intro [] [] qaR (by kernel_rfl) rfl (by simp [AV.trees,AV.tree,go_sem]) rfl ?_
  simp only [XB,qL,go_sem]
  repeat' (first | (refine qa rfl ?_;simp only [go_sem]) | (first | (refine qZ ?_ ?_<;>intro hc<;>simp only [hc,go_sem]) | (refine qD ?_ ?_<;>intro hc<;>simp only [hc,go_sem])) | (refine qG (c796) ?_;simp only [go_sem]) | refine qK rfl ?_ | refine jU (by rfl) ?_)
  all_goals (simp_all<;>omega)
theorem c665 (x:qA):∀(hz:x.sz≤1048576) (hd:x.dep≤2097152) (hs:x.size≤2097152),Pure Gm 665 [x.enc] (.tup [.int .i64 (x.dep:Nat),.int .i64 (x.size:Nat)]):=by
  induction x using qA.ind with
  | _ x ih=>
  intro hz hd hs
  refine Pure.intro [] [] g665 (by kernel_rfl) rfl (by simp [AV.trees,AV.tree,go_sem]) rfl ?_
  simp only [Xt,qL,go_sem]
  have hL:=x.len_sz
  have hde:=x.dep_eq
  have hse:=x.size_eq
  refine qa qA.ln ?_
  simp only [go_sem]
  refine Sem.loop (fun i:Nat=>i≤x.Kids.length∧True) (fun i=>(⟨[(2,.int .i64 ((1+qz qA.dep (x.Kids.take i):Nat):Int)),(3,.int .i64 ((1+qF qA.size (x.Kids.take i):Nat):Int)),(9,.lst 4 (x.Kids.map qA.enc) false),(10,.int .i64 (x.Kids.length:Nat)),(11,.int .i64 (i:Nat))],[(1,x.enc)],[]⟩:VSt)) (fun i=>x.Kids.length-i) 0 (by kernel_rfl) ⟨Nat.zero_le _,by trivial⟩ (Can.sub (by simp [go_sem]) (by simp [go_sem])) ?_
  rintro i ⟨hi,hI⟩
  simp only [go_sem]
  refine qD ?_ ?_<;>intro hc<;>simp only [hc,go_sem]
  · have hlt:i<x.Kids.length:=by have:=odT hc;omega
    simp only [List.getElem?_map,gEg hlt,Option.map_some,go_sem]
    have hm:=List.getElem_mem hlt
    have hk:=qA.kid_sz hm
    have hp:=qA.dep_kid hm
    refine qO (k:=4) (by rfl) (by simp [go_sem]) (qA.isAgg _) (by decide) ?_;simp only [go_sem]
    refine qG (ih _ hm (by omega) (by omega) (by have:=zV (f:=qA.size) hm;omega)) ?_
    simp only [go_sem]
    have ht:=Q7 (f:=qA.size) hlt
    have hle:=WA qA.size x.Kids (i+1)
    have e1:((1+qF qA.size (x.Kids.take i):Nat):Int)+x.Kids[i].size=((1+qF qA.size (x.Kids.take (i+1)):Nat):Int):=by omega
    have e2:max ((1+qz qA.dep (x.Kids.take i):Nat):Int) ((x.Kids[i].dep:Int)+1)=((1+qz qA.dep (x.Kids.take (i+1)):Nat):Int):=by rw [Zu hlt];omega
    rw [qi (n:=(x.Kids[i].dep:Int)+1) (by omega) (by omega),e1,e2,qi (n:=((1+qF qA.size (x.Kids.take (i+1)):Nat):Int)) (by omega) (by omega)]
    simp only [qe (show i<4611686018427387904 by omega)];refine qY (i+1) ⟨by omega, ?_⟩ (by omega) (Can.sub (by simp [go_sem]) (by simp [go_sem]))
    trivial
  · obtain rfl:i=x.Kids.length:=by have:=odF hc;omega
    rw [List.take_length,←hde,←hse]
    exact jU (by rfl) rfl
theorem c495 {x:qA} (hz:x.sz≤1048576) (hd:x.dep≤2097152) (hs:x.size≤2097152):Pure Gm 495 [x.enc] (.bool x.fits):=by
  refine Pure.intro [] [] g495 (by kernel_rfl) rfl (by simp [AV.trees,AV.tree,go_sem]) rfl ?_
  simp only [Xe,qL,go_sem]
  refine qa qA.ln ?_
  simp only [go_sem]
  refine qG (c665 x hz hd hs) ?_
  simp only [go_sem]
  refine qZ ?_ ?_<;>intro hc<;>simp only [hc,go_sem]
  · exact qK rfl (by unfold qA.fits;rw [decide_eq_true (p:=x.dep≤80) (by have:=odT hc;omega),Bool.and_true];simp;omega)
  · exact qK rfl (by unfold qA.fits;rw [decide_eq_false (p:=x.dep≤80) (by simp at hc;omega),Bool.and_false])
theorem qW1 {x:qA} (hz:x.sz≤1048576):Pure Gm 1130 [x.enc] (.bool (zw x)):=by
  refine Pure.intro [] [] qZ0 (by kernel_rfl) rfl (by simp [AV.trees,AV.tree,go_sem]) rfl ?_
  simp only [Wj,qL,go_sem]
  have hL:=x.len_sz
  refine qa qA.ln ?_
  simp only [go_sem]
  repeat' (first | (first | (refine qZ ?_ ?_<;>intro hc<;>simp only [hc,go_sem]) | (refine qD ?_ ?_<;>intro hc<;>simp only [hc,go_sem])) | (refine qG qWU ?_;simp only [go_sem]) | (refine qG qWT ?_;simp only [go_sem]) | (refine qG c796 ?_;simp only [go_sem]) | (refine qG (ZV (f:=.fn 1402 []) (fun n=> !j5 n) rfl x.Data (fun y _=>⟨1402,[],rfl,qXE⟩) (by omega)) ?_;simp only [go_sem]) | refine qK rfl ?_)
  all_goals (try rw [ZN])
  all_goals (refine congrArg AV.bool ?_;unfold zw wi shp;simp_all [inI,j5]<;>first | omega | (intros;omega))
end Go.Ab
namespace Go.Ab
open Go
set_option maxRecDepth 10000
set_option maxHeartbeats 2000000
attribute [local simp] zJ qf
def JP (x:qA):AV:=if x.ok=true then .tup [.int .i64 (x.dep:Nat),.int .i64 (x.size:Nat),.bool true] else .tup [.int .i64 0,.int .i64 0,.bool false]
theorem qf6 (x:qA):(JP x).tree=true:=by unfold JP;split<;>rfl
theorem qVP (x:qA):x.valid=(x.ok&&x.fits):=by
  unfold qA.valid qA.fits
  cases x.ok<;>cases decide (x.dep≤80)<;>cases decide (x.size≤400)<;>rfl
theorem c770 (x:qA):∀(hz:x.sz≤1048576) (hd:x.dep≤2097152) (hs:x.size≤2097152),Pure Gm 770 [x.enc] (JP x):=by
  induction x using qA.ind with
  | _ x ih=>
  intro hz hd hs
  refine Pure.intro [] [] g770 (by kernel_rfl) rfl (by simp [AV.trees,AV.tree,go_sem]) (by exact qf6 _) ?_
  simp only [X5,qL,go_sem]
  have hL:=x.len_sz
  have hde:=x.dep_eq
  have hse:=x.size_eq
  have hoe:=x.ok_eq
  refine qa qA.ln ?_
  simp only [go_sem]
  refine qG (qW1 hz) ?_
  simp only [go_sem]
  refine qD ?_ ?_<;>intro hc<;>simp only [hc,go_sem]
  · have hn:x.ok=false:=by rw [hoe];simp at hc;simp [hc]
    rw [show JP x=_ from if_neg (by simp [hn])]
    exact jU (by rfl) rfl
  have hn:x.ok=x.Kids.all qA.ok:=by rw [hoe];simp at hc;simp [hc]
  refine Sem.loop (fun i:Nat=>i≤x.Kids.length∧x.ok=(x.Kids.drop i).all qA.ok) (fun i=>(⟨[(2,.int .i64 ((1+qz qA.dep (x.Kids.take i):Nat):Int)),(3,.int .i64 ((1+qF qA.size (x.Kids.take i):Nat):Int)),(14,.lst 4 (x.Kids.map qA.enc) false),(15,.int .i64 (x.Kids.length:Nat)),(16,.int .i64 (i:Nat))],[(1,x.enc)],[]⟩:VSt)) (fun i=>x.Kids.length-i) 0 (by kernel_rfl) ⟨Nat.zero_le _,by simp [hn]⟩ (Can.sub (by simp [go_sem]) (by simp [go_sem])) ?_
  rintro i ⟨hi,hI⟩
  simp only [go_sem]
  refine qD ?_ ?_<;>intro hc<;>simp only [hc,go_sem]
  · have hlt:i<x.Kids.length:=by have:=odT hc;omega
    simp only [List.getElem?_map,gEg hlt,Option.map_some,go_sem]
    have hm:=List.getElem_mem hlt
    have hk:=qA.kid_sz hm
    have hp:=qA.dep_kid hm
    rw [List.drop_eq_getElem_cons hlt,List.all_cons] at hI
    refine qO (k:=4) (by rfl) (by simp [go_sem]) (qA.isAgg _) (by decide) ?_;simp only [go_sem]
    refine qG (ih _ hm (by omega) (by omega) (by have:=zV (f:=qA.size) hm;omega)) ?_
    cases hko:x.Kids[i].ok
    · rw [hko,Bool.false_and] at hI
      simp only [JP,hko,go_sem]
      rw [if_neg (by simp [hI])]
      exact jU (by rfl) rfl
    · rw [hko,Bool.true_and] at hI
      simp only [JP,hko,go_sem]
      have ht:=Q7 (f:=qA.size) hlt
      have hle:=WA qA.size x.Kids (i+1)
      have e1:((1+qF qA.size (x.Kids.take i):Nat):Int)+x.Kids[i].size=((1+qF qA.size (x.Kids.take (i+1)):Nat):Int):=by omega
      have e2:max ((1+qz qA.dep (x.Kids.take i):Nat):Int) ((x.Kids[i].dep:Int)+1)=((1+qz qA.dep (x.Kids.take (i+1)):Nat):Int):=by rw [Zu hlt];omega
      rw [qi (n:=(x.Kids[i].dep:Int)+1) (by omega) (by omega),e1,e2,qi (n:=((1+qF qA.size (x.Kids.take (i+1)):Nat):Int)) (by omega) (by omega)]
      simp only [qe (show i<4611686018427387904 by omega)];refine qY (i+1) ⟨by omega, ?_⟩ (by omega) (Can.sub (by simp [go_sem]) (by simp [go_sem]))
      exact hI
  · obtain rfl:i=x.Kids.length:=by have:=odF hc;omega
    rw [List.take_length,←hde,←hse]
    rw [show JP x=_ from if_pos (by rw [hI];simp)]
    exact jU (by rfl) rfl
theorem c391 {x:qA} (hz:x.sz≤1048576) (hd:x.dep≤2097152) (hs:x.size≤2097152):Pure Gm 391 [x.enc] (.bool x.valid):=by
  refine Pure.intro [] [] g391 (by kernel_rfl) rfl (by simp [AV.trees,AV.tree,go_sem]) rfl ?_
  simp only [XX,qL,go_sem]
  refine qa qA.ln ?_
  simp only [go_sem]
  refine qG (c770 x hz hd hs) ?_
  cases hko:x.ok
  · simp only [JP,hko,go_sem]
    exact qK rfl (by rw [qVP,hko];rfl)
  · simp only [JP,hko,go_sem]
    refine qG (c495 hz hd hs) ?_
    simp only [go_sem]
    exact qK rfl (by rw [qVP,hko];rfl)
theorem wm {b:Bool}:Pure Gm 566 [.bool b] (.int .i64 (if b then 1 else 0)):=by
  refine Pure.intro [] [] g566 (by kernel_rfl) rfl (by simp [AV.trees,AV.tree,go_sem]) rfl ?_
  simp only [Xk,qL,go_sem]
  refine qD ?_ ?_<;>intro hc<;>simp only [hc,go_sem]
  · exact qK rfl rfl
  · exact qK rfl rfl
theorem ZU {x:qA} {i:Nat}:Pure Gm 1193 [x.enc,.int .i64 (i:Int)] (.int .i64 (qV x.Kind i)):=by
  refine Pure.intro [] [] qZ9 (by kernel_rfl) rfl (by simp [AV.trees,AV.tree,go_sem]) rfl ?_
  simp only [Ws,qL,go_sem]
  refine qa qA.ln ?_
  simp only [go_sem]
  repeat' (first | (first | (refine qZ ?_ ?_<;>intro hc<;>simp only [hc,go_sem]) | (refine qD ?_ ?_<;>intro hc<;>simp only [hc,go_sem])) | (refine qG wm ?_;simp only [go_sem]) | refine qK rfl ?_)
  all_goals (simp_all [qV]<;>omega)
theorem c880 (x:qA):∀(d:Int) (ho:x.ok=true) (hz:x.sz≤1048576) (hd:0≤d∧d+x.dep≤4194304),Pure Gm 880 [x.enc,.int .i64 d] (.bool (!x.above d)):=by
  induction x using qA.ind with
  | _ x ih=>
  intro d ho hz hd
  refine Pure.intro [] [] g880 (by kernel_rfl) rfl (by simp [AV.trees,AV.tree,go_sem]) rfl ?_
  simp only [YI,qL,go_sem]
  have hL:=x.len_sz
  have hae:=x.above_eq d
  refine qa qA.ln ?_
  simp only [go_sem]
  refine qZ ?_ ?_<;>intro hc<;>simp only [hc,go_sem]
  · have h1:=odT hc
    rw [if_pos h1] at hae
    refine qD ?_ ?_<;>intro hc<;>simp only [hc,go_sem]
    · exact qK rfl (by rw [hae,decide_eq_true (by have:=odT hc;omega)];rfl)
    have hg:x.above d=jH (fun i y=>y.above (d+qV x.Kind i)) x.Kids 0:=by
      rw [hae,Qw ho h1,decide_eq_false (by have:=odF hc;omega)];rfl
    refine Sem.loop (fun i:Nat=>i≤x.Kids.length∧x.above d=jH (fun i y=>y.above (d+qV x.Kind i)) (x.Kids.drop i) i) (fun i=>(⟨[(1,.int .i64 d),(17,.lst 4 (x.Kids.map qA.enc) false),(18,.int .i64 (x.Kids.length:Nat)),(19,.int .i64 (i:Nat))],[(2,x.enc)],[]⟩:VSt)) (fun i=>x.Kids.length-i) 0 (by kernel_rfl) ⟨Nat.zero_le _,by simpa using hg⟩ (Can.sub (by simp [go_sem]) (by simp [go_sem])) ?_
    rintro i ⟨hi,hI⟩
    simp only [go_sem]
    refine qD ?_ ?_<;>intro hc<;>simp only [hc,go_sem]
    · have hlt:i<x.Kids.length:=by have:=odT hc;omega
      simp only [List.getElem?_map,gEg hlt,Option.map_some,go_sem]
      refine qO (k:=4) (by rfl) (by simp [go_sem]) (qA.isAgg _) (by decide) ?_;simp only [go_sem]
      refine qG ZU ?_
      simp only [go_sem]
      have hm:=List.getElem_mem hlt
      have hk:=qA.kid_sz hm
      have hp:=qA.dep_kid hm
      have hb:=jt x.Kind i
      rw [qi (n:=d+qV x.Kind i) (by omega) (by omega)]
      refine qG (ih _ hm _ (qv ho hm) (by omega) (by omega)) ?_
      simp only [go_sem]
      rw [jk hlt,jH] at hI
      refine qD ?_ ?_<;>intro hc<;>simp only [hc,go_sem]
      · exact qK rfl (by rw [hI];simp at hc;simp [hc])
      · simp only [qe (show i<4611686018427387904 by omega)];refine qY (i+1) ⟨by omega, ?_⟩ (by omega) (Can.sub (by simp [go_sem]) (by simp [go_sem]))
        rw [hI];simp at hc;simp [hc]
    · obtain rfl:i=x.Kids.length:=by have:=odF hc;omega
      exact qK rfl (by rw [hI];simp [jH])
  · rw [if_neg (by simpa using hc)] at hae
    have hg:=hae
    refine Sem.loop (fun i:Nat=>i≤x.Kids.length∧x.above d=jH (fun i y=>y.above (d+qV x.Kind i)) (x.Kids.drop i) i) (fun i=>(⟨[(1,.int .i64 d),(17,.lst 4 (x.Kids.map qA.enc) false),(18,.int .i64 (x.Kids.length:Nat)),(19,.int .i64 (i:Nat))],[(2,x.enc)],[]⟩:VSt)) (fun i=>x.Kids.length-i) 0 (by kernel_rfl) ⟨Nat.zero_le _,by simpa using hg⟩ (Can.sub (by simp [go_sem]) (by simp [go_sem])) ?_
    rintro i ⟨hi,hI⟩
    simp only [go_sem]
    refine qD ?_ ?_<;>intro hc<;>simp only [hc,go_sem]
    · have hlt:i<x.Kids.length:=by have:=odT hc;omega
      simp only [List.getElem?_map,gEg hlt,Option.map_some,go_sem]
      refine qO (k:=4) (by rfl) (by simp [go_sem]) (qA.isAgg _) (by decide) ?_;simp only [go_sem]
      refine qG ZU ?_
      simp only [go_sem]
      have hm:=List.getElem_mem hlt
      have hk:=qA.kid_sz hm
      have hp:=qA.dep_kid hm
      have hb:=jt x.Kind i
      rw [qi (n:=d+qV x.Kind i) (by omega) (by omega)]
      refine qG (ih _ hm _ (qv ho hm) (by omega) (by omega)) ?_
      simp only [go_sem]
      rw [jk hlt,jH] at hI
      refine qD ?_ ?_<;>intro hc<;>simp only [hc,go_sem]
      · exact qK rfl (by rw [hI];simp at hc;simp [hc])
      · simp only [qe (show i<4611686018427387904 by omega)];refine qY (i+1) ⟨by omega, ?_⟩ (by omega) (Can.sub (by simp [go_sem]) (by simp [go_sem]))
        rw [hI];simp at hc;simp [hc]
    · obtain rfl:i=x.Kids.length:=by have:=odF hc;omega
      exact qK rfl (by rw [hI];simp [jH])
theorem c521 {x:qA} (hz:x.sz≤1048576) (hd:x.dep≤2097152) (hs:x.size≤2097152):Pure Gm 521 [x.enc] (.bool x.closed):=by
  refine Pure.intro [] [] g521 (by kernel_rfl) rfl (by simp [AV.trees,AV.tree,go_sem]) rfl ?_
  simp only [Xi,qL,go_sem]
  refine qa qA.ln ?_
  simp only [go_sem]
  refine qG (c391 hz hd hs) ?_
  simp only [go_sem]
  refine qZ ?_ ?_<;>intro hc<;>simp only [hc,go_sem]
  · refine qG (c880 x 0 (zG hc).1 hz (by omega)) ?_
    simp only [go_sem]
    exact qK rfl (by unfold qA.closed;rw [hc];rfl)
  · exact qK rfl (by unfold qA.closed;rw [hc];rfl)
end Go.Ab
namespace Go.Ab
open Go
set_option maxRecDepth 10000
set_option maxHeartbeats 2000000
attribute [local simp] zJ qf
def QP (p:qA→Bool):qA→Bool:=qA.fold fun x rs=>p x || rs.any id
theorem qN4 (p:qA→Bool) (x:qA):QP p x=(p x || x.Kids.any (QP p)):=by
  unfold QP;rw [qA.fold_eq];simp
@[go_sem] theorem zA5 {g:Nat} {cs:List AV}:(AV.fn g cs).part 0 none=some (.fn g cs):=nr rfl
def qVZ (g:Nat) (cs:List AV) (p:qA→Bool):Prop:=∀y:qA,y.sz≤1048576→Pure Gm g (y.enc::cs) (.bool (p y))
theorem c993 {g:Nat} {cs:List AV} {y:qA} {b:Bool} (ht:AV.trees cs=true) (h:Pure Gm 615 [y.enc,.fn g cs] (.bool b)):Pure Gm 993 [y.enc,.ept (.fn g cs) 0] (.bool b):=by
  refine Pure.intro [] [] g993 (by kernel_rfl) rfl (by simp [AV.trees,AV.tree,go_sem,ht]) rfl ?_
  simp only [YO,qL,go_sem]
  refine qa qA.ln ?_
  simp only [go_sem]
  refine qG h ?_
  simp only [go_sem]
  exact qK rfl rfl
theorem c615 (x:qA):∀(g:Nat) (cs:List AV) (p:qA→Bool) (ht:AV.trees cs=true) (hp:qVZ g cs p) (hz:x.sz≤1048576),Pure Gm 615 [x.enc,.fn g cs] (.bool (QP p x)):=by
  induction x using qA.ind with
  | _ x ih=>
  intro g cs p ht hp hz
  refine Pure.intro [3] [] g615 (by kernel_rfl) rfl (by simp [AV.trees,AV.tree,go_sem,ht]) rfl ?_
  simp only [Xn,qL,go_sem]
  have hL:=x.len_sz
  refine qa qA.ln ?_
  simp only [go_sem]
  refine jm rfl ?_
  simp only [go_sem]
  simp only [go_sem,List.nil_append,List.cons_append,List.set_cons_zero,List.set_cons_succ]
  refine qG (hp x hz) ?_
  simp only [go_sem]
  refine qZ ?_ ?_<;>intro hc<;>simp only [hc,go_sem]
  · refine qG (Yb (f:=.fn 993 [.ept (.fn g cs) 0]) (QP p) (by simp [AV.trees,AV.tree,ht]) x.Kids (fun y hy=>⟨993,_,rfl,c993 ht (ih y hy g cs p ht hp (by have:=qA.kid_sz hy;omega))⟩) (by omega)) ?_
    simp only [go_sem]
    exact qK rfl (by rw [qN4,hc];rfl)
  · exact qK rfl (by rw [qN4];simp at hc;simp [hc])
theorem qRC {n m:Int}:Pure Gm 1169 [.int .i64 n,.ept (.int .i64 m) 0] (.bool (decide (m≤n))):=by
  refine Pure.intro [] [] qZ5 (by kernel_rfl) rfl (by simp [AV.trees,AV.tree,go_sem]) rfl ?_
  simp only [Wo,qL,go_sem]
  exact qK rfl rfl
def J9 (n:Int) (x:qA):Bool:=(decide (x.Kind=11)&&decide (n≤x.Value)) || x.Data.any fun k=>decide (n≤k)
theorem qWA (n:Int) (xs:List Int):(xs.all fun k=>decide (k<n))= !(xs.any fun k=>decide (n≤k)):=by
  induction xs with
  | nil=>rfl
  | cons a xs ih=>
    simp only [List.all_cons,List.any_cons,ih,Bool.not_or]
    congr 1
    rw [Bool.eq_iff_iff];simp
theorem qQQ {α:Type} {p q:α→Bool}:∀{xs:List α},(∀x∈xs,p x= !q x)→xs.all p= !xs.any q
  |[],_=>rfl
  | x::xs,h=>by simp only [List.all_cons,List.any_cons,Bool.not_or];rw [h x (by simp),qQQ (fun y hy=>h y (by simp [hy]))]
theorem qe6 (n:Int):∀x:qA,x.refs n= !QP (J9 n) x:=qA.ind fun x ih=>by
  rw [qA.refs_eq,qN4,J9,qWA,Bool.not_or,Bool.not_or,qQQ ih]
theorem qW5 {x:qA} {m:Int} (hz:x.sz≤1048576):Pure Gm 1168 [x.enc,.ept (.int .i64 m) 0] (.bool (J9 m x)):=by
  refine Pure.intro [] [] qZ4 (by kernel_rfl) rfl (by simp [AV.trees,AV.tree,go_sem]) rfl ?_
  simp only [Wn,qL,go_sem]
  have hL:=x.len_sz
  refine qa qA.ln ?_
  simp only [go_sem]
  refine qZ ?_ ?_<;>intro hc<;>simp only [hc,go_sem]
  · have h11:=hc
    refine qZ ?_ ?_<;>intro hc<;>simp only [hc,go_sem]
    · refine qG (ZV (f:=.fn 1169 [.ept (.int .i64 m) 0]) (fun n=>decide (m≤n)) rfl x.Data (fun y _=>⟨1169,_,rfl,qRC⟩) (by omega)) ?_
      simp only [go_sem]
      exact qK rfl (by unfold J9;rw [h11,hc];rfl)
    · exact qK rfl (by unfold J9;rw [h11];simp at hc;simp [hc])
  · refine qG (ZV (f:=.fn 1169 [.ept (.int .i64 m) 0]) (fun n=>decide (m≤n)) rfl x.Data (fun y _=>⟨1169,_,rfl,qRC⟩) (by omega)) ?_
    simp only [go_sem]
    exact qK rfl (by unfold J9;simp at hc;simp [hc])
theorem c847 {x:qA} {n:Int} (hz:x.sz≤1048576):Pure Gm 847 [x.enc,.int .i64 n] (.bool (x.refs n)):=by
  refine Pure.intro [3] [] g847 (by kernel_rfl) rfl (by simp [AV.trees,AV.tree,go_sem]) rfl ?_
  simp only [YB,qL,go_sem]
  refine qa qA.ln ?_
  simp only [go_sem]
  refine jm rfl ?_
  simp only [go_sem]
  simp only [go_sem,List.nil_append,List.cons_append,List.set_cons_zero,List.set_cons_succ]
  refine qG (c615 x 1168 [.ept (.int .i64 n) 0] (J9 n) rfl (fun y hy=>qW5 hy) hz) ?_
  simp only [go_sem]
  exact qK rfl (by rw [qe6])
theorem c851 {x:qA} {b:qI} (hz:x.sz≤1048576) (hd:x.dep≤2097152) (hs:x.size≤2097152):Pure Gm 851 [x.enc,.ept b.enc 0] (.bool (!(x.closed&&x.refs b.Defs.length))):=by
  refine Pure.intro [] [] g851 (by kernel_rfl) rfl (by simp [AV.trees,AV.tree,go_sem]) rfl ?_
  simp only [YF,qL,go_sem]
  refine qa qA.ln ?_
  simp only [go_sem]
  refine qG (c521 hz hd hs) ?_
  simp only [go_sem]
  refine qZ ?_ ?_<;>intro hc<;>simp only [hc,go_sem]
  · refine qG (c847 hz) ?_
    simp only [go_sem]
    exact qK rfl (by simp at hc;simp [hc])
  · exact qK rfl (by simp at hc;simp [hc])
theorem c498 {b:qI} (hz:b.sz≤1048576):Pure Gm 498 [b.enc] (.bool b.ok):=by
  refine Pure.intro [1] [] g498 (by kernel_rfl) rfl (by simp [AV.trees,AV.tree,go_sem]) rfl ?_
  simp only [Xg,qL,go_sem]
  have hz':b.Defs.length+qF qA.sz b.Defs≤1048576:=hz
  refine jm rfl ?_
  simp only [go_sem]
  simp only [go_sem,List.nil_append,List.cons_append,List.set_cons_zero,List.set_cons_succ]
  refine qZ ?_ ?_<;>intro hc<;>simp only [hc,go_sem]
  · have h1:=odF hc
    refine qD ?_ ?_<;>intro hc<;>simp only [hc,go_sem]
    · exact qK rfl (by have:=odT hc;unfold qI.ok inI;rw [decide_eq_false (p:=(b.Defs.length:Int)≤24) (by omega)];simp)
    have h2:=odF hc
    refine qG (Yb (f:=.fn 851 [.ept b.enc 0]) (fun x=> !(x.closed&&x.refs b.Defs.length)) (by simp [AV.trees,AV.tree,go_sem]) b.Defs (fun y hy=>⟨851,_,rfl,c851 (by have:=zV (f:=qA.sz) hy;omega) (by have:=zV (f:=qA.sz) hy;have:=y.dep_size;have:=y.size_sz;omega) (by have:=zV (f:=qA.sz) hy;have:=y.size_sz;omega)⟩) (by omega)) ?_
    simp only [go_sem]
    exact qK rfl (by unfold qI.ok inI;rw [ZN,decide_eq_true (p:=(1:Int)≤b.Defs.length) (by omega),decide_eq_true (p:=(b.Defs.length:Int)≤24) (by omega)];rfl)
  · exact qK rfl (by simp at hc;unfold qI.ok inI;rw [decide_eq_false (p:=(1:Int)≤b.Defs.length) (by omega)];simp)
end Go.Ab
namespace Go.Ab
open Go
set_option maxRecDepth 10000
set_option maxHeartbeats 2000000
attribute [local simp] zJ qf
theorem ZR (k:Int):(if decide (k=6)=true then (1:Int) else 0)=qd k:=by unfold qd;simp
theorem ZS (k:Int):0≤qd k∧qd k≤1:=by unfold qd;split<;>omega
theorem qN2 (x:qA):∀(v l:Int) (xs:List Int) (_:x.ok=true) (_:x.sz≤1048576) (_:0≤v∧v+x.dep≤4194304) (_:0≤l∧l+x.dep≤4194304) (_:xs.length+x.size≤4194304),
    Acc Gm 1194 [x.enc,.int .i64 v,.int .i64 l] 1 (xs.map qE) ((xs++x.levels v l).map qE):=by
  induction x using qA.ind with
  | _ x ih=>
  intro v l xs hok hz hv hl hx h id K ho hK
  have hL:=x.len_sz
  have hid:id<h.length:=(List.getElem?_eq_some_iff.1 ho).1
  refine SCall.run [] [] qaA (by kernel_rfl) rfl ?_
  simp only [List.cons_append,List.nil_append,Wu,qL,go_sem]
  refine qa qA.ln ?_
  simp only [go_sem]
  have fin:x.levels v l=zM (fun i y=>qA.levels y (v+qV x.Kind i) (l+qd x.Kind)) x.Kids 0→True:=fun _=>trivial
  have hb0:=ZS x.Kind
  refine qZ ?_ ?_<;>intro hc<;>simp only [hc,go_sem]
  · have hk:=odT hc
    refine qD ?_ ?_<;>intro hc<;>simp only [hc,go_sem]
    · refine jO (el:=xs.map qE) Je (by rw [List.getElem?_append_left hid];exact ho) (by simp) (by omega) ?_
      simp only [go_sem]
      have e:x.levels v l=[l]:=by rw [x.levels_eq];simp_all
      rw [e] at hK
      have:=hK _ _ (zE.ofApp (X:=[.row 1 [.int .i64 l] true]) (zE.app (by rw [List.getElem?_append_left hid];exact ho)) hid)
      simpa [qE] using this
    have hk1:x.levels v l=zM (fun i y=>qA.levels y (v+qV x.Kind i) (l+qd x.Kind)) x.Kids 0:=by
      rw [x.levels_eq,if_pos hk,if_neg (odF hc),Qw hok hk];rfl
    refine Sem.loop (fun a:Nat×List qC×Nat=>a.1≤x.Kids.length∧zE h id 1 ((xs++zM (fun i y=>qA.levels y (v+qV x.Kind i) (l+qd x.Kind)) (x.Kids.take a.1) 0).map qE) a.2.1 a.2.2)
      (fun a=>(⟨[(1,.int .i64 v),(2,.int .i64 l),(3,.slice 1 a.2.2 0 (xs.length+(zM (fun i y=>qA.levels y (v+qV x.Kind i) (l+qd x.Kind)) (x.Kids.take a.1) 0).length) false),(25,.lst 4 (x.Kids.map qA.enc) false),(26,.int .i64 (x.Kids.length:Nat)),(27,.int .i64 (a.1:Nat))],[(4,x.enc)],a.2.1⟩:VSt)) (fun a=>x.Kids.length-a.1) (0,h,id) (by kernel_rfl) ⟨Nat.zero_le _,by simpa [zM] using zE.refl ho⟩
      (Can.sub (by simp [go_sem,zM]) (by simp [go_sem])) ?_
    rintro ⟨i,h',id'⟩ ⟨hi,hG⟩
    simp only at hi hG
    simp only [go_sem]
    have hfl:=Qg x v l i
    refine qD ?_ ?_<;>intro hc<;>simp only [hc,go_sem]
    · have hlt:i<x.Kids.length:=by have:=odT hc;omega
      simp only [List.getElem?_map,gEg hlt,Option.map_some,go_sem]
      have hm:=List.getElem_mem hlt
      have hk:=qA.kid_sz hm
      have hp:=qA.dep_kid hm
      have hb:=jt x.Kind i
      have hft:=Yw (f:=fun i y=>qA.levels y (v+qV x.Kind i) (l+qd x.Kind)) (k:=0) hlt
      have hfl2:=Qg x v l (i+1)
      rw [hft,Nat.zero_add,List.length_append] at hfl2
      refine qO (k:=4) (by rfl) (by simp [go_sem]) (qA.isAgg _) (by decide) ?_;simp only [go_sem]
      refine qG ZU ?_
      simp only [go_sem]
      refine qG wm ?_
      simp only [go_sem]
      rw [ZR,qi (n:=v+qV x.Kind i) (by omega) (by omega),qi (n:=l+qd x.Kind) (by omega) (by omega)]
      have hsz:=qA.size_kid hlt v l
      refine ZW (ih _ hm (v+qV x.Kind i) (l+qd x.Kind) (xs++zM (fun i y=>qA.levels y (v+qV x.Kind i) (l+qd x.Kind)) (x.Kids.take i) 0) (qv hok hm) (by omega) (by omega) (by omega) (by rw [List.length_append];omega)) hG.at' (by simp) rfl ?_
      intro h2 id2 hG2
      simp only [go_sem]
      simp only [qe (show i<4611686018427387904 by omega)]
      refine qY (i+1,h2,id2) ⟨by omega, ?_⟩ (by simp only;omega) (Can.sub ?_ (by simp [go_sem]))
      · rw [hft,Nat.zero_add,←List.append_assoc]
        exact hG.trans hG2
      · simp only [hft,Nat.zero_add]
        simp [go_sem,Nat.add_assoc]
    · have e:i=x.Kids.length:=by have:=odF hc;omega
      subst e
      rw [List.take_length] at hG⊢
      rw [hk1] at hK
      have:=hK _ _ hG
      simpa using this
  · have hk1:x.levels v l=zM (fun i y=>qA.levels y (v+qV x.Kind i) (l+qd x.Kind)) x.Kids 0:=by rw [x.levels_eq,if_neg (by simpa using hc)]
    refine Sem.loop (fun a:Nat×List qC×Nat=>a.1≤x.Kids.length∧zE h id 1 ((xs++zM (fun i y=>qA.levels y (v+qV x.Kind i) (l+qd x.Kind)) (x.Kids.take a.1) 0).map qE) a.2.1 a.2.2)
      (fun a=>(⟨[(1,.int .i64 v),(2,.int .i64 l),(3,.slice 1 a.2.2 0 (xs.length+(zM (fun i y=>qA.levels y (v+qV x.Kind i) (l+qd x.Kind)) (x.Kids.take a.1) 0).length) false),(25,.lst 4 (x.Kids.map qA.enc) false),(26,.int .i64 (x.Kids.length:Nat)),(27,.int .i64 (a.1:Nat))],[(4,x.enc)],a.2.1⟩:VSt)) (fun a=>x.Kids.length-a.1) (0,h,id) (by kernel_rfl) ⟨Nat.zero_le _,by simpa [zM] using zE.refl ho⟩
      (Can.sub (by simp [go_sem,zM]) (by simp [go_sem])) ?_
    rintro ⟨i,h',id'⟩ ⟨hi,hG⟩
    simp only at hi hG
    simp only [go_sem]
    have hfl:=Qg x v l i
    refine qD ?_ ?_<;>intro hc<;>simp only [hc,go_sem]
    · have hlt:i<x.Kids.length:=by have:=odT hc;omega
      simp only [List.getElem?_map,gEg hlt,Option.map_some,go_sem]
      have hm:=List.getElem_mem hlt
      have hk:=qA.kid_sz hm
      have hp:=qA.dep_kid hm
      have hb:=jt x.Kind i
      have hft:=Yw (f:=fun i y=>qA.levels y (v+qV x.Kind i) (l+qd x.Kind)) (k:=0) hlt
      have hfl2:=Qg x v l (i+1)
      rw [hft,Nat.zero_add,List.length_append] at hfl2
      refine qO (k:=4) (by rfl) (by simp [go_sem]) (qA.isAgg _) (by decide) ?_;simp only [go_sem]
      refine qG ZU ?_
      simp only [go_sem]
      refine qG wm ?_
      simp only [go_sem]
      rw [ZR,qi (n:=v+qV x.Kind i) (by omega) (by omega),qi (n:=l+qd x.Kind) (by omega) (by omega)]
      have hsz:=qA.size_kid hlt v l
      refine ZW (ih _ hm (v+qV x.Kind i) (l+qd x.Kind) (xs++zM (fun i y=>qA.levels y (v+qV x.Kind i) (l+qd x.Kind)) (x.Kids.take i) 0) (qv hok hm) (by omega) (by omega) (by omega) (by rw [List.length_append];omega)) hG.at' (by simp) rfl ?_
      intro h2 id2 hG2
      simp only [go_sem]
      simp only [qe (show i<4611686018427387904 by omega)]
      refine qY (i+1,h2,id2) ⟨by omega, ?_⟩ (by simp only;omega) (Can.sub ?_ (by simp [go_sem]))
      · rw [hft,Nat.zero_add,←List.append_assoc]
        exact hG.trans hG2
      · simp only [hft,Nat.zero_add]
        simp [go_sem,Nat.add_assoc]
    · have e:i=x.Kids.length:=by have:=odF hc;omega
      subst e
      rw [List.take_length] at hG⊢
      rw [hk1] at hK
      have:=hK _ _ hG
      simpa using this
end Go.Ab
namespace Go.Ab
open Go
set_option maxRecDepth 10000
set_option maxHeartbeats 2000000
def zX (s:List Int×Option Int) (x:Int):List Int×Option Int:=(if s.2=some x then s.1 else s.1++[x],some x)
def zU (xs:List Int):List Int:=(xs.foldl zX ([],none)).1
theorem qRN:∀(xs:List Int) (s:List Int×Option Int),(xs.foldl zX s).2=match xs.getLast? with | some y=>some y | none=>s.2
  |[],_=>rfl
  | x::xs,s=>by
    rw [List.foldl_cons,qRN xs (zX s x)]
    rw [List.getLast?_cons]
    cases xs.getLast?<;>rfl
theorem qON {xs:List Int} {i:Nat} (h:i+1<xs.length):zU (xs.take (i+2))=if xs[i]'(by omega)=xs[i+1] then zU (xs.take (i+1)) else zU (xs.take (i+1))++[xs[i+1]]:=by
  unfold zU
  rw [List.take_succ_eq_append_getElem h,List.foldl_append]
  simp only [List.foldl_cons,List.foldl_nil]
  have e:(List.foldl zX ([],none) (xs.take (i+1))).2=some (xs[i]'(by omega)):=by
    rw [qRN,List.getLast?_eq_getElem?]
    simp only [List.length_take]
    rw [List.getElem?_take]
    simp [show min (i+1) xs.length-1=i by omega,show i<xs.length by omega]
  generalize List.foldl zX ([],none) (xs.take (i+1))=s at e⊢
  simp only [zX,e,Option.some.injEq]
theorem qX5 {xs:List Int} (h:1≤xs.length):zU (xs.take 1)=xs.take 1:=by
  match xs,h with
  | x::xs,_=>rfl
theorem qX6 {xs:List Int} (h:xs.length<2):zU xs=xs:=by
  match xs,h with
  |[],_=>rfl
  |[x],_=>rfl
theorem qUU {h:List qC} {id:Nat} {o:qC} (ho:h[id]?=some o):h.set id o=h:=List.ext_getElem? fun i=>by
  rw [List.getElem?_set]
  split
  · rename_i e;subst e
    split
    · rw [ho]
    · rename_i hn;rw [List.getElem?_eq_none (by omega)]
  · rfl
theorem qPU {h:List qC} {id p:Nat} {xs:List Int} (ho:h[id]?=some (.row 1 (xs.map qE) true)) (hp:p<xs.length):jr none 0 p h[id]?=some (.int .i64 xs[p]):=by
  rw [ho]
  simp only [jr,List.getElem?_map,gEg hp,Option.map_some,qE]
  rfl
theorem Vc {h:List qC} {id p:Nat} {xs:List Int} {v:Int} (ho:h[id]?=some (.row 1 (xs.map qE) true)) (hp:xs[p]?=some v):jr none 0 p h[id]?=some (.int .i64 v):=by
  rw [ho]
  simp only [jr,List.getElem?_map,hp,Option.map_some,qE]
  rfl
theorem qOT {α:Type} {zs xs:List α} {m:Nat} (h:zs.drop m=xs.drop m) {i:Nat} (hi:m≤i):zs[i]?=xs[i]?:=by
  have:=congrArg (fun l:List α=>l[i-m]?) h
  simp only [List.getElem?_drop] at this
  rwa [show m+(i-m)=i by omega] at this
theorem qP6 {h:List qC} {id:Nat} {xs:List Int} {K:AV→List qC→Prop} (ho:h[id]?=some (.row 1 (xs.map qE) true)) (hl:xs.length≤4194304)
    (hK:K (.slice 1 id 0 (zU xs).length false) (h.set id (.row 1 ((zU xs).map qE) true))):SCall Gm 1042 [.slice 1 id 0 xs.length false] h K:=by
  refine SCall.cut id (zU xs).length 1 ?_
  refine SCall.run [] [] qZI (by kernel_rfl) rfl ?_
  simp only [WQ,qL,go_sem]
  have hid:id<h.length:=(List.getElem?_eq_some_iff.1 ho).1
  have same:zU xs=xs→∃el,h[id]?=some (qC.row 1 el true)∧K (.slice 1 id 0 xs.length false) (h.set id (qC.row 1 (el.take (zU xs).length) true)):=by
    intro e
    refine ⟨_,ho, ?_⟩
    rw [e] at hK⊢
    rwa [List.take_of_length_le (by simp)]
  refine qD ?_ ?_<;>intro hc<;>simp only [hc,go_sem]
  · exact same (qX6 (by have:=odT hc;omega))
  have hn:=odF hc
  refine Sem.loop (fun j:Nat=>j+1≤xs.length∧zU (xs.take (j+1))=xs.take (j+1)) (fun j=>(⟨[(0,.slice 1 id 0 xs.length false),(3,.int .i64 ((j+1:Nat):Int))],[],h⟩:VSt)) (fun j=>xs.length-j) 0 (by kernel_rfl) ⟨by omega,qX5 (by omega)⟩ (Can.sub (by simp [go_sem]) (by simp [go_sem])) ?_
  rintro j ⟨hj,hI⟩
  simp only [go_sem]
  refine qD ?_ ?_<;>intro hc<;>simp only [hc,go_sem]
  · have hlt:j+1<xs.length:=by have:=odT hc;omega
    have hj0:j<xs.length:=by omega
    rw [z0 hlt]
    simp only [Nat.zero_add,go_sem]
    rw [qPU ho hlt]
    simp only [go_sem]
    rw [show ((j+1:Nat):Int)-1=(j:Int) by omega,qi (n:=(j:Int)) (by omega) (by omega),z0 hj0]
    simp only [Nat.zero_add,go_sem]
    rw [qPU ho hj0]
    simp only [go_sem]
    refine qD ?_ ?_<;>intro hc<;>simp only [hc,go_sem]
    · have hd:=odT hc
      refine QD (v:=.slice 1 id (j+1) (xs.length-(j+1)) false) (by simp [val,bnd,go_sem,show (0:Int)≤(j:Int)+1∧(j:Int)+1≤(xs.length:Int) by omega]) ?_
      simp only [go_sem]
      have hcp:zU (xs.take (j+2))=xs.take (j+1):=by rw [qON hlt,if_pos hd.symm,hI]
      refine Sem.loop (fun a:Nat×List Int×Nat×List qC=>j+1+a.1+1≤xs.length∧a.2.1.length=xs.length∧a.2.1.drop (j+1+a.1)=xs.drop (j+1+a.1)∧a.2.1.take a.2.2.1=zU (xs.take (j+1+a.1+1))∧a.2.2.1≤j+1+a.1∧a.2.2.2=h.set id (.row 1 (a.2.1.map qE) true))
        (fun a=>(⟨[(0,.slice 1 id 0 xs.length false),(3,.int .i64 (a.2.2.1:Nat)),(4,.slice 1 id (j+1) (xs.length-(j+1)) false),(5,.int .i64 ((a.1+1:Nat):Int))],[],a.2.2.2⟩:VSt)) (fun a=>xs.length-a.1) (0,xs,j+1,h) (by kernel_rfl) ⟨by first | omega | (simp only;omega),rfl,rfl,hcp.symm,Nat.le_refl _,(qUU ho).symm⟩ (Can.sub (by simp [go_sem]) (by simp [go_sem])) ?_
      rintro ⟨q,zs,k,h'⟩ ⟨hq,hzl,hzd,hzt,hkq,hh⟩
      simp only at hq hzl hzd hzt hkq hh⊢
      subst hh
      have ho':(h.set id (qC.row 1 (zs.map qE) true))[id]?=some (.row 1 (zs.map qE) true):=by simp [hid]
      simp only [go_sem]
      refine qD ?_ ?_<;>intro hc<;>simp only [hc,go_sem]
      · have hq2:q+1<xs.length-(j+1):=by have:=odT hc;omega
        have hx1:j+1+q+1<xs.length:=by omega
        have hx0:j+1+q<xs.length:=by omega
        rw [z0 hq2]
        simp only [go_sem]
        rw [Vc (v:=xs[j+1+q+1]) ho' (by rw [show j+1+(q+1)=j+1+q+1 by omega,qOT hzd (by omega),gEg hx1])]
        simp only [go_sem]
        rw [show ((q+1:Nat):Int)-1=(q:Int) by omega,qi (n:=(q:Int)) (by omega) (by omega),z0 (n:=q) (by omega)]
        simp only [go_sem]
        rw [Vc (v:=xs[j+1+q]) ho' (by rw [qOT hzd (by omega),gEg hx0])]
        simp only [go_sem]
        have hcs:=qON (xs:=xs) (i:=j+1+q) hx1
        refine qD ?_ ?_<;>intro hc<;>simp only [hc,go_sem]
        · have hne:¬xs[j+1+q]=xs[j+1+q+1]:=by simp at hc;exact fun e=>hc e.symm
          rw [if_neg hne] at hcs
          have hk:k<zs.length:=by omega
          rw [z0 hq2]
          simp only [go_sem]
          rw [Vc (v:=xs[j+1+q+1]) ho' (by rw [show j+1+(q+1)=j+1+q+1 by omega,qOT hzd (by omega),gEg hx1])]
          simp only [go_sem]
          rw [z0 (n:=k) (by omega)]
          simp only [Nat.zero_add,go_sem]
          refine jM (by rfl) ho' (by rw [List.getElem?_map,gEg hk];rfl) (by rfl) ?_
          simp only [go_sem]
          have hm:(zs.map qE).set k (.int .i64 xs[j+1+q+1])=(zs.set k xs[j+1+q+1]).map qE:=by simp [List.map_set,qE]
          rw [List.set_set,hm,qi (n:=((q+1:Nat):Int)+1) (by omega) (by omega),qi (n:=(k:Int)+1) (by omega) (by omega)]
          refine qY (q+1,zs.set k xs[j+1+q+1],k+1,h.set id (.row 1 ((zs.set k xs[j+1+q+1]).map qE) true)) ⟨by first | omega | (simp only;omega),by simpa using hzl, ?_, ?_,by first | omega | (simp only;omega),rfl⟩ (by first | omega | (simp only;omega)) (Can.sub (by simp [go_sem]) (by simp [go_sem]))
          · simp only
            rw [List.drop_set_of_lt (by omega)]
            have:=congrArg (List.drop 1) hzd
            simpa [List.drop_drop,Nat.add_assoc] using this
          · simp only
            rw [show j+1+(q+1)+1=j+1+q+2 by omega,hcs,←hzt,List.take_succ_eq_append_getElem (by simpa using hk),List.take_set_of_le (Nat.le_refl _)]
            simp
        · have heq:xs[j+1+q]=xs[j+1+q+1]:=by simp at hc;exact hc.symm
          rw [if_pos heq] at hcs
          rw [qi (n:=((q+1:Nat):Int)+1) (by omega) (by omega)]
          refine qY (q+1,zs,k,h.set id (.row 1 (zs.map qE) true)) ⟨by first | omega | (simp only;omega),hzl, ?_, ?_,by first | omega | (simp only;omega),rfl⟩ (by first | omega | (simp only;omega)) (Can.sub (by simp [go_sem]) (by simp [go_sem]))
          · simp only
            have:=congrArg (List.drop 1) hzd
            simpa [List.drop_drop,Nat.add_assoc] using this
          · simp only
            rw [show j+1+(q+1)+1=j+1+q+2 by omega,hcs,←hzt]
      · have hqe:j+1+q+1=xs.length:=by have:=odF hc;omega
        rw [hqe,List.take_length] at hzt
        have hkl:(zU xs).length=k:=by rw [←hzt];simp;omega
        refine QD (v:=.slice 1 id k (xs.length-k) false) (by simp [val,bnd,go_sem,show k≤xs.length by omega]) ?_
        simp only [go_sem]
        refine qX2 ho' (by simp;omega) (by simp;omega) ?_
        simp only [go_sem]
        refine QD (v:=.slice 1 id 0 k false) (by simp [val,bnd,go_sem,show k≤xs.length by omega]) ?_
        simp only [go_sem]
        have hlen:(List.take k (List.map qE zs)).length=k:=by simp;omega
        refine ⟨_,by rw [List.set_set,List.getElem?_set_self hid], ?_⟩
        rw [List.set_set,List.set_set,hkl,List.take_append_of_le_length (by omega),List.take_of_length_le (by omega),←List.map_take,hzt]
        rw [hkl] at hK
        exact hK
    · rw [qi (n:=((j+1:Nat):Int)+1) (by omega) (by omega)]
      have hd:=odF hc
      refine qY (j+1) ⟨by omega, ?_⟩ (by omega) (Can.sub (by simp [go_sem]) (by simp [go_sem]))
      rw [show j+1+1=j+2 from rfl,qON hlt,if_neg (fun e=>hd e.symm),hI,←List.take_succ_eq_append_getElem hlt]
  · have e:j+1=xs.length:=by have:=odF hc;omega
    rw [e,List.take_length] at hI
    exact same hI
end Go.Ab
namespace Go.Ab
open Go
set_option maxRecDepth 10000
set_option maxHeartbeats 2000000
attribute [local simp] zJ qf
theorem qW9 {x y:qA} {l:Int} {b:Bool} (hl:0≤l∧l≤100) (h:Pure Gm 881 [y.enc,.int .i64 (l+qd x.Kind)] (.bool b)):Pure Gm 1195 [y.enc,.ept (.int .i64 l) 0,.ept x.enc 0] (.bool (!b)):=by
  refine Pure.intro [] [] qaB (by kernel_rfl) rfl (by simp [AV.trees,AV.tree,go_sem]) rfl ?_
  simp only [Wv,qL,go_sem]
  refine qa qA.ln ?_
  simp only [go_sem]
  have hb:=ZS x.Kind
  refine qG wm ?_
  simp only [go_sem]
  rw [ZR,qi (by omega) (by omega)]
  refine qG h ?_
  simp only [go_sem]
  exact qK rfl rfl
theorem qX4:∀(xs:List Int),decide ((zU xs).length≤1)=xs.all fun k=>decide (some k=xs.head?):=by
  have key:∀(xs acc:List Int) (o:Option Int),acc.length≤(xs.foldl zX (acc,o)).1.length:=by
    intro xs
    induction xs with
    | nil=>intro acc o;exact Nat.le_refl _
    | cons x xs ih=>
      intro acc o
      rw [List.foldl_cons]
      unfold zX
      split
      · exact ih _ _
      · refine Nat.le_trans ?_ (ih _ _)
        simp
  have k2:∀(xs:List Int) (n:Int),decide ((xs.foldl zX ([n],some n)).1.length≤1)=xs.all fun k=>decide (k=n):=by
    intro xs n
    induction xs with
    | nil=>rfl
    | cons x xs ih=>
      rw [List.foldl_cons,List.all_cons]
      by_cases e:x=n
      · subst e
        rw [show zX ([x],some x) x=([x],some x) by simp [zX],ih];simp
      · rw [show zX ([n],some n) x=([n,x],some x) by simp [zX,Ne.symm e]]
        have:=key xs [n,x] (some x)
        rw [decide_eq_false (by simp at this;omega),decide_eq_false e];rfl
  intro xs
  cases xs with
  | nil=>rfl
  | cons x xs=>
    unfold zU
    rw [List.foldl_cons,show zX ([],none) x=([x],some x) by simp [zX],k2]
    simp
theorem qX3 (n:Int) (L:List Int):∃r,zU (n::L)=n::r:=by
  have key:∀(xs acc:List Int) (o:Option Int),∃r,(xs.foldl zX (acc,o)).1=acc++r:=by
    intro xs
    induction xs with
    | nil=>intro acc o;exact ⟨[],by simp⟩
    | cons x xs ih=>
      intro acc o
      rw [List.foldl_cons]
      unfold zX
      split
      · exact ih _ _
      · obtain ⟨r,hr⟩:=ih (acc++[x]) (some x)
        refine ⟨x::r, ?_⟩
        show (List.foldl zX (acc++[x],some x) xs).1=_
        rw [hr];simp
  obtain ⟨r,hr⟩:=key L [n] (some n)
  refine ⟨r, ?_⟩
  unfold zU
  rw [List.foldl_cons,show zX ([],none) n=([n],some n) by simp [zX],hr];rfl
theorem lv7 {L:List Int} {l:Int}:(L.all (fun n=>decide (n=l)) || L.all (fun n=>decide (n=l+1)))=(decide ((zU L).length≤1)&&(match L with |[]=>true | n::_=>decide (n=l) || decide (n=l+1))):=by
  rw [qX4]
  cases L with
  | nil=>rfl
  | cons n L=>
    simp only [List.all_cons,List.head?_cons,Option.some.injEq,decide_true,Bool.true_and]
    by_cases e:n=l
    · subst e
      simp
      intro h;omega
    · by_cases e2:n=l+1
      · subst e2;simp [e]
      · simp [e,e2]
theorem J4 {h:List qC} {id:Nat} {n:Int} {L:List Int} (ho:h[id]?=some (.row 1 ((n::L).map qE) true)):jr none 0 0 h[id]?=some (.int .i64 n):=Vc ho rfl
theorem c881 (x:qA):∀(l:Int) (ho:x.ok=true) (hz:x.sz≤1048576) (hl:0≤l∧l≤9) (hd:x.dep≤1000) (hq:x.size≤2097152),Pure Gm 881 [x.enc,.int .i64 l] (.bool (x.strat l)):=by
  induction x using qA.ind with
  | _ x ih=>
  intro l ho hz hl hd hq
  refine Pure.intro [2,3] [] g881 (by kernel_rfl) rfl (by simp [AV.trees,AV.tree,go_sem]) rfl ?_
  simp only [YJ,qL,go_sem]
  have hL:=x.len_sz
  have h01:∀{y:qA},y∈x.Kids→y.sz≤1048576∧y.dep≤1000∧y.size≤2097152:=fun hy=>by
    have:=qA.kid_sz hy;have:=qA.dep_kid hy;have:=zV (f:=qA.size) hy;have:=x.size_eq;omega
  have hb:=ZS x.Kind
  have bad:∀{h:List qC},x.strat l=false→Fin (some [.bool false]) h (.bool (x.strat l)):=fun h=>qK rfl (by rw [h])
  refine jm qA.ln ?_
  simp only [go_sem]
  refine jm rfl ?_
  simp only [go_sem]
  simp only [go_sem,List.nil_append,List.cons_append,List.set_cons_zero,List.set_cons_succ]
  refine qD ?_ ?_<;>intro hc<;>simp only [hc,go_sem]
  · exact bad (by rw [x.strat_eq,decide_eq_false (by have:=odT hc;omega)];rfl)
  have h8:decide (l≤8)=true:=decide_eq_true (by have:=odF hc;omega)
  have hl8:=odT h8
  have lvb:∀{h:List qC},z4 x l=false→Fin (some [.bool false]) h (.bool (x.strat l)):=fun h=>bad (by rw [x.strat_eq,h];simp)
  have hP:=Yb (f:=.fn 1195 [.ept (.int .i64 l) 0,.ept x.enc 0]) (fun y=> !(y.strat (l+qd x.Kind))) (by simp [AV.trees,AV.tree,go_sem]) x.Kids (fun y hy=>⟨1195,_,rfl,qW9 (by omega) (ih y hy (l+qd x.Kind) (qv ho hy) (h01 hy).1 (by omega) (h01 hy).2.1 (h01 hy).2.2)⟩) (by omega)
  have good:∀{h:List qC},z4 x l=true→Fin (some [.bool (!(x.Kids.any fun y=> !(y.strat (l+qd x.Kind))))]) h (.bool (x.strat l)):=fun h=>qK rfl (by rw [ZN,x.strat_eq,h8,h];rfl)
  refine qD ?_ ?_<;>intro hc<;>simp only [hc,go_sem]
  · have hk4:=odT hc
    obtain ⟨a,hK⟩:=z7 ((qx ho).2 (.inl hk4))
    have ham:a∈x.Kids:=by rw [hK];simp
    have hlv:z4 x l=(decide ((a.levels 0 l).length≤1)&&(a.levels 0 l).all (fun n=>decide (n=l))):=by unfold z4;rw [if_pos hk4,hK];rfl
    simp only [hK,List.map_cons,List.map_nil,Option.map_some,go_sem]
    have hacc:=qN2 a 0 l [] (qv ho ham) (h01 ham).1 (by have:=(h01 ham).2.1;omega) (by have:=(h01 ham).2.1;omega) (by simp;have:=(h01 ham).2.2;omega)
    have hll:=qA.levels_len a 0 l
    have hqa:=(h01 ham).2.2
    rw [List.nil_append] at hacc
    generalize a.levels 0 l=L at hlv hacc hll
    refine JW hacc rfl ?_
    intro h' id' hG
    simp only [go_sem]
    refine qZ ?_ ?_<;>intro hc<;>simp only [hc,go_sem]
    · have h1:=odF hc
      refine qZ ?_ ?_<;>intro hc<;>simp only [hc,go_sem]
      · obtain ⟨n,rfl⟩:=z7 (xs:=L) (by have:=odT hc;omega)
        simp only [go_sem]
        rw [J4 hG.at']
        simp only [go_sem]
        refine qD ?_ ?_<;>intro hc<;>simp only [hc,go_sem]
        · exact lvb (by rw [hlv];simp at hc;simp [hc])
        · refine qG hP ?_
          simp only [go_sem]
          exact good (by rw [hlv];simp at hc;simp [hc])
      · have h2:L=[]:=List.length_eq_zero_iff.1 (by simp at hc;omega)
        subst h2
        refine qG hP ?_
        simp only [go_sem]
        exact good (by rw [hlv];rfl)
    · exact lvb (by rw [hlv,decide_eq_false (by simp at hc;omega)];rfl)
  refine qD ?_ ?_<;>intro hc<;>simp only [hc,go_sem]
  · have hk7:=odT hc
    obtain ⟨a,c,hK⟩:=zu ((qx ho).1 (by omega))
    have hcm:c∈x.Kids:=by rw [hK];simp
    have hlv:z4 x l=(decide ((zU (c.levels 0 l)).length≤1)&&(match c.levels 0 l with |[]=>true | n::_=>decide (n=l) || decide (n=l+1))):=by
      rw [←lv7];unfold z4;rw [if_neg (by omega),if_pos hk7,hK];rfl
    simp only [hK,List.map_cons,List.map_nil,Option.map_some,go_sem]
    have hacc:=qN2 c 0 l [] (qv ho hcm) (h01 hcm).1 (by have:=(h01 hcm).2.1;omega) (by have:=(h01 hcm).2.1;omega) (by simp;have:=(h01 hcm).2.2;omega)
    have hll:=qA.levels_len c 0 l
    have hqa:=(h01 hcm).2.2
    rw [List.nil_append] at hacc
    generalize c.levels 0 l=L at hlv hacc hll
    refine JW hacc rfl ?_
    intro h' id' hG
    simp only [go_sem]
    refine zO (qP6 hG.at' (by omega) ?_)
    simp only [go_sem]
    refine qZ ?_ ?_<;>intro hc<;>simp only [hc,go_sem]
    rotate_left
    · exact lvb (by rw [hlv,decide_eq_false (by simp at hc;omega)];rfl)
    have h1:decide ((zU L).length≤1)=true:=decide_eq_true (by have:=odF hc;omega)
    rw [h1,Bool.true_and] at hlv
    refine qZ ?_ ?_<;>intro hc<;>simp only [hc,go_sem]
    rotate_left
    · have h2:L=[]:=List.length_eq_zero_iff.1 (by simp at hc;rw [hc];rfl)
      refine qG hP ?_
      simp only [go_sem]
      exact good (by rw [hlv,h2])
    obtain ⟨n,L',hLn⟩:∃n L',L=n::L':=by
      cases L with
      | nil=>exact absurd hc (by simp)
      | cons n L=>exact ⟨n,L,rfl⟩
    obtain ⟨r,hr⟩:=qX3 n L'
    have ho2:(h'.set id' (qC.row 1 ((zU L).map qE) true))[id']?=some (.row 1 ((n::r).map qE) true):=by rw [List.getElem?_set_self hG.lt,hLn,hr]
    have hp0:=odT hc
    rw [Zj (by omega) (by omega)]
    simp only [go_sem]
    rw [show (0+(0:Int).toNat)=0 from rfl,J4 ho2]
    simp only [go_sem]
    refine qZ ?_ ?_<;>intro hc<;>simp only [hc,go_sem]
    · rw [Zj (by omega) (by omega)]
      simp only [go_sem]
      rw [show (0+(0:Int).toNat)=0 from rfl,J4 ho2]
      simp only [go_sem]
      rw [qi (by omega) (by omega)]
      refine qD ?_ ?_<;>intro hc<;>simp only [hc,go_sem]
      · exact lvb (by rw [hlv,hLn];simp at hc;rename_i h;simp at h;simp [hc,h])
      · refine qG hP ?_
        simp only [go_sem]
        exact good (by rw [hlv,hLn];simp at hc;simp [hc])
    · refine qG hP ?_
      simp only [go_sem]
      exact good (by rw [hlv,hLn];simp at hc;simp [hc])
  · refine qG hP ?_
    simp only [go_sem]
    exact good (by unfold z4;rename_i h4;rw [if_neg (odF h4),if_neg (odF hc)])
theorem c522 {x:qA} (hz:x.sz≤1048576) (hs:x.size≤2097152):Pure Gm 522 [x.enc] (.bool (x.closed&&x.strat 0)):=by
  refine Pure.intro [] [] g522 (by kernel_rfl) rfl (by simp [AV.trees,AV.tree,go_sem]) rfl ?_
  simp only [Xj,qL,go_sem]
  have hds:=x.dep_size
  have hss:=x.size_sz
  refine qa qA.ln ?_
  simp only [go_sem]
  refine qG (c521 hz (by omega) hs) ?_
  simp only [go_sem]
  refine qZ ?_ ?_<;>intro hc<;>simp only [hc,go_sem]
  · obtain ⟨h1,h2,h3⟩:=QU hc
    refine qG (c881 x 0 h1 hz (by omega) (by omega) hs) ?_
    simp only [go_sem]
    exact qK rfl rfl
  · exact qK rfl rfl
theorem qW6 {x:qA} (hz:x.sz≤1048576) (hs:x.size≤2097152):Pure Gm 1170 [x.enc] (.bool (!(x.closed&&x.strat 0))):=by
  refine Pure.intro [] [] qZ6 (by kernel_rfl) rfl (by simp [AV.trees,AV.tree,go_sem]) rfl ?_
  simp only [Wp,qL,go_sem]
  refine qa qA.ln ?_
  simp only [go_sem]
  refine qG (c522 hz hs) ?_
  simp only [go_sem]
  exact qK rfl rfl
theorem c848 {b:qI} (hz:b.sz≤1048576):Pure Gm 848 [b.enc] (.bool (b.Defs.all fun x=>x.closed&&x.strat 0)):=by
  refine Pure.intro [] [] g848 (by kernel_rfl) rfl (by simp [AV.trees,AV.tree,go_sem]) rfl ?_
  simp only [YC,qL,go_sem]
  have hz':b.Defs.length+qF qA.sz b.Defs≤1048576:=hz
  refine qa rfl ?_;simp only [go_sem]
  refine qG (Yb (f:=.fn 1170 []) (fun x=> !(x.closed&&x.strat 0)) rfl b.Defs (fun y hy=>⟨1170,_,rfl,qW6 (by have:=zV (f:=qA.sz) hy;omega) (by have:=zV (f:=qA.sz) hy;have:=y.size_sz;omega)⟩) (by omega)) ?_
  simp only [go_sem]
  exact qK rfl (by rw [ZN])
end Go.Ab
namespace Go.Ab
open Go
set_option maxRecDepth 10000
set_option maxHeartbeats 2000000
attribute [local simp] zJ qf
theorem c834 {xs:List Int} {n:Int} (hl:xs.length≤4194304):Pure Gm 834 [.lst 1 (xs.map qE) false,.int .i64 n] (.int .i64 (jx (fun k=>decide (n=k)) xs 0)):=by
  refine Pure.intro [] [] g834 (by kernel_rfl) rfl (by simp [AV.trees,AV.tree,go_sem]) rfl ?_
  simp only [X8,qL,go_sem]
  refine Sem.loop (fun i:Nat=>i≤xs.length∧jx (fun k=>decide (n=k)) xs 0=jx (fun k=>decide (n=k)) (xs.drop i) i) (fun i=>(⟨[(0,.lst 1 (xs.map qE) false),(1,.int .i64 n),(7,.int .i64 (xs.length:Nat)),(8,.int .i64 (i:Nat))],[],[]⟩:VSt)) (fun i=>xs.length-i) 0 (by kernel_rfl) ⟨Nat.zero_le _,by simp⟩ (Can.sub (by simp [go_sem]) (by simp [go_sem])) ?_
  rintro i ⟨hi,hI⟩
  simp only [go_sem]
  refine qD ?_ ?_<;>intro hc<;>simp only [hc,go_sem]
  · have hlt:i<xs.length:=by have:=odT hc;omega
    simp only [List.getElem?_map,gEg hlt,Option.map_some,go_sem]
    rw [List.drop_eq_getElem_cons hlt,jx] at hI
    simp only [qE,go_sem]
    refine qD ?_ ?_<;>intro hc<;>simp only [hc,go_sem]
    · exact qK rfl (by rw [hI,hc];rfl)
    · rw [hc] at hI
      simp only [qe (show i<4611686018427387904 by omega)];refine qY (i+1) ⟨by omega, ?_⟩ (by omega) (Can.sub (by simp [go_sem]) (by simp [go_sem]))
      exact hI
  · obtain rfl:i=xs.length:=by have:=odF hc;omega
    exact qK rfl (by rw [hI,List.drop_length];rfl)
theorem c647 {xs:List Int} {n:Int} (hl:xs.length≤4194304):Pure Gm 647 [.lst 1 (xs.map qE) false,.int .i64 n] (.bool (xs.any fun k=>decide (n=k))):=by
  refine Pure.intro [] [] g647 (by kernel_rfl) rfl (by simp [AV.trees,AV.tree,go_sem]) rfl ?_
  simp only [Xq,qL,go_sem]
  simp only [QX,qL,go_sem]
  refine qG (c834 hl) ?_
  simp only [go_sem]
  exact qK rfl (by rw [qO6])
theorem qg1 (x:Int):w32 x=IntKind.i64.wrap (IntKind.i32.wrap x):=by
  unfold w32
  congr 1
  simp only [IntKind.wrap,IntKind.bits,IntKind.signed]
  simp
theorem QS {x:Int}:Pure Gm 1400 [.int .i64 x] (.int .i64 (w32 x)):=by
  refine Pure.intro [] [] qaP (by kernel_rfl) rfl (by simp [AV.trees,AV.tree,go_sem]) rfl ?_
  simp only [W9,qL,go_sem]
  exact qK rfl (by rw [qg1])
theorem qOE {x:Int}:Pure Gm 1120 [.int .i64 x] ((qA.mk 11 x [] []).enc):=by
  refine Pure.intro [] [] qZQ (by kernel_rfl) rfl (by simp [AV.trees,AV.tree,go_sem]) (by simp [go_sem]) ?_
  simp only [WZ,qL,go_sem]
  refine qO (k:=4) (by rfl) (by rfl) (by exact ⟨_,rfl⟩) (by decide) ?_;simp only [go_sem]
  exact qy J3
theorem c726 {x:Int}:Pure Gm 726 [.int .i64 x] ((qA.mk 2 x [] []).enc):=by
  refine Pure.intro [] [] g726 (by kernel_rfl) rfl (by simp [AV.trees,AV.tree,go_sem]) (by simp [go_sem]) ?_
  simp only [Xw,qL,go_sem]
  refine qO (k:=4) (by rfl) (by rfl) (by exact ⟨_,rfl⟩) (by decide) ?_;simp only [go_sem]
  exact qy J3
theorem qXD {f a:qA}:Pure Gm 1401 [f.enc,a.enc] ((zr f a).enc):=by
  refine Pure.intro [] [] qaQ (by kernel_rfl) rfl (by simp [AV.trees,AV.tree,go_sem]) (by simp [go_sem]) ?_
  simp only [XA,qL,go_sem]
  refine qa qA.ln ?_
  simp only [go_sem]
  refine qa qA.ln ?_
  simp only [go_sem]
  refine qO (k:=4) (by rfl) (by rfl) (by exact ⟨_,rfl⟩) (by decide) ?_;simp only [go_sem]
  exact qy (Yh .nils (Cv.row rfl rfl (zJ [f,a]) (by decide)))
theorem qWV {k a b:Int}:Pure Gm 1118 [.int .i64 k,.int .i64 a,.int .i64 b] (.int .i64 (opI k a b)):=by
  refine Pure.intro [] [] qZO (by kernel_rfl) rfl (by simp [AV.trees,AV.tree,go_sem]) rfl ?_
  simp only [WX,qL,go_sem]
  refine qG QS ?_
  simp only [go_sem]
  refine qG QS ?_
  simp only [go_sem]
  unfold opI
  refine qD ?_ ?_<;>intro hc<;>simp only [hc,go_sem]
  · rw [if_pos (odT hc)]
    refine qG QS ?_
    simp only [go_sem]
    exact qK rfl rfl
  rw [if_neg (odF hc)]
  refine qD ?_ ?_<;>intro hc<;>simp only [hc,go_sem]
  · rw [if_pos (odT hc)]
    refine qG QS ?_
    simp only [go_sem]
    exact qK rfl rfl
  rw [if_neg (odF hc)]
  refine qD ?_ ?_<;>intro hc<;>simp only [hc,go_sem]
  · rw [if_pos (odT hc)]
    refine qG QS ?_
    simp only [go_sem]
    exact qK rfl rfl
  rw [if_neg (odF hc)]
  refine qD ?_ ?_<;>intro hc<;>simp only [hc,go_sem]
  · rw [if_pos (odT hc)]
    refine qD ?_ ?_<;>intro hc<;>simp only [hc,go_sem]
    · rw [if_pos (odT hc)]
      exact qK rfl rfl
    rw [if_neg (odF hc)]
    have hq:=odF hc
    simp only [if_neg hq,go_sem]
    refine qG QS ?_
    simp only [go_sem]
    exact qK rfl rfl
  rw [if_neg (odF hc)]
  refine qD ?_ ?_<;>intro hc<;>simp only [hc,go_sem]
  · rw [if_pos (odT hc)]
    refine qG wm ?_
    simp only [go_sem]
    exact qK rfl (by simp)
  rw [if_neg (odF hc)]
  refine qD ?_ ?_<;>intro hc<;>simp only [hc,go_sem]
  · rw [if_pos (odT hc)]
    refine qG wm ?_
    simp only [go_sem]
    exact qK rfl (by simp)
  rw [if_neg (odF hc)]
  exact qK rfl rfl
theorem qWW {d:Int} {as:List qA} (hn:as.length≤1048576):Pure Gm 1119 [.int .i64 d,.lst 4 (as.map qA.enc) false] ((wo d as).enc):=by
  refine Pure.intro [] [] qZP (by kernel_rfl) rfl (by simp [AV.trees,AV.tree,go_sem]) (by simp [go_sem]) ?_
  simp only [WY,qL,go_sem]
  refine qG qOE ?_
  simp only [go_sem]
  refine qO (k:=4) (by rfl) (by simp [go_sem]) (qA.isAgg _) (by decide) ?_;simp only [go_sem]
  refine Sem.loop (fun i:Nat=>i≤as.length∧True) (fun i=>(⟨[(10,.lst 4 (as.map qA.enc) false),(11,.int .i64 (as.length:Nat)),(12,.int .i64 (i:Nat))],[(5,((as.take i).foldl zr (.mk 11 d [] [])).enc),(4,.agg [.int .i64 0,.int .i64 0,.nils,.nils])],[]⟩:VSt)) (fun i=>as.length-i) 0 (by kernel_rfl) ⟨Nat.zero_le _,trivial⟩ (Can.sub (by simp [go_sem]) (by simp [go_sem])) ?_
  rintro i ⟨hi,hI⟩
  simp only [go_sem]
  refine qD ?_ ?_<;>intro hc<;>simp only [hc,go_sem]
  · have hlt:i<as.length:=by have:=odT hc;omega
    simp only [List.getElem?_map,gEg hlt,Option.map_some,go_sem]
    refine qO (k:=4) (by rfl) (by simp [go_sem]) (qA.isAgg _) (by decide) ?_;simp only [go_sem]
    refine qG qXD ?_
    simp only [go_sem]
    refine Qn qA.ln qA.putcore ?_
    simp only [go_sem]
    simp only [qe (show i<4611686018427387904 by omega)]
    refine qY (i+1) ⟨by omega,trivial⟩ (by omega) (Can.sub (by simp [go_sem]) ?_)
    rw [List.take_succ_eq_append_getElem hlt,List.foldl_append]
    simp [go_sem]
  · obtain rfl:i=as.length:=by have:=odF hc;omega
    rw [List.take_length]
    refine qO (k:=4) (by rfl) (by simp [go_sem]) (qA.isAgg _) (by decide) ?_;simp only [go_sem]
    exact qy (.refl (by simp [go_sem]))
theorem c758 {x:qA} (hz:x.sz≤1048576) (ho:x.ok=true):Pure Gm 758 [x.enc] (.int .i64 (qW x)):=by
  refine Pure.intro [] [] g758 (by kernel_rfl) rfl (by simp [AV.trees,AV.tree,go_sem]) rfl ?_
  simp only [Xx,qL,go_sem]
  have hL:=x.len_sz
  refine qa qA.ln ?_
  simp only [go_sem]
  refine qD ?_ ?_<;>intro hc<;>simp only [hc,go_sem]
  · have:x.Kids=[]:=List.length_eq_zero_iff.1 (by have:=odT hc;omega)
    exact qK rfl (by unfold qW;rw [this])
  have hne:¬x.Kids.length=0:=by have:=odF hc;omega
  by_cases h5:x.Kind=5
  · obtain ⟨a,b,hK⟩:=zu ((qx ho).1 (by omega))
    have hr:qW x=if a.Kind=4 then 1 else if a.Kind=11 then 4 else 0:=by unfold qW;rw [hK];simp only [];rw [if_pos h5]
    simp only [hK,List.map_cons,List.map_nil,Option.map_some,go_sem]
    refine qO (k:=4) (by rfl) (by simp [go_sem]) (qA.isAgg _) (by decide) ?_;simp only [go_sem]
    rw [hr,h5]
    simp only [go_sem]
    refine qD ?_ ?_<;>intro hc<;>simp only [hc,go_sem]
    · exact qK rfl (by rw [if_pos (odT hc)])
    rw [if_neg (odF hc)]
    refine qD ?_ ?_<;>intro hc<;>simp only [hc,go_sem]
    · exact qK rfl (by rw [if_pos (odT hc)])
    · exact qK rfl (by rw [if_neg (odF hc)])
  by_cases h3:x.Kind=3
  · obtain ⟨a,b,hK⟩:=zu ((qx ho).1 (by omega))
    have hr:qW x=if a.Kind=11 then 4 else if a.Kind=2 then (if b.Kind=2 then 2 else if b.Kind=11 then 4 else 0) else 0:=by unfold qW;rw [hK];simp only [];rw [if_neg h5,if_pos h3]
    have hr2:qW x=if a.Kind=2∧b.Kind=2 then 2 else if a.Kind=11 then 4 else if a.Kind=2∧b.Kind=11 then 4 else 0:=by
      rw [hr]
      by_cases e1:a.Kind=11
      · simp [e1]
      · by_cases e2:a.Kind=2
        · simp [e2]
        · simp [e1,e2]
    simp only [hK,List.map_cons,List.map_nil,Option.map_some,go_sem]
    refine qO (k:=4) (by rfl) (by simp [go_sem]) (qA.isAgg _) (by decide) ?_;simp only [go_sem]
    rw [hr2]
    refine qD ?_ ?_<;>intro hc<;>simp only [hc,go_sem]
    · exact absurd (odT hc) h5
    refine qD ?_ ?_<;>intro hc<;>simp only [hc,go_sem]
    rotate_left
    · exact absurd h3 (odF hc)
    simp only [hK,List.map_cons,List.map_nil,Option.map_some,go_sem]
    refine qO (k:=4) (by rfl) (by simp [go_sem]) (qA.isAgg _) (by decide) ?_;simp only [go_sem]
    repeat' (first | (first | (refine qZ ?_ ?_<;>intro hc<;>simp only [hc,go_sem]) | (refine qD ?_ ?_<;>intro hc<;>simp only [hc,go_sem])) | refine qK rfl ?_)
    all_goals (refine congrArg (AV.int IntKind.i64) ?_;simp_all<;>omega)
  obtain ⟨a,ys,hK⟩:∃a ys,x.Kids=a::ys:=by
    cases h:x.Kids with
    | nil=>rw [h] at hne;exact absurd rfl hne
    | cons a ys=>exact ⟨a,ys,rfl⟩
  simp only [hK,List.map_cons,List.map_nil,Option.map_some,go_sem]
  refine qO (k:=4) (by rfl) (by simp [go_sem]) (qA.isAgg _) (by decide) ?_;simp only [go_sem]
  refine qD ?_ ?_<;>intro hc<;>simp only [hc,go_sem]
  · exact absurd (odT hc) h5
  refine qD ?_ ?_<;>intro hc<;>simp only [hc,go_sem]
  · exact absurd (odT hc) h3
  by_cases h9:x.Kind=9
  · have hr:qW x=if a.Kind=8∧a.Value<(x.Data.length:Nat) then 3 else if a.Kind=11 then 4 else 0:=by unfold qW;rw [hK];simp only [];rw [if_neg h5,if_neg h3,if_pos h9]
    rw [hr]
    repeat' (first | (first | (refine qZ ?_ ?_<;>intro hc<;>simp only [hc,go_sem]) | (refine qD ?_ ?_<;>intro hc<;>simp only [hc,go_sem])) | refine qK rfl ?_)
    all_goals (refine congrArg (AV.int IntKind.i64) ?_;simp_all<;>omega)
  by_cases h10:x.Kind=10
  · have hr:qW x=if a.Kind=2 then 3 else if a.Kind=11 then 4 else 0:=by unfold qW;rw [hK];simp only [];rw [if_neg h5,if_neg h3,if_neg h9,if_pos h10]
    rw [hr]
    repeat' (first | (first | (refine qZ ?_ ?_<;>intro hc<;>simp only [hc,go_sem]) | (refine qD ?_ ?_<;>intro hc<;>simp only [hc,go_sem])) | refine qK rfl ?_)
    all_goals (refine congrArg (AV.int IntKind.i64) ?_;simp_all<;>omega)
  refine qD ?_ ?_<;>intro hc<;>simp only [hc,go_sem]
  · exact absurd (odT hc) h9
  refine qD ?_ ?_<;>intro hc<;>simp only [hc,go_sem]
  · exact absurd (odT hc) h10
  exact qK rfl (by rw [Qz h5 h3 h9 h10])
end Go.Ab
namespace Go.Ab
open Go
set_option maxRecDepth 10000
set_option maxHeartbeats 2000000
attribute [local simp] zJ qf
theorem qTF {α:Type} {f:α→Nat} {b:Nat}:∀{xs:List α},xs≠[]→qz (fun y=>f y+b) xs=qz f xs+b
  |[x],_=>by simp [qz]
  | x::y::xs,_=>by
    have:=qTF (f:=f) (b:=b) (xs:=y::xs) (by simp)
    simp only [qz,Nat.max_def] at this⊢
    repeat' split at this
    all_goals (repeat' split)
    all_goals omega
theorem qWM {x:qA} (h:x.ok=true):qz (fun y=>qA.boxes y+(if x.Kind=6 then 1 else 0)) x.Kids=x.boxes:=by
  rw [x.boxes_eq]
  by_cases e:x.Kids=[]
  · rw [e]
    have:¬x.Kind=6:=fun h6=>by
      have:=(qx h).2 (.inr (.inl h6))
      rw [e] at this;cases this
    rw [if_neg this];rfl
  · exact qTF e
theorem qWL (k:Int):qd k=((if k=6 then 1 else 0:Nat):Int):=by unfold qd;split<;>rfl
theorem qW7 (x:qA):∀(ho:x.ok=true) (hz:x.sz≤1048576) (hd:x.dep≤2097152),Pure Gm 1171 [x.enc] (.int .i64 (x.boxes:Nat)):=by
  induction x using qA.ind with
  | _ x ih=>
  intro ho hz hd
  refine Pure.intro [] [] qZ7 (by kernel_rfl) rfl (by simp [AV.trees,AV.tree,go_sem]) rfl ?_
  simp only [Wq,qL,go_sem]
  have hL:=x.len_sz
  have hbd:=x.boxes_dep
  refine qa qA.ln ?_
  simp only [go_sem]
  refine Sem.loop (fun i:Nat=>i≤x.Kids.length∧True) (fun i=>(⟨[(3,.int .i64 ((qz (fun y=>qA.boxes y+(if x.Kind=6 then 1 else 0)) (x.Kids.take i):Nat):Int)),(7,.lst 4 (x.Kids.map qA.enc) false),(8,.int .i64 (x.Kids.length:Nat)),(9,.int .i64 (i:Nat))],[(1,x.enc)],[]⟩:VSt)) (fun i=>x.Kids.length-i) 0 (by kernel_rfl) ⟨Nat.zero_le _,by trivial⟩ (Can.sub (by simp [go_sem]) (by simp [go_sem])) ?_
  rintro i ⟨hi,hI⟩
  simp only [go_sem]
  refine qD ?_ ?_<;>intro hc<;>simp only [hc,go_sem]
  · have hlt:i<x.Kids.length:=by have:=odT hc;omega
    simp only [List.getElem?_map,gEg hlt,Option.map_some,go_sem]
    have hm:=List.getElem_mem hlt
    have hk:=qA.kid_sz hm
    have hp:=qA.dep_kid hm
    have hb:=ZS x.Kind
    have hkb:=x.Kids[i].boxes_dep
    refine qO (k:=4) (by rfl) (by simp [go_sem]) (qA.isAgg _) (by decide) ?_;simp only [go_sem]
    refine qG (ih _ hm (qv ho hm) (by omega) (by omega)) ?_
    simp only [go_sem]
    refine qG wm ?_
    simp only [go_sem]
    rw [ZR,qi (n:=(x.Kids[i].boxes:Int)+qd x.Kind) (by omega) (by omega)]
    have e2:max ((qz (fun y=>qA.boxes y+(if x.Kind=6 then 1 else 0)) (x.Kids.take i):Nat):Int) ((x.Kids[i].boxes:Int)+qd x.Kind)=((qz (fun y=>qA.boxes y+(if x.Kind=6 then 1 else 0)) (x.Kids.take (i+1)):Nat):Int):=by rw [Zu hlt,qWL];omega
    rw [e2]
    simp only [qe (show i<4611686018427387904 by omega)];refine qY (i+1) ⟨by omega, ?_⟩ (by omega) (Can.sub (by simp [go_sem]) (by simp [go_sem]))
    trivial
  · obtain rfl:i=x.Kids.length:=by have:=odF hc;omega
    rw [List.take_length,qWM ho]
    exact qK rfl rfl
end Go.Ab
namespace Go.Ab
open Go
set_option maxRecDepth 10000
set_option maxHeartbeats 2000000
attribute [local simp] zJ qf
def Jm (φ:qA→Int→qA):qA→Int→qA:=qA.fold fun x rs d=>if x.Kind=1 then φ x d else .mk x.Kind x.Value x.Data (zB (fun i (r:Int→qA)=>r (d+qV x.Kind i)) rs 0)
theorem qPM (φ:qA→Int→qA) (x:qA) (d:Int):Jm φ x d=if x.Kind=1 then φ x d else .mk x.Kind x.Value x.Data (zB (fun i y=>Jm φ y (d+qV x.Kind i)) x.Kids 0):=by
  unfold Jm;rw [qA.fold_eq,VO]
def qV0 (g:Nat) (cs:List AV) (φ:qA→Int→qA):Prop:=∀(y:qA) (d:Int),y.Kind=1→y.ok=true→0≤d∧d≤1048576→Pure Gm g (y.enc::.int .i64 d::cs) (φ y d).enc
theorem qRD (x:qA):∀(g:Nat) (cs:List AV) (φ:qA→Int→qA) (d:Int) (ht:AV.trees cs=true) (hp:qV0 g cs φ) (ho:x.ok=true) (hz:x.sz≤1048576) (hd:0≤d∧d+x.dep≤1048576),Pure Gm 1316 [x.enc,.int .i64 d,.fn g cs] ((Jm φ x d).enc):=by
  induction x using qA.ind with
  | _ x ih=>
  intro g cs φ d ht hp ho hz hd
  refine Pure.intro [] [] qaC (by kernel_rfl) rfl (by simp [AV.trees,AV.tree,go_sem,ht]) (by simp [go_sem]) ?_
  simp only [Ww,qL,go_sem]
  have hL:=x.len_sz
  have hres:=qPM φ x d
  refine qa qA.ln ?_
  simp only [go_sem]
  refine qD ?_ ?_<;>intro hc<;>simp only [hc,go_sem]
  · have h1:=odT hc
    rw [if_pos h1] at hres
    refine qG (hp x d h1 ho (by omega)) ?_
    simp only [go_sem]
    refine qO (k:=4) (by rfl) (by simp [go_sem]) (qA.isAgg _) (by decide) ?_;simp only [go_sem]
    rw [hres]
    exact qy (.refl (by simp [go_sem]))
  rw [if_neg (odF hc)] at hres
  refine j4 (n401 x.Data (by omega)) ?_
  simp only [go_sem]
  simp only [lay,lI,go_sem,List.nil_append,List.cons_append]
  refine qO (k:=4) (by rfl) (by rfl) (by exact ⟨_,rfl⟩) (by decide) ?_;simp only [go_sem]
  refine Sem.loop (fun i:Nat=>i≤x.Kids.length) (fun i=>(⟨[(1,.int .i64 d),(2,.fn g cs),(26,.lst 4 (x.Kids.map qA.enc) false),(27,.int .i64 (x.Kids.length:Nat)),(28,.int .i64 (i:Nat))],[(3,x.enc),(7,.agg [.int .i64 x.Kind,.int .i64 x.Value,.slice 1 0 0 x.Data.length false,.slice 4 1 0 i false]),(6,.agg [.int .i64 0,.int .i64 0,.nils,.nils])],[.row 1 (x.Data.map qE) true,.row 4 ((zB (fun i y=>Jm φ y (d+qV x.Kind i)) (x.Kids.take i) 0).map qA.enc) true]⟩:VSt)) (fun i=>x.Kids.length-i) 0 (by kernel_rfl) (Nat.zero_le _)
    (Can.renum [some 0,none] rfl ⟨.row rfl (VR2s.of_eq rfl (by simp [qf])),.ph,trivial⟩ ⟨⟨_,rfl,.tree rfl⟩,⟨_,rfl,.tree (by simp [AV.tree,ht])⟩,⟨_,rfl,.tree (by simp [AV.tree,go_sem])⟩,⟨_,rfl,.tree rfl⟩,⟨_,rfl,.tree rfl⟩,trivial⟩
      ⟨⟨_,rfl,.tree (by simp [go_sem])⟩,⟨_,rfl,.agg rfl (VR2s.cons (.tree rfl) (VR2s.cons (.tree rfl) (VR2s.cons (.slice rfl) (VR2s.cons (.ph rfl) VR2s.nil)))).2⟩,⟨_,rfl,.tree rfl⟩,trivial⟩) ?_
  intro i hi
  simp only [go_sem]
  refine qD ?_ ?_<;>intro hc<;>simp only [hc,go_sem]
  · have hlt:i<x.Kids.length:=by have:=odT hc;omega
    simp only [List.getElem?_map,gEg hlt,Option.map_some,go_sem]
    have hm:=List.getElem_mem hlt
    have hk:=qA.kid_sz hm
    have hkd:=qA.dep_kid hm
    have hb:=jt x.Kind i
    refine qO (k:=4) (by rfl) (by simp [go_sem]) (qA.isAgg _) (by decide) ?_;simp only [go_sem]
    refine qG ZU ?_
    simp only [go_sem]
    rw [qi (n:=d+qV x.Kind i) (by omega) (by omega)]
    refine qG (ih _ hm g cs φ (d+qV x.Kind i) ht hp (qv ho hm) (by omega) (by omega)) ?_
    simp only [go_sem]
    refine jO (el:=(zB (fun i y=>Jm φ y (d+qV x.Kind i)) (x.Kids.take i) 0).map qA.enc) rfl rfl (by simp [wc];omega) (by omega) ?_
    simp only [go_sem]
    simp only [qe (show i<4611686018427387904 by omega)]
    refine qY (i+1) (by omega) (by omega) ?_
    refine Can.renum [some 0,some 3] rfl ⟨.row rfl (VR2s.of_eq rfl (by simp [qf])),.row rfl (VR2s.of_eq (by rw [VP hlt,Nat.zero_add];simp) (zJ _)),trivial⟩ ⟨⟨_,rfl,.tree rfl⟩,⟨_,rfl,.tree (by simp [AV.tree,ht])⟩,⟨_,rfl,.tree (by simp [AV.tree,go_sem])⟩,⟨_,rfl,.tree rfl⟩,⟨_,rfl,.tree rfl⟩,trivial⟩
      ⟨⟨_,rfl,.tree (by simp [go_sem])⟩,⟨_,rfl,.agg rfl (VR2s.cons (.tree rfl) (VR2s.cons (.tree rfl) (VR2s.cons (.slice rfl) (VR2s.cons (.slice rfl) VR2s.nil)))).2⟩,⟨_,rfl,.tree rfl⟩,trivial⟩
  · obtain rfl:i=x.Kids.length:=by have:=odF hc;omega
    rw [List.take_length]
    refine qO (k:=4) (by rfl) (by rfl) (by exact ⟨_,rfl⟩) (by decide) ?_;simp only [go_sem]
    rw [hres]
    exact qy (Yh (d:=x.Data) (D:=.slice 1 0 0 x.Data.length false) (K:=.slice 4 1 0 x.Kids.length false) (Cv.row rfl (by simp) (by simp [qf]) (by decide)) (Cv.row rfl (by simp [wc]) (zJ _) (by decide)))
end Go.Ab
namespace Go.Ab
open Go
set_option maxRecDepth 10000
set_option maxHeartbeats 2000000
attribute [local simp] zJ qf
theorem qPL {α β:Type} {f g:Nat→α→β}:∀{xs:List α} {k:Nat},(∀x∈xs,∀k,f k x=g k x)→zB f xs k=zB g xs k
  |[],_,_=>rfl
  | x::xs,k,h=>by simp only [zB];rw [h x (by simp) k,qPL (fun y hy=>h y (by simp [hy]))]
def Z4 (a f:Int) (y:qA) (d:Int):qA:=if d+f≤y.Value then .mk y.Kind (y.Value+a) y.Data y.Kids else y
theorem qA.putval {y:qA} {n:Int}:y.enc.put 1 (.int .i64 n)=some (qA.mk y.Kind n y.Data y.Kids).enc:=by rw [qA.enc_eq,qA.enc_eq];rfl
theorem qdT (a f:Int):∀(x:qA) (d:Int),x.ok=true→Jm (Z4 a f) x d=x.shift a (f+d):=qA.ind fun x ih d ho=>by
  rw [qPM,qA.shift_eq]
  split
  · rename_i h1
    have hk:=Qw ho h1
    unfold Z4 wC
    rw [hk]
    by_cases h:d+f≤x.Value
    · rw [if_pos h,if_pos ⟨h1,by omega⟩];rfl
    · rw [if_neg h,if_neg (fun q=>h (by omega))]
      have:=qA.eta x
      rw [hk] at this
      rw [←this];rfl
  · rename_i h1
    unfold wC
    rw [if_neg (fun q=>h1 q.1)]
    congr 1
    refine qPL fun y hy k=> ?_
    rw [ih y hy _ (qv ho hy)]
    congr 1
    omega
def Zy (arg:qA) (y:qA) (d:Int):qA:=if y.Value=d then arg.shift d 0 else if d<y.Value then .mk y.Kind (y.Value-1) y.Data y.Kids else y
theorem qXI {y:qA} {d a f:Int} (h1:y.Kind=1) (ho:y.ok=true) (hd:0≤d∧d≤1048576) (ha:0≤a∧a≤1048576) (hf:0≤f∧f≤1048576):Pure Gm 1462 [y.enc,.int .i64 d,.ept (.int .i64 f) 0,.ept (.int .i64 a) 0] ((Z4 a f y d).enc):=by
  refine Pure.intro [] [] qaV (by kernel_rfl) rfl (by simp [AV.trees,AV.tree,go_sem]) (by simp [go_sem]) ?_
  simp only [XF,qL,go_sem]
  have hv:=Va ho
  unfold wi inI at hv
  simp [h1] at hv
  refine qa qA.ln ?_
  simp only [go_sem]
  rw [qi (n:=d+f) (by omega) (by omega)]
  unfold Z4
  refine qD ?_ ?_<;>intro hc<;>simp only [hc,go_sem]
  · rw [if_pos (by have:=odT hc;omega),qi (n:=y.Value+a) (by omega) (by omega)]
    refine Qn (by rfl) qA.putval ?_
    simp only [go_sem]
    refine qO (k:=4) (by rfl) (by simp [go_sem]) (qA.isAgg _) (by decide) ?_;simp only [go_sem]
    exact qy (.refl (by simp [go_sem]))
  · rw [if_neg (by have:=odF hc;omega)]
    refine qO (k:=4) (by rfl) (by simp [go_sem]) (qA.isAgg _) (by decide) ?_;simp only [go_sem]
    exact qy (.refl (by simp [go_sem]))
theorem qXB {x:qA} {a f:Int} (ho:x.ok=true) (hz:x.sz≤1048576) (hd:x.dep≤1048576) (ha:0≤a∧a≤1048576) (hf:0≤f∧f≤1048576):Pure Gm 1318 [x.enc,.int .i64 a,.int .i64 f] ((x.shift a f).enc):=by
  refine Pure.intro [4,5] [] qaE (by kernel_rfl) rfl (by simp [AV.trees,AV.tree,go_sem]) (by simp [go_sem]) ?_
  simp only [Wy,qL,go_sem]
  refine qa qA.ln ?_
  simp only [go_sem]
  refine jm rfl ?_
  simp only [go_sem]
  refine jm rfl ?_
  simp only [go_sem]
  simp only [go_sem,List.nil_append,List.cons_append,List.set_cons_zero,List.set_cons_succ]
  refine qG (qRD x 1462 [.ept (.int .i64 f) 0,.ept (.int .i64 a) 0] (Z4 a f) 0 rfl (fun y d h1 ho hd=>qXI h1 ho hd ha hf) ho hz (by omega)) ?_
  simp only [go_sem]
  refine qO (k:=4) (by rfl) (by simp [go_sem]) (qA.isAgg _) (by decide) ?_;simp only [go_sem]
  rw [qdT a f x 0 ho,Int.add_zero]
  exact qy (.refl (by simp [go_sem]))
theorem qXA {y arg:qA} {d:Int} (h1:y.Kind=1) (ho:y.ok=true) (hd:0≤d∧d≤1048576) (hao:arg.ok=true) (haz:arg.sz≤1048576) (had:arg.dep≤1048576):Pure Gm 1317 [y.enc,.int .i64 d,.ept arg.enc 0] ((Zy arg y d).enc):=by
  refine Pure.intro [] [] qaD (by kernel_rfl) rfl (by simp [AV.trees,AV.tree,go_sem]) (by simp [go_sem]) ?_
  simp only [Wx,qL,go_sem]
  have hv:=Va ho
  unfold wi inI at hv
  simp [h1] at hv
  refine qa qA.ln ?_
  simp only [go_sem]
  unfold Zy
  refine qD ?_ ?_<;>intro hc<;>simp only [hc,go_sem]
  · rw [if_pos (odT hc)]
    refine qG (qXB hao haz had hd (by omega)) ?_
    simp only [go_sem]
    refine qO (k:=4) (by rfl) (by simp [go_sem]) (qA.isAgg _) (by decide) ?_;simp only [go_sem]
    exact qy (.refl (by simp [go_sem]))
  rw [if_neg (odF hc)]
  refine qD ?_ ?_<;>intro hc<;>simp only [hc,go_sem]
  · rw [if_pos (by have:=odT hc;omega),qi (n:=y.Value-1) (by omega) (by omega)]
    refine Qn (by rfl) qA.putval ?_
    simp only [go_sem]
    refine qO (k:=4) (by rfl) (by simp [go_sem]) (qA.isAgg _) (by decide) ?_;simp only [go_sem]
    exact qy (.refl (by simp [go_sem]))
  · rw [if_neg (by have:=odF hc;omega)]
    refine qO (k:=4) (by rfl) (by simp [go_sem]) (qA.isAgg _) (by decide) ?_;simp only [go_sem]
    exact qy (.refl (by simp [go_sem]))
theorem qeB {x:qA} (h:x.ok=true) (hk:x.Kind=1):x.Data=[]:=by
  have h:=wx h
  unfold zw inI at h
  simp only [Bool.and_eq_true,decide_eq_true_eq] at h
  obtain ⟨⟨⟨_,h1,h2⟩,_⟩,_⟩:=h
  simp [shp,hk] at h1 h2
  exact h2
theorem qdS (arg:qA):∀(x:qA) (d:Int),x.ok=true→Jm (Zy arg) x d=qA.put arg x d:=qA.ind fun x ih d ho=>by
  rw [qPM,qA.put_eq]
  split
  · rename_i h1
    have hk:=Qw ho h1
    have hd:=qeB ho h1
    unfold Zy
    split
    · rfl
    rename_i h2
    have e:qA.mk 1 x.Value [] []=x:=by
      have:=qA.eta x
      rwa [hk,hd,h1] at this
    unfold wg
    split
    · rename_i h3
      rw [h1,hk,hd]
    · rename_i h3
      exact e.symm
  · congr 1
    exact qPL fun y hy k=>ih y hy _ (qv ho hy)
theorem JV {x arg:qA} (ho:x.ok=true) (hz:x.sz≤1048576) (hd:x.dep≤1048576) (hao:arg.ok=true) (haz:arg.sz≤1048576) (had:arg.dep≤1048576):Pure Gm 992 [x.enc,arg.enc] ((qA.put arg x 0).enc):=by
  refine Pure.intro [3] [] g992 (by kernel_rfl) rfl (by simp [AV.trees,AV.tree,go_sem]) (by simp [go_sem]) ?_
  simp only [YN,qL,go_sem]
  refine qa qA.ln ?_
  simp only [go_sem]
  refine jm qA.ln ?_
  simp only [go_sem]
  simp only [go_sem,List.nil_append,List.cons_append,List.set_cons_zero,List.set_cons_succ]
  refine qG (qRD x 1317 [.ept arg.enc 0] (Zy arg) 0 (by simp [AV.trees,AV.tree,go_sem]) (fun y d h1 ho hd=>qXA h1 ho hd hao haz had) ho hz (by omega)) ?_
  simp only [go_sem]
  refine qO (k:=4) (by rfl) (by simp [go_sem]) (qA.isAgg _) (by decide) ?_;simp only [go_sem]
  rw [qdS arg x 0 ho]
  exact qy (.refl (by simp [go_sem]))
end Go.Ab
namespace Go.Ab
open Go
set_option maxRecDepth 10000
set_option maxHeartbeats 2000000
attribute [local simp] zJ qf
@[go_sem] theorem d21:decide ((2:Int)=1)=false:=nr rfl
@[go_sem] theorem d31:decide ((3:Int)=1)=false:=nr rfl
@[go_sem] theorem d32:decide ((3:Int)=2)=false:=nr rfl
@[go_sem] theorem d41:decide ((4:Int)=1)=false:=nr rfl
@[go_sem] theorem d42:decide ((4:Int)=2)=false:=nr rfl
@[go_sem] theorem d43:decide ((4:Int)=3)=false:=nr rfl
theorem s769 {h:List qC} {xs:List qA} {K:AV→List qC→Prop} (hne:xs≠[]) (hl:xs.length≤4194304) (hK:K (.slice 4 h.length 0 xs.length false) (h++[.row 4 (xs.map qA.enc) true])):SCall Gm 769 [.lst 4 (xs.map qA.enc) false] h K:=by
  refine SCall.run [] [] g769 (by kernel_rfl) rfl ?_
  match xs,hne with
  | x::xs,_=>
  simp only [X4,ZY,qL,List.map_cons,go_sem]
  refine ZO Els.lst (by simp only [List.length_cons,List.length_map] at hl⊢;omega) ?_
  simp only [go_sem]
  simpa using hK
theorem qXM {b:qI} {x a c k:qA} (hx:x.valid=true) (hK:x.Kids=[a,c]) (hk:a.Kids=[k]):Pure Gm 759 [b.enc,.int .i64 1,x.enc] ((qA.put c k 0).enc):=by
  refine Pure.intro [] [] Y0 (by kernel_rfl) rfl (by simp [AV.trees,AV.tree,go_sem]) (by simp [go_sem]) ?_
  simp only [Jz,qL,go_sem]
  have ham:a∈x.Kids:=by rw [hK];simp
  have hcm:c∈x.Kids:=by rw [hK];simp
  have hkm:k∈a.Kids:=by rw [hk];simp
  obtain ⟨c1,c2,c3,c4,c5⟩:=zG (zT hx hcm)
  obtain ⟨k1,k2,k3,k4,k5⟩:=zG (zT (zT hx ham) hkm)
  refine qa rfl ?_;simp only [go_sem]
  refine qa qA.ln ?_
  simp only [go_sem]
  replace hK:=And.intro hK hk
  simp only [hK,List.map_cons,List.map_nil,Option.map_some,go_sem]
  refine qG (JV k1 (by omega) (by omega) c1 (by omega) (by omega)) ?_
  simp only [go_sem]
  refine qO (k:=4) (by rfl) (by simp [go_sem]) (qA.isAgg _) (by decide) ?_;simp only [go_sem]
  exact qy (.refl (by simp [go_sem]))
theorem qXN {b:qI} {x a c:qA} (hK:x.Kids=[a,c]):Pure Gm 759 [b.enc,.int .i64 2,x.enc] ((qA.mk 2 (opI x.Value a.Value c.Value) [] []).enc):=by
  refine Pure.intro [] [] Y0 (by kernel_rfl) rfl (by simp [AV.trees,AV.tree,go_sem]) (by simp [go_sem]) ?_
  simp only [Jz,qL,go_sem]
  refine qa rfl ?_;simp only [go_sem]
  refine qa qA.ln ?_
  simp only [go_sem]
  simp only [hK,List.map_cons,List.map_nil,Option.map_some,go_sem]
  refine qG qWV ?_
  simp only [go_sem]
  refine qG c726 ?_
  simp only [go_sem]
  refine qO (k:=4) (by rfl) (by simp [go_sem]) (qA.isAgg _) (by decide) ?_;simp only [go_sem]
  exact qy (.refl (by simp [go_sem]))
theorem qXO {b:qI} {x a:qA} (ho:x.ok=true) (hz:x.sz≤1048576) (hK:x.Kids=[a]) (hr:qW x=3):Pure Gm 759 [b.enc,.int .i64 3,x.enc] ((wo (jX x) a.Kids).enc):=by
  refine Pure.intro [] [] Y0 (by kernel_rfl) rfl (by simp [AV.trees,AV.tree,go_sem]) (by simp [go_sem]) ?_
  simp only [Jz,qL,go_sem]
  have ham:a∈x.Kids:=by rw [hK];simp
  have haz:=qA.kid_sz ham
  have hal:=a.len_sz
  have hd:x.Data.length<9223372036854775808:=by have:=x.sz_eq;omega
  obtain ⟨y,hK',h9 | h10⟩:=red3 ho hr
  · rw [hK'] at hK;cases hK
    have hK:=hK'
    refine qa rfl ?_;simp only [go_sem]
    refine qa qA.ln ?_
    simp only [go_sem]
    refine qD ?_ ?_<;>intro hc<;>simp only [hc,go_sem]
    rotate_left
    · exact absurd h9.1 (odF hc)
    obtain ⟨n,hV⟩:∃n:Nat,a.Value=n:=⟨a.Value.toNat,by omega⟩
    have hlt:n<x.Data.length:=by omega
    have hrd:jX x=x.Data[n]:=by
      unfold jX;rw [hK];simp only [];rw [if_neg (by omega),hV];simp [hlt]
    replace hK:=And.intro hK hV
    simp only [hK,List.map_cons,List.map_nil,Option.map_some,go_sem]
    simp only [List.getElem?_map,gEg hlt,Option.map_some,go_sem]
    simp only [qE,go_sem]
    simp only [hK,List.map_cons,List.map_nil,Option.map_some,go_sem]
    refine qG (qWW (by omega)) ?_
    simp only [go_sem]
    refine qO (k:=4) (by rfl) (by simp [go_sem]) (qA.isAgg _) (by decide) ?_;simp only [go_sem]
    rw [hrd]
    exact qy (.refl (by simp [go_sem]))
  · rw [hK'] at hK;cases hK
    have hK:=hK'
    obtain ⟨d,e,hD⟩:=zu h10.2.2
    have hrd:jX x=if a.Value=0 then e else d:=by
      unfold jX;rw [hK];simp only [];rw [if_pos h10.1,hD];rfl
    have hyk:a.Kids=[]:=qTP (qv ho ham) h10.2.1
    refine qa rfl ?_;simp only [go_sem]
    refine qa qA.ln ?_
    simp only [go_sem]
    refine qD ?_ ?_<;>intro hc<;>simp only [hc,go_sem]
    · have:=odT hc;omega
    replace hK:=And.intro hK hD
    simp only [hK,List.map_cons,List.map_nil,Option.map_some,go_sem]
    refine qG wm ?_
    simp only [go_sem]
    rw [hyk,hrd]
    by_cases h0:a.Value=0
    · rw [if_pos h0]
      simp only [h0,hD,List.map_cons,List.map_nil,go_sem]
      simp only [Option.map_some,qE,go_sem]
      refine qG qOE ?_
      simp only [go_sem]
      refine qO (k:=4) (by rfl) (by simp [go_sem]) (qA.isAgg _) (by decide) ?_;simp only [go_sem]
      exact qy (.refl (by simp [go_sem]))
    · rw [if_neg h0]
      simp only [show decide (a.Value=0)=false from decide_eq_false h0,go_sem]
      simp only [Option.map_some,qE,go_sem]
      refine qG qOE ?_
      simp only [go_sem]
      refine qO (k:=4) (by rfl) (by simp [go_sem]) (qA.isAgg _) (by decide) ?_;simp only [go_sem]
      exact qy (.refl (by simp [go_sem]))
theorem qXP {b:qI} {x a c:qA} {n:Nat} (ho:x.ok=true) (hz:x.sz≤1048576) (h5:x.Kind=5) (hK:x.Kids=[a,c]) (h11:a.Kind=11) (hV:a.Value=n) (hlt:n<b.Defs.length):Pure Gm 759 [b.enc,.int .i64 4,x.enc] ((zr b.Defs[n] c).enc):=by
  refine Pure.intro [] [] Y0 (by kernel_rfl) rfl (by simp [AV.trees,AV.tree,go_sem]) (by simp [go_sem]) ?_
  simp only [Jz,qL,go_sem]
  refine qa rfl ?_;simp only [go_sem]
  refine qa qA.ln ?_
  simp only [go_sem]
  refine zO (s769 (by rw [hK];simp) (by rw [hK];simp) ?_)
  simp only [go_sem]
  refine qO (k:=4) (by rfl) (by rfl) (by exact ⟨_,rfl⟩) (by decide) ?_;simp only [go_sem]
  have e11:decide (a.Kind=11)=true:=decide_eq_true h11
  replace hK:=And.intro hK hV
  simp only [hK,List.map_cons,List.map_nil,Option.map_some,go_sem]
  simp only [e11,go_sem]
  refine qG wm ?_
  simp only [go_sem]
  simp only [hK,List.map_cons,List.map_nil,Option.map_some,go_sem]
  simp only [List.getElem?_map,gEg hlt,Option.map_some,go_sem]
  rw [Zj (by omega) (by omega)]
  simp only [go_sem]
  refine jM (by simp [go_sem]) rfl rfl qA.putcore ?_
  simp only [go_sem]
  refine qO (k:=4) (by rfl) (by rfl) (by exact ⟨_,rfl⟩) (by decide) ?_;simp only [go_sem]
  have hn:=wx ho
  unfold zw wi inI at hn
  simp [shp,h5] at hn
  have e:zr b.Defs[n] c=qA.mk x.Kind x.Value x.Data [b.Defs[n],c]:=by
    unfold zr;rw [h5,hn.1.2,hn.1.1.2]
  rw [e]
  exact qy (QW rfl rfl)
end Go.Ab
namespace Go.Ab
open Go
set_option maxRecDepth 10000
set_option maxHeartbeats 2000000
attribute [local simp] zJ qf
def wl (p:Bool):AV:=.bool p
theorem j3 (I:List Bool):AV.trees (I.map wl)=true:=zg (enc:=wl) (fun _=>rfl) I
attribute [local simp] j3
def wM (b:qI) (lim:Int) (I:List Bool):AV:=.agg [.lst 4 (b.Defs.map qA.enc) false,.int .i64 lim,.lst 1 (I.map wl) false]
@[go_sem] theorem zGY {b:qI} {lim:Int} {I:List Bool}:(wM b lim I).part 0 (some 1)=some b.enc:=nr rfl
@[go_sem] theorem zGZ {b:qI} {lim:Int} {I:List Bool}:(wM b lim I).part 0 none=some (.lst 4 (b.Defs.map qA.enc) false):=nr rfl
@[go_sem] theorem zG0 {b:qI} {lim:Int} {I:List Bool}:(wM b lim I).part 2 none=some (.lst 1 (I.map wl) false):=nr rfl
@[go_sem] theorem zG1 {b:qI} {lim:Int} {I:List Bool}:(wM b lim I).tree=true:=by simp [wM,AV.tree,AV.trees,zJ,j3]
def jD (x c:qA) (l:Int):qA×Bool:=if (zQ x l).2=0 then (qA.put (zQ x l).1 c 0,true) else (qR,false)
theorem qY5 {h:List qC} {y:qA×Bool} (e:y=(qR,false)):Fin (some [.agg [.int .i64 0,.int .i64 0,.nils,.nils],.bool false]) h (.tup [y.1.enc,.bool y.2]):=by
  subst e;exact j7 (cv2 w6 rfl)
theorem qY6 {h:List qC} {x:qA} {p:Bool} {y:qA×Bool} (e:y=(x,p)):Fin (some [x.enc,.bool p]) h (.tup [y.1.enc,.bool y.2]):=by
  subst e;exact j7 (cv2 (.refl (by simp [go_sem])) rfl)
theorem qW8 {b:qI} {lim:Int} {I:List Bool} {x a c:qA} {l:Int} (hx:x.valid=true) (h7:x.Kind=7) (hK:x.Kids=[a,c]) (hs:z4 x l=true) (hl:0≤l∧l≤1000):Pure Gm 1172 [.ept (wM b lim I) 0,x.enc,.int .i64 l] (.tup [(jD x c l).1.enc,.bool (jD x c l).2]):=by
  refine Pure.intro [] [] qZ8 (by kernel_rfl) rfl (by simp [AV.trees,AV.tree,go_sem]) (by simp [AV.tree,AV.trees,go_sem]) ?_
  simp only [Wr,qL,go_sem]
  have ham:a∈x.Kids:=by rw [hK];simp
  have hcm:c∈x.Kids:=by rw [hK];simp
  have hav:=zT hx ham
  have hcv:=zT hx hcm
  obtain ⟨a1,a2,a3,a4,a5⟩:=zG hav
  obtain ⟨c1,c2,c3,c4,c5⟩:=zG hcv
  have hr:zQ x l=zA a (c.levels 0 l) l:=by unfold zQ;rw [hK]
  have hlv:(match c.levels 0 l with |[]=>true | n::_=>decide (n=l) || decide (n=l+1))=true:=by
    have:=hs
    unfold z4 at this
    rw [if_neg (by omega),if_pos h7,hK] at this
    simp only [List.getElem?_cons_succ,List.getElem?_cons_zero] at this
    rw [lv7,Bool.and_eq_true] at this
    exact this.2
  have ok:∀{h:List qC} {y:qA},zA a (c.levels 0 l) l=(y,0)→Fin (some [(qA.put y c 0).enc,.bool true]) h (.tup [(jD x c l).1.enc,.bool (jD x c l).2]):=fun e=>qY6 (by unfold jD;rw [hr,e,if_pos rfl])
  have bad:∀{h:List qC},zA a (c.levels 0 l) l=(qR,3)→Fin (some [.agg [.int .i64 0,.int .i64 0,.nils,.nils],.bool false]) h (.tup [(jD x c l).1.enc,.bool (jD x c l).2]):=fun e=>qY5 (by unfold jD;rw [hr,e];rfl)
  refine qa qA.ln ?_
  simp only [go_sem]
  simp only [hK,List.map_cons,List.map_nil,Option.map_some,go_sem]
  refine qO (k:=4) (by rfl) (by simp [go_sem]) (qA.isAgg _) (by decide) ?_;simp only [go_sem]
  refine qO (k:=4) (by rfl) (by simp [go_sem]) (qA.isAgg _) (by decide) ?_;simp only [go_sem]
  refine qO (k:=4) (by rfl) (by simp [go_sem]) (qA.isAgg _) (by decide) ?_;simp only [go_sem]
  have hacc:=qN2 c 0 l [] c1 (by omega) (by omega) (by omega) (by simp;omega)
  have hll:=qA.levels_len c 0 l
  rw [List.nil_append] at hacc
  generalize c.levels 0 l=L at hlv hacc hll ok bad hr
  by_cases h6:a.Kind=6
  · obtain ⟨k,hk⟩:=z7 ((qx a1).2 (by omega))
    have hkm:k∈a.Kids:=by rw [hk];simp
    obtain ⟨k1,k2,k3,k4,k5⟩:=zG (zT hav hkm)
    have hk0:zL a=k:=by unfold zL;rw [hk];rfl
    refine qD ?_ ?_<;>intro hc<;>simp only [hc,go_sem]
    rotate_left
    · exact absurd h6 (odF hc)
    replace hK:=And.intro hK hk
    simp only [hK,List.map_cons,List.map_nil,Option.map_some,go_sem]
    refine Qn qA.ln qA.putcore ?_
    simp only [go_sem]
    refine JW hacc rfl ?_
    intro h' id' hG
    simp only [go_sem]
    refine qD ?_ ?_<;>intro hc<;>simp only [hc,go_sem]
    · refine qG (JV c1 (by omega) (by omega) a1 (by omega) (by omega)) ?_
      simp only [go_sem]
      refine qO (k:=4) (by rfl) (by simp [go_sem]) (qA.isAgg _) (by decide) ?_;simp only [go_sem]
      exact ok (by unfold zA;rw [if_pos (by have:=odT hc;omega)])
    have h0:¬L.length=0:=by have:=odF hc;omega
    refine qD ?_ ?_<;>intro hc<;>simp only [hc,go_sem]
    · refine qG (JV c1 (by omega) (by omega) k1 (by omega) (by omega)) ?_
      simp only [go_sem]
      refine qO (k:=4) (by rfl) (by simp [go_sem]) (qA.isAgg _) (by decide) ?_;simp only [go_sem]
      exact ok (by unfold zA;rw [if_neg h0,if_neg (by omega),hk0,if_pos ⟨h6,odT hc⟩])
    have hn2:¬a.Kind=2:=by omega
    have hn6:¬(a.Kind=6∧(zL a).Kind=2):=by rw [hk0];exact fun h=>odF hc h.2
    refine qZ ?_ ?_<;>intro hc<;>simp only [hc,go_sem]
    rotate_left
    · have h1:¬L.length=1:=by simp at hc;omega
      refine qO (k:=4) (by rfl) (by rfl) (by exact ⟨_,rfl⟩) (by decide) ?_;simp only [go_sem]
      exact bad (by unfold zA;rw [if_neg h0,if_neg hn2,if_neg hn6,if_neg (fun h=>h1 h.1),if_neg (fun h=>h1 h.1)])
    have h1:=odT hc
    obtain ⟨n,rfl⟩:∃n,L=[n]:=z7 (by omega)
    simp only [go_sem]
    rw [J4 hG.at']
    simp only [go_sem]
    refine qD ?_ ?_<;>intro hc<;>simp only [hc,go_sem]
    · have hnl:=odT hc
      refine qG (JV c1 (by omega) (by omega) a1 (by omega) (by omega)) ?_
      simp only [go_sem]
      refine qO (k:=4) (by rfl) (by simp [go_sem]) (qA.isAgg _) (by decide) ?_;simp only [go_sem]
      exact ok (by unfold zA;rw [if_neg h0,if_neg hn2,if_neg hn6,if_pos ⟨rfl,by rw [hnl];rfl⟩])
    have hnl:=odF hc
    have hn1:n=l+1:=by simp [hnl] at hlv;exact hlv
    have h8:¬([n].length=1∧[n].head?=some l):=by rintro ⟨_,h⟩;simp at h;exact hnl h
    refine qZ ?_ ?_<;>intro hc<;>simp only [hc,go_sem]
    rotate_left
    · exact absurd hc (by simp)
    rw [J4 hG.at']
    simp only [go_sem]
    rw [qi (by omega) (by omega)]
    refine qZ ?_ ?_<;>intro hc<;>simp only [hc,go_sem]
    rotate_left
    · exact absurd hn1 (by simpa using hc)
    refine qD ?_ ?_<;>intro hc<;>simp only [hc,go_sem]
    · refine qG (JV c1 (by omega) (by omega) k1 (by omega) (by omega)) ?_
      simp only [go_sem]
      refine qO (k:=4) (by rfl) (by simp [go_sem]) (qA.isAgg _) (by decide) ?_;simp only [go_sem]
      exact ok (by unfold zA;rw [if_neg h0,if_neg hn2,if_neg hn6,if_neg h8,if_pos ⟨rfl,h6⟩,hk0])
    · exact absurd h6 (odF hc)
  · refine qD ?_ ?_<;>intro hc<;>simp only [hc,go_sem]
    · exact absurd (odT hc) h6
    refine JW hacc rfl ?_
    intro h' id' hG
    simp only [go_sem]
    refine qD ?_ ?_<;>intro hc<;>simp only [hc,go_sem]
    · refine qG (JV c1 (by omega) (by omega) a1 (by omega) (by omega)) ?_
      simp only [go_sem]
      refine qO (k:=4) (by rfl) (by simp [go_sem]) (qA.isAgg _) (by decide) ?_;simp only [go_sem]
      exact ok (by unfold zA;rw [if_pos (by have:=odT hc;omega)])
    have h0:¬L.length=0:=by have:=odF hc;omega
    refine qD ?_ ?_<;>intro hc<;>simp only [hc,go_sem]
    · refine qG (JV c1 (by omega) (by omega) a1 (by omega) (by omega)) ?_
      simp only [go_sem]
      refine qO (k:=4) (by rfl) (by simp [go_sem]) (qA.isAgg _) (by decide) ?_;simp only [go_sem]
      exact ok (by unfold zA;rw [if_neg h0,if_pos (odT hc)])
    have hn2:¬a.Kind=2:=odF hc
    have hn6:¬(a.Kind=6∧(zL a).Kind=2):=fun h=>h6 h.1
    refine qZ ?_ ?_<;>intro hc<;>simp only [hc,go_sem]
    rotate_left
    · have h1:¬L.length=1:=by simp at hc;omega
      refine qO (k:=4) (by rfl) (by rfl) (by exact ⟨_,rfl⟩) (by decide) ?_;simp only [go_sem]
      exact bad (by unfold zA;rw [if_neg h0,if_neg hn2,if_neg hn6,if_neg (fun h=>h1 h.1),if_neg (fun h=>h1 h.1)])
    have h1:=odT hc
    obtain ⟨n,rfl⟩:∃n,L=[n]:=z7 (by omega)
    simp only [go_sem]
    rw [J4 hG.at']
    simp only [go_sem]
    refine qD ?_ ?_<;>intro hc<;>simp only [hc,go_sem]
    · have hnl:=odT hc
      refine qG (JV c1 (by omega) (by omega) a1 (by omega) (by omega)) ?_
      simp only [go_sem]
      refine qO (k:=4) (by rfl) (by simp [go_sem]) (qA.isAgg _) (by decide) ?_;simp only [go_sem]
      exact ok (by unfold zA;rw [if_neg h0,if_neg hn2,if_neg hn6,if_pos ⟨rfl,by rw [hnl];rfl⟩])
    have hnl:=odF hc
    have hn1:n=l+1:=by simp [hnl] at hlv;exact hlv
    have h8:¬([n].length=1∧[n].head?=some l):=by rintro ⟨_,h⟩;simp at h;exact hnl h
    refine qZ ?_ ?_<;>intro hc<;>simp only [hc,go_sem]
    rotate_left
    · exact absurd hc (by simp)
    rw [J4 hG.at']
    simp only [go_sem]
    rw [qi (by omega) (by omega)]
    refine qZ ?_ ?_<;>intro hc<;>simp only [hc,go_sem]
    rotate_left
    · exact absurd hn1 (by simpa using hc)
    refine qD ?_ ?_<;>intro hc<;>simp only [hc,go_sem]
    · exact absurd (odT hc) h6
    refine qO (k:=4) (by rfl) (by rfl) (by exact ⟨_,rfl⟩) (by decide) ?_;simp only [go_sem]
    exact bad (by unfold zA;rw [if_neg h0,if_neg hn2,if_neg hn6,if_neg h8,if_neg (fun h=>h6 h.2)])
end Go.Ab
namespace Go.Ab
open Go
set_option maxRecDepth 10000
set_option maxHeartbeats 2000000
attribute [local simp] zJ qf j3
def at1 (b:qI) (I:List Bool) (x a c:qA) (l:Int):qA×Int:=
  if qW x=2 then (.mk 2 (opI x.Value a.Value c.Value) [] [],1) else if qW x=3 then (wo (jX x) a.Kids,2)
  else if qW x=1 then (qA.put c (zL a) 0,3)
  else if x.Kind=5∧a.Kind=11∧I.getD a.Value.toNat false=true∧l+(b.Defs.getD a.Value.toNat qR).boxes≤8 then (zr (b.Defs.getD a.Value.toNat qR) c,5)
  else if x.Kind=7∧(jD x c l).2=true then ((jD x c l).1,4) else (qR,0)
def atC (b:qI) (I:List Bool) (x:qA) (l:Int):qA×Int:=match x.Kids with
  |[]=>(qR,0)
  | a::ys=>at1 b I x a (ys.headD qR) l
theorem J2 {b:qI} {I:List Bool} {x a:qA} {ys:List qA} {l:Int} (hK:x.Kids=a::ys):atC b I x l=at1 b I x a (ys.headD qR) l:=by unfold atC;rw [hK]
theorem YX {b:qI} {I:List Bool} {x a c:qA} {l:Int} (hK:x.Kids=[a,c]):atC b I x l=at1 b I x a c l:=by
  rw [J2 hK,List.headD_cons]
theorem qe4 {x a:qA} {ys:List qA} (h5:x.Kind=5) (hK:x.Kids=a::ys) (h11:a.Kind=11):qW x=4:=by
  unfold qW;rw [hK];simp only [];rw [if_pos h5,if_neg (by omega),if_pos h11]
theorem Qe {h:List qC} {x:qA} {p:Int} {y:qA×Int} (e:y=(x,p)):Fin (some [x.enc,.int .i64 p]) h (.tup [y.1.enc,.int .i64 y.2]):=by
  subst e;exact j7 (cv2 (.refl (by simp [go_sem])) rfl)
theorem Qf {h:List qC} {y:qA×Int} (e:y=(qR,0)):Fin (some [.agg [.int .i64 0,.int .i64 0,.nils,.nils],.int .i64 0]) h (.tup [y.1.enc,.int .i64 y.2]):=by
  subst e;exact j7 (cv2 w6 rfl)
theorem qUA {x:qA} (ho:x.ok=true):qW x=0∨(qW x=1∧x.Kind=5∧∃a c k,x.Kids=[a,c]∧a.Kind=4∧a.Kids=[k])∨(qW x=2∧x.Kind=3∧∃a c,x.Kids=[a,c]∧a.Kind=2∧c.Kind=2)∨(qW x=3∧∃a,x.Kids=[a])∨(qW x=4∧∃a ys,x.Kids=a::ys∧(x.Kind=5→a.Kind=11)):=by
  by_cases h5:x.Kind=5
  · obtain ⟨a,c,hK⟩:=zu ((qx ho).1 (by omega))
    have ham:a∈x.Kids:=by rw [hK];simp
    have hr:qW x=if a.Kind=4 then 1 else if a.Kind=11 then 4 else 0:=by unfold qW;rw [hK];simp only [];rw [if_pos h5]
    by_cases h4:a.Kind=4
    · obtain ⟨k,hk⟩:=z7 ((qx (qv ho ham)).2 (.inl h4))
      exact .inr (.inl ⟨by rw [hr,if_pos h4],h5,a,c,k,hK,h4,hk⟩)
    · by_cases h11:a.Kind=11
      · exact .inr (.inr (.inr (.inr ⟨by rw [hr,if_neg h4,if_pos h11],a,[c],hK,fun _=>h11⟩)))
      · exact .inl (by rw [hr,if_neg h4,if_neg h11])
  by_cases h3:x.Kind=3
  · obtain ⟨a,c,hK⟩:=zu ((qx ho).1 (by omega))
    have hr:qW x=if a.Kind=11 then 4 else if a.Kind=2 then (if c.Kind=2 then 2 else if c.Kind=11 then 4 else 0) else 0:=by unfold qW;rw [hK];simp only [];rw [if_neg h5,if_pos h3]
    by_cases h11:a.Kind=11
    · exact .inr (.inr (.inr (.inr ⟨by rw [hr,if_pos h11],a,[c],hK,fun h=>absurd h h5⟩)))
    · by_cases h2:a.Kind=2
      · by_cases c2:c.Kind=2
        · exact .inr (.inr (.inl ⟨by rw [hr,if_neg h11,if_pos h2,if_pos c2],h3,a,c,hK,h2,c2⟩))
        · by_cases c11:c.Kind=11
          · exact .inr (.inr (.inr (.inr ⟨by rw [hr,if_neg h11,if_pos h2,if_neg c2,if_pos c11],a,[c],hK,fun h=>absurd h h5⟩)))
          · exact .inl (by rw [hr,if_neg h11,if_pos h2,if_neg c2,if_neg c11])
      · exact .inl (by rw [hr,if_neg h11,if_neg h2])
  by_cases h9:x.Kind=9∨x.Kind=10
  · obtain ⟨a,hK⟩:=z7 ((qx ho).2 (by omega))
    by_cases e0:qW x=0
    · exact .inl e0
    by_cases e3:qW x=3
    · exact .inr (.inr (.inr (.inl ⟨e3,a,hK⟩)))
    · refine .inr (.inr (.inr (.inr ⟨?_,a,[],hK,fun h=>absurd h h5⟩)))
      unfold qW at e0 e3⊢
      rw [hK] at e0 e3⊢
      simp only [] at e0 e3⊢
      rw [if_neg h5,if_neg h3] at e0 e3⊢
      split at e0<;>rename_i hh
      · rw [if_pos hh] at e3⊢
        split at e0<;>simp_all
      · rw [if_neg hh] at e3⊢
        split at e0<;>simp_all
  · exact .inl (Qz h5 h3 (fun h=>h9 (.inl h)) (fun h=>h9 (.inr h)))
theorem c850 {b:qI} {lim:Int} {I:List Bool} {x:qA} {l:Int} (hb:b.ok=true) (hbz:b.sz≤1048576) (hx:x.valid=true) (hf:x.refs b.Defs.length=true) (hI:I.length=b.Defs.length) (hs:x.strat l=true) (hl:0≤l∧l≤1000):Pure Gm 850 [.ept (wM b lim I) 0,x.enc,.int .i64 l] (.tup [(atC b I x l).1.enc,.int .i64 (atC b I x l).2]):=by
  refine Pure.intro [] [] g850 (by kernel_rfl) rfl (by simp [AV.trees,AV.tree,go_sem]) (by simp [AV.tree,AV.trees,go_sem]) ?_
  simp only [YE,qL,go_sem]
  obtain ⟨ho,hd,hsz,hz,hv⟩:=zG hx
  have hlv:z4 x l=true:=by
    rw [x.strat_eq] at hs;simp only [Bool.and_eq_true] at hs;exact hs.1.2
  refine qa qA.ln ?_
  simp only [go_sem]
  refine qG (c758 (by omega) ho) ?_
  simp only [go_sem]
  rcases qUA ho with h0 | ⟨h1,h5,a,c,k,hK,h4,hk⟩ | ⟨h2,h3,a,c,hK,ha,hc2⟩ | ⟨h3,a,hK⟩ | ⟨h4,a,ys,hK,h11⟩
  · rw [h0]
    simp only [show decide ((0:Int)=2)=false from rfl,show decide ((0:Int)=3)=false from rfl,show decide ((0:Int)=1)=false from rfl,show decide ((0:Int)=4)=false from rfl,go_sem]
    refine qD ?_ ?_<;>intro hc<;>simp only [hc,go_sem]
    · have h7:=odT hc
      obtain ⟨a,c,hK⟩:=zu ((qx ho).1 (by omega))
      refine qG (qW8 hx h7 hK hlv hl) ?_
      simp only [go_sem]
      refine qO (k:=4) (by rfl) (by simp [go_sem]) (qA.isAgg _) (by decide) ?_;simp only [go_sem]
      have hat:atC b I x l=if (jD x c l).2=true then ((jD x c l).1,4) else (qR,0):=by
        rw [YX hK];unfold at1
        rw [if_neg (by omega),if_neg (by omega),if_neg (by omega),if_neg (by omega)]
        by_cases e:(jD x c l).2=true
        · rw [if_pos ⟨h7,e⟩,if_pos e]
        · rw [if_neg (fun h=>e h.2),if_neg e]
      refine qD ?_ ?_<;>intro hc<;>simp only [hc,go_sem]
      · refine qO (k:=4) (by rfl) (by simp [go_sem]) (qA.isAgg _) (by decide) ?_;simp only [go_sem]
        exact Qe (by rw [hat,if_pos hc])
      · refine qO (k:=4) (by rfl) (by rfl) (by exact ⟨_,rfl⟩) (by decide) ?_;simp only [go_sem]
        exact Qf (by rw [hat,if_neg (by simp [hc])])
    · have h7:=odF hc
      refine qO (k:=4) (by rfl) (by rfl) (by exact ⟨_,rfl⟩) (by decide) ?_;simp only [go_sem]
      exact Qf (by
        cases hK:x.Kids with
        | nil=>unfold atC;rw [hK]
        | cons a ys=>
          rw [J2 hK];unfold at1
          rw [if_neg (by omega),if_neg (by omega),if_neg (by omega),if_neg (fun h=>by have:=qe4 h.1 hK h.2.1;omega),if_neg (fun h=>h7 h.1)])
  · rw [h1]
    simp only [show decide ((1:Int)=2)=false from rfl,show decide ((1:Int)=3)=false from rfl,go_sem]
    refine qG (qXM hx hK hk) ?_
    simp only [go_sem]
    refine qO (k:=4) (by rfl) (by simp [go_sem]) (qA.isAgg _) (by decide) ?_;simp only [go_sem]
    exact Qe (by rw [YX hK];unfold at1;rw [if_neg (by omega),if_neg (by omega),if_pos h1];unfold zL;rw [hk];rfl)
  · rw [h2]
    simp only [go_sem]
    refine qG (qXN hK) ?_
    simp only [go_sem]
    refine qO (k:=4) (by rfl) (by simp [go_sem]) (qA.isAgg _) (by decide) ?_;simp only [go_sem]
    exact Qe (by rw [YX hK];unfold at1;rw [if_pos h2])
  · rw [h3]
    simp only [show decide ((3:Int)=2)=false from rfl,go_sem]
    refine qG (qXO ho (by omega) hK h3) ?_
    simp only [go_sem]
    refine qO (k:=4) (by rfl) (by simp [go_sem]) (qA.isAgg _) (by decide) ?_;simp only [go_sem]
    exact Qe (by rw [J2 hK];unfold at1;rw [if_neg (by omega),if_pos h3])
  · rw [h4]
    simp only [show decide ((4:Int)=2)=false from rfl,show decide ((4:Int)=3)=false from rfl,show decide ((4:Int)=1)=false from rfl,go_sem]
    simp only [hK,List.map_cons,List.map_nil,Option.map_some,go_sem]
    refine qZ ?_ ?_<;>intro hc<;>simp only [hc,go_sem]
    · have h5:=odT hc
      have ham:a∈x.Kids:=by rw [hK];simp
      have hav:=Vl (qv ho ham) (wy hf ham) (h11 h5)
      obtain ⟨n,hV⟩:∃n:Nat,a.Value=n:=⟨a.Value.toNat,by omega⟩
      have hlt:n<b.Defs.length:=by omega
      have hltI:n<I.length:=by omega
      obtain ⟨c,hy⟩:∃c,ys=[c]:=by
        obtain ⟨u,v,hK'⟩:=zu ((qx ho).1 (by omega))
        rw [hK'] at hK;cases hK;exact ⟨_,rfl⟩
      subst hy
      have hat:atC b I x l=if I[n]=true∧l+b.Defs[n].boxes≤8 then (zr b.Defs[n] c,5) else (qR,0):=by
        rw [YX hK];unfold at1
        rw [if_neg (by omega),if_neg (by omega),if_neg (by omega),hV]
        simp only [Int.toNat_natCast,List.getD_eq_getElem?_getD,gEg hltI,gEg hlt,Option.getD_some]
        by_cases e:I[n]=true∧l+b.Defs[n].boxes≤8
        · rw [if_pos e,if_pos ⟨h5,h11 h5,e⟩]
        · rw [if_neg e,if_neg (fun h=>e h.2.2),if_neg (fun h=>by omega)]
      have hK0:=hK
      replace hK:=And.intro hK hV
      simp only [hK,List.map_cons,List.map_nil,Option.map_some,go_sem]
      simp only [List.getElem?_map,gEg hltI,Option.map_some,go_sem]
      simp only [wl,go_sem]
      have hdv:=zG ((Jx hb).2 _ (List.getElem_mem hlt)).1
      have hbd:=b.Defs[n].boxes_dep
      refine qZ ?_ ?_<;>intro hc<;>simp only [hc,go_sem]
      · have hi:=hc
        simp only [List.getElem?_map,gEg hlt,Option.map_some,go_sem]
        refine qG (qW7 b.Defs[n] hdv.1 (by omega) (by omega)) ?_
        simp only [go_sem]
        rw [qi (by omega) (by omega)]
        refine qD ?_ ?_<;>intro hc<;>simp only [hc,go_sem]
        · refine qG (qXP ho (by omega) h5 hK0 (h11 h5) hV hlt) ?_
          simp only [go_sem]
          refine qO (k:=4) (by rfl) (by simp [go_sem]) (qA.isAgg _) (by decide) ?_;simp only [go_sem]
          exact Qe (by rw [hat,if_pos ⟨hi,odT hc⟩])
        have hn:=odF hc
        refine qD ?_ ?_<;>intro hc<;>simp only [hc,go_sem]
        · have:=odT hc;omega
        refine qO (k:=4) (by rfl) (by rfl) (by exact ⟨_,rfl⟩) (by decide) ?_;simp only [go_sem]
        exact Qf (by rw [hat,if_neg (fun h=>hn h.2)])
      · have hn:¬I[n]=true:=by simp at hc;simp [hc]
        refine qD ?_ ?_<;>intro hc<;>simp only [hc,go_sem]
        · have:=odT hc;omega
        refine qO (k:=4) (by rfl) (by rfl) (by exact ⟨_,rfl⟩) (by decide) ?_;simp only [go_sem]
        exact Qf (by rw [hat,if_neg (fun h=>hn h.1)])
    · have h5:¬x.Kind=5:=by simpa using hc
      have h7:¬x.Kind=7:=fun h=>by have:=Qz (x:=x) (by omega) (by omega) (by omega) (by omega);omega
      refine qD ?_ ?_<;>intro hc<;>simp only [hc,go_sem]
      · exact absurd (odT hc) h7
      refine qO (k:=4) (by rfl) (by rfl) (by exact ⟨_,rfl⟩) (by decide) ?_;simp only [go_sem]
      exact Qf (by rw [J2 hK];unfold at1;rw [if_neg (by omega),if_neg (by omega),if_neg (by omega),if_neg (fun h=>h5 h.1),if_neg (fun h=>h7 h.1)])
end Go.Ab
namespace Go.Ab
open Go
set_option maxRecDepth 10000
set_option maxHeartbeats 2000000
attribute [local simp] zJ qf j3
def wX (x:qA):List (Int→qA×Int)→Nat→Int→qA×Int
  |[],_,_=>(qR,0)
  | r::rs,i,l=>if (r l).2=0 then wX x rs (i+1) l else (.mk x.Kind x.Value x.Data (x.Kids.set i (r l).1),(r l).2)
def jQ (b:qI) (I:List Bool):qA→Int→qA×Int:=qA.fold fun x rs l=>
  if (atC b I x l).2=0 then wX x rs 0 (l+qd x.Kind) else atC b I x l
theorem Vu (b:qI) (I:List Bool) (x:qA) (l:Int):jQ b I x l=
    if (atC b I x l).2=0 then wX x (x.Kids.map (jQ b I)) 0 (l+qd x.Kind) else atC b I x l:=by
  unfold jQ;rw [qA.fold_eq]
theorem qOZ {x:qA} {f:qA→Int→qA×Int} {i:Nat} {l:Int} (h:i<x.Kids.length):
    wX x ((x.Kids.drop i).map f) i l=if (f x.Kids[i] l).2=0 then wX x ((x.Kids.drop (i+1)).map f) (i+1) l else (.mk x.Kind x.Value x.Data (x.Kids.set i (f x.Kids[i] l).1),(f x.Kids[i] l).2):=by
  rw [List.drop_eq_getElem_cons h,List.map_cons,wX]
theorem qY7 {h:List qC} {v:AV} {g:qA} {p:Int} {y:qA×Int} (hc:Cv h v g.enc) (e:y=(g,p)):Fin (some [v,.int .i64 p]) h (.tup [y.1.enc,.int .i64 y.2]):=by
  subst e;exact j7 (cv2 hc rfl)
theorem c494 (x:qA):∀(b:qI) (lim:Int) (I:List Bool) (l:Int) (hb:b.ok=true) (hbz:b.sz≤1048576) (hx:x.valid=true) (hf:x.refs b.Defs.length=true) (hIl:I.length=b.Defs.length) (hs:x.strat l=true) (hl:0≤l∧l≤1000),Pure Gm 494 [.ept (wM b lim I) 0,x.enc,.int .i64 l] (.tup [(jQ b I x l).1.enc,.int .i64 (jQ b I x l).2]):=by
  induction x using qA.ind with
  | _ x ih=>
  intro b lim I l hb hbz hx hf hIl hs hl
  refine Pure.intro [] [] g494 (by kernel_rfl) rfl (by simp [AV.trees,AV.tree,go_sem]) (by simp [AV.tree,AV.trees,go_sem]) ?_
  simp only [Xd,qL,go_sem]
  obtain ⟨ho,hd,hsz,hz,hv⟩:=zG hx
  have hL:=x.len_sz
  have hres:=Vu b I x l
  have hbx:=ZS x.Kind
  have hst:l≤8∧∀y∈x.Kids,y.strat (l+qd x.Kind)=true:=by
    rw [x.strat_eq] at hs;simp only [Bool.and_eq_true,List.all_eq_true,decide_eq_true_eq] at hs;exact ⟨hs.1.1,hs.2⟩
  refine qa qA.ln ?_
  simp only [go_sem]
  refine qG (c850 hb hbz hx hf hIl hs hl) ?_
  simp only [go_sem]
  refine qO (k:=4) (by rfl) (by simp [go_sem]) (qA.isAgg _) (by decide) ?_;simp only [go_sem]
  refine qD ?_ ?_<;>intro hc<;>simp only [hc,go_sem]
  · refine qO (k:=4) (by rfl) (by simp [go_sem]) (qA.isAgg _) (by decide) ?_;simp only [go_sem]
    rw [if_neg (by simpa using hc)] at hres
    exact Qe (by rw [hres])
  rw [if_pos (by simpa using hc)] at hres
  refine Sem.loop (fun i:Nat=>i≤x.Kids.length∧jQ b I x l=wX x ((x.Kids.drop i).map (jQ b I)) i (l+qd x.Kind)) (fun i=>(⟨[(0,.ept (wM b lim I) 0),(2,.int .i64 l),(27,.lst 4 (x.Kids.map qA.enc) false),(28,.int .i64 (x.Kids.length:Nat)),(29,.int .i64 (i:Nat))],[(4,x.enc),(6,.agg [.int .i64 0,.int .i64 0,.nils,.nils])],[]⟩:VSt)) (fun i=>x.Kids.length-i) 0 (by kernel_rfl) ⟨Nat.zero_le _,hres⟩ (Can.sub (by simp [go_sem]) (by simp [go_sem])) ?_
  rintro i ⟨hi,hI⟩
  simp only [go_sem]
  refine qD ?_ ?_<;>intro hc<;>simp only [hc,go_sem]
  · have hlt:i<x.Kids.length:=by have:=odT hc;omega
    simp only [List.getElem?_map,gEg hlt,Option.map_some,go_sem]
    have hkm:=List.getElem_mem hlt
    refine qO (k:=4) (by rfl) (by simp [go_sem]) (qA.isAgg _) (by decide) ?_;simp only [go_sem]
    refine qG wm ?_
    simp only [go_sem]
    rw [ZR,qi (n:=l+qd x.Kind) (by omega) (by omega)]
    refine qG (ih _ hkm b lim I (l+qd x.Kind) hb hbz (zT hx hkm) (wy hf hkm) hIl (hst.2 _ hkm) (by omega)) ?_
    simp only [go_sem]
    refine qO (k:=4) (by rfl) (by simp [go_sem]) (qA.isAgg _) (by decide) ?_;simp only [go_sem]
    rw [qOZ hlt] at hI
    refine qD ?_ ?_<;>intro hc<;>simp only [hc,go_sem]
    · rw [if_neg (by simpa using hc)] at hI
      refine zO (s769 (by intro e;rw [e] at hlt;simp at hlt) (by omega) ?_)
      simp only [go_sem]
      refine qO (k:=4) (by rfl) (by rfl) (by exact ⟨_,rfl⟩) (by decide) ?_;simp only [go_sem]
      rw [z0 hlt]
      simp only [Nat.zero_add,go_sem]
      refine jM (by simp [go_sem]) rfl (by simp [hlt];rfl) qA.putcore ?_
      simp only [go_sem]
      refine qO (k:=4) (by rfl) (by rfl) (by exact ⟨_,rfl⟩) (by decide) ?_;simp only [go_sem]
      exact qY7 (QW (by simp [List.map_set]) (by simp)) hI
    · rw [if_pos (by simpa using hc)] at hI
      simp only [qe (show i<4611686018427387904 by omega)];refine qY (i+1) ⟨by omega, ?_⟩ (by omega) (Can.sub (by simp [go_sem]) (by simp [go_sem]))
      exact hI
  · obtain rfl:i=x.Kids.length:=by have:=odF hc;omega
    refine qO (k:=4) (by rfl) (by rfl) (by exact ⟨_,rfl⟩) (by decide) ?_;simp only [go_sem]
    exact Qf (by rw [hI,List.drop_length];rfl)
end Go.Ab
namespace Go.Ab
open Go
set_option maxRecDepth 10000
set_option maxHeartbeats 2000000
def RW (h:List qC) (id:Nat) (ys:List Int):List qC:=h.set id (.row 1 (ys.map qE) true)
def gI (ys:List Int) (e:Int):Int:=ys.getD e.toNat 0
def swI (ys:List Int) (i j:Int):List Int:=(ys.set i.toNat (gI ys j)).set j.toNat (gI ys i)
theorem qgQ {ys:List Int} {i j:Int}:(swI ys i j).length=ys.length:=by simp [swI]
theorem jN {ys:List Int} {i j:Int} (hi:0≤i) (hi2:i<ys.length) (hj:0≤j) (hj2:j<ys.length):(swI ys i j).Perm ys:=by
  have h1:i.toNat<ys.length:=by omega
  have h2:j.toNat<ys.length:=by omega
  have:=List.set_set_perm h1 h2
  unfold swI gI
  rwa [List.getD_eq_getElem?_getD,List.getD_eq_getElem?_getD,gEg h1,gEg h2]
theorem qN1 {h:List qC} {id:Nat} {ys:List Int}:(RW h id ys).length=h.length:=by simp [RW]
theorem qQO {h:List qC} {id:Nat} {ys:List Int} (hid:id<h.length):(RW h id ys)[id]?=some (.row 1 (ys.map qE) true):=by simp [RW,hid]
theorem qV3 {h:List qC} {id:Nat} {ys zs:List Int}:(RW h id ys).set id (.row 1 (zs.map qE) true)=RW h id zs:=by simp [RW]
theorem qN0 {h ex:List qC} {id:Nat} {ys:List Int} (hid:id<h.length):RW h id ys++ex=RW (h++ex) id ys:=by simp [RW,List.set_append_left,hid]
theorem qV2 {h:List qC} {id:Nat} {ys:List Int} (ho:h[id]?=some (.row 1 (ys.map qE) true)):RW h id ys=h:=qUU ho
theorem qS {w id len:Nat} {k:IntKind} {n:Int} (h0:0≤n) (h:n<len):idx w (some (.slice w id 0 len false)) (some (.int k n))=some (.ptr id n.toNat 0):=by rw [Zj h0 h,Nat.zero_add]
theorem qT {h:List qC} {id:Nat} {ys:List Int} {e:Int} (hid:id<h.length) (h0:0≤e) (he:e<ys.length):jr none 0 e.toNat (RW h id ys)[id]?=some (.int .i64 (gI ys e)):=by
  have h1:e.toNat<ys.length:=by omega
  rw [qQO hid,gI,List.getD_eq_getElem?_getD,gEg h1]
  simp only [jr,List.getElem?_map,gEg h1,Option.map_some,qE,Option.getD_some]
  rfl
section
variable {E:Ev} {ks:List Fr1} {s m:qg} {h:List qC} {Q:qX→VSt→Prop} {l:List qB}
theorem zD {id:Nat} {ys:List Int} {e v:Int} (hid:id<h.length) (h0:0≤e) (he:e<ys.length):
    R E (.ops l::ks) ⟨s,m,RW h id (ys.set e.toNat v)⟩ Q→Sto E 1 (some (.ptr id e.toNat 0)) (some (.int .i64 v)) l ks ⟨s,m,RW h id ys⟩ Q:=by
  intro hr
  have h1:e.toNat<ys.length:=by omega
  refine jM (by rfl) (qQO hid) (by rw [List.getElem?_map,gEg h1];rfl) (by rfl) ?_
  have hm:(ys.map qE).set e.toNat (.int .i64 v)=(ys.set e.toNat v).map qE:=by simp [List.map_set,qE]
  rw [hm,qV3];exact hr
theorem qP {n:Int} (h: -9223372036854775808≤n) (h':n≤9223372036854775807):IntKind.i64.wrap n=n:=qi h h'
end
theorem qW4 (a:Int):Pure Gm 1167 [.int .i64 a] (.bool false):=by
  refine Pure.intro [] [] qZ3 (by kernel_rfl) rfl (by simp [AV.trees,AV.tree,go_sem]) rfl ?_
  simp only [Wm,qL,go_sem]
  repeat' (first | (refine qa rfl ?_;simp only [go_sem]) | (first | (refine qZ ?_ ?_<;>intro hc<;>simp only [hc,go_sem]) | (refine qD ?_ ?_<;>intro hc<;>simp only [hc,go_sem])) | refine qK rfl ?_ | refine jU (by rfl) ?_)
  all_goals (simp_all<;>omega)
theorem jT (a b:Int):Pure Gm 1345 [.int .i64 a,.int .i64 b] (.bool (decide (a<b))):=by
  refine Pure.intro [] [] qaL (by kernel_rfl) rfl (by simp [AV.trees,AV.tree,go_sem]) rfl ?_
  simp only [W5,qL,go_sem]
  refine qG (qW4 _) ?_
  simp only [go_sem]
  exact qK rfl rfl
theorem qfQ {h:List qC} {id n:Nat} {xs:List Int} {a b:Int} {K:AV→List qC→Prop} (hid:id<h.length) (hn:xs.length=n) (hl:n≤4194304) (hab:0≤a∧a≤b∧b≤n)
    (hK:∀ys,ys.Perm xs→K (.tup []) (RW h id ys)):SCall Gm 1339 [.slice 1 id 0 n false,.int .i64 a,.int .i64 b] (RW h id xs) K:=by
  refine SCall.run [] [] qaF (by kernel_rfl) rfl ?_
  simp only [Wz,qL,go_sem]
  rw [qP (by omega) (by omega)]
  refine Sem.loop (fun q:Int×List Int=>a+1≤q.1∧q.1≤max b (a+1)∧q.2.Perm xs) (fun q=>(⟨[(0,.slice 1 id 0 n false),(1,.int .i64 a),(2,.int .i64 b),(6,.int .i64 q.1)],[],RW h id q.2⟩:VSt)) (fun q=>(b-q.1).toNat) (a+1,xs) (by kernel_rfl) ⟨by simp only;omega,by simp only;omega,.refl _⟩ (Can.sub (by simp [go_sem]) (by simp [go_sem])) ?_
  rintro ⟨i,ys⟩ ⟨h1,h2,h3⟩
  simp only at h1 h2 h3⊢
  have hyl:=h3.length_eq
  simp only [go_sem]
  refine qD ?_ ?_<;>intro hc<;>simp only [hc,go_sem]
  · have hib:=odT hc
    refine Sem.loop (fun q:Int×List Int=>a≤q.1∧q.1≤i∧q.2.Perm xs) (fun q=>(⟨[(0,.slice 1 id 0 n false),(1,.int .i64 a),(2,.int .i64 b),(6,.int .i64 i),(7,.int .i64 q.1)],[],RW h id q.2⟩:VSt)) (fun q=>(q.1-a).toNat) (i,ys) (by kernel_rfl) ⟨by simp only;omega,by simp only;omega,h3⟩ (Can.sub (by simp [go_sem]) (by simp [go_sem])) ?_
    rintro ⟨j,zs⟩ ⟨g1,g2,g3⟩
    simp only at g1 g2 g3⊢
    have hzl:=g3.length_eq
    simp only [go_sem]
    refine qZ ?_ ?_<;>intro hc<;>simp only [hc,go_sem]
    · have hja:=odT hc
      simp (disch:=omega) only [go_sem,qP,qS,qT]
      refine qG (jT _ _) ?_
      simp only [go_sem]
      refine qD ?_ ?_<;>intro hc<;>simp only [hc,go_sem]
      · simp (disch:=omega) only [go_sem,qP,qS,qT]
        refine zD hid (by omega) (by omega) ?_;simp (disch:=omega) only [go_sem,qP,qS,qT];refine zD hid (by omega) (by rw [List.length_set];omega) ?_;simp (disch:=omega) only [go_sem,qP,qS,qT]
        refine qY (j-1,swI zs j (j-1)) ⟨by simp only;omega,by simp only;omega,(jN (by omega) (by omega) (by omega) (by omega)).trans g3⟩ (by simp only;omega) (Can.sub (by simp [go_sem]) (by simp [go_sem]))
      · simp (disch:=omega) only [go_sem,qP,qS,qT]
        refine qY (i+1,zs) ⟨by simp only;omega,by simp only;omega,g3⟩ (by simp only;omega) (Can.sub (by simp [go_sem]) (by simp [go_sem]))
    · simp (disch:=omega) only [go_sem,qP,qS,qT]
      refine qY (i+1,zs) ⟨by simp only;omega,by simp only;omega,g3⟩ (by simp only;omega) (Can.sub (by simp [go_sem]) (by simp [go_sem]))
  · exact hK _ h3
end Go.Ab
namespace Go.Ab
open Go
set_option maxRecDepth 10000
set_option maxHeartbeats 2000000
theorem qfU {h:List qC} {id n:Nat} {xs:List Int} {a b:Int} {K:AV→List qC→Prop} (hid:id<h.length) (hn:xs.length=n) (hl:n≤4194304) (hab:0≤a∧a≤b∧b≤n)
    (hK:∀ys,ys.Perm xs→K (.tup []) (RW h id ys)):SCall Gm 1343 [.slice 1 id 0 n false,.int .i64 a,.int .i64 b] (RW h id xs) K:=by
  refine SCall.run [] [] qaJ (by kernel_rfl) rfl ?_
  simp only [W3,qL,go_sem]
  simp (config:={maxSteps:=2000000}) (disch:=omega) only [go_sem,qP,qS,qT,Int.reduceEq]
  refine Sem.loop (fun q:Int×Int×List Int=>a≤q.1∧q.2.1≤b-1∧q.2.2.Perm xs) (fun q=>(⟨[(0,.slice 1 id 0 n false),(6,.int .i64 q.1),(7,.int .i64 q.2.1)],[],RW h id q.2.2⟩:VSt)) (fun q=>(b-q.1).toNat) (a,b-1,xs) (by kernel_rfl) ⟨(by simp only;omega),(by simp only;omega),.refl _⟩ (Can.sub (by simp [go_sem]) (by simp [go_sem])) ?_
  rintro ⟨i,j,ys⟩ ⟨h1,h2,h3⟩
  simp only at h1 h2 h3⊢
  have hyl:=h3.length_eq
  simp only [go_sem]
  refine qD ?_ ?_<;>intro hc<;>simp only [hc,go_sem]
  · have hij:=odT hc
    simp (config:={maxSteps:=2000000}) (disch:=omega) only [go_sem,qP,qS,qT,Int.reduceEq]
    refine zD hid (by omega) (by omega) ?_;simp (config:={maxSteps:=2000000}) (disch:=omega) only [go_sem,qP,qS,qT,Int.reduceEq];refine zD hid (by omega) (by rw [List.length_set];omega) ?_;simp (maxSteps:=2000000) (disch:=omega) only [go_sem,qP,qS,qT,Int.reduceEq]
    refine qY (i+1,j-1,swI ys i j) ⟨(by simp only;omega),(by simp only;omega),(jN (by omega) (by omega) (by omega) (by omega)).trans h3⟩ (by simp only;omega) (Can.sub (by simp [go_sem]) (by simp [go_sem]))
  · exact hK _ h3
theorem qUP {h:List qC} {id n:Nat} {xs:List Int} {lo hi fi:Int} {K:AV→List qC→Prop} (hid:id<h.length) (hn:xs.length=n) (hl:n≤4194304) (hab:0≤lo∧lo≤n∧0≤hi∧0≤fi∧fi+hi≤n)
    (hK:∀ys,ys.Perm xs→K (.tup []) (RW h id ys)):SCall Gm 1476 [.slice 1 id 0 n false,.int .i64 lo,.int .i64 hi,.int .i64 fi] (RW h id xs) K:=by
  refine SCall.run [] [] qaW (by kernel_rfl) rfl ?_
  simp only [XG,qL,go_sem]
  refine Sem.loop (fun q:Int×List Int=>0≤q.1∧q.1≤n∧q.2.Perm xs) (fun q=>(⟨[(0,.slice 1 id 0 n false),(2,.int .i64 hi),(3,.int .i64 fi),(8,.int .i64 q.1)],[],RW h id q.2⟩:VSt)) (fun q=>(n-q.1).toNat) (lo,xs) (by kernel_rfl) ⟨(by simp only;omega),(by simp only;omega),.refl _⟩ (Can.sub (by simp [go_sem]) (by simp [go_sem])) ?_
  rintro ⟨i,ys⟩ ⟨h1,h2,h3⟩
  simp only at h1 h2 h3⊢
  have hyl:=h3.length_eq
  simp (config:={maxSteps:=2000000}) (disch:=omega) only [go_sem,qP,qS,qT,Int.reduceEq]
  refine qD ?_ ?_<;>intro hc<;>simp only [hc,go_sem]
  · exact hK _ h3
  have hch:=odF hc
  simp (config:={maxSteps:=2000000}) (disch:=omega) only [go_sem,qP,qS,qT,Int.reduceEq]
  --the greater child
  have key:∀(c:Int) (p:qg),c=2*i+1∨(c=2*i+2∧c<hi)→True:=fun _ _ _=>trivial
  refine qZ ?_ ?_<;>intro hc<;>simp only [hc,go_sem]
  · have hc2:=odT hc
    simp (config:={maxSteps:=2000000}) (disch:=omega) only [go_sem,qP,qS,qT,Int.reduceEq]
    refine qG (jT _ _) ?_
    simp only [go_sem]
    refine qD ?_ ?_<;>intro hc<;>simp only [hc,go_sem]
    · simp (config:={maxSteps:=2000000}) (disch:=omega) only [go_sem,qP,qS,qT,Int.reduceEq]
      refine qG (jT _ _) ?_
      simp only [go_sem]
      refine qD ?_ ?_<;>intro hc<;>simp only [hc,go_sem]
      · exact hK _ h3
      · simp (config:={maxSteps:=2000000}) (disch:=omega) only [go_sem,qP,qS,qT,Int.reduceEq]
        refine zD hid (by omega) (by omega) ?_;simp (config:={maxSteps:=2000000}) (disch:=omega) only [go_sem,qP,qS,qT,Int.reduceEq];refine zD hid (by omega) (by rw [List.length_set];omega) ?_;simp (maxSteps:=2000000) (disch:=omega) only [go_sem,qP,qS,qT,Int.reduceEq]
        refine qY (2*i+1+1,swI ys (fi+i) (fi+(2*i+1+1))) ⟨(by simp only;omega),(by simp only;omega),(jN (by omega) (by omega) (by omega) (by omega)).trans h3⟩ (by simp only;omega) (Can.sub (by simp [go_sem]) (by simp [go_sem]))
    · simp (config:={maxSteps:=2000000}) (disch:=omega) only [go_sem,qP,qS,qT,Int.reduceEq]
      refine qG (jT _ _) ?_
      simp only [go_sem]
      refine qD ?_ ?_<;>intro hc<;>simp only [hc,go_sem]
      · exact hK _ h3
      · simp (config:={maxSteps:=2000000}) (disch:=omega) only [go_sem,qP,qS,qT,Int.reduceEq]
        refine zD hid (by omega) (by omega) ?_;simp (config:={maxSteps:=2000000}) (disch:=omega) only [go_sem,qP,qS,qT,Int.reduceEq];refine zD hid (by omega) (by rw [List.length_set];omega) ?_;simp (maxSteps:=2000000) (disch:=omega) only [go_sem,qP,qS,qT,Int.reduceEq]
        refine qY (2*i+1,swI ys (fi+i) (fi+(2*i+1))) ⟨(by simp only;omega),(by simp only;omega),(jN (by omega) (by omega) (by omega) (by omega)).trans h3⟩ (by simp only;omega) (Can.sub (by simp [go_sem]) (by simp [go_sem]))
  · simp (config:={maxSteps:=2000000}) (disch:=omega) only [go_sem,qP,qS,qT,Int.reduceEq]
    refine qG (jT _ _) ?_
    simp only [go_sem]
    refine qD ?_ ?_<;>intro hc<;>simp only [hc,go_sem]
    · exact hK _ h3
    · simp (config:={maxSteps:=2000000}) (disch:=omega) only [go_sem,qP,qS,qT,Int.reduceEq]
      refine zD hid (by omega) (by omega) ?_;simp (config:={maxSteps:=2000000}) (disch:=omega) only [go_sem,qP,qS,qT,Int.reduceEq];refine zD hid (by omega) (by rw [List.length_set];omega) ?_;simp (maxSteps:=2000000) (disch:=omega) only [go_sem,qP,qS,qT,Int.reduceEq]
      refine qY (2*i+1,swI ys (fi+i) (fi+(2*i+1))) ⟨(by simp only;omega),(by simp only;omega),(jN (by omega) (by omega) (by omega) (by omega)).trans h3⟩ (by simp only;omega) (Can.sub (by simp [go_sem]) (by simp [go_sem]))
theorem td2 {x:Int} (h: -1≤x):0≤x.tdiv 2∧x.tdiv 2≤max x 0:=by
  by_cases h0:0≤x
  · rw [Int.tdiv_eq_ediv_of_nonneg h0];omega
  · rw [show x= -1 by omega];decide
theorem qfR {h:List qC} {id n:Nat} {xs:List Int} {a b:Int} {K:AV→List qC→Prop} (hid:id<h.length) (hn:xs.length=n) (hl:n≤4194304) (hab:0≤a∧a≤b∧b≤n)
    (hK:∀ys,ys.Perm xs→K (.tup []) (RW h id ys)):SCall Gm 1340 [.slice 1 id 0 n false,.int .i64 a,.int .i64 b] (RW h id xs) K:=by
  refine SCall.run [] [] qaG (by kernel_rfl) rfl ?_
  simp only [W0,qL,go_sem]
  have ht:=td2 (x:=b-a-1) (by omega)
  simp (config:={maxSteps:=2000000}) (disch:=omega) only [go_sem,qP,qS,qT,Int.reduceEq]
  refine j9 (fun q:Int×List Int=> -1≤q.1∧q.1≤b-a∧q.2.Perm xs) (fun q=>(⟨[(0,.slice 1 id 0 n false),(6,.int .i64 a),(7,.int .i64 0),(8,.int .i64 (b-a)),(9,.int .i64 q.1)],[],RW h id q.2⟩:VSt)) (fun q=>(q.1+1).toNat) ((b-a-1).tdiv 2,xs)
    (fun zs:List Int=>zs.Perm xs) (fun zs=>(⟨[(0,.slice 1 id 0 n false),(6,.int .i64 a),(7,.int .i64 0),(8,.int .i64 (b-a))],[],RW h id zs⟩:VSt)) (by kernel_rfl) ⟨(by simp only;omega),(by simp only;omega),.refl _⟩ (Can.sub (by simp [go_sem]) (by simp [go_sem])) ?_ ?_
  · rintro ⟨i,ys⟩ ⟨h1,h2,h3⟩
    simp only at h1 h2 h3⊢
    have hyl:=h3.length_eq
    simp only [go_sem]
    refine qD ?_ ?_<;>intro hc<;>simp only [hc,go_sem]
    · have hc2:=odT hc
      refine zO (qUP hid (by omega) hl (by omega) fun zs hz=> ?_)
      simp (config:={maxSteps:=2000000}) (disch:=omega) only [go_sem,qP,qS,qT,Int.reduceEq]
      exact jP (i-1,zs) ⟨(by simp only;omega),(by simp only;omega),hz.trans h3⟩ (by simp only;omega) (Can.sub (by simp [go_sem]) (by simp [go_sem]))
    · exact jA ys h3 (Can.sub (by simp [go_sem]) (by simp [go_sem]))
  · intro ys h3
    have hyl:=h3.length_eq
    simp (config:={maxSteps:=2000000}) (disch:=omega) only [go_sem,qP,qS,qT,Int.reduceEq]
    refine Sem.loop (fun q:Int×List Int=> -1≤q.1∧q.1≤b-a-1∧q.2.Perm xs) (fun q=>(⟨[(0,.slice 1 id 0 n false),(6,.int .i64 a),(7,.int .i64 0),(10,.int .i64 q.1)],[],RW h id q.2⟩:VSt)) (fun q=>(q.1+1).toNat) (b-a-1,ys) (by kernel_rfl) ⟨(by simp only;omega),(by simp only;omega),h3⟩ (Can.sub (by simp [go_sem]) (by simp [go_sem])) ?_
    rintro ⟨i,zs⟩ ⟨g1,g2,g3⟩
    simp only at g1 g2 g3⊢
    have hzl:=g3.length_eq
    simp only [go_sem]
    refine qD ?_ ?_<;>intro hc<;>simp only [hc,go_sem]
    · have hc2:=odT hc
      simp (config:={maxSteps:=2000000}) (disch:=omega) only [go_sem,qP,qS,qT,Int.reduceEq]
      refine zD hid (by omega) (by omega) ?_;simp (config:={maxSteps:=2000000}) (disch:=omega) only [go_sem,qP,qS,qT,Int.reduceEq];refine zD hid (by omega) (by rw [List.length_set];omega) ?_;simp (maxSteps:=2000000) (disch:=omega) only [go_sem,qP,qS,qT,Int.reduceEq]
      refine zO (qUP (xs:=swI zs a (a+i)) hid (by rw [qgQ];omega) hl (by omega) fun us hu=> ?_)
      simp (config:={maxSteps:=2000000}) (disch:=omega) only [go_sem,qP,qS,qT,Int.reduceEq]
      exact qY (i-1,us) ⟨(by simp only;omega),(by simp only;omega),hu.trans ((jN (by omega) (by omega) (by omega) (by omega)).trans g3)⟩ (by simp only;omega) (Can.sub (by simp [go_sem]) (by simp [go_sem]))
    · exact hK _ g3
end Go.Ab
namespace Go.Ab
open Go
set_option maxRecDepth 10000
set_option maxHeartbeats 2000000
def bx (k:IntKind) (x:Int):qC:=.row 1 [.int k x] true
theorem qQN {h:List qC} {o:qC} {id:Nat} {ys:List Int} (hid:id<h.length):(RW (h++[o]) id ys)[h.length]?=some o:=by
  unfold RW;rw [List.getElem?_set_ne (by omega),List.getElem?_append_right (Nat.le_refl _),Nat.sub_self];rfl
theorem qV1 {h:List qC} {o o':qC} {id:Nat} {ys:List Int} (hid:id<h.length):(RW (h++[o]) id ys).set h.length o'=RW (h++[o']) id ys:=by
  unfold RW;rw [List.set_comm _ _ (by omega)];congr 1;simp
theorem qS3 {h:List qC} {o:qC} {id:Nat} (hid:id<h.length):id<(h++[o]).length:=by simp;omega
theorem QB {h:List qC} {id:Nat} {ys:List Int} {k:IntKind} {x:Int} (hid:id<h.length):jr none 0 0 (RW (h++[bx k x]) id ys)[h.length]?=some (.int k x):=by
  rw [qQN hid];rfl
theorem Z9 {E:Ev} {ks:List Fr1} {s m:qg} {h:List qC} {Q:qX→VSt→Prop} {l:List qB} {id:Nat} {ys:List Int} {k:IntKind} {x y:Int} (hid:id<h.length)
    (hr:R E (.ops l::ks) ⟨s,m,RW (h++[bx k y]) id ys⟩ Q):Sto E 1 (some (.ptr h.length 0 0)) (some (.int k y)) l ks ⟨s,m,RW (h++[bx k x]) id ys⟩ Q:=by
  refine jM (by rfl) (qQN hid) (by rfl) (by rfl) ?_
  rw [show (qC.row 1 (([AV.int k x]).set 0 (AV.int k y)) true)=bx k y from rfl,qV1 hid];exact hr
theorem qP9 {h:List qC} {id n:Nat} {xs:List Int} {a b x:Int} {K:AV→List qC→Prop} (hid:id<h.length) (hn:xs.length=n) (hab:0≤a∧a<n∧0≤b∧b<n)
    (hK:∀(p q y:Int),((p=a∧q=b)∨(p=b∧q=a))→K (.tup [.int .i64 p,.int .i64 q]) (RW (h++[bx .i64 y]) id xs)):SCall Gm 1529 [.slice 1 id 0 n false,.int .i64 a,.int .i64 b,.ptr h.length 0 0] (RW (h++[bx .i64 x]) id xs) K:=by
  refine SCall.run [] [] qa3 (by kernel_rfl) rfl ?_
  have hid':=qS3 (o:=bx .i64 x) hid
  simp only [XN,qL,go_sem]
  simp (config:={maxSteps:=2000000}) (disch:=omega) only [go_sem,qP,qS,qT,Int.reduceEq]
  refine qG (jT _ _) ?_
  simp only [go_sem]
  refine qD ?_ ?_<;>intro hc<;>simp only [hc,go_sem]
  · rw [QB hid]
    simp only [go_sem]
    refine Z9 hid ?_
    simp only [go_sem]
    exact hK _ _ _ (.inr ⟨rfl,rfl⟩)
  · exact hK _ _ _ (.inl ⟨rfl,rfl⟩)
theorem qP8 {h:List qC} {id n:Nat} {xs:List Int} {a b c x:Int} {K:AV→List qC→Prop} (hid:id<h.length) (hn:xs.length=n) (hab:0≤a∧a<n∧0≤b∧b<n∧0≤c∧c<n)
    (hK:∀(p y:Int),(p=a∨p=b∨p=c)→K (.int .i64 p) (RW (h++[bx .i64 y]) id xs)):SCall Gm 1480 [.slice 1 id 0 n false,.int .i64 a,.int .i64 b,.int .i64 c,.ptr h.length 0 0] (RW (h++[bx .i64 x]) id xs) K:=by
  refine SCall.run [] [] qa0 (by kernel_rfl) rfl ?_
  simp only [XK,qL,go_sem]
  refine zO (qP9 hid hn (by omega) fun p q y hpq=> ?_)
  simp only [go_sem]
  refine zO (qP9 hid hn (by omega) fun p2 q2 y2 hpq2=> ?_)
  simp only [go_sem]
  refine zO (qP9 hid hn (by omega) fun p3 q3 y3 hpq3=> ?_)
  simp only [go_sem]
  exact hK _ _ (by omega)
theorem qP7 {h:List qC} {id n:Nat} {xs:List Int} {a x:Int} {K:AV→List qC→Prop} (hid:id<h.length) (hn:xs.length=n) (hl:n≤4194304) (hab:1≤a∧a+1<n)
    (hK:∀(p y:Int),(a-1≤p∧p≤a+1)→K (.int .i64 p) (RW (h++[bx .i64 y]) id xs)):SCall Gm 1479 [.slice 1 id 0 n false,.int .i64 a,.ptr h.length 0 0] (RW (h++[bx .i64 x]) id xs) K:=by
  refine SCall.run [] [] qaZ (by kernel_rfl) rfl ?_
  simp only [XJ,qL,go_sem]
  simp (config:={maxSteps:=2000000}) (disch:=omega) only [go_sem,qP,qS,qT,Int.reduceEq]
  refine zO (qP8 hid hn (by omega) fun p y hpq=> ?_)
  simp only [go_sem]
  exact hK _ _ (by omega)
theorem qfT {h:List qC} {id n:Nat} {xs:List Int} {a b:Int} {K:AV→List qC→Prop} (hid:id<h.length) (hn:xs.length=n) (hl:n≤4194304) (hab:0≤a∧a+8≤b∧b≤n)
    (hK:∀(p t y:Int),(a≤p∧p<b)→K (.tup [.int .i64 p,.int .i64 t]) (RW (h++[bx .i64 y]) id xs)):SCall Gm 1342 [.slice 1 id 0 n false,.int .i64 a,.int .i64 b] (RW h id xs) K:=by
  refine SCall.run [] [] qaI (by kernel_rfl) rfl ?_
  simp only [W2,qL,go_sem]
  have ht:(b-a).tdiv 4=(b-a)/4:=Int.tdiv_eq_ediv_of_nonneg (by omega)
  have hb:(RW h id xs).length=h.length:=qN1
  have hx:RW h id xs++[qC.row 1 [AV.int .i64 0] true]=RW (h++[bx .i64 0]) id xs:=qN0 hid
  simp (disch:=omega) only [go_sem,qP,Int.reduceEq,ht,hb,hx]
  have h8:decide ((8:Int)≤b-a)=true:=decide_eq_true (by omega)
  simp only [h8,go_sem]
  --the choice by the number of changes
  refine qD ?_ ?_<;>intro hc<;>simp only [hc,go_sem]
  · have h50:=odT hc
    refine zO (qP7 hid hn hl (by omega) fun p y hp=> ?_)
    simp only [go_sem]
    refine zO (qP7 hid hn hl (by omega) fun p2 y2 hp2=> ?_)
    simp only [go_sem]
    refine zO (qP7 hid hn hl (by omega) fun p3 y3 hp3=> ?_)
    simp only [go_sem]
    refine zO (qP8 hid hn (by omega) fun q y hq=> ?_)
    simp only [go_sem]
    rw [QB hid]
    simp only [go_sem]
    refine qD ?_ ?_<;>intro hc<;>simp only [hc,go_sem]
    · exact hK _ _ _ (by omega)
    · refine qD ?_ ?_<;>intro hc<;>simp only [hc,go_sem]
      · exact hK _ _ _ (by omega)
      · exact hK _ _ _ (by omega)
  · refine zO (qP8 hid hn (by omega) fun q y hq=> ?_)
    simp only [go_sem]
    rw [QB hid]
    simp only [go_sem]
    refine qD ?_ ?_<;>intro hc<;>simp only [hc,go_sem]
    · exact hK _ _ _ (by omega)
    · refine qD ?_ ?_<;>intro hc<;>simp only [hc,go_sem]
      · exact hK _ _ _ (by omega)
      · exact hK _ _ _ (by omega)
end Go.Ab
namespace Go.Ab
open Go
set_option maxRecDepth 10000
set_option maxHeartbeats 2000000
def Ql:List UInt8:=[0,1,2,2,3,3,3,3,4,4,4,4,4,4,4,4,5,5,5,5,5,5,5,5,5,5,5,5,5,5,5,5,6,6,6,6,6,6,6,6,6,6,6,6,6,6,6,6,6,6,6,6,6,6,6,6,6,6,6,6,6,6,6,6,7,7,7,7,7,7,7,7,7,7,7,7,7,7,7,7,7,7,7,7,7,7,7,7,7,7,7,7,7,7,7,7,7,7,7,7,7,7,7,7,7,7,7,7,7,7,7,7,7,7,7,7,7,7,7,7,7,7,7,7,7,7,7,7,8,8,8,8,8,8,8,8,8,8,8,8,8,8,8,8,8,8,8,8,8,8,8,8,8,8,8,8,8,8,8,8,8,8,8,8,8,8,8,8,8,8,8,8,8,8,8,8,8,8,8,8,8,8,8,8,8,8,8,8,8,8,8,8,8,8,8,8,8,8,8,8,8,8,8,8,8,8,8,8,8,8,8,8,8,8,8,8,8,8,8,8,8,8,8,8,8,8,8,8,8,8,8,8,8,8,8,8,8,8,8,8,8,8,8,8,8,8,8,8,8,8,8,8,8,8,8,8]
def tb (n:Int):Int:=((Ql.getD n.toNat 0).toNat:Int)
theorem qVH:∀n:_root_.Fin 256,(Ql[n.1]?).isSome=true∧(Ql.getD n.1 0).toNat≤8∧(1≤n.1→2^(Ql.getD n.1 0).toNat≤2*n.1):=by decide
theorem Jt {n:Int} (h:0≤n∧n≤255):0≤tb n∧tb n≤8∧(1≤n→(2:Int)^(tb n).toNat≤2*n):=by
  have:=qVH ⟨n.toNat,by omega⟩
  simp only at this
  unfold tb
  refine ⟨by omega,by omega,fun h1=> ?_⟩
  have h2:=this.2.2 (by omega)
  rw [Int.toNat_natCast]
  have h3:((2^(Ql.getD n.toNat 0).toNat:Nat):Int)≤((2*n.toNat:Nat):Int):=Int.ofNat_le.2 h2
  rw [Int.natCast_pow] at h3
  simpa [Int.toNat_of_nonneg h.1] using h3
theorem Vx {n:Int} (h:0≤n∧n≤255):Z5 (some (.str Ql)) (some (.int .u8 n))=some (.int .u8 (tb n)):=by
  have:=(qVH ⟨n.toNat,by omega⟩).1
  simp only [Z5,h.1,if_true]
  simp only at this
  obtain ⟨b,hb⟩:=Option.isSome_iff_exists.1 this
  unfold tb
  rw [hb,List.getD_eq_getElem?_getD,hb]
  rfl
def jc (x:Int):Int:=if 65536≤x then (if 256≤x/65536 then 24+tb (x/65536/256) else 16+tb (x/65536)) else if 256≤x then 8+tb (x/256) else tb x
theorem qPV {a:Nat} {b:Int} {y:Int} (hb:0≤b) (h:(2:Int)^b.toNat≤2*y):(2:Int)^((a:Int)+b).toNat≤2*(y*2^a):=by
  rw [Int.toNat_add (by omega) hb,Int.toNat_natCast,Int.pow_add]
  have h2:(0:Int)≤2^a:=Int.le_of_lt (Int.pow_pos (by omega))
  have:=Int.mul_le_mul_of_nonneg_left h h2
  calc (2:Int)^a*2^b.toNat≤2^a*(2*y):=this
    _=2*(y*2^a):=by rw [Int.mul_comm,Int.mul_assoc]
theorem qS4 {x:Int} (h:0≤x∧x<4294967296):0≤jc x∧jc x≤32∧(1≤x→(2:Int)^(jc x).toNat≤2*x):=by
  unfold jc
  by_cases h1:65536≤x
  · rw [if_pos h1]
    by_cases h2:256≤x/65536
    · rw [if_pos h2]
      have:=Jt (n:=x/65536/256) (by omega)
      refine ⟨by omega,by omega,fun _=> ?_⟩
      have:=qPV (a:=24) this.1 (this.2.2 (by omega))
      refine Int.le_trans this ?_
      simp only [show ((2:Int)^24)=16777216 from rfl]
      omega
    · rw [if_neg h2]
      have:=Jt (n:=x/65536) (by omega)
      refine ⟨by omega,by omega,fun _=> ?_⟩
      have:=qPV (a:=16) this.1 (this.2.2 (by omega))
      refine Int.le_trans this ?_
      simp only [show ((2:Int)^16)=65536 from rfl]
      omega
  · rw [if_neg h1]
    by_cases h2:256≤x
    · rw [if_pos h2]
      have:=Jt (n:=x/256) (by omega)
      refine ⟨by omega,by omega,fun _=> ?_⟩
      have:=qPV (a:=8) this.1 (this.2.2 (by omega))
      refine Int.le_trans this ?_
      simp only [show ((2:Int)^8)=256 from rfl]
      omega
    · rw [if_neg h2]
      have:=Jt (n:=x) (by omega)
      exact ⟨by omega,by omega,fun _=>this.2.2 (by omega)⟩
def shf2 (op:BinOp):Option AV→Option AV→Option AV
  | some (.int k a),some (.int _ b)=>js op k a b
  | _,_=>none
section
variable {E:Ev} {ks:List Fr1} {s m:qg} {h:List qC} {Q:qX→VSt→Prop} {l:List qB} {i:Nat} {d:Option Nat} {g:Option (Nat×Bool)} {ck:List qB} {x y:Ao} {op:BinOp}
@[go_sem] theorem zCJ:Go1 E (.mk i d g (.shft op x y) ck) l ks ⟨s,m,h⟩ Q=Put E (shf2 op (ev (toE s) x) (ev (toE s) y)) d l ks ⟨s,m,h⟩ Q:=by
  rw [zY rfl fun _=>rfl]
  congr 1
@[go_sem] theorem zGW {k k':IntKind} {a b:Int}:shf2 op (some (.int k a)) (some (.int k' b))=js op k a b:=nr rfl
end
theorem qUY {k:IntKind} {a b:Int} (h0:0≤b):js .shr k a b=some (.int k (a.fdiv (2^(min b.toNat k.bits)))):=by unfold js;rw [if_neg (by omega)]
theorem qgB {k:IntKind} {a b:Int} (h0:0≤b):js .shl k a b=some (.int k (k.wrap (a*2^(min b.toNat k.bits)))):=by unfold js;rw [if_neg (by omega)]
theorem qgC {a:Int} (h:0≤a):js .shr .u64 a 16=some (.int .u64 (a/65536)):=by
  rw [qUY (by omega),Int.fdiv_eq_ediv_of_nonneg _ (by decide)];rfl
theorem shr8 {a:Int} (h:0≤a):js .shr .u64 a 8=some (.int .u64 (a/256)):=by
  rw [qUY (by omega),Int.fdiv_eq_ediv_of_nonneg _ (by decide)];rfl
theorem V2 {n:Int} (h:0≤n∧n≤255):IntKind.u8.wrap n=n:=IntWalk.u8_in n h
theorem ZB {n:Int} (h:0≤n∧n≤18446744073709551615):IntKind.u64.wrap n=n:=IntWalk.u64_in n h
theorem qXC {x:Int} (h:0≤x∧x<4294967296):Pure Gm 1349 [.int .u64 x] (.int .i64 (jc x)):=by
  refine Pure.intro [] [] qaO (by kernel_rfl) rfl (by simp [AV.trees,AV.tree,go_sem]) rfl ?_
  simp only [W8,qL,go_sem]
  have h0:decide ((4294967296:Int)≤x)=false:=decide_eq_false (by omega)
  simp only [h0,go_sem]
  refine qD ?_ ?_<;>intro hc<;>simp only [hc,go_sem]
  · have h1:=odT hc
    simp (disch:=omega) only [qgC,qP,go_sem]
    refine qD ?_ ?_<;>intro hc<;>simp only [hc,go_sem]
    · have h2:=odT hc
      have tl:=Jt (n:=x/65536/256) (by omega)
      simp (disch:=omega) only [shr8,qP,V2,go_sem]
      refine QD (Vx (n:=x/65536/256) (by omega)) ?_
      simp (disch:=omega) only [qP,go_sem]
      exact qK rfl (by unfold jc;rw [if_pos h1,if_pos h2];rfl)
    · have h2:=odF hc
      have tl:=Jt (n:=x/65536) (by omega)
      simp (disch:=omega) only [qP,V2,go_sem]
      refine QD (Vx (n:=x/65536) (by omega)) ?_
      simp (disch:=omega) only [qP,go_sem]
      exact qK rfl (by unfold jc;rw [if_pos h1,if_neg h2,Int.zero_add])
  · have h1:=odF hc
    refine qD ?_ ?_<;>intro hc<;>simp only [hc,go_sem]
    · have h2:=odT hc
      have tl:=Jt (n:=x/256) (by omega)
      simp (disch:=omega) only [shr8,qP,V2,go_sem]
      refine QD (Vx (n:=x/256) (by omega)) ?_
      simp (disch:=omega) only [qP,go_sem]
      exact qK rfl (by unfold jc;rw [if_neg h1,if_pos h2];rfl)
    · have h2:=odF hc
      have tl:=Jt (n:=x) (by omega)
      simp (disch:=omega) only [qP,V2,go_sem]
      refine QD (Vx (n:=x) (by omega)) ?_
      simp (disch:=omega) only [qP,go_sem]
      exact qK rfl (by unfold jc;rw [if_neg h1,if_neg h2,Int.zero_add])
theorem qQ8 {x:Int} (h:0≤x∧x<4294967296):Pure Gm 1054 [.int .u64 x] (.int .i64 (jc x)):=by
  refine Pure.intro [] [] qZM (by kernel_rfl) rfl (by simp [AV.trees,AV.tree,go_sem]) rfl ?_
  simp only [WV,qL,go_sem]
  refine qG (qXC h) ?_
  simp only [go_sem]
  exact qK rfl rfl
theorem qXJ {x:Int} (h:1≤x∧x<1073741824):Pure Gm 1477 [.int .i64 x] (.int .u64 (2^(jc x).toNat)):=by
  refine Pure.intro [] [] qaX (by kernel_rfl) rfl (by simp [AV.trees,AV.tree,go_sem]) rfl ?_
  simp only [XH,qL,go_sem]
  have tl:=qS4 (x:=x) (by omega)
  simp (disch:=omega) only [ZB,go_sem]
  refine qG (qQ8 (by omega)) ?_
  simp only [go_sem]
  have hm:min (jc x).toNat IntKind.u64.bits=(jc x).toNat:=Nat.min_eq_left (by show _≤64;omega)
  have hp:=tl.2.2 (by omega)
  have hp0:(0:Int)≤2^(jc x).toNat:=Int.le_of_lt (Int.pow_pos (by omega))
  rw [qgB (by omega),hm,Int.one_mul,ZB (by omega)]
  simp only [go_sem]
  exact qK rfl rfl
theorem qfY {h:List qC} {id:Nat} {xs:List Int} {x:Int} {K:AV→List qC→Prop} (hid:id<h.length)
    (hK:∀y:Int,K (.int .u64 y) (RW (h++[bx .u64 y]) id xs)):SCall Gm 1478 [.ptr h.length 0 0] (RW (h++[bx .u64 x]) id xs) K:=by
  refine SCall.run [] [] qaY (by kernel_rfl) rfl ?_
  simp only [XI,qL,go_sem]
  have sl:∀a:Int,js .shl .u64 a 13=some (.int .u64 (IntKind.u64.wrap (a*2^13))):=fun a=>rfl
  have sr:∀a:Int,js .shr .u64 a 7=some (.int .u64 (a.fdiv (2^7))):=fun a=>rfl
  have sl2:∀a:Int,js .shl .u64 a 17=some (.int .u64 (IntKind.u64.wrap (a*2^17))):=fun a=>rfl
  have xo:∀a b:Int,∃c:Int,jK .xor .u64 a b=some (.int .u64 c):=fun a b=>⟨_,rfl⟩
  simp only [QB hid,sl,go_sem]
  obtain ⟨c1,e1⟩:=xo x (IntKind.u64.wrap (x*2^13))
  simp only [e1,go_sem]
  refine Z9 hid ?_
  simp only [QB hid,sr,go_sem]
  obtain ⟨c2,e2⟩:=xo c1 (c1.fdiv (2^7))
  simp only [e2,go_sem]
  refine Z9 hid ?_
  simp only [QB hid,sl2,go_sem]
  obtain ⟨c3,e3⟩:=xo c2 (IntKind.u64.wrap (c2*2^17))
  simp only [e3,go_sem]
  refine Z9 hid ?_
  simp only [QB hid,go_sem]
  exact hK _
theorem qV9 {a c:Int} (hc:0≤c∧c<9223372036854775808):∃o:Int,jK .and .u64 a c=some (.int .u64 o)∧0≤o∧o≤c:=by
  refine ⟨_,rfl, ?_⟩
  have h1:(BitVec.ofInt IntKind.u64.bits a&&&BitVec.ofInt IntKind.u64.bits c).toNat≤c.toNat:=by
    rw [BitVec.toNat_and]
    refine Nat.le_trans Nat.and_le_right ?_
    rw [BitVec.toNat_ofInt]
    show (c%((2^64:Nat):Int)).toNat≤_
    omega
  rw [ZB (by omega)]
  omega
theorem qfS {h:List qC} {id n:Nat} {xs:List Int} {a b:Int} {K:AV→List qC→Prop} (hid:id<h.length) (hn:xs.length=n) (hl:n≤4194304) (hab:0≤a∧a+8≤b∧b≤n)
    (hK:∀(ys:List Int) (y:Int),ys.Perm xs→K (.tup []) (RW (h++[bx .u64 y]) id ys)):SCall Gm 1341 [.slice 1 id 0 n false,.int .i64 a,.int .i64 b] (RW h id xs) K:=by
  refine SCall.run [] [] qaH (by kernel_rfl) rfl ?_
  simp only [W1,qL,go_sem]
  have ht:(b-a).tdiv 4=(b-a)/4:=Int.tdiv_eq_ediv_of_nonneg (by omega)
  have hb:(RW h id xs).length=h.length:=qN1
  have hx:RW h id xs++[qC.row 1 [AV.int .u64 0] true]=RW (h++[bx .u64 0]) id xs:=qN0 hid
  have h8:decide ((8:Int)≤b-a)=true:=decide_eq_true (by omega)
  simp (disch:=omega) only [go_sem,qP,h8]
  simp (disch:=omega) only [go_sem,qP,ZB,Int.reduceEq,ht,hb,hx]
  refine Z9 hid ?_
  simp only [go_sem]
  have tl:=qS4 (x:=b-a) (by omega)
  have hp:=tl.2.2 (by omega)
  have hp0:(0:Int)<2^(jc (b-a)).toNat:=Int.pow_pos (by omega)
  refine qG (qXJ (by omega)) ?_
  generalize (2:Int)^(jc (b-a)).toNat=P at hp hp0
  simp (disch:=omega) only [go_sem,qP,Int.reduceEq,ht]
  refine Sem.loop (fun q:Int×Int×List Int=>a+(b-a)/4*2-1≤q.1∧q.1≤a+(b-a)/4*2+2∧q.2.2.Perm xs) (fun q=>(⟨[(0,.slice 1 id 0 n false),(1,.int .i64 a),(6,.int .i64 (b-a)),(7,.ptr h.length 0 0),(8,.int .u64 P),(9,.int .i64 q.1)],[],RW (h++[bx .u64 q.2.1]) id q.2.2⟩:VSt)) (fun q=>(a+(b-a)/4*2+2-q.1).toNat) (a+(b-a)/4*2-1,b-a,xs) (by kernel_rfl) ⟨(by first | omega | (simp only;omega)),(by first | omega | (simp only;omega)),.refl _⟩ (Can.sub (by simp [go_sem]) (by simp [go_sem])) ?_
  rintro ⟨i,y,ys⟩ ⟨h1,h2,h3⟩
  simp only at h1 h2 h3⊢
  have hyl:=h3.length_eq
  simp (disch:=omega) only [go_sem,qP,Int.reduceEq,ht]
  refine qD ?_ ?_<;>intro hc<;>simp only [hc,go_sem]
  · have hle:=odT hc
    refine zO (qfY hid fun y2=> ?_)
    have hid':=qS3 (o:=bx .u64 y2) hid
    simp (disch:=omega) only [go_sem,ZB]
    obtain ⟨o,e,o1,o2⟩:=qV9 (a:=y2) (c:=P-1) (by omega)
    simp (disch:=omega) only [e,go_sem,qP]
    refine qD ?_ ?_<;>intro hc<;>simp only [hc,go_sem]
    · have hge:=odT hc
      simp (config:={maxSteps:=2000000}) (disch:=omega) only [go_sem,qP,qS,qT,Int.reduceEq]
      refine zD hid' (by omega) (by omega) ?_;simp (config:={maxSteps:=2000000}) (disch:=omega) only [go_sem,qP,qS,qT,Int.reduceEq];refine zD hid' (by omega) (by rw [List.length_set];omega) ?_;simp (maxSteps:=2000000) (disch:=omega) only [go_sem,qP,qS,qT,Int.reduceEq]
      exact qY (i+1,y2,swI ys i (a+(o-(b-a)))) ⟨(by first | omega | (simp only;omega)),(by first | omega | (simp only;omega)),(jN (by omega) (by omega) (by omega) (by omega)).trans h3⟩ (by first | omega | (simp only;omega)) (Can.sub (by simp [go_sem]) (by simp [go_sem]))
    · have hlt:=odF hc
      simp (config:={maxSteps:=2000000}) (disch:=omega) only [go_sem,qP,qS,qT,Int.reduceEq]
      refine zD hid' (by omega) (by omega) ?_;simp (config:={maxSteps:=2000000}) (disch:=omega) only [go_sem,qP,qS,qT,Int.reduceEq];refine zD hid' (by omega) (by rw [List.length_set];omega) ?_;simp (maxSteps:=2000000) (disch:=omega) only [go_sem,qP,qS,qT,Int.reduceEq]
      exact qY (i+1,y2,swI ys i (a+o)) ⟨(by first | omega | (simp only;omega)),(by first | omega | (simp only;omega)),(jN (by omega) (by omega) (by omega) (by omega)).trans h3⟩ (by first | omega | (simp only;omega)) (Can.sub (by simp [go_sem]) (by simp [go_sem]))
  · exact hK _ _ h3
end Go.Ab
namespace Go.Ab
open Go
set_option maxRecDepth 10000
set_option maxHeartbeats 2000000
theorem qfW {h:List qC} {id n:Nat} {xs:List Int} {a b p:Int} {K:AV→List qC→Prop} (hid:id<h.length) (hn:xs.length=n) (hl:n≤4194304) (hab:0≤a∧a<b∧b≤n∧a≤p∧p<b)
    (hK:∀(ys:List Int) (m:Int),ys.Perm xs→a+1≤m→m≤b→K (.int .i64 m) (RW h id ys)):SCall Gm 1346 [.slice 1 id 0 n false,.int .i64 a,.int .i64 b,.int .i64 p] (RW h id xs) K:=by
  refine SCall.run [] [] qaM (by kernel_rfl) rfl ?_
  simp only [W6,qL,go_sem]
  simp (config:={maxSteps:=2000000}) (disch:=omega) only [go_sem,qP,qS,qT,Int.reduceEq]
  refine zD hid (by omega) (by omega) ?_;simp (config:={maxSteps:=2000000}) (disch:=omega) only [go_sem,qP,qS,qT,Int.reduceEq];refine zD hid (by omega) (by rw [List.length_set];omega) ?_;simp (maxSteps:=2000000) (disch:=omega) only [go_sem,qP,qS,qT,Int.reduceEq]
  refine j9 (fun q:Int×Int×List Int=>a+1≤q.1∧q.2.1≤b-1∧q.1≤b∧q.2.2.Perm xs) (fun q=>(⟨[(0,.slice 1 id 0 n false),(1,.int .i64 a),(9,.int .i64 q.1),(10,.int .i64 q.2.1)],[],RW h id q.2.2⟩:VSt)) (fun q=>(q.2.1+1-q.1).toNat) (a+1,b-1,swI xs a p)
    (fun q:Int×List Int=>a+1≤q.1∧q.1≤b∧q.2.Perm xs) (fun q=>(⟨[(9,.int .i64 q.1)],[],RW h id q.2⟩:VSt)) (by kernel_rfl) ⟨(by first | omega | (simp only;omega)),(by first | omega | (simp only;omega)),(by first | omega | (simp only;omega)),jN (by omega) (by omega) (by omega) (by omega)⟩ (Can.sub (by simp [go_sem]) (by simp [go_sem])) ?_ ?_
  · rintro ⟨i,j,ys⟩ ⟨h1,h2,h3,h4⟩
    simp only at h1 h2 h3 h4⊢
    have hyl:=h4.length_eq
    simp only [go_sem]
    refine j9 (fun i':Int=>i≤i'∧i'≤max i (j+1)) (fun i'=>(⟨[(0,.slice 1 id 0 n false),(1,.int .i64 a),(9,.int .i64 i'),(10,.int .i64 j)],[],RW h id ys⟩:VSt)) (fun i'=>(j+1-i').toNat) i
      (fun i':Int=>i≤i'∧i'≤max i (j+1)) (fun i'=>(⟨[(0,.slice 1 id 0 n false),(1,.int .i64 a),(9,.int .i64 i'),(10,.int .i64 j)],[],RW h id ys⟩:VSt)) (by kernel_rfl) ⟨(by first | omega | (simp only;omega)),(by first | omega | (simp only;omega))⟩ (Can.sub (by simp [go_sem]) (by simp [go_sem])) ?_ ?_
    · rintro i' ⟨k1,k2⟩
      simp only [go_sem]
      refine qZ ?_ ?_<;>intro hc<;>simp only [hc,go_sem]
      · have hle:=odT hc
        simp (config:={maxSteps:=2000000}) (disch:=omega) only [go_sem,qP,qS,qT,Int.reduceEq]
        refine qG (jT _ _) ?_
        simp only [go_sem]
        refine qD ?_ ?_<;>intro hc<;>simp only [hc,go_sem]
        · simp (config:={maxSteps:=2000000}) (disch:=omega) only [go_sem,qP,qS,qT,Int.reduceEq]
          exact jP (i'+1) ⟨(by first | omega | (simp only;omega)),(by first | omega | (simp only;omega))⟩ (by first | omega | (simp only;omega)) (Can.sub (by simp [go_sem]) (by simp [go_sem]))
        · exact jA i' ⟨by omega,by omega⟩ (Can.sub (by simp [go_sem]) (by simp [go_sem]))
      · exact jA i' ⟨by omega,by omega⟩ (Can.sub (by simp [go_sem]) (by simp [go_sem]))
    rintro i' ⟨k1,k2⟩
    simp only [go_sem]
    refine j9 (fun j':Int=>j'≤j) (fun j'=>(⟨[(0,.slice 1 id 0 n false),(1,.int .i64 a),(9,.int .i64 i'),(10,.int .i64 j')],[],RW h id ys⟩:VSt)) (fun j'=>(j'+1).toNat) j
      (fun j':Int=>j'≤j) (fun j'=>(⟨[(0,.slice 1 id 0 n false),(1,.int .i64 a),(9,.int .i64 i'),(10,.int .i64 j')],[],RW h id ys⟩:VSt)) (by kernel_rfl) (by first | omega | (simp only;omega)) (Can.sub (by simp [go_sem]) (by simp [go_sem])) ?_ ?_
    · rintro j' m2
      simp only [go_sem]
      refine qZ ?_ ?_<;>intro hc<;>simp only [hc,go_sem]
      · have hle:=odT hc
        simp (config:={maxSteps:=2000000}) (disch:=omega) only [go_sem,qP,qS,qT,Int.reduceEq]
        refine qG (jT _ _) ?_
        simp only [go_sem]
        refine qD ?_ ?_<;>intro hc<;>simp only [hc,go_sem]
        · simp (config:={maxSteps:=2000000}) (disch:=omega) only [go_sem,qP,qS,qT,Int.reduceEq]
          exact jP (j'-1) (by first | omega | (simp only;omega)) (by first | omega | (simp only;omega)) (Can.sub (by simp [go_sem]) (by simp [go_sem]))
        · exact jA j' (by omega) (Can.sub (by simp [go_sem]) (by simp [go_sem]))
      · exact jA j' (by omega) (Can.sub (by simp [go_sem]) (by simp [go_sem]))
    rintro j' m2
    simp only [go_sem]
    refine qD ?_ ?_<;>intro hc<;>simp only [hc,go_sem]
    · exact jA (i',ys) ⟨(by first | omega | (simp only;omega)),(by first | omega | (simp only;omega)),h4⟩ (Can.sub (by simp [go_sem]) (by simp [go_sem]))
    · have hle:=odF hc
      simp (config:={maxSteps:=2000000}) (disch:=omega) only [go_sem,qP,qS,qT,Int.reduceEq]
      refine zD hid (by omega) (by omega) ?_;simp (config:={maxSteps:=2000000}) (disch:=omega) only [go_sem,qP,qS,qT,Int.reduceEq];refine zD hid (by omega) (by rw [List.length_set];omega) ?_;simp (maxSteps:=2000000) (disch:=omega) only [go_sem,qP,qS,qT,Int.reduceEq]
      exact jP (i'+1,j'-1,swI ys i' j') ⟨(by first | omega | (simp only;omega)),(by first | omega | (simp only;omega)),(by first | omega | (simp only;omega)),(jN (by omega) (by omega) (by omega) (by omega)).trans h4⟩ (by first | omega | (simp only;omega)) (Can.sub (by simp [go_sem]) (by simp [go_sem]))
  · rintro ⟨i,ys⟩ ⟨h1,h2,h3⟩
    simp only [go_sem]
    exact hK _ _ h3 h1 h2
end Go.Ab
