/- Texts Nee4 .. Nee19: the abstract machine, its laws and contracts of functions: lemmas for the statement. No condition. -/
import Derived.Test.YtoajhcbnlebbeaaGreatP7
set_option linter.unusedSimpArgs false
set_option linter.unusedVariables false
namespace Go.Ab
open Go
set_option maxRecDepth 10000
set_option maxHeartbeats 2000000
theorem qF3 {α:Type} {xs:List α} {i:Nat} {d:α} (h:i<xs.length):xs.getD i d=xs[i]:=by simp [List.getD,h]
section
variable {P:Nat→Prop} {w:Nat} {pre post:List AV} {id j:Nat} {h:List qC} {M:qD} {K:AV→List qC→Prop}
theorem NS.eqh {si hi:Nat} {js:List AV} {h':List qC} (hN:NS P w pre post id h M si hi js) (e:h=h'):NS P w pre post id h' M si hi js:=e▸hN
theorem Keep.eqh {h0 h':List qC} (hN:Keep P h0 h) (e:h=h'):Keep P h0 h':=e▸hN
theorem qLJ (hj:pre.length=j) (hN:NSx P w pre post id h M) (hs:M.Heap.length≤1000000) (t:qA) (hv:t.Kind=1→0≤t.Value∧t.Value.toNat<M.Control.Env.length)
    (hK:∀h',NSx P w pre post id h' (M.addr t).2→Keep P h h'→K (.int .i64 (M.addr t).1) h'):SCall Gm 1159 [.ptr id 0 j,t.enc] h K:=by
  have hN0:=hN;obtain ⟨si,hi,js,hN⟩:=hN;refine SCall.run [] [] qPM (by kernel_rfl) rfl ?_;simp only [WX,qK,go_sem];refine qd qA.ln ?_;simp only [go_sem];refine qI ?_ ?_<;>intro hc<;>simp only [hc,go_sem]
  · simp only [hN.o,Nat.add_zero,ne0 hj,ne1 hj,ne2 hj,ne3 hj,ne4 hj,ne5 hj,ne6 hj,neT hj,neC hj,go_sem];have h1:t.Kind=1:=by simpa using hc
    obtain ⟨v0,v1⟩:=hv h1;have e:M.addr t=(M.Control.Env[t.Value.toNat],M):=by unfold qD.addr;rw [if_pos h1,qF3 v1]
    rw [e] at hK;simp only [wn v0,List.getElem?_map,gEg v1,Option.map_some,shI.part,go_sem];exact hK _ hN0 Keep.refl
  · have h1:¬t.Kind=1:=by simpa using hc
    have e:M.addr t=(((M.Heap.length:Nat):Int),{M with Heap:=M.Heap++[⟨false,⟨t,M.Control.Env⟩⟩]}):=by unfold qD.addr;rw [if_neg h1]
    rw [e] at hK;simp only [hN.o,Nat.add_zero,ne0 hj,ne1 hj,ne2 hj,ne3 hj,ne4 hj,ne5 hj,ne6 hj,neT hj,neC hj,go_sem];have o2:(h++[qC.row 6 [qT.enc (⟨false,⟨t,M.Control.Env⟩⟩:qT)] true])[hi]?=some (.row 6 (M.Heap.map qT.enc++[]) true):=by rw [List.getElem?_append_left (qi hN.t)];simpa using hN.t
    have hl:(h++[qC.row 6 [qT.enc (⟨false,⟨t,M.Control.Env⟩⟩:qT)] true]).length=h.length+1:=by simp
    have e:M.Heap.map qT.enc++[qT.enc (⟨false,⟨t,M.Control.Env⟩⟩:qT)]=(M.Heap++[(⟨false,⟨t,M.Control.Env⟩⟩:qT)]).map qT.enc:=by simp
    refine jl (x:=qT.enc (⟨false,⟨t,M.Control.Env⟩⟩:qT)) List.getElem?_concat_length o2 (by simp) (by omega) ?_;rw [e];have o3:(((h++[qC.row 6 [qT.enc (⟨false,⟨t,M.Control.Env⟩⟩:qT)] true]).set hi .dead)++[qC.row 6 ((M.Heap++[(⟨false,⟨t,M.Control.Env⟩⟩:qT)]).map qT.enc) true])[id]?=some (.row w [.agg (pre++(Nec M si hi++post))] true):=by
      have:=qi hN.o;rw [List.getElem?_append_left (by simp;omega),List.getElem?_set_ne (Ne.symm hN.d2),List.getElem?_append_left this];exact hN.o
    obtain ⟨n1,n2⟩:=hN.grow (M':={M with Heap:=M.Heap++[⟨false,⟨t,M.Control.Env⟩⟩]}) (x:=qC.row 6 [qT.enc (⟨false,⟨t,M.Control.Env⟩⟩:qT)] true) rfl;simp only [show (h++[qC.row 6 [qT.enc (⟨false,⟨t,M.Control.Env⟩⟩:qT)] true]).length=h.length+1 from hl,lAp,List.length_cons,List.length_nil,Nat.zero_add,go_sem];refine qo rfl o3 rfl (qKD hj (M':={M with Heap:=M.Heap++[⟨false,⟨t,M.Control.Env⟩⟩]}) rfl rfl (by simp [qD.push,qD.pop,qD.ctl])) ?_;generalize hg:List.set _ _ _=h2;replace n1:=NS.eqh n1 hg;replace n2:=Keep.eqh n2 hg;clear hg;replace hN:=n1;simp only [go_sem];simp only [hN.o,Nat.add_zero,ne0 hj,ne1 hj,ne2 hj,ne3 hj,ne4 hj,ne5 hj,ne6 hj,neT hj,neC hj,go_sem];have e3:IntKind.i64.wrap (((M.Heap.length+1:Nat):Int)-1)=((M.Heap.length:Nat):Int):=by rw [V0 (by omega) (by omega)];rfl
    simp only [lAp,List.length_cons,List.length_nil,Nat.zero_add,e3];exact hK _ ⟨_,_,_,hN⟩ n2
theorem qLI (hj:pre.length=j) (hN:NSx P w pre post id h M) (hs:M.Heap.length≤1000000) (t:qA) (hv:t.Kind=1→0≤t.Value∧t.Value.toNat<M.Control.Env.length)
    (hK:∀h',NSx P w pre post id h' (M.addr t).2→Keep P h h'→K (.int .i64 (M.addr t).1) h'):SCall Gm 1150 [.ptr id 0 j,.ept t.enc 0] h K:=by
  have hN0:=hN;obtain ⟨si,hi,js,hN⟩:=hN;refine SCall.run [] [] qPF (by kernel_rfl) rfl ?_;simp only [WI,qK,go_sem];refine qI ?_ ?_<;>intro hc<;>simp only [hc,go_sem]
  · simp only [hN.o,Nat.add_zero,ne0 hj,ne1 hj,ne2 hj,ne3 hj,ne4 hj,ne5 hj,ne6 hj,neT hj,neC hj,go_sem];have h1:t.Kind=1:=by simpa using hc
    obtain ⟨v0,v1⟩:=hv h1;have e:M.addr t=(M.Control.Env[t.Value.toNat],M):=by unfold qD.addr;rw [if_pos h1,qF3 v1]
    rw [e] at hK;simp only [wn v0,List.getElem?_map,gEg v1,Option.map_some,shI.part,go_sem];exact hK _ hN0 Keep.refl
  · have h1:¬t.Kind=1:=by simpa using hc
    have e:M.addr t=(((M.Heap.length:Nat):Int),{M with Heap:=M.Heap++[⟨false,⟨t,M.Control.Env⟩⟩]}):=by unfold qD.addr;rw [if_neg h1]
    rw [e] at hK;simp only [hN.o,Nat.add_zero,ne0 hj,ne1 hj,ne2 hj,ne3 hj,ne4 hj,ne5 hj,ne6 hj,neT hj,neC hj,go_sem];have o2:(h++[qC.row 6 [qT.enc (⟨false,⟨t,M.Control.Env⟩⟩:qT)] true])[hi]?=some (.row 6 (M.Heap.map qT.enc++[]) true):=by rw [List.getElem?_append_left (qi hN.t)];simpa using hN.t
    have hl:(h++[qC.row 6 [qT.enc (⟨false,⟨t,M.Control.Env⟩⟩:qT)] true]).length=h.length+1:=by simp
    have e:M.Heap.map qT.enc++[qT.enc (⟨false,⟨t,M.Control.Env⟩⟩:qT)]=(M.Heap++[(⟨false,⟨t,M.Control.Env⟩⟩:qT)]).map qT.enc:=by simp
    refine jl (x:=qT.enc (⟨false,⟨t,M.Control.Env⟩⟩:qT)) List.getElem?_concat_length o2 (by simp) (by omega) ?_;rw [e];have o3:(((h++[qC.row 6 [qT.enc (⟨false,⟨t,M.Control.Env⟩⟩:qT)] true]).set hi .dead)++[qC.row 6 ((M.Heap++[(⟨false,⟨t,M.Control.Env⟩⟩:qT)]).map qT.enc) true])[id]?=some (.row w [.agg (pre++(Nec M si hi++post))] true):=by
      have:=qi hN.o;rw [List.getElem?_append_left (by simp;omega),List.getElem?_set_ne (Ne.symm hN.d2),List.getElem?_append_left this];exact hN.o
    obtain ⟨n1,n2⟩:=hN.grow (M':={M with Heap:=M.Heap++[⟨false,⟨t,M.Control.Env⟩⟩]}) (x:=qC.row 6 [qT.enc (⟨false,⟨t,M.Control.Env⟩⟩:qT)] true) rfl;simp only [show (h++[qC.row 6 [qT.enc (⟨false,⟨t,M.Control.Env⟩⟩:qT)] true]).length=h.length+1 from hl,lAp,List.length_cons,List.length_nil,Nat.zero_add,go_sem];refine qo rfl o3 rfl (qKD hj (M':={M with Heap:=M.Heap++[⟨false,⟨t,M.Control.Env⟩⟩]}) rfl rfl (by simp [qD.push,qD.pop,qD.ctl])) ?_;generalize hg:List.set _ _ _=h2;replace n1:=NS.eqh n1 hg;replace n2:=Keep.eqh n2 hg;clear hg;replace hN:=n1;simp only [go_sem];simp only [hN.o,Nat.add_zero,ne0 hj,ne1 hj,ne2 hj,ne3 hj,ne4 hj,ne5 hj,ne6 hj,neT hj,neC hj,go_sem];have e3:IntKind.i64.wrap (((M.Heap.length+1:Nat):Int)-1)=((M.Heap.length:Nat):Int):=by rw [V0 (by omega) (by omega)];rfl
    simp only [lAp,List.length_cons,List.length_nil,Nat.zero_add,e3];exact hK _ ⟨_,_,_,hN⟩ n2
theorem Vm (hj:pre.length=j) (hN:NSx P w pre post id h M) (t:qA)
    (hK:∀h',NSx P w pre post id h' (M.ctl ⟨t,M.Control.Env⟩)→Keep P h h'→K (.tup []) h'):SCall Gm 1161 [.ptr id 0 j,t.enc] h K:=by
  obtain ⟨si,hi,js,hN⟩:=hN;refine SCall.run [] [] qPO (by kernel_rfl) rfl ?_;simp only [WZ,qK,go_sem];refine qd qA.ln ?_;simp only [go_sem];simp only [hN.o,Nat.add_zero,ne0 hj,ne1 hj,ne2 hj,ne3 hj,ne4 hj,ne5 hj,ne6 hj,neT hj,neC hj,go_sem];refine qo rfl hN.o rfl (zg hj rfl) ?_;obtain ⟨n1,n2⟩:=hN.struct (post':=post) (M':=M.ctl ⟨t,M.Control.Env⟩) (js':=js) rfl rfl;generalize hg:List.set _ _ _=h2;replace n1:=NS.eqh n1 hg;replace n2:=Keep.eqh n2 hg;clear hg;replace hN:=n1;simp only [go_sem];exact hK _ ⟨_,_,_,hN⟩ n2
theorem Vl (hj:pre.length=j) (hN:NSx P w pre post id h M) (hs:M.Stack.length≤1000000) (f:qR) (t:qA)
    (hK:∀h',NSx P w pre post id h' ((M.push f).ctl ⟨t,M.Control.Env⟩)→Keep P h h'→K (.tup []) h'):SCall Gm 1151 [.ptr id 0 j,f.enc,.ept t.enc 0] h K:=by
  obtain ⟨si,hi,js,hN⟩:=hN;refine SCall.run [] [] qPG (by kernel_rfl) rfl ?_;simp only [WJ,qK,go_sem];refine qd qR.ln ?_;simp only [go_sem];simp only [hN.o,Nat.add_zero,ne0 hj,ne1 hj,ne2 hj,ne3 hj,ne4 hj,ne5 hj,ne6 hj,neT hj,neC hj,go_sem];have o2:(h++[qC.row 8 [qR.enc f] true])[si]?=some (.row 8 (M.Stack.map qR.enc++js) true):=by rw [List.getElem?_append_left (qi hN.s)];simpa using hN.s
  have hl:(h++[qC.row 8 [qR.enc f] true]).length=h.length+1:=by simp
  have e:M.Stack.map qR.enc++[qR.enc f]=(M.Stack++[f]).map qR.enc:=by simp
  refine jl (x:=qR.enc f) List.getElem?_concat_length o2 (by simp) (by omega) ?_;rw [e];have o3:(((h++[qC.row 8 [qR.enc f] true]).set si .dead)++[qC.row 8 ((M.Stack++[f]).map qR.enc) true])[id]?=some (.row w [.agg (pre++(Nec M si hi++post))] true):=by
    have:=qi hN.o;rw [List.getElem?_append_left (by simp;omega),List.getElem?_set_ne (Ne.symm hN.d1),List.getElem?_append_left this];exact hN.o
  obtain ⟨n1,n2⟩:=hN.push (M':=M.push f) (x:=qC.row 8 [qR.enc f] true) rfl;simp only [show (h++[qC.row 8 [qR.enc f] true]).length=h.length+1 from hl,lAp,List.length_cons,List.length_nil,Nat.zero_add,go_sem];refine qo rfl o3 rfl (Zk hj (M':=M.push f) rfl rfl (by simp [qD.push,qD.pop,qD.ctl])) ?_;generalize hg:List.set _ _ _=h2;replace n1:=NS.eqh n1 hg;replace n2:=Keep.eqh n2 hg;clear hg;replace hN:=n1;have k2:=n2;clear n2;simp only [go_sem];simp only [hN.o,Nat.add_zero,ne0 hj,ne1 hj,ne2 hj,ne3 hj,ne4 hj,ne5 hj,ne6 hj,neT hj,neC hj,go_sem];refine qo rfl hN.o rfl (zg hj rfl) ?_;obtain ⟨n1,n2⟩:=hN.struct (post':=post) (M':=(M.push f).ctl ⟨t,M.Control.Env⟩) (js':=[]) rfl rfl;generalize hg:List.set _ _ _=h3;replace n1:=NS.eqh n1 hg;replace n2:=Keep.eqh n2 hg;simp only [go_sem];exact hK _ ⟨_,_,_,n1⟩ (k2.trans n2)
end
end Go.Ab
namespace Go.Ab
open Go
set_option maxRecDepth 10000
set_option maxHeartbeats 2000000
section
variable {P:Nat→Prop} {w:Nat} {pre post:List AV} {id j:Nat} {h:List qC} {M:qD} {K:AV→List qC→Prop}
theorem jQ {w id len:Nat} {cl:Bool} {k:IntKind} {n:Int} (h0:0≤n) (h:n<len):idx w (some (.slice w id 0 len cl)) (some (.int k n))=some (.ptr id n.toNat 0):=by rw [qF8 h0 h,Nat.zero_add]
theorem frW {k v:Int}:Wk [] (.agg [.int .i64 k,.int .i64 v,.nils,.int .i64 0,.int .i64 0,.nils,.nils,.nils]) (fr k v).enc:=
  .agg (.same (.same (.cons .nilL (.same (.same (.cons .nilL (.cons .nilL (.cons .nilL .nil))))))))
theorem w9 {a b c d s5 s6:AV} {pre post:List AV}:Wks [] [.agg (pre++(([a,b,c,d,.nils]++[s5,s6])++post))] [.agg (pre++([a,b,c,d,.lst 1 [] false,s5,s6]++post))]:=
  .cons (.agg (Wks.app (.refl pre) (Wks.app (.same (.same (.same (.same (.cons .nilL (.refl _)))))) (.refl post)))) .nil
theorem qG5 (hj:pre.length=j) (hN:NSx P w pre post id h M) (d:Int)
    (hK:∀h',NSx P w pre post id h' (M.toRef d)→Keep P h h'→K (.tup []) h'):SCall Gm 1405 [.ptr id 0 j,.int .i64 d] h K:=by
  obtain ⟨si,hi,js,hN⟩:=hN;refine SCall.runW [] [] qPU (by kernel_rfl) rfl ?_;simp only [Wf,qK,go_sem];refine qL qNH ?_;simp only [go_sem];refine qo rfl hN.o rfl (zg hj rfl) ?_;simp only [go_sem];obtain ⟨n1,n2⟩:=hN.struct (post':=post) (M':=M.toRef d) (js':=js) rfl rfl;exact ⟨_,_,.refl _,WkH.set w9,hK _ ⟨_,_,_,n1⟩ n2⟩
theorem qTA (hj:pre.length=j) (hN:NSx P w pre post id h M) (hs:M.Stack.length≤1000000) (a:Int) (a0:0≤a) (a1:a.toNat<M.Heap.length)
    (hK:∀h',NSx P w pre post id h' (M.enter a)→Keep P h h'→K (.int .i64 2) h'):SCall Gm 1158 [.ptr id 0 j,.int .i64 a] h K:=by
  have hN0:=hN;obtain ⟨si,hi,js,hN⟩:=hN;have ec:M.cellAt a=M.Heap[a.toNat]:=by unfold qD.cellAt;rw [qF3 a1]
  refine SCall.run [] [] qPL (by kernel_rfl) rfl ?_;simp only [WW,qK,go_sem];simp only [hN.o,Nat.add_zero,ne0 hj,ne1 hj,ne2 hj,ne3 hj,ne4 hj,ne5 hj,ne6 hj,neT hj,neC hj,go_sem];simp only [jQ a0 (show a<(M.Heap.length:Int) by omega),go_sem,hN.t,List.getElem?_map,gEg a1,Option.map_some];refine qI ?_ ?_<;>intro hc<;>simp only [hc,go_sem]
  · have hd:M.Heap[a.toNat].Done=false:=by simpa using hc
    have en:M.enter a=(M.push (fr 1 a)).ctl M.Heap[a.toNat].Closure:=by unfold qD.enter;rw [ec,hd];rfl
    rw [en] at hK;refine qc (SCall.arg (.same (.cons frW .nil)) (Jg JT hj hN0 hs (fr 1 a) fun h2 hN2 k2=> ?_));clear hN;obtain ⟨si,hi,js,hN⟩:=hN2;simp only [go_sem];simp only [hN.o,Nat.add_zero,ne0 hj,ne1 hj,ne2 hj,ne3 hj,ne4 hj,ne5 hj,ne6 hj,neT hj,neC hj,go_sem];have a2:a.toNat<(M.push (fr 1 a)).Heap.length:=a1;have e2:(M.push (fr 1 a)).Heap.length=M.Heap.length:=rfl;have hN:=hN;have hNt:h2[hi]?=some (.row 6 (M.Heap.map qT.enc) true):=hN.t;simp only [jQ a0 (show a<(M.Heap.length:Int) by omega),go_sem,hNt,List.getElem?_map,gEg a1,Option.map_some];simp only [Nat.add_zero];refine qo rfl hN.o rfl (zg hj rfl) ?_;obtain ⟨n1,n2⟩:=hN.struct (post':=post) (M':=(M.push (fr 1 a)).ctl M.Heap[a.toNat].Closure) (js':=js) rfl rfl;generalize hg:List.set _ _ _=h3;replace n1:=NS.eqh n1 hg;replace n2:=Keep.eqh n2 hg;simp only [go_sem];exact hK _ ⟨_,_,_,n1⟩ (k2.trans n2)
  · have hd:M.Heap[a.toNat].Done=true:=by simpa using hc
    have en:M.enter a=M.ctl M.Heap[a.toNat].Closure:=by unfold qD.enter;rw [ec,hd];rfl
    rw [en] at hK;simp only [hN.o,Nat.add_zero,ne0 hj,ne1 hj,ne2 hj,ne3 hj,ne4 hj,ne5 hj,ne6 hj,neT hj,neC hj,go_sem];simp only [jQ a0 (show a<(M.Heap.length:Int) by omega),go_sem,hN.t,List.getElem?_map,gEg a1,Option.map_some];simp only [Nat.add_zero];refine qo rfl hN.o rfl (zg hj rfl) ?_;obtain ⟨n1,n2⟩:=hN.struct (post':=post) (M':=M.ctl M.Heap[a.toNat].Closure) (js':=js) rfl rfl;generalize hg:List.set _ _ _=h2;replace n1:=NS.eqh n1 hg;replace n2:=Keep.eqh n2 hg;clear hg;replace hN:=n1;simp only [go_sem];exact hK _ ⟨_,_,_,n1⟩ n2
end
end Go.Ab
namespace Go.Ab
open Go
set_option maxRecDepth 10000
set_option maxHeartbeats 2000000
attribute [local simp] qn qk
def Outs (P:Nat→Prop) (h h':List qC):Prop:=h.length≤h'.length∧∀j,j<h.length→¬P j→h'[j]?=h[j]?
def wU (P:Nat→Prop) (a b:Nat):Nat→Prop:=fun j=>P j∨j=a∨j=b
section
variable {P Q:Nat→Prop} {w:Nat} {pre post:List AV} {id j:Nat} {h h':List qC} {M:qD} {K:AV→List qC→Prop}
theorem NSx.out (hN:NSx P w pre post id h M) (ho:Outs P h h') (hq:∀j,Q j→(P j∨h.length≤j)∧j<h'.length):NSx Q w pre post id h' M:=by
  obtain ⟨si,hi,js,hN⟩:=hN;have l1:=qi hN.o;have l2:=qi hN.s;have l3:=qi hN.t;refine ⟨si,hi,js,by rw [ho.2 _ l1 hN.p1];exact hN.o,by rw [ho.2 _ l2 hN.p2];exact hN.s,by rw [ho.2 _ l3 hN.p3];exact hN.t,hN.d1,hN.d2,hN.d3,fun q=> ?_,fun q=> ?_,fun q=> ?_,fun j hj=>(hq j hj).2⟩
  · rcases (hq _ q).1 with q | q
    · exact hN.p1 q
    · omega
  · rcases (hq _ q).1 with q | q
    · exact hN.p2 q
    · omega
  · rcases (hq _ q).1 with q | q
    · exact hN.p3 q
    · omega
theorem NSx.pl (hN:NSx P w pre post id h M) {j:Nat} (hj:P j):j<h.length:=by obtain ⟨_,_,_,hN⟩:=hN;exact hN.pl j hj
theorem NSx.sub (hN:NSx P w pre post id h M) (hq:∀j,Q j→P j):NSx Q w pre post id h M:=by obtain ⟨_,_,_,hN⟩:=hN;exact ⟨_,_,_,hN.kp hq⟩
theorem Outs.app {er v:Nat} {x y:qC} (hp:P er):Outs P h (((h++[x]).set er .dead)++[y]):=by
  refine ⟨by simp;omega,fun j hj hn=> ?_⟩;have:er≠j:=by rintro rfl;exact hn hp
  rw [List.getElem?_append_left (by simp;omega),List.getElem?_set_ne this,List.getElem?_append_left hj]
theorem Keep.app {er:Nat} {x y:qC} (hp:¬P er) (hl:∀j,P j→j<h.length):Keep P h (((h++[x]).set er .dead)++[y]):=by
  refine ⟨by simp;omega,fun j hj=> ?_⟩;have h1:=hl j hj;have:er≠j:=by rintro rfl;exact hp hj
  rw [List.getElem?_append_left (by simp;omega),List.getElem?_set_ne this,List.getElem?_append_left h1]
namespace qD
theorem qMT {t:qA}:(M.addr t).2.Control=M.Control:=by unfold addr;split<;>rfl
theorem qMU {t:qA}:(M.addr t).2.Heap.length≤M.Heap.length+1:=by unfold addr;split<;>simp
theorem addrs_snoc {k:qA}:∀(ks:List qA) (M:qD),addrs (ks++[k]) M=((addrs ks M).1++[((addrs ks M).2.addr k).1],((addrs ks M).2.addr k).2)
  |[],M=>rfl
  | a::ks,M=>by simp only [List.cons_append,addrs,addrs_snoc ks]
theorem addrs_control:∀(ks:List qA) (M:qD),(addrs ks M).2.Control=M.Control
  |[],M=>rfl
  | a::ks,M=>by simp only [addrs];rw [addrs_control ks,qMT]
theorem addrs_heap:∀(ks:List qA) (M:qD),(addrs ks M).2.Heap.length≤M.Heap.length+ks.length
  |[],M=>by simp [addrs]
  | a::ks,M=>by
    simp only [addrs,List.length_cons];have:=addrs_heap ks (M.addr a).2;have:=qMU (M:=M) (t:=a);omega
theorem addrs_len:∀(ks:List qA) (M:qD),(addrs ks M).1.length=ks.length
  |[],M=>rfl
  | a::ks,M=>by simp only [addrs,List.length_cons,addrs_len ks]
end qD
theorem Vg {er kr u v:Nat} {xs ys zs:List AV} {x:qC} {h0 g g':List qC} (hg:((g++[x]).set er .dead)++[.row v zs true]=g') (hN:NSx (wU P er kr) w pre post id g M) (h3:g[er]?=some (.row v xs true)) (h4:g[kr]?=some (.row u ys true)) (hne:er≠kr) (hk:Keep P h0 g)
    (hP:∀j,P j→j<h0.length) (h6:h0.length≤er):NSx (wU P (g.length+1) kr) w pre post id g' M∧g'[g.length+1]?=some (.row v zs true)∧g'[kr]?=some (.row u ys true)∧g.length+1≠kr∧Keep P h0 g'∧h0.length≤g.length+1:=by
  have l3:=qi h3;have l4:=qi h4;have l0:=hk.1;have hl:g'.length=g.length+2:=by rw [←hg];simp
  refine ⟨hN.out (P:=wU P er kr) (h':=g') (by rw [←hg];exact Outs.app (v:=0) (.inr (.inl rfl))) fun j hj=> ?_, ?_, ?_,by omega, ?_,by omega⟩
  · rcases hj with hj | rfl | rfl
    · have:=hP _ hj;exact ⟨.inl (.inl hj),by omega⟩
    · exact ⟨.inr (by omega),by omega⟩
    · exact ⟨.inl (.inr (.inr rfl)),by omega⟩
  · rw [←hg,List.getElem?_append_right (by simp)];simp
  · rw [←hg,List.getElem?_append_left (by simp;omega),List.getElem?_set_ne hne,List.getElem?_append_left l4];exact h4
  · rw [←hg];exact hk.trans (Keep.app (fun q=>by have:=hP _ q;omega) fun j hj=>by have:=hP _ hj;omega)
theorem NSx.swap {a b:Nat} (hN:NSx (wU P a b) w pre post id h M):NSx (wU P b a) w pre post id h M:=hN.sub fun j hj=>hj.elim .inl fun q=>.inr q.symm
theorem qL6 {α:Type} {xs:List α} {i:Nat} (h:i<xs.length):xs.take (i+1)=xs.take i++[xs[i]]:=by rw [List.take_add_one,gEg h];rfl
theorem qMI (n:Nat):vars (n+1)=vars n++[.mk 1 n [] []]:=by unfold vars;rw [List.range_succ,List.map_append];rfl
theorem Vx (n:Nat):(vars n).length=n:=by simp [vars]
theorem qTB (hj:pre.length=j) (hN:NSx P w pre post id h M) (t:qA) (hn:t.Kids.length≤1000) (hs:M.Heap.length≤100000) (hv:∀k∈t.Kids,k.Kind=1→0≤k.Value∧k.Value.toNat<M.Control.Env.length)
    (hK:∀h',NSx P w pre post id h' (M.build t)→Keep P h h'→K (.int .i64 8) h'):SCall Gm 1160 [.ptr id 0 j,t.enc] h K:=by
  refine SCall.run [] [] qPN (by kernel_rfl) rfl ?_;simp only [WY,qK,go_sem];refine qd qA.ln ?_;simp only [go_sem];refine qY (k:=4) (by rfl) (by rfl) (by exact ⟨_,rfl⟩) (by decide) ?_;simp only [go_sem];refine qJ1 (fun q:Nat×List qC×Nat×Nat=>q.1≤t.Kids.length∧NSx (wU P q.2.2.1 q.2.2.2) w pre post id q.2.1 (qD.addrs (t.Kids.take q.1) M).2∧q.2.1[q.2.2.1]?=some (.row 1 ((qD.addrs (t.Kids.take q.1) M).1.map qE) true)∧
      q.2.1[q.2.2.2]?=some (.row 4 ((vars q.1).map qA.enc) true)∧q.2.2.1≠q.2.2.2∧h.length≤q.2.2.1∧h.length≤q.2.2.2∧Keep P h q.2.1)
    (fun q=>(⟨[(0,.ptr id 0 j),(6,.slice 1 q.2.2.1 0 q.1 false),(13,.lst 4 (t.Kids.map qA.enc) false),(14,.int .i64 (t.Kids.length:Nat)),(15,.int .i64 (q.1:Nat))],
      [(5,.agg [.int .i64 8,.int .i64 t.Value,.nils,.slice 4 q.2.2.2 0 q.1 false])],q.2.1⟩:VSt)) (fun q=>t.Kids.length-q.1) (0,(h++[.row 1 [] true])++[.row 4 [] true],h.length,h.length+1)
    (fun g:List qC=>NSx P w pre post id g (qD.addrs t.Kids M).2∧Keep P h g)
    (fun g=>(⟨[(0,.ptr id 0 j),(6,.lst 1 ((qD.addrs t.Kids M).1.map qE) false)],[(5,(qA.mk 8 t.Value [] (vars t.Kids.length)).enc)],g⟩:VSt)) (by kernel_rfl) ?_ ?_ ?_ ?_
  · refine ⟨Nat.zero_le _, ?_, ?_, ?_,by simp,by simp,by simp, ?_⟩
    · simp only [List.take_zero,qD.addrs];refine NSx.out hN ⟨by simp,fun j hj _=> ?_⟩ fun j hj=> ?_
      · rw [List.getElem?_append_left (by simp;omega),List.getElem?_append_left hj]
      · rcases hj with hj | rfl | rfl
        · have:=hN.pl hj;exact ⟨.inl hj,by simp;omega⟩
        · exact ⟨.inr (by simp),by simp⟩
        · exact ⟨.inr (by simp),by simp⟩
    · simp [qD.addrs,List.getElem?_append]
    · simp [vars,List.getElem?_append]
    · exact ⟨by simp,fun j hj=>by have:=hN.pl hj;simp only;rw [List.getElem?_append_left (by simp;omega),List.getElem?_append_left this]⟩
  · refine (Can.ph (w:=1) (s':=[(0,.ptr id 0 j),(6,.slice 1 h.length 0 0 false),(13,.lst 4 (t.Kids.map qA.enc) false),(14,.int .i64 (t.Kids.length:Nat)),(15,.int .i64 0)]) (m':=[(5,.agg [.int .i64 8,.int .i64 t.Value,.nils,.nils])]) ?_ ?_).trans (Can.ph (w:=4) ?_ ?_)
    · exact WkN.same (by simp [go_sem]) (WkN.cons (v:=.nils) (by simp [go_sem]) (.ph (by simp)) (WkN.same (by simp [go_sem]) (WkN.same (by simp [go_sem]) (WkN.same (by simp [go_sem]) .nil))))
    · exact WkN.same (by simp [go_sem]) .nil
    · exact WkN.same (by simp [go_sem]) (WkN.same (by simp [go_sem]) (WkN.same (by simp [go_sem]) (WkN.same (by simp [go_sem]) (WkN.same (by simp [go_sem]) .nil))))
    · exact WkN.cons (v:=.agg [.int .i64 8,.int .i64 t.Value,.nils,.nils]) (by simp [go_sem]) (.agg (.same (.same (.same (.cons (.ph (by simp)) .nil))))) .nil
  · rintro ⟨i,g,er,kr⟩ ⟨h1,h2,h3,h4,h5,h6,h7,h8⟩;simp only at h1 h2 h3 h4 h5 h6 h7 h8⊢;simp only [go_sem];refine qI ?_ ?_<;>intro hc<;>simp only [hc,go_sem]
    · have hlt:i<t.Kids.length:=by have:=odT hc;omega
      clear hc;simp only [List.getElem?_map,gEg hlt,Option.map_some,go_sem];refine qY (k:=4) (by rfl) (by simp [go_sem]) (qA.isAgg _) (by decide) ?_;simp only [go_sem];have c1:=qD.addrs_control (t.Kids.take i) M;have c2:=qD.addrs_heap (t.Kids.take i) M;have c3:=qD.addrs_len (t.Kids.take i) M;rw [List.length_take] at c2 c3;have c4:=qD.addrs_snoc (k:=t.Kids[i]) (t.Kids.take i) M;rw [←qL6 hlt] at c4;refine qc (qLJ hj h2 (by omega) t.Kids[i] (fun hk=>by rw [c1];exact hv _ (gMm hlt) hk) fun g2 n2 k2=> ?_);simp only [go_sem];have q3:g2[er]?=_:=(k2.2 er (.inr (.inl rfl))).trans h3;have q4:g2[kr]?=_:=(k2.2 kr (.inr (.inr rfl))).trans h4;have q8:Keep P h g2:=h8.trans (k2.sub fun j hj=>.inl hj);refine jl (xs:=(qD.addrs (t.Kids.take i) M).1.map qE) (js:=[]) List.getElem?_concat_length (by rw [List.getElem?_append_left (qi q3),List.append_nil];exact q3) (by rw [List.length_map];omega) (by omega) ?_;generalize hg:(List.set (g2++[qC.row 1 _ true]) er qC.dead++[qC.row 1 _ true])=g3;obtain ⟨m1,m2,m3,m4,m5,m6⟩:=Vg hg n2 q3 q4 h5 q8 (fun j hj=>hN.pl hj) h6;rw [show (g2++[qC.row 1 [AV.int .i64 ((qD.addrs (t.Kids.take i) M).2.addr t.Kids[i]).1] true]).length=g2.length+1 by simp];simp only [go_sem];refine qL c727 ?_;simp only [go_sem];refine jl (xs:=(vars i).map qA.enc) (js:=[]) List.getElem?_concat_length (by rw [List.getElem?_append_left (qi m3),List.append_nil];exact m3) (by rw [List.length_map,Vx]) (by omega) ?_;generalize hg2:(List.set (g3++[qC.row 4 _ true]) kr qC.dead++[qC.row 4 _ true])=g4;obtain ⟨p1,p2,p3,p4,p5,p6⟩:=Vg hg2 m1.swap m3 m2 (Ne.symm m4) m5 (fun j hj=>hN.pl hj) h7;rw [show (g3++[qC.row 4 [(qA.mk 1 (i:Nat) [] []).enc] true]).length=g3.length+1 by simp];simp only [go_sem];rw [zA (by omega)];refine qJ0 (i+1,g4,g2.length+1,g3.length+1) ⟨by simp only;omega, ?_, ?_, ?_,Ne.symm p4,m6,p6,p5⟩ (by simp only;omega) (Can.sub (by simp [go_sem]) (by simp [go_sem]))
      · simp only [c4];exact p1.swap
      · simp only [c4];rw [p3];simp;rfl
      · simp only;rw [p2,qMI];simp
    · obtain rfl:i=t.Kids.length:=by have:=odF hc;omega
      rw [List.take_length] at h2 h3;refine qKO (without [er,kr] g) ⟨h2.out (P:=wU P er kr) ⟨by rw [zy];exact Nat.le_refl _,fun j _ hn=>jh fun hj=>hn ?_⟩ fun j hj=>⟨.inl (.inl hj), ?_⟩,h8.trans ⟨by rw [zy];exact Nat.le_refl _,fun j hj=>jh ?_⟩⟩ (Can.give [er,kr] ?_ ?_)
      · simp only [List.mem_cons,List.not_mem_nil,or_false] at hj;exact .inr hj
      · have:=h2.pl (.inl hj);rw [zy];exact this
      · have:=hN.pl hj;simp only [List.mem_cons,List.not_mem_nil,or_false];omega
      · refine GvS.same (by simp [go_sem]) (GvS.cons (v:=.slice 1 er 0 t.Kids.length false) (by simp [go_sem]) (Cv.row (by rw [Qk (by simp)];exact h3) (by rw [List.length_map,qD.addrs_len]) (qk _) (by decide)) (by simp [AV.tree,qk]) .nil)
      · refine GvS.cons (v:=.agg [.int .i64 8,.int .i64 t.Value,.nils,.slice 4 kr 0 t.Kids.length false]) (by simp [go_sem]) (Yi .nils (Cv.row (by rw [Qk (by simp)];exact h4) (by rw [List.length_map,Vx]) (qn _) (by decide))) qA.tr .nil
  · rintro g ⟨h1,h2⟩;simp only [go_sem];simp only [Nat.add_zero];obtain ⟨si,hi,js,h1⟩:=h1;refine qo rfl h1.o rfl (zg hj rfl) ?_;simp only [go_sem];obtain ⟨n1,n2⟩:=h1.struct (post':=post) (M':=M.build t) (js':=js) rfl rfl;exact hK _ ⟨_,_,_,n1⟩ (h2.trans n2)
theorem qS8 (hj:pre.length=j) (hN:NSx P w pre post id h M) (hn:M.Control.Term.Kids.length≤1000) (hs:M.Heap.length≤100000) (hv:∀k∈M.Control.Term.Kids,k.Kind=1→0≤k.Value∧k.Value.toNat<M.Control.Env.length)
    (hK:∀h',NSx P w pre post id h' (M.build M.Control.Term)→Keep P h h'→K (.tup []) h'):SCall Gm 1152 [.ptr id 0 j] h K:=by
  have hN0:=hN;obtain ⟨si,hi,js,hN⟩:=hN;refine SCall.run [] [] qPH (by kernel_rfl) rfl ?_;simp only [WK,qK,go_sem];simp only [hN.o,Nat.add_zero,ne0 hj,ne1 hj,ne2 hj,ne3 hj,ne4 hj,ne5 hj,ne6 hj,neT hj,neC hj,go_sem];generalize ht:M.Control.Term=t at*;refine qY (k:=4) (by rfl) (by simp [go_sem]) (qA.isAgg _) (by decide) ?_;simp only [go_sem];clear hN si hi js;have hN:=hN0;clear hN0;refine qJ1 (fun q:Nat×List qC×Nat×Nat=>q.1≤t.Kids.length∧NSx (wU P q.2.2.1 q.2.2.2) w pre post id q.2.1 (qD.addrs (t.Kids.take q.1) M).2∧q.2.1[q.2.2.1]?=some (.row 1 ((qD.addrs (t.Kids.take q.1) M).1.map qE) true)∧
      q.2.1[q.2.2.2]?=some (.row 4 ((vars q.1).map qA.enc) true)∧q.2.2.1≠q.2.2.2∧h.length≤q.2.2.1∧h.length≤q.2.2.2∧Keep P h q.2.1)
    (fun q=>(⟨[(0,.ptr id 0 j),(3,.slice 4 q.2.2.2 0 q.1 false),(4,.slice 1 q.2.2.1 0 q.1 false),(5,.int .i64 (q.1:Nat))],
      [(2,t.enc)],q.2.1⟩:VSt)) (fun q=>t.Kids.length-q.1) (0,(h++[.row 1 [] true])++[.row 4 [] true],h.length,h.length+1)
    (fun g:List qC=>NSx P w pre post id g (qD.addrs t.Kids M).2∧Keep P h g)
    (fun g=>(⟨[(0,.ptr id 0 j),(3,.lst 4 ((vars t.Kids.length).map qA.enc) false),(4,.lst 1 ((qD.addrs t.Kids M).1.map qE) false)],[(2,t.enc)],g⟩:VSt)) (by kernel_rfl) ?_ ?_ ?_ ?_
  · refine ⟨Nat.zero_le _, ?_, ?_, ?_,by simp,by simp,by simp, ?_⟩
    · simp only [List.take_zero,qD.addrs];refine NSx.out hN ⟨by simp,fun j hj _=> ?_⟩ fun j hj=> ?_
      · rw [List.getElem?_append_left (by simp;omega),List.getElem?_append_left hj]
      · rcases hj with hj | rfl | rfl
        · have:=hN.pl hj;exact ⟨.inl hj,by simp;omega⟩
        · exact ⟨.inr (by simp),by simp⟩
        · exact ⟨.inr (by simp),by simp⟩
    · simp [qD.addrs,List.getElem?_append]
    · simp [vars,List.getElem?_append]
    · exact ⟨by simp,fun j hj=>by have:=hN.pl hj;simp only;rw [List.getElem?_append_left (by simp;omega),List.getElem?_append_left this]⟩
  · refine (Can.ph (w:=1) (s':=[(0,.ptr id 0 j),(3,.lst 4 [] true),(4,.slice 1 h.length 0 0 false),(5,.int .i64 0)]) (m':=[(2,t.enc)]) ?_ ?_).trans (Can.ph (w:=4) ?_ ?_)
    · exact WkN.same (by simp [go_sem]) (WkN.same (by simp [go_sem]) (WkN.cons (v:=.lst 1 [] true) (by simp [go_sem]) (.ph2 (by simp)) (WkN.same (by simp [go_sem]) .nil)))
    · exact WkN.same (by simp [go_sem]) .nil
    · exact WkN.same (by simp [go_sem]) (WkN.cons (v:=.lst 4 [] true) (by simp [go_sem]) (.ph2 (by simp)) (WkN.same (by simp [go_sem]) (WkN.same (by simp [go_sem]) .nil)))
    · exact WkN.same (by simp [go_sem]) .nil
  · rintro ⟨i,g,er,kr⟩ ⟨h1,h2,h3,h4,h5,h6,h7,h8⟩;simp only at h1 h2 h3 h4 h5 h6 h7 h8⊢;simp only [go_sem];refine qI ?_ ?_<;>intro hc<;>simp only [hc,go_sem]
    · have hlt:i<t.Kids.length:=by have:=odT hc;omega
      clear hc;simp only [List.getElem?_map,gEg hlt,Option.map_some,go_sem];have c1:=qD.addrs_control (t.Kids.take i) M;have c2:=qD.addrs_heap (t.Kids.take i) M;have c3:=qD.addrs_len (t.Kids.take i) M;rw [List.length_take] at c2 c3;have c4:=qD.addrs_snoc (k:=t.Kids[i]) (t.Kids.take i) M;rw [←qL6 hlt] at c4;refine qc (qLI hj h2 (by omega) t.Kids[i] (fun hk=>by rw [c1];exact hv _ (gMm hlt) hk) fun g2 n2 k2=> ?_);simp only [go_sem];have q3:g2[er]?=_:=(k2.2 er (.inr (.inl rfl))).trans h3;have q4:g2[kr]?=_:=(k2.2 kr (.inr (.inr rfl))).trans h4;have q8:Keep P h g2:=h8.trans (k2.sub fun j hj=>.inl hj);refine jl (xs:=(qD.addrs (t.Kids.take i) M).1.map qE) (js:=[]) List.getElem?_concat_length (by rw [List.getElem?_append_left (qi q3),List.append_nil];exact q3) (by rw [List.length_map];omega) (by omega) ?_;generalize hg:(List.set (g2++[qC.row 1 _ true]) er qC.dead++[qC.row 1 _ true])=g3;obtain ⟨m1,m2,m3,m4,m5,m6⟩:=Vg hg n2 q3 q4 h5 q8 (fun j hj=>hN.pl hj) h6;rw [show (g2++[qC.row 1 [AV.int .i64 ((qD.addrs (t.Kids.take i) M).2.addr t.Kids[i]).1] true]).length=g2.length+1 by simp];simp only [go_sem];refine qL c612 ?_;simp only [go_sem];refine jl (xs:=(vars i).map qA.enc) (js:=[]) List.getElem?_concat_length (by rw [List.getElem?_append_left (qi m3),List.append_nil];exact m3) (by rw [List.length_map,Vx]) (by omega) ?_;generalize hg2:(List.set (g3++[qC.row 4 _ true]) kr qC.dead++[qC.row 4 _ true])=g4;obtain ⟨p1,p2,p3,p4,p5,p6⟩:=Vg hg2 m1.swap m3 m2 (Ne.symm m4) m5 (fun j hj=>hN.pl hj) h7;rw [show (g3++[qC.row 4 [(qA.mk 1 (i:Nat) [] []).enc] true]).length=g3.length+1 by simp];simp only [go_sem];rw [zA (by omega)];refine qJ0 (i+1,g4,g2.length+1,g3.length+1) ⟨by simp only;omega, ?_, ?_, ?_,Ne.symm p4,m6,p6,p5⟩ (by simp only;omega) (Can.sub (by simp [go_sem]) (by simp [go_sem]))
      · simp only [c4];exact p1.swap
      · simp only [c4];rw [p3];simp;rfl
      · simp only;rw [p2,qMI];simp
    · obtain rfl:i=t.Kids.length:=by have:=odF hc;omega
      rw [List.take_length] at h2 h3;refine qKO (without [er,kr] g) ⟨h2.out (P:=wU P er kr) ⟨by rw [zy];exact Nat.le_refl _,fun j _ hn=>jh fun hj=>hn ?_⟩ fun j hj=>⟨.inl (.inl hj), ?_⟩,h8.trans ⟨by rw [zy];exact Nat.le_refl _,fun j hj=>jh ?_⟩⟩ (Can.give [er,kr] ?_ ?_)
      · simp only [List.mem_cons,List.not_mem_nil,or_false] at hj;exact .inr hj
      · have:=h2.pl (.inl hj);rw [zy];exact this
      · have:=hN.pl hj;simp only [List.mem_cons,List.not_mem_nil,or_false];omega
      · refine GvS.same (by simp [go_sem]) (GvS.cons (v:=.slice 4 kr 0 t.Kids.length false) (by simp [go_sem]) (Cv.row (by rw [Qk (by simp)];exact h4) (by rw [List.length_map,Vx]) (qn _) (by decide)) (by simp [AV.tree,qn]) (GvS.cons (v:=.slice 1 er 0 t.Kids.length false) (by simp [go_sem]) (Cv.row (by rw [Qk (by simp)];exact h3) (by rw [List.length_map,qD.addrs_len]) (qk _) (by decide)) (by simp [AV.tree,qk]) .nil))
      · exact GvS.same (by simp [go_sem]) .nil
  · rintro g ⟨h1,h2⟩;simp only [go_sem];refine qL c382 ?_;simp only [go_sem];simp only [Nat.add_zero];obtain ⟨si,hi,js,h1⟩:=h1;refine qo rfl h1.o rfl (zg hj rfl) ?_;simp only [go_sem];obtain ⟨n1,n2⟩:=h1.struct (post':=post) (M':=M.build t) (js':=js) rfl rfl;exact hK _ ⟨_,_,_,n1⟩ (h2.trans n2)
end
end Go.Ab
namespace Go.Ab
open Go
set_option maxRecDepth 10000
set_option maxHeartbeats 2000000
section
variable {P:Nat→Prop} {w:Nat} {pre post:List AV} {id j:Nat} {h:List qC} {M:qD} {K:AV→List qC→Prop} {b:qH}
theorem QR {w id n:Nat} {c:Bool} (h0:0<n) (h1:n≤1000000):idx w (some (.slice w id 0 n c)) (some (.int .i64 (IntKind.i64.wrap ((n:Int)-1))))=some (.ptr id (n-1) 0):=by
  rw [V0 h0 (by omega),qF8 (by omega) (by omega),Int.toNat_natCast,Nat.zero_add]
theorem Qt {js:List AV} (h0:0<M.Stack.length):(M.Stack.map qR.enc++js)[M.Stack.length-1]?=some M.top.enc:=by
  rw [List.getElem?_append_left (by simp;omega),List.getElem?_map,(wQ h0).1,gEg (by omega)];rfl
theorem WkH.set2 {ns:List Nat} {a c:List qC} (hw:WkH ns a c) {i:Nat} {o:qC}:WkH ns (a.set i o) (c.set i o):=by
  refine ⟨by simp [hw.1],fun k p p' h1 h2=> ?_⟩;rw [List.getElem?_set] at h1 h2;split at h1
  · rename_i e;rw [if_pos e] at h2;split at h1
    · rename_i hl;rw [if_pos (by rw [←hw.1];exact hl)] at h2;cases h1;cases h2;exact .refl _
    · cases h1
  · rename_i e;rw [if_neg e] at h2;exact hw.2 k p p' h1 h2
theorem qKV {si hi:Nat} {js:List AV} (hN:NS P w pre post id h M si hi js) {x:qC} {F:AV} {f:qR} (hF:Wk [] F f.enc):∃h'',WkH [] ((((h++[x]).set si .dead)++[qC.row 8 (M.Stack.map qR.enc++[F]) true]).set id (.row w [.agg (pre++(Nec (M.push f) (h.length+1) hi++post))] true)) h''∧
    NS P w pre post id h'' (M.push f) (h.length+1) hi []∧Keep P h h'':=by
  obtain ⟨n1,n2⟩:=hN.push (M':=M.push f) (x:=x) rfl;refine ⟨_,WkH.set2 (WkH.app (.refl _) (.row ?_)),n1,n2⟩;simp only [qD.push,List.map_append,List.map_cons,List.map_nil];exact Wks.app (.refl _) (.cons hF .nil)
theorem V2 {g:List qC} {e:Nat} {env:List Int} (he:g[e]?=some (.row 1 (env.map qE) true)):HCv (only [e] g) (.slice 1 e 0 env.length false) (.lst 1 (env.map qE) false):=
  .cv (Cv.row (by rw [Qk (by simp)];exact he) (by rw [List.length_map]) (zD shI.tree _) (by decide)) (by simp only [AV.tree];exact zD shI.tree _)
theorem Yj {bb:Nat} {g:List qC} {e:Nat} {si hi:Nat} {js:List AV} {t:qA} {env:List Int} (hN:NS P w pre post id h M si hi js) (hg:h.length≤g.length) (hold:∀i,i<h.length→g[i]?=h[i]?) (he:g[e]?=some (.row 1 (env.map qE) true)) (hle:h.length≤e):
    ∃h'',(∀s m,Can bb ⟨s,m,g.set id (.row w [.agg (pre++(([.int .i64 t.Kind,.int .i64 t.Value,.lst 1 (t.Data.map qE) false,.lst 4 (t.Kids.map qA.enc) false,.slice 1 e 0 env.length false]++[.slice 8 si 0 M.Stack.length false,.slice 6 hi 0 M.Heap.length false])++post))] true)⟩ ⟨s,m,h''⟩)∧
      NSx P w pre post id h'' (M.ctl ⟨t,env⟩)∧Keep P h h'':=by
  have hid:=qi hN.o;have hsi:=qi hN.s;have hhi:=qi hN.t;have hee:=qi he;have hne:e≠id:=by omega
  refine ⟨_,fun s m=>Can.giveH (id:=id) (w:=w) (el:=[.agg (pre++(([.int .i64 t.Kind,.int .i64 t.Value,.lst 1 (t.Data.map qE) false,.lst 4 (t.Kids.map qA.enc) false,.slice 1 e 0 env.length false]++[.slice 8 si 0 M.Stack.length false,.slice 6 hi 0 M.Heap.length false])++post))])
    (el':=[.agg (pre++(Nec (M.ctl ⟨t,env⟩) si hi++post))]) [e] (by simpa using Ne.symm hne) (by rw [List.getElem?_set,if_pos rfl,if_pos (by omega)]) (by simp) ?_, ?_, ?_⟩
  · have hA:[AV.agg (pre++(([.int .i64 t.Kind,.int .i64 t.Value,.lst 1 (t.Data.map qE) false,.lst 4 (t.Kids.map qA.enc) false,.slice 1 e 0 env.length false]++[.slice 8 si 0 M.Stack.length false,.slice 6 hi 0 M.Heap.length false])++post))].length=[AV.agg (pre++(Nec (M.ctl ⟨t,env⟩) si hi++post))].length∧True:=⟨rfl,trivial⟩;refine HCv.list ?_ (HCv.refls []);have q:=HCv.apps (H:=only [e] (g.set id (.row w [.agg (pre++(([.int .i64 t.Kind,.int .i64 t.Value,.lst 1 (t.Data.map qE) false,.lst 4 (t.Kids.map qA.enc) false,.slice 1 e 0 env.length false]++[.slice 8 si 0 M.Stack.length false,.slice 6 hi 0 M.Heap.length false])++post))] true))) pre
      (as:=([.int .i64 t.Kind,.int .i64 t.Value,.lst 1 (t.Data.map qE) false,.lst 4 (t.Kids.map qA.enc) false,.slice 1 e 0 env.length false]++[.slice 8 si 0 M.Stack.length false,.slice 6 hi 0 M.Heap.length false])++post) (bs:=Nec (M.ctl ⟨t,env⟩) si hi++post)
      (HCv.list (.same _) (HCv.list (.same _) (HCv.list (.same _) (HCv.list (.same _) (HCv.list (V2 (by rw [List.getElem?_set_ne (Ne.symm hne)];exact he)) (HCv.list (.same _) (HCv.list (.same _) (HCv.refls _))))))))
    exact .agg q.1 q.2
  · have old:∀i,i<h.length→i≠id→((without [e] (g.set id (.row w [.agg (pre++(([.int .i64 t.Kind,.int .i64 t.Value,.lst 1 (t.Data.map qE) false,.lst 4 (t.Kids.map qA.enc) false,.slice 1 e 0 env.length false]++[.slice 8 si 0 M.Stack.length false,.slice 6 hi 0 M.Heap.length false])++post))] true))).set id (.row w [.agg (pre++(Nec (M.ctl ⟨t,env⟩) si hi++post))] true))[i]?=h[i]?:=fun i hi hn=>by
      rw [List.getElem?_set_ne (Ne.symm hn),jh (by simp;omega),List.getElem?_set_ne (Ne.symm hn),hold i hi]
    exact ⟨si,hi,js,by rw [List.getElem?_set,if_pos rfl,if_pos (by rw [zy];simp;omega)],by rw [old si hsi (Ne.symm hN.d1)];exact hN.s,by rw [old hi hhi (Ne.symm hN.d2)];exact hN.t,hN.d1,hN.d2,hN.d3,hN.p1,hN.p2,hN.p3,fun j hj=>by have:=hN.pl j hj;rw [List.length_set,zy];simp;omega⟩
  · refine ⟨by rw [List.length_set,zy];simp;omega,fun j hj=> ?_⟩;have h1:=hN.pl j hj;have h2:j≠id:=by rintro rfl;exact hN.p1 hj
    rw [List.getElem?_set_ne (Ne.symm h2),jh (by simp;omega),List.getElem?_set_ne (Ne.symm h2),hold j h1]
theorem qR0 {α:Type} {xs js:List α} {y:α} (h:0<xs.length):(xs++js).set (xs.length-1) y=xs.dropLast++(y::js):=by
  obtain ⟨ys,z,rfl⟩:∃ys z,xs=ys++[z]:=⟨_,_,(List.dropLast_concat_getLast (l:=xs) (by intro q;subst q;simp at h)).symm⟩;rw [List.dropLast_concat,lAp,List.length_cons,List.length_nil,Nat.zero_add,Nat.add_sub_cancel,List.append_assoc];simp [List.set_append]
theorem qOX {bb:Nat} {g:List qC} {e:Nat} {si hi:Nat} {js:List AV} {k v:Int} {d:List Int} (hN:NS P w pre post id h M si hi js) (h0:0<M.Stack.length) (hg:h.length≤g.length) (hold:∀i,i<h.length→g[i]?=h[i]?) (he:g[e]?=some (.row 1 (d.map qE) true)) (hle:h.length≤e):
    ∃h'',(∀s m,Can bb ⟨s,m,g.set si (.row 8 ((M.Stack.map qR.enc++js).set (M.Stack.length-1) (.agg [.int .i64 k,.int .i64 v,.slice 1 e 0 d.length false,.int .i64 0,.int .i64 0,.nils,.nils,.nils])) true)⟩ ⟨s,m,h''⟩)∧
      NS P w pre post id h'' (M.pop.push ⟨k,v,d,noC⟩) si hi js∧Keep P h h'':=by
  have hid:=qi hN.o;have hsi:=qi hN.s;have hhi:=qi hN.t;have hee:=qi he;have hne:e≠si:=by omega
  have es:(M.Stack.map qR.enc++js).set (M.Stack.length-1) (.agg [.int .i64 k,.int .i64 v,.slice 1 e 0 d.length false,.int .i64 0,.int .i64 0,.nils,.nils,.nils])=M.Stack.dropLast.map qR.enc++(.agg [.int .i64 k,.int .i64 v,.slice 1 e 0 d.length false,.int .i64 0,.int .i64 0,.nils,.nils,.nils]::js):=by
    have:=qR0 (xs:=M.Stack.map qR.enc) (js:=js) (y:=.agg [.int .i64 k,.int .i64 v,.slice 1 e 0 d.length false,.int .i64 0,.int .i64 0,.nils,.nils,.nils]) (by simpa using h0);rw [List.length_map,←List.map_dropLast] at this;exact this
  have ed:(M.pop.push ⟨k,v,d,noC⟩).Stack.map qR.enc++js=M.Stack.dropLast.map qR.enc++(qR.enc ⟨k,v,d,noC⟩::js):=by simp [qD.push,qD.pop]
  have hnec:Nec (M.pop.push ⟨k,v,d,noC⟩) si hi=Nec M si hi:=by
    have:(M.pop.push ⟨k,v,d,noC⟩).Stack.length=M.Stack.length:=by simp [qD.push,qD.pop];omega
    unfold Nec;rw [this];rfl
  rw [es];refine ⟨_,fun s m=>Can.giveH (id:=si) (w:=8) (el:=M.Stack.dropLast.map qR.enc++(.agg [.int .i64 k,.int .i64 v,.slice 1 e 0 d.length false,.int .i64 0,.int .i64 0,.nils,.nils,.nils]::js))
    (el':=(M.pop.push ⟨k,v,d,noC⟩).Stack.map qR.enc++js) [e] (by simpa using Ne.symm hne) (by rw [List.getElem?_set,if_pos rfl,if_pos (by omega)]) (by simp;omega) ?_, ?_, ?_⟩
  · rw [ed];refine HCv.apps _ (HCv.list ?_ (HCv.refls js));have q:=HCv.list (H:=only [e] (g.set si (.row 8 (M.Stack.dropLast.map qR.enc++(.agg [.int .i64 k,.int .i64 v,.slice 1 e 0 d.length false,.int .i64 0,.int .i64 0,.nils,.nils,.nils]::js)) true))) (.same (.int .i64 k)) (HCv.list (.same (.int .i64 v)) (HCv.list (V2 (by rw [List.getElem?_set_ne (Ne.symm hne)];exact he)) (HCv.list (.same (.int .i64 0)) (HCv.list (.same (.int .i64 0))
      (HCv.list (.cv (.nils (w:=1) (c:=false)) rfl) (HCv.list (.cv (.nils (w:=4) (c:=false)) rfl) (HCv.list (.cv (.nils (w:=1) (c:=false)) rfl) (HCv.refls []))))))))
    exact .agg q.1 q.2
  · have old:∀i,i<h.length→i≠si→((without [e] (g.set si (.row 8 (M.Stack.dropLast.map qR.enc++(.agg [.int .i64 k,.int .i64 v,.slice 1 e 0 d.length false,.int .i64 0,.int .i64 0,.nils,.nils,.nils]::js)) true))).set si (.row 8 ((M.pop.push ⟨k,v,d,noC⟩).Stack.map qR.enc++js) true))[i]?=h[i]?:=fun i hi hn=>by
      rw [List.getElem?_set_ne (Ne.symm hn),jh (by simp;omega),List.getElem?_set_ne (Ne.symm hn),hold i hi]
    exact ⟨by rw [old id hid hN.d1,hnec];exact hN.o,by rw [List.getElem?_set,if_pos rfl,if_pos (by rw [zy];simp;omega)],by rw [old hi hhi (Ne.symm hN.d3)];exact hN.t,hN.d1,hN.d2,hN.d3,hN.p1,hN.p2,hN.p3,fun j hj=>by have:=hN.pl j hj;rw [List.length_set,zy];simp;omega⟩
  · refine ⟨by rw [List.length_set,zy];simp;omega,fun j hj=> ?_⟩;have h1:=hN.pl j hj;have h2:j≠si:=by rintro rfl;exact hN.p2 hj
    rw [List.getElem?_set_ne (Ne.symm h2),jh (by simp;omega),List.getElem?_set_ne (Ne.symm h2),hold j h1]
theorem Yy {k v:Int} {d:List Int}:Wk [] (.agg [.int .i64 k,.int .i64 v,.lst 1 (d.map qE) false,.int .i64 0,.int .i64 0,.nils,.nils,.nils]) (qR.enc ⟨k,v,d,noC⟩):=
  .agg (.same (.same (.same (.same (.same (.cons .nilL (.cons .nilL (.cons .nilL .nil))))))))
theorem Jj (hj:pre.length=j) (hN:NSx P w pre post id h M) (h0:0<M.Stack.length) (h1:M.Stack.length≤1000000)
    (hK:∀h',NSx P w pre post id h' M.pop→Keep P h h'→K (.tup []) h'):SCall Gm 1153 [.ptr id 0 j] h K:=Jf qPI hj hN h0 h1 hK
theorem qG4 (hj:pre.length=j) (hN:NSx P w pre post id h M) (hb:BI b) (hM:MI b M) (hv:M.Control.val=true) (hs:0<M.Stack.length) (h1:¬M.top.Kind=1)
    (hK:∀h',NSx P w pre post id h' M.meet.2→Keep P h h'→K (.int .i64 M.meet.1) h'):SCall Gm 1154 [.ptr id 0 j] h K:=by
  have hN0:=hN;obtain ⟨si,hi,js,hN⟩:=hN;have sl:=hM.sl;have ht:=hM.c.t;refine SCall.runW [] [2,77] qPJ (by kernel_rfl) rfl ?_;simp only [WL,qK,go_sem];simp only [WO,WP,WN];simp only [List.contains_cons,List.contains_nil,Option.getD_some,Option.getD_none,Nat.reduceBEq,Bool.or_false,Bool.false_or,Bool.or_self,bFt,Bool.or_true,Bool.true_or,if_false,if_true,go_sem];refine Sem.reg (by kernel_rfl) ?_;simp only [List.contains_cons,List.contains_nil,Option.getD_some,Option.getD_none,Nat.reduceBEq,Bool.or_false,Bool.false_or,Bool.or_self,bFt,Bool.or_true,Bool.true_or,if_false,if_true,go_sem];simp only [hN.o,Nat.add_zero,ne0 hj,ne1 hj,ne2 hj,ne3 hj,ne4 hj,ne5 hj,ne6 hj,neT hj,neC hj,go_sem];refine qY (k:=5) rfl qW.ln ⟨_,rfl⟩ (by decide) ?_;simp only [List.contains_cons,List.contains_nil,Option.getD_some,Option.getD_none,Nat.reduceBEq,Bool.or_false,Bool.false_or,Bool.or_self,bFt,Bool.or_true,Bool.true_or,if_false,if_true,go_sem];simp only [hN.o,Nat.add_zero,ne0 hj,ne1 hj,ne2 hj,ne3 hj,ne4 hj,ne5 hj,ne6 hj,neT hj,neC hj,go_sem];simp only [QR hs (show M.Stack.length≤1000000 by omega),hN.s,Qt hs,go_sem];refine qY (k:=8) rfl qR.ln ⟨_,rfl⟩ (by decide) ?_;simp only [List.contains_cons,List.contains_nil,Option.getD_some,Option.getD_none,Nat.reduceBEq,Bool.or_false,Bool.false_or,Bool.or_self,bFt,Bool.or_true,Bool.true_or,if_false,if_true,go_sem];have hkk:M.Control.Term.Kind=4∨M.Control.Term.Kind=2∨M.Control.Term.Kind=8:=by
    unfold qW.val at hv;split at hv
    · rename_i q;rcases q with q | q<;>simp [q]
    · split at hv
      · rename_i q;simp [q]
      · cases hv
  rcases hkk with hk | hk | hk
  · simp only [Jw,WU,Jx,Ju];simp only [hk,Int.reduceEq,decide_true,decide_false,List.contains_cons,List.contains_nil,Option.getD_some,Option.getD_none,Nat.reduceBEq,Bool.or_false,Bool.false_or,Bool.or_self,bFt,Bool.or_true,Bool.true_or,if_false,if_true,go_sem];refine qI ?_ ?_<;>intro hc<;>simp only [hc,go_sem]
    · have q2:M.top.Kind=2:=odT hc;clear hc;have em:M.meet=(4,M.pop.ctl ⟨M.Control.Term.kid 0,M.top.Value::M.Control.Env⟩):=by unfold qD.meet;rw [if_neg h1,if_pos ⟨hk,q2⟩]
      rw [em] at hK;simp only [List.contains_cons,List.contains_nil,Option.getD_some,Option.getD_none,Nat.reduceBEq,Bool.or_false,Bool.false_or,Bool.or_self,bFt,Bool.or_true,Bool.true_or,if_false,if_true,go_sem];refine qc (Jj hj hN0 hs (by omega) fun h2 hN2 k2=> ?_);simp only [List.contains_cons,List.contains_nil,Option.getD_some,Option.getD_none,Nat.reduceBEq,Bool.or_false,Bool.false_or,Bool.or_self,bFt,Bool.or_true,Bool.true_or,if_false,if_true,go_sem];clear hN;obtain ⟨si2,hi2,js2,hN⟩:=hN2;obtain ⟨hl,_⟩:=ht.lam hk;have hen:=hM.c.l;simp only [List.getElem?_map,gEg hl,Option.map_some,go_sem];have o2:(h2++[qC.row 1 [AV.int .i64 M.top.Value] true])[h2.length]?=some (.row 1 [AV.int .i64 M.top.Value] true):=List.getElem?_concat_length;refine qM1 (ys:=M.Control.Env.map qE) (by rfl) Els.lst o2 rfl (by rw [List.length_map];omega) ?_;generalize hg:(h2++[qC.row 1 [AV.int .i64 M.top.Value] true]).set h2.length qC.dead++[qC.row 1 ([AV.int IntKind.i64 M.top.Value]++List.map qE M.Control.Env) true]=g;have g1:h2.length≤g.length:=by rw [←hg];simp
      have g2:∀i,i<h2.length→g[i]?=h2[i]?:=fun i hi=>by rw [←hg,List.getElem?_append_left (by simp;omega),List.getElem?_set_ne (by omega),List.getElem?_append_left hi]
      have g3:g[h2.length+1]?=some (.row 1 ((M.top.Value::M.Control.Env).map qE) true):=by rw [←hg,List.getElem?_append_right (by simp)];simp [qE]
      have e1:(h2++[qC.row 1 [AV.int .i64 M.top.Value] true]).length=h2.length+1:=by simp
      have e2:1+(List.map qE M.Control.Env).length=(M.top.Value::M.Control.Env).length:=by simp;omega
      rw [e1,e2];simp only [List.contains_cons,List.contains_nil,Option.getD_some,Option.getD_none,Nat.reduceBEq,Bool.or_false,Bool.false_or,Bool.or_self,bFt,Bool.or_true,Bool.true_or,if_false,if_true,go_sem];refine qo rfl ((g2 _ (qi hN.o)).trans hN.o) rfl (zg hj rfl) ?_;simp only [List.contains_cons,List.contains_nil,Option.getD_some,Option.getD_none,Nat.reduceBEq,Bool.or_false,Bool.false_or,Bool.or_self,bFt,Bool.or_true,Bool.true_or,if_false,if_true,go_sem];obtain ⟨h3,c1,n1,n2⟩:=Yj (bb:=h.length) (t:=M.Control.Term.kid 0) hN g1 g2 g3 (Nat.le_succ _);rw [z6 hl] at c1;refine Sem.can (c1 _ _) (Sem.reg (by kernel_rfl) ?_);simp only [List.contains_cons,List.contains_nil,Option.getD_some,Option.getD_none,Nat.reduceBEq,Bool.or_false,Bool.false_or,Bool.or_self,bFt,Bool.or_true,Bool.true_or,if_false,if_true,go_sem];exact ⟨_,_,.refl _,.refl _,hK _ n1 (k2.trans n2)⟩
    · have em:M.meet=(0,M):=by
        have q2:¬M.top.Kind=2:=odF hc;unfold qD.meet;rw [if_neg h1,if_neg (by omega),if_neg (by omega),if_neg (by omega),if_neg (by omega),if_neg (by omega)]
      rw [em] at hK;simp only [Q2,Q3,Jy,Q4,Jz,Jt,Qz,Q0,Q1,Jv];simp only [hk,Int.reduceEq,decide_true,decide_false,List.contains_cons,List.contains_nil,Option.getD_some,Option.getD_none,Nat.reduceBEq,Bool.or_false,Bool.false_or,Bool.or_self,bFt,Bool.or_true,Bool.true_or,if_false,if_true,go_sem];refine Sem.reg (by kernel_rfl) ?_;simp only [List.contains_cons,List.contains_nil,Option.getD_some,Option.getD_none,Nat.reduceBEq,Bool.or_false,Bool.false_or,Bool.or_self,bFt,Bool.or_true,Bool.true_or,if_false,if_true,go_sem];exact ⟨_,_,.refl _,.refl _,hK _ hN0 Keep.refl⟩
  · simp only [Jw,Jx,Ju];simp only [hk,Int.reduceEq,decide_true,decide_false,List.contains_cons,List.contains_nil,Option.getD_some,Option.getD_none,Nat.reduceBEq,Bool.or_false,Bool.false_or,Bool.or_self,bFt,Bool.or_true,Bool.true_or,if_false,if_true,go_sem];refine qI ?_ ?_<;>intro hc<;>simp only [hc,go_sem]
    · have q2:M.top.Kind=3:=odT hc;clear hc;have em:M.meet=(1,(M.pop.push ⟨4,M.top.Value,[M.Control.Term.Value],noC⟩).ctl M.top.Closure):=by unfold qD.meet;rw [if_neg h1,if_neg (by omega),if_pos ⟨hk,q2⟩]
      rw [em] at hK;simp only [Q2,Q3];simp only [List.contains_cons,List.contains_nil,Option.getD_some,Option.getD_none,Nat.reduceBEq,Bool.or_false,Bool.false_or,Bool.or_self,bFt,Bool.or_true,Bool.true_or,if_false,if_true,go_sem];simp only [hN.o,Nat.add_zero,ne0 hj,ne1 hj,ne2 hj,ne3 hj,ne4 hj,ne5 hj,ne6 hj,neT hj,neC hj,go_sem];simp only [QR hs (show M.Stack.length≤1000000 by omega),go_sem];refine qo rfl (by rw [List.getElem?_append_left (qi hN.s)];exact hN.s) (Qt hs) (jt (k:=8) qR.ln rfl ⟨fun _=>⟨_,rfl⟩,fun _=>⟨_,rfl⟩⟩ (by decide)) ?_;simp only [List.contains_cons,List.contains_nil,Option.getD_some,Option.getD_none,Nat.reduceBEq,Bool.or_false,Bool.false_or,Bool.or_self,bFt,Bool.or_true,Bool.true_or,if_false,if_true,go_sem];obtain ⟨h3,c1,n1,k2⟩:=qOX (bb:=h.length) (g:=h++[qC.row 1 [AV.int .i64 M.Control.Term.Value] true]) (e:=h.length) (k:=4) (v:=M.top.Value) (d:=[M.Control.Term.Value]) hN hs (by simp) (fun i hi=>List.getElem?_append_left hi) List.getElem?_concat_length (Nat.le_refl _);refine Sem.can (c1 _ _) (Sem.reg (by kernel_rfl) ?_);clear hN;have hN:=n1;simp only [List.contains_cons,List.contains_nil,Option.getD_some,Option.getD_none,Nat.reduceBEq,Bool.or_false,Bool.false_or,Bool.or_self,bFt,Bool.or_true,Bool.true_or,if_false,if_true,go_sem];refine qo rfl hN.o rfl (zg hj rfl) ?_;simp only [List.contains_cons,List.contains_nil,Option.getD_some,Option.getD_none,Nat.reduceBEq,Bool.or_false,Bool.false_or,Bool.or_self,bFt,Bool.or_true,Bool.true_or,if_false,if_true,go_sem];refine Sem.reg (by kernel_rfl) ?_;obtain ⟨n2,k3⟩:=hN.struct (post':=post) (M':=(M.pop.push ⟨4,M.top.Value,[M.Control.Term.Value],noC⟩).ctl M.top.Closure) (js':=js) rfl rfl;simp only [List.contains_cons,List.contains_nil,Option.getD_some,Option.getD_none,Nat.reduceBEq,Bool.or_false,Bool.false_or,Bool.or_self,bFt,Bool.or_true,Bool.true_or,if_false,if_true,go_sem];exact ⟨_,_,.refl _,.refl _,hK _ ⟨_,_,_,n2⟩ (k2.trans k3)⟩
    have n3:¬M.top.Kind=3:=odF hc;clear hc;simp only [Jy];simp only [hk,Int.reduceEq,decide_true,decide_false,List.contains_cons,List.contains_nil,Option.getD_some,Option.getD_none,Nat.reduceBEq,Bool.or_false,Bool.false_or,Bool.or_self,bFt,Bool.or_true,Bool.true_or,if_false,if_true,go_sem];refine qI ?_ ?_<;>intro hc<;>simp only [hc,go_sem]
    · have q2:M.top.Kind=4:=odT hc;clear hc;have hd0:0<M.top.Data.length:=by have:=(hM.s _ (wQ hs).2).d q2;omega
      have em:M.meet=((5:Int),M.pop.ctl ⟨.mk 2 (opI M.top.Value M.top.Data[0] M.Control.Term.Value) [] [],[]⟩):=by unfold qD.meet;rw [if_neg h1,if_neg (by omega),if_neg (by omega),if_pos ⟨hk,q2⟩,zZ hd0]
      rw [em] at hK;simp only [Q4];simp only [List.contains_cons,List.contains_nil,Option.getD_some,Option.getD_none,Nat.reduceBEq,Bool.or_false,Bool.false_or,Bool.or_self,bFt,Bool.or_true,Bool.true_or,if_false,if_true,go_sem];refine qc (Jj hj hN0 hs (by omega) fun h2 hN2 k2=> ?_);simp only [List.contains_cons,List.contains_nil,Option.getD_some,Option.getD_none,Nat.reduceBEq,Bool.or_false,Bool.false_or,Bool.or_self,bFt,Bool.or_true,Bool.true_or,if_false,if_true,go_sem];clear hN;obtain ⟨si2,hi2,js2,hN⟩:=hN2;simp only [List.getElem?_map,gEg hd0,Option.map_some,go_sem];simp only [qE];simp only [List.contains_cons,List.contains_nil,Option.getD_some,Option.getD_none,Nat.reduceBEq,Bool.or_false,Bool.false_or,Bool.or_self,bFt,Bool.or_true,Bool.true_or,if_false,if_true,go_sem];refine qL c762 ?_;simp only [List.contains_cons,List.contains_nil,Option.getD_some,Option.getD_none,Nat.reduceBEq,Bool.or_false,Bool.false_or,Bool.or_self,bFt,Bool.or_true,Bool.true_or,if_false,if_true,go_sem];refine qL c381 ?_;simp only [List.contains_cons,List.contains_nil,Option.getD_some,Option.getD_none,Nat.reduceBEq,Bool.or_false,Bool.false_or,Bool.or_self,bFt,Bool.or_true,Bool.true_or,if_false,if_true,go_sem];refine qo rfl hN.o rfl (zg hj rfl) ?_;simp only [List.contains_cons,List.contains_nil,Option.getD_some,Option.getD_none,Nat.reduceBEq,Bool.or_false,Bool.false_or,Bool.or_self,bFt,Bool.or_true,Bool.true_or,if_false,if_true,go_sem];refine Sem.reg (by kernel_rfl) ?_;obtain ⟨n1,n2⟩:=hN.struct (post':=post) (M':=M.pop.ctl ⟨.mk 2 (opI M.top.Value M.top.Data[0] M.Control.Term.Value) [] [],[]⟩) (js':=js2) rfl rfl;simp only [List.contains_cons,List.contains_nil,Option.getD_some,Option.getD_none,Nat.reduceBEq,Bool.or_false,Bool.false_or,Bool.or_self,bFt,Bool.or_true,Bool.true_or,if_false,if_true,go_sem];exact ⟨_,_,.refl _,WkH.set w9,hK _ ⟨_,_,_,n1⟩ (k2.trans n2)⟩
    have n4:¬M.top.Kind=4:=odF hc;clear hc;simp only [Jz,Jt];simp only [hk,Int.reduceEq,decide_true,decide_false,List.contains_cons,List.contains_nil,Option.getD_some,Option.getD_none,Nat.reduceBEq,Bool.or_false,Bool.false_or,Bool.or_self,bFt,Bool.or_true,Bool.true_or,if_false,if_true,go_sem];refine qI ?_ ?_<;>intro hc<;>simp only [hc,go_sem]
    · have q2:M.top.Kind=6:=odT hc;clear hc;have hd2:=(hM.s _ (wQ hs).2).l q2;have hd0:0<M.top.Data.length:=by omega
      have hd1:1<M.top.Data.length:=by omega
      have em:M.meet=((6:Int),M.pop.toRef (if M.Control.Term.Value=0 then M.top.Data[1] else M.top.Data[0])):=by
        unfold qD.meet;rw [if_neg h1,if_neg (by omega),if_neg (by omega),if_neg (by omega),if_pos ⟨hk,q2⟩];split
        · rw [zZ hd1]
        · rw [zZ hd0]
      rw [em] at hK;simp only [List.contains_cons,List.contains_nil,Option.getD_some,Option.getD_none,Nat.reduceBEq,Bool.or_false,Bool.false_or,Bool.or_self,bFt,Bool.or_true,Bool.true_or,if_false,if_true,go_sem];refine qc (Jj hj hN0 hs (by omega) fun h2 hN2 k2=> ?_);simp only [Qz,Q0,Q1];simp only [List.contains_cons,List.contains_nil,Option.getD_some,Option.getD_none,Nat.reduceBEq,Bool.or_false,Bool.false_or,Bool.or_self,bFt,Bool.or_true,Bool.true_or,if_false,if_true,go_sem];refine qI ?_ ?_<;>intro hc<;>simp only [hc,go_sem]
      · have hv0:¬M.Control.Term.Value=0:=by simpa using hc
        rw [if_neg hv0] at hK;simp only [List.contains_cons,List.contains_nil,Option.getD_some,Option.getD_none,Nat.reduceBEq,Bool.or_false,Bool.false_or,Bool.or_self,bFt,Bool.or_true,Bool.true_or,if_false,if_true,go_sem];simp only [List.getElem?_map,gEg hd0,Option.map_some,go_sem];simp only [qE];simp only [List.contains_cons,List.contains_nil,Option.getD_some,Option.getD_none,Nat.reduceBEq,Bool.or_false,Bool.false_or,Bool.or_self,bFt,Bool.or_true,Bool.true_or,if_false,if_true,go_sem];refine qc (qG5 hj hN2 M.top.Data[0] fun h3 hN3 k3=> ?_);simp only [List.contains_cons,List.contains_nil,Option.getD_some,Option.getD_none,Nat.reduceBEq,Bool.or_false,Bool.false_or,Bool.or_self,bFt,Bool.or_true,Bool.true_or,if_false,if_true,go_sem];refine Sem.reg (by kernel_rfl) ?_;simp only [List.contains_cons,List.contains_nil,Option.getD_some,Option.getD_none,Nat.reduceBEq,Bool.or_false,Bool.false_or,Bool.or_self,bFt,Bool.or_true,Bool.true_or,if_false,if_true,go_sem];exact ⟨_,_,.refl _,.refl _,hK _ hN3 (k2.trans k3)⟩
      · have hv0:M.Control.Term.Value=0:=by simpa using hc
        rw [if_pos hv0] at hK;simp only [List.contains_cons,List.contains_nil,Option.getD_some,Option.getD_none,Nat.reduceBEq,Bool.or_false,Bool.false_or,Bool.or_self,bFt,Bool.or_true,Bool.true_or,if_false,if_true,go_sem];simp only [List.getElem?_map,gEg hd1,Option.map_some,go_sem];simp only [qE];simp only [List.contains_cons,List.contains_nil,Option.getD_some,Option.getD_none,Nat.reduceBEq,Bool.or_false,Bool.false_or,Bool.or_self,bFt,Bool.or_true,Bool.true_or,if_false,if_true,go_sem];refine qc (qG5 hj hN2 M.top.Data[1] fun h3 hN3 k3=> ?_);simp only [List.contains_cons,List.contains_nil,Option.getD_some,Option.getD_none,Nat.reduceBEq,Bool.or_false,Bool.false_or,Bool.or_self,bFt,Bool.or_true,Bool.true_or,if_false,if_true,go_sem];refine Sem.reg (by kernel_rfl) ?_;simp only [List.contains_cons,List.contains_nil,Option.getD_some,Option.getD_none,Nat.reduceBEq,Bool.or_false,Bool.false_or,Bool.or_self,bFt,Bool.or_true,Bool.true_or,if_false,if_true,go_sem];exact ⟨_,_,.refl _,.refl _,hK _ hN3 (k2.trans k3)⟩
    · have n6:¬M.top.Kind=6:=odF hc;have em:M.meet=(0,M):=by
        unfold qD.meet;rw [if_neg h1,if_neg (by omega),if_neg (by omega),if_neg (by omega),if_neg (by omega),if_neg (by omega)]
      rw [em] at hK;simp only [Jv];simp only [hk,Int.reduceEq,decide_true,decide_false,List.contains_cons,List.contains_nil,Option.getD_some,Option.getD_none,Nat.reduceBEq,Bool.or_false,Bool.false_or,Bool.or_self,bFt,Bool.or_true,Bool.true_or,if_false,if_true,go_sem];refine Sem.reg (by kernel_rfl) ?_;simp only [List.contains_cons,List.contains_nil,Option.getD_some,Option.getD_none,Nat.reduceBEq,Bool.or_false,Bool.false_or,Bool.or_self,bFt,Bool.or_true,Bool.true_or,if_false,if_true,go_sem];exact ⟨_,_,.refl _,.refl _,hK _ hN0 Keep.refl⟩
  · simp only [Jw,Jx,Ju,Jy,Jz,Jt,Jv];simp only [hk,Int.reduceEq,decide_true,decide_false,List.contains_cons,List.contains_nil,Option.getD_some,Option.getD_none,Nat.reduceBEq,Bool.or_false,Bool.false_or,Bool.or_self,bFt,Bool.or_true,Bool.true_or,if_false,if_true,go_sem];have none (em:M.meet=(0,M)):K (.int .i64 0) h:=by rw [em] at hK;exact hK _ hN0 Keep.refl
    refine qq ?_ ?_<;>intro hc<;>simp only [hc,go_sem]
    · have q2:M.top.Kind=5:=odT hc;clear hc;refine qI ?_ ?_<;>intro hc<;>simp only [hc,go_sem]
      · have q3:M.Control.Term.Value<M.top.Data.length:=by simpa using hc
        clear hc;obtain ⟨v0,v1⟩:=ht.val8 hk;have hvl:M.Control.Term.Value.toNat<M.top.Data.length:=by omega
        have em:M.meet=(6,({M.pop with Stack:=M.pop.Stack++(M.Control.Env.drop 0).reverse.map (fr 2)}:qD).toRef M.top.Data[M.Control.Term.Value.toNat]):=by
          unfold qD.meet;rw [if_neg h1,if_neg (by omega),if_neg (by omega),if_neg (by omega),if_neg (by omega),if_pos ⟨hk,q2,q3⟩,zZ hvl];rfl
        rw [em] at hK;have hen:=hM.c.l;simp only [List.contains_cons,List.contains_nil,Option.getD_some,Option.getD_none,Nat.reduceBEq,Bool.or_false,Bool.false_or,Bool.or_self,bFt,Bool.or_true,Bool.true_or,if_false,if_true,go_sem];refine qc (Jj hj hN0 hs (by omega) fun h2 hN2 k2=> ?_);simp only [WQ,WM,WT];simp only [List.contains_cons,List.contains_nil,Option.getD_some,Option.getD_none,Nat.reduceBEq,Bool.or_false,Bool.false_or,Bool.or_self,bFt,Bool.or_true,Bool.true_or,if_false,if_true,go_sem];clear hN;refine Sem.loop (fun q:Nat×List qC=>q.1≤M.Control.Env.length∧NSx P w pre post id q.2 {M.pop with Stack:=M.pop.Stack++(M.Control.Env.drop q.1).reverse.map (fr 2)}∧Keep P h q.2)
          (fun q=>(⟨[(0,.ptr id 0 j),(5,.int .i64 ((q.1:Int)-1))],[(4,M.top.enc),(3,M.Control.enc)],q.2⟩:VSt)) (fun q=>q.1) (M.Control.Env.length,h2) (by kernel_rfl) ⟨Nat.le_refl _, ?_,k2⟩ (Can.sub (by simp only [zC (n:=(M.Control.Env.length:Int)-1) (by omega) (by omega)];simp [go_sem]) (by simp [go_sem])) ?_
        · simp only [List.drop_length,List.reverse_nil,List.map_nil,List.append_nil];exact hN2
        rintro ⟨k,g⟩ ⟨hk1,hk2,hk3⟩;simp only at hk1 hk2 hk3⊢;simp only [List.contains_cons,List.contains_nil,Option.getD_some,Option.getD_none,Nat.reduceBEq,Bool.or_false,Bool.false_or,Bool.or_self,bFt,Bool.or_true,Bool.true_or,if_false,if_true,go_sem];refine qI ?_ ?_<;>intro hc<;>simp only [hc,go_sem]
        · have hk0:1≤k:=by have:=odT hc;omega
          clear hc;have hlt:k-1<M.Control.Env.length:=by omega
          obtain ⟨M1,hM1⟩:∃M1:qD,M1={M.pop with Stack:=M.pop.Stack++(M.Control.Env.drop k).reverse.map (fr 2)}:=⟨_,rfl⟩;rw [←hM1] at hk2;have hsl:M1.Stack.length≤1000000:=by rw [hM1];simp [qD.pop];omega
          have hnx:M1.push (fr 2 M.Control.Env[k-1])={M.pop with Stack:=M.pop.Stack++(M.Control.Env.drop (k-1)).reverse.map (fr 2)}:=by
            rw [hM1];have:=List.drop_eq_getElem_cons hlt;rw [show k-1+1=k by omega] at this;rw [this];simp [qD.push]
          obtain ⟨si,hi,js,hN⟩:=hk2;simp only [WS];simp only [List.contains_cons,List.contains_nil,Option.getD_some,Option.getD_none,Nat.reduceBEq,Bool.or_false,Bool.false_or,Bool.or_self,bFt,Bool.or_true,Bool.true_or,if_false,if_true,go_sem];simp only [hN.o,Nat.add_zero,ne0 hj,ne1 hj,ne2 hj,ne3 hj,ne4 hj,ne5 hj,ne6 hj,neT hj,neC hj,go_sem];rw [wn (by omega),show ((k:Int)-1).toNat=k-1 by omega];simp only [List.getElem?_map,gEg hlt,Option.map_some,go_sem];simp only [qE];simp only [List.contains_cons,List.contains_nil,Option.getD_some,Option.getD_none,Nat.reduceBEq,Bool.or_false,Bool.false_or,Bool.or_self,bFt,Bool.or_true,Bool.true_or,if_false,if_true,go_sem];obtain ⟨F,hF⟩:∃F,F=AV.agg [.int .i64 2,.int .i64 M.Control.Env[k-1],.nils,.int .i64 0,.int .i64 0,.nils,.nils,.nils]:=⟨_,rfl⟩;rw [←hF];have o2:(g++[qC.row 8 [F] true])[si]?=some (.row 8 (M1.Stack.map qR.enc++js) true):=by rw [List.getElem?_append_left (qi hN.s)];exact hN.s
          refine jl List.getElem?_concat_length o2 (by rw [List.length_map]) (by omega) ?_;obtain ⟨h3,w1,n1,n2⟩:=qKV (f:=fr 2 M.Control.Env[k-1]) hN (x:=qC.row 8 [F] true) (F:=F) (by rw [hF];exact frW);have e1:(g++[qC.row 8 [F] true]).length=g.length+1:=by simp
          have o3:(((g++[qC.row 8 [F] true]).set si .dead)++[qC.row 8 (M1.Stack.map qR.enc++[F]) true])[id]?=some (.row w [.agg (pre++(Nec M1 si hi++post))] true):=by
            have:=qi hN.o;rw [List.getElem?_append_left (by simp;omega),List.getElem?_set_ne (Ne.symm hN.d1),List.getElem?_append_left this];exact hN.o
          rw [e1];simp only [List.contains_cons,List.contains_nil,Option.getD_some,Option.getD_none,Nat.reduceBEq,Bool.or_false,Bool.false_or,Bool.or_self,bFt,Bool.or_true,Bool.true_or,if_false,if_true,go_sem];refine qo rfl o3 rfl (Zk hj (M':=M1.push (fr 2 M.Control.Env[k-1])) rfl rfl (by simp [qD.push])) ?_;simp only [List.contains_cons,List.contains_nil,Option.getD_some,Option.getD_none,Nat.reduceBEq,Bool.or_false,Bool.false_or,Bool.or_self,bFt,Bool.or_true,Bool.true_or,if_false,if_true,go_sem];rw [zC (n:=(k:Int)-1-1) (by omega) (by omega),show (k:Int)-1-1=((k-1:Nat):Int)-1 by omega];rw [hnx] at n1;refine qx (k-1,h3) ⟨by simp only;omega,⟨_,_,_,n1⟩,hk3.trans n2⟩ (by simp only;omega) (Can.wk (WkS.cons (by simp [go_sem]) (.refl _) (WkS.cons (by simp [go_sem]) (.refl _) .nil)) (WkS.cons (by simp [go_sem]) (.refl _) (WkS.cons (by simp [go_sem]) (.refl _) .nil)) w1)
        · obtain rfl:k=0:=by have:=odF hc;omega
          simp only [List.contains_cons,List.contains_nil,Option.getD_some,Option.getD_none,Nat.reduceBEq,Bool.or_false,Bool.false_or,Bool.or_self,bFt,Bool.or_true,Bool.true_or,if_false,if_true,go_sem];rw [wn v0];simp only [List.getElem?_map,gEg hvl,Option.map_some,go_sem];simp only [qE];simp only [List.contains_cons,List.contains_nil,Option.getD_some,Option.getD_none,Nat.reduceBEq,Bool.or_false,Bool.false_or,Bool.or_self,bFt,Bool.or_true,Bool.true_or,if_false,if_true,go_sem];refine qc (qG5 hj hk2 _ fun h3 hN3 k3=> ?_);simp only [List.contains_cons,List.contains_nil,Option.getD_some,Option.getD_none,Nat.reduceBEq,Bool.or_false,Bool.false_or,Bool.or_self,bFt,Bool.or_true,Bool.true_or,if_false,if_true,go_sem];refine Sem.reg (by kernel_rfl) ?_;simp only [List.contains_cons,List.contains_nil,Option.getD_some,Option.getD_none,Nat.reduceBEq,Bool.or_false,Bool.false_or,Bool.or_self,bFt,Bool.or_true,Bool.true_or,if_false,if_true,go_sem];exact ⟨_,_,.refl _,.refl _,hK _ hN3 (hk3.trans k3)⟩
      · have n5:¬M.Control.Term.Value<M.top.Data.length:=by simpa using hc
        simp only [List.contains_cons,List.contains_nil,Option.getD_some,Option.getD_none,Nat.reduceBEq,Bool.or_false,Bool.false_or,Bool.or_self,bFt,Bool.or_true,Bool.true_or,if_false,if_true,go_sem];refine Sem.reg (by kernel_rfl) ?_;simp only [List.contains_cons,List.contains_nil,Option.getD_some,Option.getD_none,Nat.reduceBEq,Bool.or_false,Bool.false_or,Bool.or_self,bFt,Bool.or_true,Bool.true_or,if_false,if_true,go_sem];exact ⟨_,_,.refl _,.refl _,none (by
          unfold qD.meet;rw [if_neg h1,if_neg (by omega),if_neg (by omega),if_neg (by omega),if_neg (by omega),if_neg (fun q=>n5 q.2.2)])⟩
    · have n5:¬M.top.Kind=5:=by simpa using hc
      simp only [List.contains_cons,List.contains_nil,Option.getD_some,Option.getD_none,Nat.reduceBEq,Bool.or_false,Bool.false_or,Bool.or_self,bFt,Bool.or_true,Bool.true_or,if_false,if_true,go_sem];refine Sem.reg (by kernel_rfl) ?_;simp only [List.contains_cons,List.contains_nil,Option.getD_some,Option.getD_none,Nat.reduceBEq,Bool.or_false,Bool.false_or,Bool.or_self,bFt,Bool.or_true,Bool.true_or,if_false,if_true,go_sem];exact ⟨_,_,.refl _,.refl _,none (by
        unfold qD.meet;rw [if_neg h1,if_neg (by omega),if_neg (by omega),if_neg (by omega),if_neg (by omega),if_neg (by omega)])⟩
end
end Go.Ab
namespace Go.Ab
open Go
structure WR where
  t:qA
  e:Int
  M:qD
  cs:List Int
  l:Nat
  n:Nat
structure WF where
  ts:List qA
  e:Int
  M:qD
  cs:List Int
  l:Nat
  n:Nat
def WF.pre (q:WF) (ts:List qA):WF:={q with ts:=ts++q.ts}
def qD.at1 (M:qD) (a:Int):qD:=M.ctl ⟨.mk 1 0 [] [],[a]⟩
def zr (W:qD→List Int→Nat→Nat→WR):List Int→qD→List Int→Nat→Nat→WF
  |[],M,cs,l,n=>⟨[],0,M,cs,l,n⟩
  | a::as,M,cs,l,n=>if (W (M.at1 a) cs l n).e≠0 then ⟨[],(W (M.at1 a) cs l n).e,(W (M.at1 a) cs l n).M,(W (M.at1 a) cs l n).cs,(W (M.at1 a) cs l n).l,(W (M.at1 a) cs l n).n⟩
    else (zr W as (W (M.at1 a) cs l n).M (W (M.at1 a) cs l n).cs (W (M.at1 a) cs l n).l (W (M.at1 a) cs l n).n).pre [(W (M.at1 a) cs l n).t]
def qp (b:qH):Nat→qD→List Int→Nat→Nat→WR
  | 0,M,cs,l,n=>⟨noT,4,M,cs,l,n⟩
  | f+1,M,cs,l,n=>
    if 400≤n then ⟨noT,4,M,cs,l,n⟩
    else if (qU b l M cs).1≠0 then ⟨noT,(qU b l M cs).1,M,cs,l,n⟩
    else if (qU b l M cs).2.1.Control.Term.Kind=2 then ⟨.mk 2 (qU b l M cs).2.1.Control.Term.Value [] [],0,(qU b l M cs).2.1,(qU b l M cs).2.2.1,(qU b l M cs).2.2.2,n+1⟩
    else if (qU b l M cs).2.1.Control.Term.Kind=4 then ⟨noT,5,M,cs,l,n⟩
    else if (zr (qp b f) (qU b l M cs).2.1.Control.Env (qU b l M cs).2.1 (qU b l M cs).2.2.1 (qU b l M cs).2.2.2 (n+1)).e≠0 then
      ⟨noT,(zr (qp b f) (qU b l M cs).2.1.Control.Env (qU b l M cs).2.1 (qU b l M cs).2.2.1 (qU b l M cs).2.2.2 (n+1)).e,M,cs,l,n⟩
    else ⟨.mk 8 (qU b l M cs).2.1.Control.Term.Value [] (zr (qp b f) (qU b l M cs).2.1.Control.Env (qU b l M cs).2.1 (qU b l M cs).2.2.1 (qU b l M cs).2.2.2 (n+1)).ts,0,
      (zr (qp b f) (qU b l M cs).2.1.Control.Env (qU b l M cs).2.1 (qU b l M cs).2.2.1 (qU b l M cs).2.2.2 (n+1)).M,(zr (qp b f) (qU b l M cs).2.1.Control.Env (qU b l M cs).2.1 (qU b l M cs).2.2.1 (qU b l M cs).2.2.2 (n+1)).cs,
      (zr (qp b f) (qU b l M cs).2.1.Control.Env (qU b l M cs).2.1 (qU b l M cs).2.2.1 (qU b l M cs).2.2.2 (n+1)).l,(zr (qp b f) (qU b l M cs).2.1.Control.Env (qU b l M cs).2.1 (qU b l M cs).2.2.1 (qU b l M cs).2.2.2 (n+1)).n⟩
section
variable {b:qH} {M:qD} {cs:List Int} {l n f:Nat} {W:qD→List Int→Nat→Nat→WR}
theorem qHT:∀(ks:List qA) (M:qD),M.Heap.length≤(qD.addrs ks M).2.Heap.length
  |[],M=>Nat.le_refl _
  | k::ks,M=>by
    simp only [qD.addrs];refine Nat.le_trans ?_ (qHT ks _);unfold qD.addr;split<;>simp
theorem qRO:M.Heap.length≤(M.move b).2.Heap.length:=by
  unfold qD.move;split
  · unfold qD.meet
    repeat' split
    all_goals simp [qD.ctl,qD.pop,qD.push,qD.toRef]
  · unfold qD.eval
    repeat' split
    all_goals simp only [qD.ctl,qD.push,qD.enter,qD.build]
    · split<;>simp
    · unfold qD.addr;split<;>simp
    all_goals first
      | exact Nat.le_refl _
      | exact qHT _ _
theorem qTP:(M.step b).2.2=(M.move b).2:=by
  unfold qD.step;split
  · rfl
  split<;>rfl
theorem qTS:M.Heap.length≤(M.step b).2.2.Heap.length:=by rw [qTP];exact qRO
theorem qFP {k:Int}:(cnt cs k).length=cs.length:=by unfold cnt;split<;>simp
theorem Vh (hb:BI b):∀(l:Nat) {M:qD} {cs:List Int},MI b M→(qU b l M cs).1=0→MI b (qU b l M cs).2.1∧(qU b l M cs).2.1.done=true∧M.Heap.length≤(qU b l M cs).2.1.Heap.length∧(qU b l M cs).2.2.1.length=cs.length∧(qU b l M cs).2.2.2≤l
  | 0,M,cs,hM,h=>by
    unfold qU at h⊢;split at h
    · rename_i hd;rw [if_pos hd];exact ⟨hM,hd,Nat.le_refl _,rfl,Nat.le_refl _⟩
    · simp at h
  | l+1,M,cs,hM,h=>by
    unfold qU at h⊢;split at h
    · rename_i hd;rw [if_pos hd];exact ⟨hM,hd,Nat.le_refl _,rfl,Nat.le_refl _⟩
    rename_i hd;rw [if_neg hd];split at h
    · rename_i hc;exact absurd h hc
    rename_i hc;rw [if_neg hc];obtain ⟨q1,q2,q3,q4,q5⟩:=Vh hb l (hM.step hb (by simpa using hd) (by simpa using hc)) h;exact ⟨q1,q2,Nat.le_trans qTS q3,by rw [q4,qFP],by omega⟩
theorem MI.at1 (h:MI b M) {a:Int} (h0:0≤a) (h1:a<M.Heap.length):MI b (M.at1 a):=
  ⟨h.toMI0.ctl ⟨.mkVar (by omega) (by simp) (by omega),by simp,fun x hx=>by simp at hx;subst hx;exact ⟨h0,h1⟩⟩,h.sl,h.hl⟩
def qHO (b:qH) (M:qD) (cs:List Int) (l n:Nat) (r:WR):Prop:=r.l≤l∧MI b r.M∧M.Heap.length≤r.M.Heap.length∧r.cs.length=cs.length∧n+r.t.sz+1≤r.n∧r.n≤400
def qMP (b:qH) (M:qD) (cs:List Int) (l n:Nat) (r:WF):Prop:=r.l≤l∧MI b r.M∧M.Heap.length≤r.M.Heap.length∧r.cs.length=cs.length∧n+(r.ts.length+qF qA.sz r.ts)≤r.n∧r.n≤400
theorem qI4 (hW:∀M cs l n,MI b M→(W M cs l n).e=0→qHO b M cs l n (W M cs l n)):∀(as:List Int) {M:qD} {cs:List Int} {l n:Nat},MI b M→(∀a∈as,0≤a∧a<(M.Heap.length:Int))→n≤400→(zr W as M cs l n).e=0→qMP b M cs l n (zr W as M cs l n)
  |[],M,cs,l,n,hM,_,hn,_=>⟨Nat.le_refl _,hM,Nat.le_refl _,rfl,by simp [zr,qF],hn⟩
  | a::as,M,cs,l,n,hM,ha,hn,h=>by
    unfold zr at h⊢;have h1:=hM.at1 (ha a (by simp)).1 (ha a (by simp)).2;split at h
    · rename_i hc;exact absurd h hc
    rename_i hc;rw [if_neg hc];obtain ⟨q0,q1,q2,q3,q4,q5⟩:=hW _ cs l n h1 (by simpa using hc);have e:(M.at1 a).Heap.length=M.Heap.length:=rfl;obtain ⟨r0,r1,r2,r3,r4,r5⟩:=qI4 hW as (l:=(W (M.at1 a) cs l n).l) (cs:=(W (M.at1 a) cs l n).cs) q1 (fun x hx=>by have:=ha x (by simp [hx]);omega) q5 h;refine ⟨by simp only [WF.pre];omega,r1,by simp only [WF.pre];omega,by simp only [WF.pre];rw [r3,q3], ?_,r5⟩;simp only [WF.pre,lAp,List.length_cons,List.length_nil,List.singleton_append,qF];omega
theorem Vz (hb:BI b):∀(f:Nat) (M:qD) (cs:List Int) (l n:Nat),MI b M→(qp b f M cs l n).e=0→qHO b M cs l n (qp b f M cs l n)
  | 0,M,cs,l,n,_,h=>by simp [qp] at h
  | f+1,M,cs,l,n,hM,h=>by
    unfold qp at h⊢;split at h
    · simp at h
    rename_i h1;rw [if_neg h1];split at h
    · rename_i hc;exact absurd h hc
    rename_i h2;rw [if_neg h2];obtain ⟨q1,q2,q3,q4,q5⟩:=Vh hb l (cs:=cs) hM (by simpa using h2);split at h
    · rename_i h3;rw [if_pos h3];refine ⟨q5,q1,q3,q4, ?_,by simp only;omega⟩;simp only;rw [qA.sz_eq];simp [qA.Data,qA.Kids,qF]
    rename_i h3;rw [if_neg h3];split at h
    · simp at h
    rename_i h4;rw [if_neg h4];split at h
    · rename_i hc;exact absurd h hc
    rename_i h5;rw [if_neg h5];obtain ⟨r0,r1,r2,r3,r4,r5⟩:=qI4 (Vz hb f) _ (cs:=(qU b l M cs).2.2.1) (l:=(qU b l M cs).2.2.2) (n:=n+1) q1 q1.c.e (by omega) (by simpa using h5);refine ⟨Nat.le_trans r0 q5,r1,Nat.le_trans q3 r2,r3.trans q4, ?_,r5⟩;simp only;rw [qA.sz_eq];simp only [qA.Data,qA.Kids,List.length_nil];omega
theorem qIU (h:M.done=true):M.Stack=[]∧M.Control.val=true:=by
  unfold qD.done at h;simp only [bAt,decide_eq_true_eq] at h;exact ⟨List.eq_nil_of_length_eq_zero h.1,h.2⟩
theorem qI3:zr W [] M cs l n=⟨[],0,M,cs,l,n⟩:=rfl
theorem qI2 {a:Int} {as:List Int}:zr W (a::as) M cs l n=if (W (M.at1 a) cs l n).e≠0 then ⟨[],(W (M.at1 a) cs l n).e,(W (M.at1 a) cs l n).M,(W (M.at1 a) cs l n).cs,(W (M.at1 a) cs l n).l,(W (M.at1 a) cs l n).n⟩
    else (zr W as (W (M.at1 a) cs l n).M (W (M.at1 a) cs l n).cs (W (M.at1 a) cs l n).l (W (M.at1 a) cs l n).n).pre [(W (M.at1 a) cs l n).t]:=rfl
theorem WF.pre_pre {q:WF} {a c:List qA}:(q.pre a).pre c=q.pre (c++a):=by simp [WF.pre]
end
end Go.Ab
namespace Go.Ab
open Go
set_option maxRecDepth 10000
set_option maxHeartbeats 2000000
section
variable {P:Nat→Prop} {w:Nat} {pre post:List AV} {id j:Nat} {h:List qC} {M:qD} {K:AV→List qC→Prop} {b:qH}
theorem Qw {k:Int} (hk:M.Control.Term.Kind=k) (h:¬(k=4∨k=2)∧¬k=8):M.Control.val=false:=by
  unfold qW.val;rw [hk,if_neg h.1,if_neg h.2]
theorem Vv {k:Int} (hk:M.Control.Term.Kind=k) (h:k=4∨k=2):M.Control.val=true:=by
  unfold qW.val;rw [hk,if_pos h]
theorem JJ (hv:M.Control.val=false):M.move b=M.eval b:=by unfold qD.move;rw [hv];rfl
theorem qHH (hk:M.Control.Term.Kind=8):M.Control.val=M.Control.fields:=by
  unfold qW.val;rw [hk];rfl
theorem s824 (hj:pre.length=j) (hN:NSx P w pre post id h M) (hb:BI b) (hM:MI b M) (hd:M.done=false)
    (hK:∀h',NSx P w pre post id h' (M.move b).2→Keep P h h'→K (.int .i64 (M.move b).1) h'):SCall Gm 824 [.ept b.enc 0,.ptr id 0 j] h K:=by
  have hN0:=hN;obtain ⟨si,hi,js,hN⟩:=hN;have sl:=hM.sl;have hhl:=hM.hl;have ht:=hM.c.t;have hen:=hM.c.l;have hz:M.Control.sz≤1048576:=by have:=ht.sz;unfold qW.sz;omega
  have hkn:=ht.kinds;have hlens:=VW ht.ok;refine SCall.runW [] [] g824 (by kernel_rfl) rfl ?_;simp only [Xn,qK,go_sem];simp only [hN.o,Nat.add_zero,ne0 hj,ne1 hj,ne2 hj,ne3 hj,ne4 hj,ne5 hj,ne6 hj,neT hj,neC hj,go_sem];refine qY (k:=4) rfl qA.ln ⟨_,qA.enc_eq _⟩ (by decide) ?_;simp only [go_sem];have hcase:M.Control.Term.Kind=1∨M.Control.Term.Kind=5∨M.Control.Term.Kind=3∨M.Control.Term.Kind=9∨M.Control.Term.Kind=10∨M.Control.Term.Kind=11∨(M.Control.Term.Kind=8∨M.Control.Term.Kind=2∨M.Control.Term.Kind=4):=by omega
  have hMI0:∀{i:Nat} (hi:i<M.Control.Term.Kids.length),¬M.Control.Term.Kind=4→M.Control.Term.Kids[i].Kind=1→0≤M.Control.Term.Kids[i].Value∧M.Control.Term.Kids[i].Value.toNat<M.Control.Env.length:=fun hi h4 h1=>(ht.kid0 h4 hi).var h1;rcases hcase with hk | hk | hk | hk | hk | hk | hk
  · obtain ⟨v0,v1⟩:=ht.var hk;obtain ⟨a0,a1⟩:=hM.c.e _ (gMm v1);have em:M.move b=((2:Int),M.enter M.Control.Env[M.Control.Term.Value.toNat]):=by rw [JJ (Qw hk (by decide))];unfold qD.eval;simp only [hk,Int.reduceEq,if_false,if_true,zZ v1]
    rw [em] at hK;simp only [Xp,Xs,Xt,Xu];simp only [hk,Int.reduceEq,decide_true,decide_false,List.contains_cons,List.contains_nil,Option.getD_some,Option.getD_none,Nat.reduceBEq,Bool.or_false,Bool.false_or,Bool.or_self,bFt,Bool.or_true,Bool.true_or,if_false,if_true,go_sem];simp only [hN.o,Nat.add_zero,ne0 hj,ne1 hj,ne2 hj,ne3 hj,ne4 hj,ne5 hj,ne6 hj,neT hj,neC hj,go_sem];rw [wn v0];simp only [List.getElem?_map,gEg v1,Option.map_some,go_sem];simp only [qE];generalize M.Control.Env[M.Control.Term.Value.toNat]=a at*;have a2:a.toNat<M.Heap.length:=by omega
    have ec:M.cellAt a=M.Heap[a.toNat]:=zZ a2;simp only [List.contains_cons,List.contains_nil,Option.getD_some,Option.getD_none,Nat.reduceBEq,Bool.or_false,Bool.false_or,Bool.or_self,bFt,Bool.or_true,Bool.true_or,if_false,if_true,go_sem];simp only [hN.o,Nat.add_zero,ne0 hj,ne1 hj,ne2 hj,ne3 hj,ne4 hj,ne5 hj,ne6 hj,neT hj,neC hj,go_sem];simp only [jQ a0 (show a<(M.Heap.length:Int) by omega),go_sem,hN.t,List.getElem?_map,gEg a2,Option.map_some];refine qI ?_ ?_<;>intro hc<;>simp only [hc,go_sem]
    · have hd:M.Heap[a.toNat].Done=false:=by simpa using hc
      have en:M.enter a=(M.push (fr 1 a)).ctl M.Heap[a.toNat].Closure:=by unfold qD.enter;rw [ec,hd];rfl
      rw [en] at hK;simp only [hN.o,Nat.add_zero,ne0 hj,ne1 hj,ne2 hj,ne3 hj,ne4 hj,ne5 hj,ne6 hj,neT hj,neC hj,go_sem];obtain ⟨F,hF⟩:∃F,F=AV.agg [.int .i64 1,.int .i64 a,.nils,.int .i64 0,.int .i64 0,.nils,.nils,.nils]:=⟨_,rfl⟩;rw [←hF];have o2:(h++[qC.row 8 [F] true])[si]?=some (.row 8 (M.Stack.map qR.enc++js) true):=by rw [List.getElem?_append_left (qi hN.s)];exact hN.s
      refine jl List.getElem?_concat_length o2 (by rw [List.length_map]) (by omega) ?_;obtain ⟨h3,w1,n1,k1⟩:=qKV (f:=fr 1 a) hN (x:=qC.row 8 [F] true) (F:=F) (by rw [hF];exact frW);have e1:(h++[qC.row 8 [F] true]).length=h.length+1:=by simp
      have o3:(((h++[qC.row 8 [F] true]).set si .dead)++[qC.row 8 (M.Stack.map qR.enc++[F]) true])[id]?=some (.row w [.agg (pre++(Nec M si hi++post))] true):=by
        have:=qi hN.o;rw [List.getElem?_append_left (by simp;omega),List.getElem?_set_ne (Ne.symm hN.d1),List.getElem?_append_left this];exact hN.o
      have o4:(((h++[qC.row 8 [F] true]).set si .dead)++[qC.row 8 (M.Stack.map qR.enc++[F]) true])[hi]?=some (.row 6 (M.Heap.map qT.enc) true):=by
        have:=qi hN.t;rw [List.getElem?_append_left (by simp;omega),List.getElem?_set_ne hN.d3,List.getElem?_append_left this];exact hN.t
      rw [e1];simp only [List.contains_cons,List.contains_nil,Option.getD_some,Option.getD_none,Nat.reduceBEq,Bool.or_false,Bool.false_or,Bool.or_self,bFt,Bool.or_true,Bool.true_or,if_false,if_true,go_sem];refine qo rfl o3 rfl (Zk hj (M':=M.push (fr 1 a)) rfl rfl (by simp [qD.push])) ?_;generalize ((h++[qC.row 8 [F] true]).set si .dead)++[qC.row 8 (M.Stack.map qR.enc++[F]) true]=g at*;have o5:(g.set id (.row w [.agg (pre++(Nec (M.push (fr 1 a)) (h.length+1) hi++post))] true))[id]?=some (.row w [.agg (pre++(Nec (M.push (fr 1 a)) (h.length+1) hi++post))] true):=by
        rw [List.getElem?_set,if_pos rfl,if_pos (qi o3)]
      have o6:(g.set id (.row w [.agg (pre++(Nec (M.push (fr 1 a)) (h.length+1) hi++post))] true))[hi]?=some (.row 6 (M.Heap.map qT.enc) true):=by
        rw [List.getElem?_set_ne hN.d2];exact o4
      simp only [List.contains_cons,List.contains_nil,Option.getD_some,Option.getD_none,Nat.reduceBEq,Bool.or_false,Bool.false_or,Bool.or_self,bFt,Bool.or_true,Bool.true_or,if_false,if_true,go_sem];simp only [List.set_cons_zero];generalize hgg:g.set id (.row w [.agg (pre++(Nec (M.push (fr 1 a)) (h.length+1) hi++post))] true)=g2 at*;simp only [o5,Nat.add_zero,ne6 hj,go_sem];have hl6:(M.push (fr 1 a)).Heap.length=M.Heap.length:=rfl;simp only [hl6,jQ a0 (show a<(M.Heap.length:Int) by omega),go_sem,o6,List.getElem?_map,gEg a2,Option.map_some];refine qo rfl o5 rfl (zg hj rfl) ?_;simp only [List.contains_cons,List.contains_nil,Option.getD_some,Option.getD_none,Nat.reduceBEq,Bool.or_false,Bool.false_or,Bool.or_self,bFt,Bool.or_true,Bool.true_or,if_false,if_true,go_sem];obtain ⟨n2,k2⟩:=n1.struct (post':=post) (M':=(M.push (fr 1 a)).ctl M.Heap[a.toNat].Closure) (js':=[]) rfl rfl;exact ⟨_,_,.refl _,WkH.set2 w1,hK _ ⟨_,_,_,n2⟩ (k1.trans k2)⟩
    · have hd:M.Heap[a.toNat].Done=true:=by simpa using hc
      have en:M.enter a=M.ctl M.Heap[a.toNat].Closure:=by unfold qD.enter;rw [ec,hd];rfl
      rw [en] at hK;simp only [hN.o,Nat.add_zero,ne0 hj,ne1 hj,ne2 hj,ne3 hj,ne4 hj,ne5 hj,ne6 hj,neT hj,neC hj,go_sem];simp only [jQ a0 (show a<(M.Heap.length:Int) by omega),go_sem,hN.t,List.getElem?_map,gEg a2,Option.map_some];simp only [Nat.add_zero];refine qo rfl hN.o rfl (zg hj rfl) ?_;simp only [List.contains_cons,List.contains_nil,Option.getD_some,Option.getD_none,Nat.reduceBEq,Bool.or_false,Bool.false_or,Bool.or_self,bFt,Bool.or_true,Bool.true_or,if_false,if_true,go_sem];obtain ⟨n1,n2⟩:=hN.struct (post':=post) (M':=M.ctl M.Heap[a.toNat].Closure) (js':=js) rfl rfl;exact ⟨_,_,.refl _,.refl _,hK _ ⟨_,_,_,n1⟩ n2⟩
  · have hl:=hlens.1 (.inr (.inl hk));have hl0:0<M.Control.Term.Kids.length:=by omega
    have hl1:1<M.Control.Term.Kids.length:=by omega
    have em:M.move b=((1:Int),(((M.addr M.Control.Term.Kids[1]).2).push (fr 2 (M.addr M.Control.Term.Kids[1]).1)).ctl ⟨M.Control.Term.Kids[0],M.Control.Env⟩):=by
      rw [JJ (Qw hk (by decide))];unfold qD.eval;simp only [hk,Int.reduceEq,if_false,if_true,z6 hl0,z6 hl1]
    rw [em] at hK;simp only [wT,Xv,Xw];simp only [hk,Int.reduceEq,decide_true,decide_false,List.contains_cons,List.contains_nil,Option.getD_some,Option.getD_none,Nat.reduceBEq,Bool.or_false,Bool.false_or,Bool.or_self,bFt,Bool.or_true,Bool.true_or,if_false,if_true,go_sem];simp only [List.getElem?_map,gEg hl1,Option.map_some,go_sem];obtain ⟨_,q2,_,q4,_,_,q7⟩:=hM.toMI0.addr (ht.kid0 (by omega) hl1);refine qc (qLI hj hN0 (by omega) M.Control.Term.Kids[1] (hMI0 hl1 (by omega)) fun h2 hN2 k2=> ?_);simp only [List.contains_cons,List.contains_nil,Option.getD_some,Option.getD_none,Nat.reduceBEq,Bool.or_false,Bool.false_or,Bool.or_self,bFt,Bool.or_true,Bool.true_or,if_false,if_true,go_sem];simp only [List.getElem?_map,gEg hl0,Option.map_some,go_sem];refine qc (SCall.arg (.same (.cons frW (.same .nil))) (Vl hj hN2 (by rw [q7];omega) (fr 2 (M.addr M.Control.Term.Kids[1]).1) M.Control.Term.Kids[0] fun h3 hN3 k3=> ?_));simp only [List.contains_cons,List.contains_nil,Option.getD_some,Option.getD_none,Nat.reduceBEq,Bool.or_false,Bool.false_or,Bool.or_self,bFt,Bool.or_true,Bool.true_or,if_false,if_true,go_sem];rw [q2] at hN3;exact ⟨_,_,.refl _,.refl _,hK _ hN3 (k2.trans k3)⟩
  · have hl:=hlens.1 (.inl hk);have hl0:0<M.Control.Term.Kids.length:=by omega
    have hl1:1<M.Control.Term.Kids.length:=by omega
    have em:M.move b=((1:Int),(M.push ⟨3,M.Control.Term.Value,[],⟨M.Control.Term.Kids[1],M.Control.Env⟩⟩).ctl ⟨M.Control.Term.Kids[0],M.Control.Env⟩):=by
      rw [JJ (Qw hk (by decide))];unfold qD.eval;simp only [hk,Int.reduceEq,if_false,if_true,z6 hl0,z6 hl1]
    rw [em] at hK;simp only [wT,Xx];simp only [hk,Int.reduceEq,decide_true,decide_false,List.contains_cons,List.contains_nil,Option.getD_some,Option.getD_none,Nat.reduceBEq,Bool.or_false,Bool.false_or,Bool.or_self,bFt,Bool.or_true,Bool.true_or,if_false,if_true,go_sem];simp only [List.getElem?_map,gEg hl1,Option.map_some,go_sem];simp only [hN.o,Nat.add_zero,ne0 hj,ne1 hj,ne2 hj,ne3 hj,ne4 hj,ne5 hj,ne6 hj,neT hj,neC hj,go_sem];simp only [List.getElem?_map,gEg hl0,Option.map_some,go_sem];refine qc (SCall.arg (.same (.cons (.agg (.same (.same (.cons .nilL (.refl _))))) (.same .nil))) (Vl hj hN0 (by omega) ⟨3,M.Control.Term.Value,[],⟨M.Control.Term.Kids[1],M.Control.Env⟩⟩ M.Control.Term.Kids[0] fun h3 hN3 k3=> ?_));simp only [List.contains_cons,List.contains_nil,Option.getD_some,Option.getD_none,Nat.reduceBEq,Bool.or_false,Bool.false_or,Bool.or_self,bFt,Bool.or_true,Bool.true_or,if_false,if_true,go_sem];exact ⟨_,_,.refl _,.refl _,hK _ hN3 k3⟩
  · have hl:=hlens.2 (.inr (.inr (.inl hk)));have hl0:0<M.Control.Term.Kids.length:=by omega
    have em:M.move b=((1:Int),(M.push ⟨5,0,M.Control.Term.Data,noC⟩).ctl ⟨M.Control.Term.Kids[0],M.Control.Env⟩):=by
      rw [JJ (Qw hk (by decide))];unfold qD.eval;simp only [hk,Int.reduceEq,if_false,if_true,z6 hl0]
    rw [em] at hK;simp only [wT,JO,Xy];simp only [hk,Int.reduceEq,decide_true,decide_false,List.contains_cons,List.contains_nil,Option.getD_some,Option.getD_none,Nat.reduceBEq,Bool.or_false,Bool.false_or,Bool.or_self,bFt,Bool.or_true,Bool.true_or,if_false,if_true,go_sem];simp only [List.getElem?_map,gEg hl0,Option.map_some,go_sem];refine qc (SCall.arg (.same (.cons Yy (.same .nil))) (Vl hj hN0 (by omega) ⟨5,0,M.Control.Term.Data,noC⟩ M.Control.Term.Kids[0] fun h3 hN3 k3=> ?_));simp only [List.contains_cons,List.contains_nil,Option.getD_some,Option.getD_none,Nat.reduceBEq,Bool.or_false,Bool.false_or,Bool.or_self,bFt,Bool.or_true,Bool.true_or,if_false,if_true,go_sem];exact ⟨_,_,.refl _,.refl _,hK _ hN3 k3⟩
  · have hl:=hlens.2 (.inr (.inr (.inr hk)));have hl0:0<M.Control.Term.Kids.length:=by omega
    have em:M.move b=((1:Int),(M.push ⟨6,0,M.Control.Term.Data,noC⟩).ctl ⟨M.Control.Term.Kids[0],M.Control.Env⟩):=by
      rw [JJ (Qw hk (by decide))];unfold qD.eval;simp only [hk,Int.reduceEq,if_false,if_true,z6 hl0]
    rw [em] at hK;simp only [wT,JO,J1,Xz];simp only [hk,Int.reduceEq,decide_true,decide_false,List.contains_cons,List.contains_nil,Option.getD_some,Option.getD_none,Nat.reduceBEq,Bool.or_false,Bool.false_or,Bool.or_self,bFt,Bool.or_true,Bool.true_or,if_false,if_true,go_sem];simp only [List.getElem?_map,gEg hl0,Option.map_some,go_sem];refine qc (SCall.arg (.same (.cons Yy (.same .nil))) (Vl hj hN0 (by omega) ⟨6,0,M.Control.Term.Data,noC⟩ M.Control.Term.Kids[0] fun h3 hN3 k3=> ?_));simp only [List.contains_cons,List.contains_nil,Option.getD_some,Option.getD_none,Nat.reduceBEq,Bool.or_false,Bool.false_or,Bool.or_self,bFt,Bool.or_true,Bool.true_or,if_false,if_true,go_sem];exact ⟨_,_,.refl _,.refl _,hK _ hN3 k3⟩
  · obtain ⟨v0,v1⟩:=ht.ref hk;have hvl:M.Control.Term.Value.toNat<b.Defs.length:=by omega
    have em:M.move b=((7:Int),M.ctl ⟨b.Defs[M.Control.Term.Value.toNat],[]⟩):=by
      rw [JJ (Qw hk (by decide))];unfold qD.eval;simp only [hk,Int.reduceEq,if_false,if_true,zZ hvl]
    rw [em] at hK;simp only [wT,JO,J1,Xq];simp only [hk,Int.reduceEq,decide_true,decide_false,List.contains_cons,List.contains_nil,Option.getD_some,Option.getD_none,Nat.reduceBEq,Bool.or_false,Bool.false_or,Bool.or_self,bFt,Bool.or_true,Bool.true_or,if_false,if_true,go_sem];rw [wn v0];simp only [List.getElem?_map,gEg hvl,Option.map_some,go_sem];simp only [Nat.add_zero];refine qo rfl hN.o rfl (zg hj rfl) ?_;simp only [List.contains_cons,List.contains_nil,Option.getD_some,Option.getD_none,Nat.reduceBEq,Bool.or_false,Bool.false_or,Bool.or_self,bFt,Bool.or_true,Bool.true_or,if_false,if_true,go_sem];obtain ⟨n1,n2⟩:=hN.struct (post':=post) (M':=M.ctl ⟨b.Defs[M.Control.Term.Value.toNat],[]⟩) (js':=js) rfl rfl;exact ⟨_,_,.refl _,WkH.set w9,hK _ ⟨_,_,_,n1⟩ n2⟩
  · have hvc:M.Control.val=true∨M.Control.Term.Kind=8∧M.Control.fields=false:=by
      rcases hk with hk | hk | hk
      · rw [qHH hk];cases M.Control.fields<;>simp [hk]
      · exact .inl (Vv hk (by decide))
      · exact .inl (Vv hk (by decide))
    have tl:M.Control.val=true→0<M.Stack.length∧M.move b=M.meet:=fun hv=>⟨MI.pos hd hv,by unfold qD.move;rw [if_pos hv]⟩;simp only [wT,JO,J1,Xo,Xr];rcases hk with hk | hk | hk
    · simp only [hk,Int.reduceEq,decide_true,decide_false,List.contains_cons,List.contains_nil,Option.getD_some,Option.getD_none,Nat.reduceBEq,Bool.or_false,Bool.false_or,Bool.or_self,bFt,Bool.or_true,Bool.true_or,if_false,if_true,go_sem];refine qc (qLH hj hN0 hz ?_);simp only [List.contains_cons,List.contains_nil,Option.getD_some,Option.getD_none,Nat.reduceBEq,Bool.or_false,Bool.false_or,Bool.or_self,bFt,Bool.or_true,Bool.true_or,if_false,if_true,go_sem];refine qI ?_ ?_<;>intro hc<;>simp only [hc,go_sem]
      · have hf:M.Control.fields=false:=by simpa using hc
        have em:M.move b=((8:Int),M.build M.Control.Term):=by
          rw [JJ (by rw [qHH hk];exact hf)];unfold qD.eval;simp only [hk,Int.reduceEq,if_false,if_true]
        rw [em] at hK;refine qc (qS8 hj hN0 (by have:=ht.lens;omega) (by omega) (fun k hk' h1=>by
          obtain ⟨i,hi,rfl⟩:=List.mem_iff_getElem.1 hk';exact hMI0 hi (by omega) h1) fun h2 hN2 k2=> ?_)
        simp only [List.contains_cons,List.contains_nil,Option.getD_some,Option.getD_none,Nat.reduceBEq,Bool.or_false,Bool.false_or,Bool.or_self,bFt,Bool.or_true,Bool.true_or,if_false,if_true,go_sem];exact ⟨_,_,.refl _,.refl _,hK _ hN2 k2⟩
      · have hf:M.Control.fields=true:=by simpa using hc
        obtain ⟨hs,em⟩:=tl (by rw [qHH hk];exact hf);have hv:M.Control.val=true:=by rcases hvc with q | q;exact q;simp_all
        rw [em] at hK;simp only [J3,J2,J4];simp only [hN.o,Nat.add_zero,ne0 hj,ne1 hj,ne2 hj,ne3 hj,ne4 hj,ne5 hj,ne6 hj,neT hj,neC hj,go_sem];simp only [QR hs (show M.Stack.length≤1000000 by omega),hN.s,Qt hs,go_sem];refine qY (k:=8) rfl qR.ln ⟨_,rfl⟩ (by decide) ?_;simp only [List.contains_cons,List.contains_nil,Option.getD_some,Option.getD_none,Nat.reduceBEq,Bool.or_false,Bool.false_or,Bool.or_self,bFt,Bool.or_true,Bool.true_or,if_false,if_true,go_sem];refine qI ?_ ?_<;>intro hc<;>simp only [hc,go_sem]
        · have q1:M.top.Kind=1:=odT hc;obtain ⟨a0,a1⟩:=(hM.s _ (wQ hs).2).a (.inl q1);have a2:M.top.Value.toNat<M.Heap.length:=by omega
          have e3:M.meet=(3,({M with Heap:=M.Heap.set M.top.Value.toNat ⟨true,M.Control⟩}:qD).pop):=by unfold qD.meet;rw [if_pos q1];rfl
          rw [e3] at hK;simp only [hN.o,Nat.add_zero,ne0 hj,ne1 hj,ne2 hj,ne3 hj,ne4 hj,ne5 hj,ne6 hj,neT hj,neC hj,go_sem];simp only [jQ a0 (show M.top.Value<(M.Heap.length:Int) by omega),go_sem];refine qo rfl hN.t (by rw [List.getElem?_map,gEg a2];rfl) (jt (k:=6) qT.ln rfl ⟨fun _=>⟨_,rfl⟩,fun _=>⟨_,rfl⟩⟩ (by decide)) ?_;simp only [List.contains_cons,List.contains_nil,Option.getD_some,Option.getD_none,Nat.reduceBEq,Bool.or_false,Bool.false_or,Bool.or_self,bFt,Bool.or_true,Bool.true_or,if_false,if_true,go_sem];obtain ⟨n1,n2⟩:=hN.cell (M':={M with Heap:=M.Heap.set M.top.Value.toNat ⟨true,M.Control⟩}) rfl rfl (by simp);simp only [List.map_set] at n1 n2;refine qc (Jj hj ⟨_,_,_,n1⟩ hs (show M.Stack.length≤1000000 by omega) fun h3 hN3 k3=> ?_);simp only [List.contains_cons,List.contains_nil,Option.getD_some,Option.getD_none,Nat.reduceBEq,Bool.or_false,Bool.false_or,Bool.or_self,bFt,Bool.or_true,Bool.true_or,if_false,if_true,go_sem];exact ⟨_,_,.refl _,.refl _,hK _ hN3 (n2.trans k3)⟩
        · have q1:¬M.top.Kind=1:=odF hc;refine qc (qG4 hj hN0 hb hM hv hs q1 fun h3 hN3 k3=> ?_);simp only [List.contains_cons,List.contains_nil,Option.getD_some,Option.getD_none,Nat.reduceBEq,Bool.or_false,Bool.false_or,Bool.or_self,bFt,Bool.or_true,Bool.true_or,if_false,if_true,go_sem];exact ⟨_,_,.refl _,.refl _,hK _ hN3 k3⟩
    · obtain ⟨hs,em⟩:=tl (Vv hk (by decide));simp only [hk,Int.reduceEq,decide_true,decide_false,List.contains_cons,List.contains_nil,Option.getD_some,Option.getD_none,Nat.reduceBEq,Bool.or_false,Bool.false_or,Bool.or_self,bFt,Bool.or_true,Bool.true_or,if_false,if_true,go_sem];have hv:M.Control.val=true:=by rcases hvc with q | q;exact q;simp_all
      rw [em] at hK;simp only [J3,J2,J4];simp only [hN.o,Nat.add_zero,ne0 hj,ne1 hj,ne2 hj,ne3 hj,ne4 hj,ne5 hj,ne6 hj,neT hj,neC hj,go_sem];simp only [QR hs (show M.Stack.length≤1000000 by omega),hN.s,Qt hs,go_sem];refine qY (k:=8) rfl qR.ln ⟨_,rfl⟩ (by decide) ?_;simp only [List.contains_cons,List.contains_nil,Option.getD_some,Option.getD_none,Nat.reduceBEq,Bool.or_false,Bool.false_or,Bool.or_self,bFt,Bool.or_true,Bool.true_or,if_false,if_true,go_sem];refine qI ?_ ?_<;>intro hc<;>simp only [hc,go_sem]
      · have q1:M.top.Kind=1:=odT hc;obtain ⟨a0,a1⟩:=(hM.s _ (wQ hs).2).a (.inl q1);have a2:M.top.Value.toNat<M.Heap.length:=by omega
        have e3:M.meet=(3,({M with Heap:=M.Heap.set M.top.Value.toNat ⟨true,M.Control⟩}:qD).pop):=by unfold qD.meet;rw [if_pos q1];rfl
        rw [e3] at hK;simp only [hN.o,Nat.add_zero,ne0 hj,ne1 hj,ne2 hj,ne3 hj,ne4 hj,ne5 hj,ne6 hj,neT hj,neC hj,go_sem];simp only [jQ a0 (show M.top.Value<(M.Heap.length:Int) by omega),go_sem];refine qo rfl hN.t (by rw [List.getElem?_map,gEg a2];rfl) (jt (k:=6) qT.ln rfl ⟨fun _=>⟨_,rfl⟩,fun _=>⟨_,rfl⟩⟩ (by decide)) ?_;simp only [List.contains_cons,List.contains_nil,Option.getD_some,Option.getD_none,Nat.reduceBEq,Bool.or_false,Bool.false_or,Bool.or_self,bFt,Bool.or_true,Bool.true_or,if_false,if_true,go_sem];obtain ⟨n1,n2⟩:=hN.cell (M':={M with Heap:=M.Heap.set M.top.Value.toNat ⟨true,M.Control⟩}) rfl rfl (by simp);simp only [List.map_set] at n1 n2;refine qc (Jj hj ⟨_,_,_,n1⟩ hs (show M.Stack.length≤1000000 by omega) fun h3 hN3 k3=> ?_);simp only [List.contains_cons,List.contains_nil,Option.getD_some,Option.getD_none,Nat.reduceBEq,Bool.or_false,Bool.false_or,Bool.or_self,bFt,Bool.or_true,Bool.true_or,if_false,if_true,go_sem];exact ⟨_,_,.refl _,.refl _,hK _ hN3 (n2.trans k3)⟩
      · have q1:¬M.top.Kind=1:=odF hc;refine qc (qG4 hj hN0 hb hM hv hs q1 fun h3 hN3 k3=> ?_);simp only [List.contains_cons,List.contains_nil,Option.getD_some,Option.getD_none,Nat.reduceBEq,Bool.or_false,Bool.false_or,Bool.or_self,bFt,Bool.or_true,Bool.true_or,if_false,if_true,go_sem];exact ⟨_,_,.refl _,.refl _,hK _ hN3 k3⟩
    · obtain ⟨hs,em⟩:=tl (Vv hk (by decide));simp only [hk,Int.reduceEq,decide_true,decide_false,List.contains_cons,List.contains_nil,Option.getD_some,Option.getD_none,Nat.reduceBEq,Bool.or_false,Bool.false_or,Bool.or_self,bFt,Bool.or_true,Bool.true_or,if_false,if_true,go_sem];have hv:M.Control.val=true:=by rcases hvc with q | q;exact q;simp_all
      rw [em] at hK;simp only [J3,J2,J4];simp only [hN.o,Nat.add_zero,ne0 hj,ne1 hj,ne2 hj,ne3 hj,ne4 hj,ne5 hj,ne6 hj,neT hj,neC hj,go_sem];simp only [QR hs (show M.Stack.length≤1000000 by omega),hN.s,Qt hs,go_sem];refine qY (k:=8) rfl qR.ln ⟨_,rfl⟩ (by decide) ?_;simp only [List.contains_cons,List.contains_nil,Option.getD_some,Option.getD_none,Nat.reduceBEq,Bool.or_false,Bool.false_or,Bool.or_self,bFt,Bool.or_true,Bool.true_or,if_false,if_true,go_sem];refine qI ?_ ?_<;>intro hc<;>simp only [hc,go_sem]
      · have q1:M.top.Kind=1:=odT hc;obtain ⟨a0,a1⟩:=(hM.s _ (wQ hs).2).a (.inl q1);have a2:M.top.Value.toNat<M.Heap.length:=by omega
        have e3:M.meet=(3,({M with Heap:=M.Heap.set M.top.Value.toNat ⟨true,M.Control⟩}:qD).pop):=by unfold qD.meet;rw [if_pos q1];rfl
        rw [e3] at hK;simp only [hN.o,Nat.add_zero,ne0 hj,ne1 hj,ne2 hj,ne3 hj,ne4 hj,ne5 hj,ne6 hj,neT hj,neC hj,go_sem];simp only [jQ a0 (show M.top.Value<(M.Heap.length:Int) by omega),go_sem];refine qo rfl hN.t (by rw [List.getElem?_map,gEg a2];rfl) (jt (k:=6) qT.ln rfl ⟨fun _=>⟨_,rfl⟩,fun _=>⟨_,rfl⟩⟩ (by decide)) ?_;simp only [List.contains_cons,List.contains_nil,Option.getD_some,Option.getD_none,Nat.reduceBEq,Bool.or_false,Bool.false_or,Bool.or_self,bFt,Bool.or_true,Bool.true_or,if_false,if_true,go_sem];obtain ⟨n1,n2⟩:=hN.cell (M':={M with Heap:=M.Heap.set M.top.Value.toNat ⟨true,M.Control⟩}) rfl rfl (by simp);simp only [List.map_set] at n1 n2;refine qc (Jj hj ⟨_,_,_,n1⟩ hs (show M.Stack.length≤1000000 by omega) fun h3 hN3 k3=> ?_);simp only [List.contains_cons,List.contains_nil,Option.getD_some,Option.getD_none,Nat.reduceBEq,Bool.or_false,Bool.false_or,Bool.or_self,bFt,Bool.or_true,Bool.true_or,if_false,if_true,go_sem];exact ⟨_,_,.refl _,.refl _,hK _ hN3 (n2.trans k3)⟩
      · have q1:¬M.top.Kind=1:=odF hc;refine qc (qG4 hj hN0 hb hM hv hs q1 fun h3 hN3 k3=> ?_);simp only [List.contains_cons,List.contains_nil,Option.getD_some,Option.getD_none,Nat.reduceBEq,Bool.or_false,Bool.false_or,Bool.or_self,bFt,Bool.or_true,Bool.true_or,if_false,if_true,go_sem];exact ⟨_,_,.refl _,.refl _,hK _ hN3 k3⟩
end
end Go.Ab
namespace Go.Ab
open Go
set_option maxRecDepth 10000
set_option maxHeartbeats 2000000
section
variable {P:Nat→Prop} {w:Nat} {pre post:List AV} {id j:Nat} {h:List qC} {M:qD} {K:AV→List qC→Prop} {b:qH}
theorem s461 (hj:pre.length=j) (hN:NSx P w pre post id h M) (hb:BI b) (hM:MI b M) (hd:M.done=false)
    (hK:∀h',NSx P w pre post id h' (M.step b).2.2→Keep P h h'→K (.tup [.int .i64 (M.step b).1,.int .i64 (M.step b).2.1]) h'):SCall Gm 461 [.ept b.enc 0,.ptr id 0 j] h K:=by
  refine SCall.run [] [] g461 (by kernel_rfl) rfl ?_;simp only [XI,qK,go_sem];refine qc (s824 hj hN hb hM hd fun h2 hN2 k2=> ?_);simp only [go_sem];have es:M.step b=if (M.move b).1=0 then (0,5,(M.move b).2) else if 2000<(M.move b).2.Heap.length∨400<(M.move b).2.Stack.length∨256<(M.move b).2.Control.Env.length then (0,4,(M.move b).2) else ((M.move b).1,0,(M.move b).2):=rfl;refine qI ?_ ?_<;>intro hc<;>simp only [hc,go_sem]
  · rw [es,if_pos (odT hc)] at hK;exact hK _ hN2 k2
  have h0:=odF hc;rw [es,if_neg h0] at hK;obtain ⟨si,hi,js,hN⟩:=hN2;generalize M.move b=r at*;obtain ⟨k,M⟩:=r;simp only at hN hK;simp only [hN.o,Nat.add_zero,ne0 hj,ne1 hj,ne2 hj,ne3 hj,ne4 hj,ne5 hj,ne6 hj,neT hj,neC hj,go_sem];refine qq ?_ ?_<;>intro hc<;>simp only [hc,go_sem]
  · have g1:=odF hc;simp only [hN.o,Nat.add_zero,ne0 hj,ne1 hj,ne2 hj,ne3 hj,ne4 hj,ne5 hj,ne6 hj,neT hj,neC hj,go_sem];refine qq ?_ ?_<;>intro hc<;>simp only [hc,go_sem]
    · have g2:=odF hc;simp only [hN.o,Nat.add_zero,ne0 hj,ne1 hj,ne2 hj,ne3 hj,ne4 hj,ne5 hj,ne6 hj,neT hj,neC hj,go_sem];refine qI ?_ ?_<;>intro hc<;>simp only [hc,go_sem]
      · have g3:=odT hc;rw [if_pos (by omega)] at hK;exact hK _ ⟨_,_,_,hN⟩ k2
      · have g3:=odF hc;rw [if_neg (by omega)] at hK;exact hK _ ⟨_,_,_,hN⟩ k2
    · have g2:=odT (by simpa using hc);rw [if_pos (by omega)] at hK;exact hK _ ⟨_,_,_,hN⟩ k2
  · have g1:=odT (by simpa using hc);rw [if_pos (by omega)] at hK;exact hK _ ⟨_,_,_,hN⟩ k2
end
end Go.Ab
namespace Go.Ab
open Go
set_option maxRecDepth 10000
set_option maxHeartbeats 2000000
structure FS (P:Nat→Prop) (b:qH) (ci id:Nat) (h:List qC) (M:qD) (cs:List Int) (l n:Nat):Prop where
  m:NSx (fun i=>P i∨i=ci) 11 [.ept b.enc 0] [.slice 1 ci 0 4 false,.int .i64 (l:Nat),.int .i64 (n:Nat)] id h M
  c:h[ci]?=some (.row 1 (cs.map qE) true)
  p:¬P ci
  k:cs.length=4
section
variable {P:Nat→Prop} {b:qH} {ci id:Nat} {h:List qC} {M:qD} {cs:List Int} {l n:Nat} {K:AV→List qC→Prop}
theorem FS.pl (hF:FS P b ci id h M cs l n) {i:Nat} (hi:P i):i<h.length:=hF.m.pl (.inl hi)
theorem FS.go {h':List qC} {M':qD} (hF:FS P b ci id h M cs l n) (hN:NSx (fun i=>P i∨i=ci) 11 [.ept b.enc 0] [.slice 1 ci 0 4 false,.int .i64 (l:Nat),.int .i64 (n:Nat)] id h' M') (hk:Keep (fun i=>P i∨i=ci) h h'):FS P b ci id h' M' cs l n∧Keep P h h':=
  ⟨⟨hN,(hk.2 ci (.inr rfl)).trans hF.c,hF.p,hF.k⟩,hk.sub fun _=>.inl⟩
theorem FS.left (hF:FS P b ci id h M cs l n) (l' n':Nat):∃si hi,h[id]?=some (.row 11 [.agg ([.ept b.enc 0]++(Nec M si hi++[.slice 1 ci 0 4 false,.int .i64 (l:Nat),.int .i64 (n:Nat)]))] true)∧
    FS P b ci id (h.set id (.row 11 [.agg ([.ept b.enc 0]++(Nec M si hi++[.slice 1 ci 0 4 false,.int .i64 (l':Nat),.int .i64 (n':Nat)]))] true)) M cs l' n'∧
    Keep P h (h.set id (.row 11 [.agg ([.ept b.enc 0]++(Nec M si hi++[.slice 1 ci 0 4 false,.int .i64 (l':Nat),.int .i64 (n':Nat)]))] true)):=by
  obtain ⟨si,hi,js,hN⟩:=hF.m;obtain ⟨n1,n2⟩:=hN.struct (post':=[.slice 1 ci 0 4 false,.int .i64 (l':Nat),.int .i64 (n':Nat)]) (M':=M) (js':=js) rfl rfl;refine ⟨si,hi,hN.o,⟨⟨_,_,_,n1⟩, ?_,hF.p,hF.k⟩,n2.sub fun _=>.inl⟩;rw [List.getElem?_set_ne (fun e=>hN.p1 (.inr e))];exact hF.c
theorem FS.cnts (hF:FS P b ci id h M cs l n) {cs':List Int} (hl:cs'.length=4):FS P b ci id (h.set ci (.row 1 (cs'.map qE) true)) M cs' l n∧Keep P h (h.set ci (.row 1 (cs'.map qE) true)):=by
  have hc:=qi hF.c;obtain ⟨si,hi,js,hN⟩:=hF.m;refine ⟨⟨⟨si,hi,js, ?_, ?_, ?_,hN.d1,hN.d2,hN.d3,hN.p1,hN.p2,hN.p3,by simpa using hN.pl⟩,by rw [List.getElem?_set,if_pos rfl,if_pos hc],hF.p,hl⟩,by simp,fun j hj=> ?_⟩
  · rw [List.getElem?_set_ne (fun e=>hN.p1 (.inr e.symm))];exact hN.o
  · rw [List.getElem?_set_ne (fun e=>hN.p2 (.inr e.symm))];exact hN.s
  · rw [List.getElem?_set_ne (fun e=>hN.p3 (.inr e.symm))];exact hN.t
  · rw [List.getElem?_set_ne];rintro rfl;exact hF.p hj
theorem qKE:0≤(M.step b).1∧(M.step b).1≤8:=by
  have hm:0≤(M.move b).1∧(M.move b).1≤8:=by
    unfold qD.move;split
    · unfold qD.meet;repeat' split
      all_goals simp
    · unfold qD.eval;repeat' split
      all_goals simp
  unfold qD.step;split
  · simp
  split
  · simp
  · exact hm
theorem s833 {k:Int} (hco:h[ci]?=some (.row 1 (cs.map qE) true)) (hl:cs.length=4) (hk0: -100≤k∧k≤100) (hK:K (.tup []) (if 4≤k∧k≤7 then h.set ci (.row 1 ((cnt cs k).map qE) true) else h)):SCall Gm 833 [.slice 1 ci 0 4 false,.int .i64 k] h K:=by
  refine SCall.run [] [] g833 (by kernel_rfl) rfl ?_;simp only [YE,qK,go_sem];refine qL QH ?_;simp only [go_sem];refine qI ?_ ?_<;>intro hc<;>simp only [hc,go_sem]
  · have hk:4≤k∧k≤7:=by simpa [inI] using hc
    rw [if_pos hk] at hK;have hi:(k-4).toNat<cs.length:=by omega
    have e1:cnt cs k=cs.set (k-4).toNat (IntKind.i64.wrap (cs[(k-4).toNat]+1)):=by unfold cnt;rw [if_pos hk,zZ hi]
    rw [e1,List.map_set] at hK;rw [zC (n:=k-4) (by omega) (by omega),jQ (by omega) (by omega)];simp only [go_sem, *,List.getElem?_map,gEg hi,Option.map_some,qE];rw [jQ (by omega) (by omega)];simp only [go_sem];refine qo rfl hco (by rw [List.getElem?_map,gEg hi];rfl) (show (qE cs[(k-4).toNat]).put 0 (.int .i64 (IntKind.i64.wrap (cs[(k-4).toNat]+1)))=some (qE (IntKind.i64.wrap (cs[(k-4).toNat]+1))) from rfl) ?_;simp only [go_sem];exact hK
  · have hk:¬(4≤k∧k≤7):=by simpa [inI] using hc
    rw [if_neg hk] at hK;exact hK
theorem qIL {k:Int} (hk:¬(4≤k∧k≤7)):cnt cs k=cs:=by unfold cnt;rw [if_neg hk]
theorem s477 (hb:BI b) (hF:FS P b ci id h M cs l n) (hM:MI b M) (hl:l≤20000)
    (hK0:∀h',FS P b ci id h' (qU b l M cs).2.1 (qU b l M cs).2.2.1 (qU b l M cs).2.2.2 n→Keep P h h'→(qU b l M cs).1=0→K (.int .i64 0) h')
    (hK1:∀h',Keep P h h'→(qU b l M cs).1≠0→K (.int .i64 (qU b l M cs).1) h'):SCall Gm 477 [.ept b.enc 0,.ptr id 0 1,.slice 1 ci 0 4 false,.ptr id 0 9] h K:=by
  refine SCall.run [] [] g477 (by kernel_rfl) rfl ?_;simp only [XK,qK,go_sem];refine Sem.loop (fun q:List qC×qD×List Int×Nat=>FS P b ci id q.1 q.2.1 q.2.2.1 q.2.2.2 n∧MI b q.2.1∧q.2.2.2≤20000∧Keep P h q.1∧qU b l M cs=qU b q.2.2.2 q.2.1 q.2.2.1)
    (fun q=>(⟨[(0,.ept b.enc 0),(1,.ptr id 0 1),(2,.slice 1 ci 0 4 false),(3,.ptr id 0 9)],[],q.1⟩:VSt)) (fun q=>q.2.2.2) (h,M,cs,l) (by kernel_rfl) ⟨hF,hM,hl,.refl,rfl⟩ (Can.sub (by simp [go_sem]) (by simp [go_sem])) ?_
  rintro ⟨g,M1,cs1,l1⟩ ⟨gF,gM,gl,gK,gr⟩;simp only at gF gM gl gK gr⊢;rw [gr] at hK0 hK1;have hz:M1.Control.sz≤1048576:=by have:=gM.c.t.sz;have:=gM.c.l;unfold qW.sz;omega
  simp only [go_sem];refine qc (s459 rfl gF.m hz ?_);simp only [go_sem];refine qI ?_ ?_<;>intro hc<;>simp only [hc,go_sem]
  · have hd:M1.done=false:=by simpa using hc
    clear hc;obtain ⟨si,hi,ho,u1,u2⟩:=gF.left l1 n;clear u1 u2;have hp9:zp none 9 0 g[id]?=some (.int .i64 (l1:Nat)):=by rw [ho];rfl
    rw [hp9];simp only [go_sem];refine qI ?_ ?_<;>intro hc<;>simp only [hc,go_sem]
    · have h0:l1=0:=by have:=odT hc;omega
      subst h0;have e:qU b 0 M1 cs1=(12,M1,cs1,0):=by unfold qU;rw [hd];rfl
      rw [e] at hK1;exact hK1 _ gK (show ¬(12:Int)=0 by decide)
    have h0:l1≠0:=by have:=odF hc;omega
    clear hc hp9 ho si hi;obtain ⟨l2,rfl⟩:∃l2,l1=l2+1:=⟨l1-1,by omega⟩;have e:qU b (l2+1) M1 cs1=if (M1.step b).2.1≠0 then ((M1.step b).2.1,(M1.step b).2.2,cs1,l2+1) else qU b l2 (M1.step b).2.2 (cnt cs1 (M1.step b).1):=by
      conv=>lhs;unfold qU
      rw [hd];rfl
    refine qc (s461 rfl gF.m hb gM hd fun g2 hN2 k2=> ?_);simp only [go_sem];obtain ⟨gF2,gK2⟩:=gF.go hN2 k2;refine qI ?_ ?_<;>intro hc<;>simp only [hc,go_sem]
    · have h1:(M1.step b).2.1≠0:=by simpa using hc
      rw [e,if_pos h1] at hK1;exact hK1 _ (gK.trans gK2) h1
    have h1:(M1.step b).2.1=0:=by simpa using hc
    clear hc;rw [e,if_neg (by simpa using h1)] at hK0 hK1 gr;have gM2:=gM.step hb hd h1;have hkd:=qKE (M:=M1) (b:=b);generalize hst:M1.step b=st at*;obtain ⟨kd,c0,M2⟩:=st;simp only at hN2 gF2 gM2 hK0 hK1 gr hkd⊢;obtain ⟨si,hi,ho,gF3,gK3⟩:=gF2.left l2 n;have hp9:zp none 9 0 g2[id]?=some (.int .i64 ((l2+1:Nat):Int)):=by rw [ho];rfl
    rw [hp9];simp only [go_sem];rw [zC (n:=((l2+1:Nat):Int)-1) (by omega) (by omega),show ((l2+1:Nat):Int)-1=(l2:Nat) by omega];refine qo rfl ho rfl (show (AV.agg ([.ept b.enc 0]++(Nec M2 si hi++[.slice 1 ci 0 4 false,.int .i64 ((l2+1:Nat):Int),.int .i64 (n:Nat)]))).put 9 (.int .i64 (l2:Nat))=some (.agg ([.ept b.enc 0]++(Nec M2 si hi++[.slice 1 ci 0 4 false,.int .i64 (l2:Nat),.int .i64 (n:Nat)]))) from rfl) ?_;simp only [List.set_cons_zero];generalize List.set g2 id _=g3 at*;simp only [go_sem];by_cases hk:4≤kd∧kd≤7
    · obtain ⟨gF4,gK4⟩:=gF3.cnts (cs':=cnt cs1 kd) (by rw [qFP];exact gF3.k);refine qc (s833 gF3.c gF3.k (by omega) ?_);rw [if_pos hk];simp only [go_sem];exact qx (_,M2,cnt cs1 kd,l2) ⟨gF4,gM2,by simp only;omega,gK.trans (gK2.trans (gK3.trans gK4)),gr⟩ (by simp only;omega) (Can.sub (by simp [go_sem]) (by simp [go_sem]))
    · refine qc (s833 gF3.c gF3.k (by omega) ?_);rw [if_neg hk];simp only [go_sem];rw [qIL hk] at gr;exact qx (g3,M2,cs1,l2) ⟨gF3,gM2,by simp only;omega,gK.trans (gK2.trans gK3),gr⟩ (by simp only;omega) (Can.sub (by simp [go_sem]) (by simp [go_sem]))
  · have hd:M1.done=true:=by simpa using hc
    have e:qU b l1 M1 cs1=(0,M1,cs1,l1):=by cases l1<;>(unfold qU;rw [hd];rfl)
    rw [e] at hK0;exact hK0 _ gF gK rfl
end
end Go.Ab
namespace Go.Ab
open Go
set_option maxRecDepth 10000
set_option maxHeartbeats 2000000
section
variable {P Q:Nat→Prop} {b:qH} {ci id:Nat} {h:List qC} {M:qD} {cs:List Int} {l n:Nat} {K:AV→List qC→Prop}
theorem FS.out {h':List qC} (hF:FS P b ci id h M cs l n) (ho:Outs P h h') (hq:∀j,Q j→(P j∨h.length≤j)∧j<h'.length):FS Q b ci id h' M cs l n:=by
  have hc:=qi hF.c;have hcs:h'[ci]?=h[ci]?:=ho.2 ci hc hF.p;have hn:¬Q ci:=fun q=>by
    rcases (hq _ q).1 with q | q
    · exact hF.p q
    · omega
  refine ⟨hF.m.out (P:=fun i=>P i∨i=ci) ⟨ho.1,fun j hj hnj=>ho.2 j hj fun q=>hnj (.inl q)⟩ fun j hj=> ?_,hcs.trans hF.c,hn,hF.k⟩;rcases hj with hj | rfl
  · obtain ⟨q1,q2⟩:=hq j hj;exact ⟨q1.elim (fun q=>.inl (.inl q)) .inr,q2⟩
  · exact ⟨.inl (.inr rfl),by have:=ho.1;omega⟩
theorem Z1 {e:Int}:Wk [] (.tup [.agg [.int .i64 0,.int .i64 0,.nils,.nils],.int .i64 e]) (.tup [noT.enc,.int .i64 e]):=by
  have:noT.enc=.agg [.int .i64 0,.int .i64 0,.lst 1 [] false,.lst 4 [] false]:=by rw [qA.enc_eq];rfl
  rw [this];exact .tup (.cons (.agg (.same (.same (.cons .nilL (.cons .nilL .nil))))) (.same .nil))
structure VQ where
  i:Nat
  g:List qC
  kr:Nat
  ts:List qA
  M:qD
  cs:List Int
  l:Nat
  n:Nat
theorem qMM {f:Nat} (h:400≤n):qp b (f+1) M cs l n=⟨noT,4,M,cs,l,n⟩:=by unfold qp;rw [if_pos h]
theorem s341 (hb:BI b):∀(f:Nat) {P:Nat→Prop} {h:List qC} {M:qD} {cs:List Int} {l n d:Nat} {K:AV→List qC→Prop},f+d=81→FS P b ci id h M cs l n→MI b M→l≤20000→n≤400→
    (∀h',FS P b ci id h' (qp b f M cs l n).M (qp b f M cs l n).cs (qp b f M cs l n).l (qp b f M cs l n).n→Keep P h h'→(qp b f M cs l n).e=0→K (.tup [(qp b f M cs l n).t.enc,.int .i64 0]) h')→
    (∀h',Keep P h h'→(qp b f M cs l n).e≠0→K (.tup [noT.enc,.int .i64 (qp b f M cs l n).e]) h')→SCall Gm 341 [.ptr id 0 0,.int .i64 (d:Nat)] h K:=by
  intro f
  induction f with
  | zero=>
    intro P h M cs l n d K hfd hF hM hl hn hK0 hK1;refine SCall.runW [] [86,100] g341 (by kernel_rfl) rfl ?_;simp only [Q7,qK];simp only [List.contains_cons,List.contains_nil,Option.getD_some,Option.getD_none,Nat.reduceBEq,Bool.or_false,Bool.false_or,Bool.or_self,bFt,Bool.or_true,Bool.true_or,if_false,if_true,go_sem];refine qq ?_ ?_<;>intro hc<;>simp only [hc,go_sem]
    · have:=odF hc;omega
    · try simp only [List.contains_cons,List.contains_nil,Option.getD_some,Option.getD_none,Nat.reduceBEq,Bool.or_false,Bool.false_or,Bool.or_self,bFt,Bool.or_true,Bool.true_or,if_false,if_true,go_sem]
      refine qY (k:=4) rfl rfl ⟨_,rfl⟩ (by decide) ?_
      try simp only [List.contains_cons,List.contains_nil,Option.getD_some,Option.getD_none,Nat.reduceBEq,Bool.or_false,Bool.false_or,Bool.or_self,bFt,Bool.or_true,Bool.true_or,if_false,if_true,go_sem]
      exact ⟨_,_,Z1,.refl _,hK1 _ .refl (show ¬(4:Int)=0 by decide)⟩
  | succ f ih=>
    intro P h M cs l n d K hfd hF hM hl hn hK0 hK1;refine SCall.runW [] [86,100] g341 (by kernel_rfl) rfl ?_;simp only [Q7,qK];simp only [List.contains_cons,List.contains_nil,Option.getD_some,Option.getD_none,Nat.reduceBEq,Bool.or_false,Bool.false_or,Bool.or_self,bFt,Bool.or_true,Bool.true_or,if_false,if_true,go_sem];refine qq ?_ ?_<;>intro hc<;>simp only [hc,go_sem]
    · try simp only [List.contains_cons,List.contains_nil,Option.getD_some,Option.getD_none,Nat.reduceBEq,Bool.or_false,Bool.false_or,Bool.or_self,bFt,Bool.or_true,Bool.true_or,if_false,if_true,go_sem]
      obtain ⟨si,hi,ho,hF1,hK2⟩:=hF.left l (n+1);have hp10:zp none 10 0 h[id]?=some (.int .i64 (n:Nat)):=by rw [ho];rfl
      rw [hp10]
      try simp only [List.contains_cons,List.contains_nil,Option.getD_some,Option.getD_none,Nat.reduceBEq,Bool.or_false,Bool.false_or,Bool.or_self,bFt,Bool.or_true,Bool.true_or,if_false,if_true,go_sem]
      refine qI ?_ ?_<;>intro hc<;>simp only [hc,go_sem]
      · have hn4:400≤n:=by have:=odT hc;omega
        rw [qMM hn4] at hK1
        try simp only [List.contains_cons,List.contains_nil,Option.getD_some,Option.getD_none,Nat.reduceBEq,Bool.or_false,Bool.false_or,Bool.or_self,bFt,Bool.or_true,Bool.true_or,if_false,if_true,go_sem]
        refine qY (k:=4) rfl rfl ⟨_,rfl⟩ (by decide) ?_
        try simp only [List.contains_cons,List.contains_nil,Option.getD_some,Option.getD_none,Nat.reduceBEq,Bool.or_false,Bool.false_or,Bool.or_self,bFt,Bool.or_true,Bool.true_or,if_false,if_true,go_sem]
        exact ⟨_,_,Z1,.refl _,hK1 _ .refl (show ¬(4:Int)=0 by decide)⟩
      have hn4:¬400≤n:=by have:=odF hc;omega
      clear hc;simp only [Wm,Wq,ZA,ZB,ZC,Q9]
      try simp only [List.contains_cons,List.contains_nil,Option.getD_some,Option.getD_none,Nat.reduceBEq,Bool.or_false,Bool.false_or,Bool.or_self,bFt,Bool.or_true,Bool.true_or,if_false,if_true,go_sem]
      rw [hp10]
      try simp only [List.contains_cons,List.contains_nil,Option.getD_some,Option.getD_none,Nat.reduceBEq,Bool.or_false,Bool.false_or,Bool.or_self,bFt,Bool.or_true,Bool.true_or,if_false,if_true,go_sem]
      rw [zC (n:=(n:Int)+1) (by omega) (by omega),show (n:Int)+1=((n+1:Nat):Int) by omega];refine qo rfl ho rfl (show (AV.agg ([.ept b.enc 0]++(Nec M si hi++[.slice 1 ci 0 4 false,.int .i64 (l:Nat),.int .i64 (n:Nat)]))).put 10 (.int .i64 ((n+1:Nat):Int))=some (.agg ([.ept b.enc 0]++(Nec M si hi++[.slice 1 ci 0 4 false,.int .i64 (l:Nat),.int .i64 ((n+1:Nat):Int)]))) from rfl) ?_;simp only [List.set_cons_zero];generalize List.set h id _=h1 at*
      try simp only [List.contains_cons,List.contains_nil,Option.getD_some,Option.getD_none,Nat.reduceBEq,Bool.or_false,Bool.false_or,Bool.or_self,bFt,Bool.or_true,Bool.true_or,if_false,if_true,go_sem]
      clear hp10 ho;obtain ⟨si,hi,ho,u1,u2⟩:=hF1.left l (n+1);clear u1 u2;have hp0:zp none 0 0 h1[id]?=some (.ept b.enc 0):=by rw [ho];rfl
      have hp8:zp none 8 0 h1[id]?=some (.slice 1 ci 0 4 false):=by rw [ho];rfl
      rw [hp0]
      try simp only [List.contains_cons,List.contains_nil,Option.getD_some,Option.getD_none,Nat.reduceBEq,Bool.or_false,Bool.false_or,Bool.or_self,bFt,Bool.or_true,Bool.true_or,if_false,if_true,go_sem]
      rw [hp8]
      try simp only [List.contains_cons,List.contains_nil,Option.getD_some,Option.getD_none,Nat.reduceBEq,Bool.or_false,Bool.false_or,Bool.or_self,bFt,Bool.or_true,Bool.true_or,if_false,if_true,go_sem]
      clear hp0 hp8 ho si hi;have hwh:∀{r:WR},qp b (f+1) M cs l n=r→((∀h',FS P b ci id h' r.M r.cs r.l r.n→Keep P h1 h'→r.e=0→K (.tup [r.t.enc,.int .i64 0]) h')∧(∀h',Keep P h1 h'→r.e≠0→K (.tup [noT.enc,.int .i64 r.e]) h')):=fun hr=>by
        rw [hr] at hK0 hK1;exact ⟨fun h' q1 q2 q3=>hK0 h' q1 (hK2.trans q2) q3,fun h' q1 q2=>hK1 h' (hK2.trans q1) q2⟩
      clear hK0 hK1;unfold qp at hwh;rw [if_neg hn4] at hwh;have hrun:=Vh hb l (cs:=cs) hM;refine qc (s477 hb hF1 hM hl (fun h2 hF2 k2 h0=> ?_) fun h2 k2 h0=> ?_);rotate_left
      · rw [if_pos h0] at hwh;obtain ⟨_,hK1⟩:=hwh rfl
        try simp only [List.contains_cons,List.contains_nil,Option.getD_some,Option.getD_none,Nat.reduceBEq,Bool.or_false,Bool.false_or,Bool.or_self,bFt,Bool.or_true,Bool.true_or,if_false,if_true,go_sem]
        simp only [Q8,ZA]
        try simp only [List.contains_cons,List.contains_nil,Option.getD_some,Option.getD_none,Nat.reduceBEq,Bool.or_false,Bool.false_or,Bool.or_self,bFt,Bool.or_true,Bool.true_or,if_false,if_true,go_sem]
        refine qI ?_ ?_<;>intro hc<;>simp only [hc,go_sem]
        · try simp only [List.contains_cons,List.contains_nil,Option.getD_some,Option.getD_none,Nat.reduceBEq,Bool.or_false,Bool.false_or,Bool.or_self,bFt,Bool.or_true,Bool.true_or,if_false,if_true,go_sem]
          refine qY (k:=4) rfl rfl ⟨_,rfl⟩ (by decide) ?_
          try simp only [List.contains_cons,List.contains_nil,Option.getD_some,Option.getD_none,Nat.reduceBEq,Bool.or_false,Bool.false_or,Bool.or_self,bFt,Bool.or_true,Bool.true_or,if_false,if_true,go_sem]
          exact ⟨_,_,Z1,.refl _,hK1 _ k2 h0⟩
        · exact absurd (by simpa using hc) h0
      rw [if_neg (by simpa using h0)] at hwh;obtain ⟨hM2,hd2,hm2,hc2,hl2⟩:=hrun h0;generalize qU b l M cs=r at*;obtain ⟨e2,M2,cs2,l2⟩:=r;simp only at hwh hM2 hd2 hm2 hc2 hl2 hF2 h0;subst h0;obtain ⟨hst,hv2⟩:=qIU hd2;have ht:=hM2.c.t;have hen:=hM2.c.l;simp only [Q8,ZB,Q9]
      try simp only [List.contains_cons,List.contains_nil,Option.getD_some,Option.getD_none,Nat.reduceBEq,Bool.or_false,Bool.false_or,Bool.or_self,bFt,Bool.or_true,Bool.true_or,if_false,if_true,go_sem]
      obtain ⟨si,hi,js,hN⟩:=hF2.m;have hp1:zp (some 5) 1 0 h2[id]?=some M2.Control.enc:=by rw [hN.o];rfl
      rw [hp1]
      try simp only [List.contains_cons,List.contains_nil,Option.getD_some,Option.getD_none,Nat.reduceBEq,Bool.or_false,Bool.false_or,Bool.or_self,bFt,Bool.or_true,Bool.true_or,if_false,if_true,go_sem]
      clear hp1 hN si hi js;refine qY (k:=5) rfl qW.ln ⟨_,rfl⟩ (by decide) ?_
      try simp only [List.contains_cons,List.contains_nil,Option.getD_some,Option.getD_none,Nat.reduceBEq,Bool.or_false,Bool.false_or,Bool.or_self,bFt,Bool.or_true,Bool.true_or,if_false,if_true,go_sem]
      have hkk:M2.Control.Term.Kind=2∨M2.Control.Term.Kind=4∨M2.Control.Term.Kind=8:=by
        unfold qW.val at hv2;split at hv2
        · rename_i q;rcases q with q | q<;>simp [q]
        · split at hv2
          · rename_i q;simp [q]
          · cases hv2
      rcases hkk with hk | hk | hk
      · rw [if_pos hk] at hwh;obtain ⟨hK0,_⟩:=hwh rfl;simp only [ZC];simp only [hk,Int.reduceEq,decide_true,decide_false,List.contains_cons,List.contains_nil,Option.getD_some,Option.getD_none,Nat.reduceBEq,Bool.or_false,Bool.false_or,Bool.or_self,bFt,Bool.or_true,Bool.true_or,if_false,if_true,go_sem];refine qL c381 ?_
        try simp only [List.contains_cons,List.contains_nil,Option.getD_some,Option.getD_none,Nat.reduceBEq,Bool.or_false,Bool.false_or,Bool.or_self,bFt,Bool.or_true,Bool.true_or,if_false,if_true,go_sem]
        refine qY (k:=4) rfl qA.ln ⟨_,qA.enc_eq _⟩ (by decide) ?_
        try simp only [List.contains_cons,List.contains_nil,Option.getD_some,Option.getD_none,Nat.reduceBEq,Bool.or_false,Bool.false_or,Bool.or_self,bFt,Bool.or_true,Bool.true_or,if_false,if_true,go_sem]
        exact ⟨_,_,.refl _,.refl _,hK0 _ hF2 k2 rfl⟩
      · rw [if_neg (by omega),if_pos hk] at hwh;obtain ⟨_,hK1⟩:=hwh rfl;simp only [hk,Int.reduceEq,decide_true,decide_false,List.contains_cons,List.contains_nil,Option.getD_some,Option.getD_none,Nat.reduceBEq,Bool.or_false,Bool.false_or,Bool.or_self,bFt,Bool.or_true,Bool.true_or,if_false,if_true,go_sem];refine qY (k:=4) rfl rfl ⟨_,rfl⟩ (by decide) ?_
        try simp only [List.contains_cons,List.contains_nil,Option.getD_some,Option.getD_none,Nat.reduceBEq,Bool.or_false,Bool.false_or,Bool.or_self,bFt,Bool.or_true,Bool.true_or,if_false,if_true,go_sem]
        exact ⟨_,_,Z1,.refl _,hK1 _ k2 (show ¬(5:Int)=0 by decide)⟩
      rw [if_neg (by omega),if_neg (by omega)] at hwh;simp only [Wl];simp only [hk,Int.reduceEq,decide_true,decide_false,List.contains_cons,List.contains_nil,Option.getD_some,Option.getD_none,Nat.reduceBEq,Bool.or_false,Bool.false_or,Bool.or_self,bFt,Bool.or_true,Bool.true_or,if_false,if_true,go_sem];have hpl:∀j,P j→j<h2.length:=fun j hj=>hF2.pl hj;refine Sem.loop (fun q:VQ=>q.i≤M2.Control.Env.length∧FS (fun j=>P j∨j=q.kr) b ci id q.g q.M q.cs q.l q.n∧MI b q.M∧q.l≤20000∧q.n≤400∧q.g[q.kr]?=some (.row 4 (q.ts.map qA.enc) true)∧q.ts.length=q.i∧h2.length≤q.kr∧Keep P h2 q.g∧M2.Heap.length≤q.M.Heap.length∧
          zr (qp b f) M2.Control.Env M2 cs2 l2 (n+1)=(zr (qp b f) (M2.Control.Env.drop q.i) q.M q.cs q.l q.n).pre q.ts)
        (fun q=>(⟨[(0,.ptr id 0 0),(1,.int .i64 (d:Nat)),(8,.slice 4 q.kr 0 q.i false),(9,.int .i64 (q.i:Nat))],[(7,M2.Control.enc),(4,.agg [.int .i64 0,.int .i64 0,.nils,.nils])],q.g⟩:VSt)) (fun q=>M2.Control.Env.length-q.i) ⟨0,h2++[.row 4 [] true],h2.length,[],M2,cs2,l2,n+1⟩ (by kernel_rfl) ⟨Nat.zero_le _, ?_,hM2,by simp only;omega,by simp only;omega,by simp,rfl,Nat.le_refl _,⟨by simp,fun i hi=>List.getElem?_append_left (hpl i hi)⟩,Nat.le_refl _,rfl⟩ ?_ ?_
      · refine hF2.out ⟨by simp,fun i hi _=>List.getElem?_append_left hi⟩ fun j hj=> ?_;rcases hj with hj | rfl
        · have:=hpl j hj;exact ⟨.inl hj,by simp;omega⟩
        · exact ⟨.inr (Nat.le_refl _),by simp⟩
      · refine Can.ph (w:=4) (WkN.same (by simp [go_sem]) (WkN.same (by simp [go_sem]) (WkN.cons (v:=.lst 4 [] true) (by simp [go_sem]) (.ph2 (by simp)) (WkN.same (by simp [go_sem]) .nil)))) (WkN.same (by simp [go_sem]) (WkN.same (by simp [go_sem]) .nil))
      rintro ⟨i,g,kr,ts,M3,cs3,l3,n3⟩ ⟨gi,gF,gM,gl,gn,gk,gt,gkr,gK,gH,gf⟩;simp only at gi gF gM gl gn gk gt gkr gK gH gf⊢;have hnP:¬P kr:=fun q=>by have:=hpl _ q;omega
      simp only [Wr,Wj,Ws];simp only [List.contains_cons,List.contains_nil,Option.getD_some,Option.getD_none,Nat.reduceBEq,Bool.or_false,Bool.false_or,Bool.or_self,bFt,Bool.or_true,Bool.true_or,if_false,if_true,go_sem];refine qI ?_ ?_<;>intro hc<;>simp only [hc,go_sem]
      · have hlt:i<M2.Control.Env.length:=by have:=odT hc;omega
        clear hc;simp only [List.getElem?_map,gEg hlt,Option.map_some,go_sem];simp only [qE]
        try simp only [List.contains_cons,List.contains_nil,Option.getD_some,Option.getD_none,Nat.reduceBEq,Bool.or_false,Bool.false_or,Bool.or_self,bFt,Bool.or_true,Bool.true_or,if_false,if_true,go_sem]
        refine qL c612 ?_
        try simp only [List.contains_cons,List.contains_nil,Option.getD_some,Option.getD_none,Nat.reduceBEq,Bool.or_false,Bool.false_or,Bool.or_self,bFt,Bool.or_true,Bool.true_or,if_false,if_true,go_sem]
        have hae:=hM2.c.e _ (gMm hlt);have hdr:=List.drop_eq_getElem_cons hlt;generalize M2.Control.Env[i]=a at*;have gM':=gM.at1 hae.1 (show a<(M3.Heap.length:Int) by omega);rw [hdr,qI2] at gf;obtain ⟨si,hi,js,hN⟩:=gF.m;have o1:(g++[qC.row 1 [AV.int .i64 a] true])[id]?=_:=(List.getElem?_append_left (qi hN.o)).trans hN.o;refine qo rfl o1 rfl (zg (pre:=[.ept b.enc 0]) rfl rfl) ?_
        try simp only [List.contains_cons,List.contains_nil,Option.getD_some,Option.getD_none,Nat.reduceBEq,Bool.or_false,Bool.false_or,Bool.or_self,bFt,Bool.or_true,Bool.true_or,if_false,if_true,go_sem]
        obtain ⟨h3,c1,n1,k3⟩:=Yj (bb:=h.length) (t:=.mk 1 0 [] []) (env:=[a]) (e:=g.length) (g:=g++[qC.row 1 [AV.int .i64 a] true]) hN (by simp) (fun i hi=>List.getElem?_append_left hi) List.getElem?_concat_length (Nat.le_refl _);refine Sem.can (c1 _ _) (Sem.reg (by kernel_rfl) ?_);clear c1 o1 hN si hi js;obtain ⟨gF3',gK3⟩:=gF.go n1 k3;have gF3:FS (fun j=>P j∨j=kr) b ci id h3 (M3.at1 a) cs3 l3 n3:=gF3';clear gF3';simp only [Wu,Wn,Wo];simp only [List.contains_cons,List.contains_nil,Option.getD_some,Option.getD_none,Nat.reduceBEq,Bool.or_false,Bool.false_or,Bool.or_self,bFt,Bool.or_true,Bool.true_or,if_false,if_true,go_sem];rw [zC (n:=(d:Int)+1) (by omega) (by omega),show (d:Int)+1=((d+1:Nat):Int) by omega];have hgood:=Vz hb f (M3.at1 a) cs3 l3 n3 gM';have gK3':Keep P h2 h3:=gK.trans (gK3.sub fun _=>.inl);refine qc (ih (by omega) gF3 gM' gl gn (fun h4 hF4 k4 h0=> ?_) fun h4 k4 h0=> ?_)
        · rw [if_neg (by simpa using h0)] at gf;obtain ⟨w0,w1,w2,w3,w4,w5⟩:=hgood h0;have e1:(M3.at1 a).Heap.length=M3.Heap.length:=rfl;generalize qp b f (M3.at1 a) cs3 l3 n3=r at*
          try simp only [List.contains_cons,List.contains_nil,Option.getD_some,Option.getD_none,Nat.reduceBEq,Bool.or_false,Bool.false_or,Bool.or_self,bFt,Bool.or_true,Bool.true_or,if_false,if_true,go_sem]
          refine qY (k:=4) rfl qA.ln ⟨_,qA.enc_eq _⟩ (by decide) ?_
          try simp only [List.contains_cons,List.contains_nil,Option.getD_some,Option.getD_none,Nat.reduceBEq,Bool.or_false,Bool.false_or,Bool.or_self,bFt,Bool.or_true,Bool.true_or,if_false,if_true,go_sem]
          have hpl4:∀j,P j→j<h4.length:=fun j hj=>hF4.pl (.inl hj);have q4:h4[kr]?=some (.row 4 (ts.map qA.enc) true):=(k4.2 kr (.inr rfl)).trans ((gK3.2 kr (.inr rfl)).trans gk);refine jl (xs:=ts.map qA.enc) (js:=[]) List.getElem?_concat_length (by rw [List.getElem?_append_left (qi q4),List.append_nil];exact q4) (by rw [List.length_map];exact gt) (by omega) ?_;have e5:(h4++[qC.row 4 [r.t.enc] true]).length=h4.length+1:=by simp
          rw [e5];have l4:=qi q4
          try simp only [List.contains_cons,List.contains_nil,Option.getD_some,Option.getD_none,Nat.reduceBEq,Bool.or_false,Bool.false_or,Bool.or_self,bFt,Bool.or_true,Bool.true_or,if_false,if_true,go_sem]
          rw [zA (show i<4611686018427387904 by omega)];refine qx ⟨i+1,_,h4.length+1,ts++[r.t],r.M,r.cs,r.l,r.n⟩ ⟨by simp only;omega,hF4.out (Outs.app (v:=0) (.inr rfl)) fun j hj=> ?_,w1,by simp only;omega,w5, ?_,by simp only [lAp,List.length_cons,List.length_nil];omega,by simp only;omega,gK3'.trans ((k4.sub fun _=>.inl).trans (Keep.app hnP hpl4)),by simp only;omega, ?_⟩ (by simp only;omega) (Can.sub (by simp [go_sem]) (by simp [go_sem]))
          · rcases hj with hj | rfl
            · have:=hpl4 j hj;exact ⟨.inl (.inl hj),by simp;omega⟩
            · exact ⟨.inr (by simp),by simp⟩
          · simp only;rw [List.getElem?_append_right (by simp)];simp
          · simp only;rw [gf,WF.pre_pre]
        · rw [if_pos h0] at gf;rw [gf] at hwh;rw [if_pos (by simpa [WF.pre] using h0)] at hwh;obtain ⟨_,hK1⟩:=hwh rfl
          try simp only [List.contains_cons,List.contains_nil,Option.getD_some,Option.getD_none,Nat.reduceBEq,Bool.or_false,Bool.false_or,Bool.or_self,bFt,Bool.or_true,Bool.true_or,if_false,if_true,go_sem]
          refine qY (k:=4) rfl qA.ln ⟨_,qA.enc_eq _⟩ (by decide) ?_
          try simp only [List.contains_cons,List.contains_nil,Option.getD_some,Option.getD_none,Nat.reduceBEq,Bool.or_false,Bool.false_or,Bool.or_self,bFt,Bool.or_true,Bool.true_or,if_false,if_true,go_sem]
          refine qI ?_ ?_<;>intro hc<;>simp only [hc,go_sem]
          · try simp only [List.contains_cons,List.contains_nil,Option.getD_some,Option.getD_none,Nat.reduceBEq,Bool.or_false,Bool.false_or,Bool.or_self,bFt,Bool.or_true,Bool.true_or,if_false,if_true,go_sem]
            refine qY (k:=4) rfl rfl ⟨_,rfl⟩ (by decide) ?_
            try simp only [List.contains_cons,List.contains_nil,Option.getD_some,Option.getD_none,Nat.reduceBEq,Bool.or_false,Bool.false_or,Bool.or_self,bFt,Bool.or_true,Bool.true_or,if_false,if_true,go_sem]
            exact ⟨_,_,Z1,.refl _,hK1 _ (k2.trans (gK3'.trans (k4.sub fun _=>.inl))) h0⟩
          · exact absurd (by simpa using hc) h0
      · obtain rfl:i=M2.Control.Env.length:=by have:=odF hc;omega
        clear hc;rw [List.drop_length,qI3] at gf;rw [gf] at hwh;rw [if_neg (by simp [WF.pre])] at hwh;simp only [WF.pre,List.append_nil] at hwh;obtain ⟨hK0,_⟩:=hwh rfl;simp only [Wp]
        try simp only [List.contains_cons,List.contains_nil,Option.getD_some,Option.getD_none,Nat.reduceBEq,Bool.or_false,Bool.false_or,Bool.or_self,bFt,Bool.or_true,Bool.true_or,if_false,if_true,go_sem]
        refine Sem.can (Can.give (s':=[(8,.lst 4 (ts.map qA.enc) false)]) (m':=[(7,M2.Control.enc),(4,.agg [.int .i64 0,.int .i64 0,.nils,.nils])]) [kr] (GvS.cons (v:=.slice 4 kr 0 M2.Control.Env.length false) (by simp [go_sem]) (Cv.row (by rw [Qk (by simp)];exact gk) (by rw [List.length_map];exact gt) (qn _) (by decide)) (by simp only [AV.tree];exact qn _) .nil)
          (GvS.same (by simp [go_sem]) (GvS.same (by simp [go_sem]) .nil))) (Sem.reg (by kernel_rfl) ?_)
        try simp only [List.contains_cons,List.contains_nil,Option.getD_some,Option.getD_none,Nat.reduceBEq,Bool.or_false,Bool.false_or,Bool.or_self,bFt,Bool.or_true,Bool.true_or,if_false,if_true,go_sem]
        refine qL c382 ?_
        try simp only [List.contains_cons,List.contains_nil,Option.getD_some,Option.getD_none,Nat.reduceBEq,Bool.or_false,Bool.false_or,Bool.or_self,bFt,Bool.or_true,Bool.true_or,if_false,if_true,go_sem]
        refine qY (k:=4) rfl qA.ln ⟨_,qA.enc_eq _⟩ (by decide) ?_
        try simp only [List.contains_cons,List.contains_nil,Option.getD_some,Option.getD_none,Nat.reduceBEq,Bool.or_false,Bool.false_or,Bool.or_self,bFt,Bool.or_true,Bool.true_or,if_false,if_true,go_sem]
        refine ⟨_,_,.refl _,.refl _,hK0 _ (gF.out (Q:=P) ⟨by rw [zy];exact Nat.le_refl _,fun j _ hn=>jh (by simp only [List.mem_singleton];exact fun e=>hn (.inr e))⟩ fun j hj=>⟨.inl (.inl hj),by rw [zy];exact gF.pl (.inl hj)⟩) (k2.trans (gK.trans ⟨by rw [zy];exact Nat.le_refl _,fun j hj=>jh (by simp only [List.mem_singleton];rintro rfl;exact hnP hj)⟩)) rfl⟩
    · have:=odT (by simpa using hc);omega
end
end Go.Ab
namespace Go.Ab
open Go
set_option maxRecDepth 10000
set_option maxHeartbeats 2000000
attribute [local simp] qn qk
theorem c385 (x:qA):∀(hz:x.sz≤1048576),Pure Gm 385 [x.enc] (x.enc):=by
  induction x using qA.ind with
  | _ x ih=>
  intro hz;refine Pure.intro [] [] g385 (by kernel_rfl) rfl (by simp [AV.trees,AV.tree,go_sem]) (by simp [go_sem]) ?_;simp only [XF,qK,go_sem];have hL:=x.len_sz;refine qd qA.ln ?_;simp only [go_sem];refine w8 (n401 x.Data (by omega)) ?_;simp only [go_sem];simp only [lay,lI,go_sem,List.nil_append,List.cons_append];refine qY (k:=4) (by rfl) (by rfl) (by exact ⟨_,rfl⟩) (by decide) ?_;simp only [go_sem];refine Sem.loop (fun i:Nat=>i≤x.Kids.length) (fun i=>(⟨[(15,.lst 4 (x.Kids.map qA.enc) false),(16,.int .i64 (x.Kids.length:Nat)),(17,.int .i64 (i:Nat))],[(1,x.enc),(3,.agg [.int .i64 x.Kind,.int .i64 x.Value,.slice 1 0 0 x.Data.length false,.slice 4 1 0 i false]),(2,.agg [.int .i64 0,.int .i64 0,.nils,.nils])],[.row 1 (x.Data.map qE) true,.row 4 ((x.Kids.take i).map qA.enc) true]⟩:VSt)) (fun i=>x.Kids.length-i) 0 (by kernel_rfl) (Nat.zero_le _)
    (Can.renum [some 0,none] rfl ⟨.row rfl (VR2s.of_eq rfl (by simp [qk])),.ph,trivial⟩ ⟨⟨_,rfl,.tree (by simp [AV.tree,go_sem])⟩,⟨_,rfl,.tree rfl⟩,⟨_,rfl,.tree rfl⟩,trivial⟩
      ⟨⟨_,rfl,.tree (by simp [go_sem])⟩,⟨_,rfl,.agg rfl (VR2s.cons (.tree rfl) (VR2s.cons (.tree rfl) (VR2s.cons (.slice rfl) (VR2s.cons (.ph rfl) VR2s.nil)))).2⟩,⟨_,rfl,.tree rfl⟩,trivial⟩) ?_
  intro i hi;simp only [go_sem];refine qI ?_ ?_<;>intro hc<;>simp only [hc,go_sem]
  · have hlt:i<x.Kids.length:=by have:=odT hc;omega
    simp only [List.getElem?_map,gEg hlt,Option.map_some,go_sem];have hm:=gMm hlt;have hk:=qA.kid_sz hm;refine qY (k:=4) (by rfl) (by simp [go_sem]) (qA.isAgg _) (by decide) ?_;simp only [go_sem];refine qL (ih _ hm (by omega)) ?_;simp only [go_sem];refine qM0 (el:=(x.Kids.take i).map qA.enc) rfl rfl (by simp;omega) (by omega) ?_;simp only [go_sem];simp only [zA (show i<4611686018427387904 by omega)];refine qx (i+1) (by omega) (by omega) ?_;refine Can.renum [some 0,some 3] rfl ⟨.row rfl (VR2s.of_eq rfl (by simp [qk])),.row rfl (VR2s.of_eq (by rw [List.take_succ_eq_append_getElem hlt,List.map_append];rfl) (qn _)),trivial⟩ ⟨⟨_,rfl,.tree (by simp [AV.tree,go_sem])⟩,⟨_,rfl,.tree rfl⟩,⟨_,rfl,.tree rfl⟩,trivial⟩
      ⟨⟨_,rfl,.tree (by simp [go_sem])⟩,⟨_,rfl,.agg rfl (VR2s.cons (.tree rfl) (VR2s.cons (.tree rfl) (VR2s.cons (.slice rfl) (VR2s.cons (.slice rfl) VR2s.nil)))).2⟩,⟨_,rfl,.tree rfl⟩,trivial⟩
  · obtain rfl:i=x.Kids.length:=by have:=odF hc;omega
    rw [List.take_length];refine qY (k:=4) (by rfl) (by rfl) (by exact ⟨_,rfl⟩) (by decide) ?_;simp only [go_sem];have:=Yi (h:=[.row 1 (x.Data.map qE) true,.row 4 (x.Kids.map qA.enc) true]) (k:=x.Kind) (v:=x.Value) (d:=x.Data) (ks:=x.Kids) (D:=.slice 1 0 0 x.Data.length false) (K:=.slice 4 1 0 x.Kids.length false) (Cv.row rfl (by simp) (by simp [qk]) (by decide)) (Cv.row rfl (by simp) (qn _) (by decide));rw [qA.eta] at this;exact wD this
end Go.Ab
namespace Go.Ab
open Go
set_option maxRecDepth 10000
set_option maxHeartbeats 2000000
theorem c724 (x:qA):∀(hz:x.sz≤1048576),Pure Gm 724 [.ept x.enc 0] (.bool x.er):=by
  induction x using qA.ind with
  | _ x ih=>
  intro hz;refine Pure.intro [] [] g724 (by kernel_rfl) rfl (by simp [AV.trees,AV.tree,go_sem]) rfl ?_;simp only [Xc,qK,go_sem];have hL:=x.len_sz;have bad:∀{h:List qC},x.er=false→Fin (some [.bool false]) h (.bool x.er):=fun h=>qO rfl (by rw [h])
  repeat' (first
    | (first | (refine qq ?_ ?_<;>intro hc<;>simp only [hc,go_sem]) | (refine qI ?_ ?_<;>intro hc<;>simp only [hc,go_sem]))
    | refine bad ?_)
  all_goals try (rw [x.er_eq];simp_all;done)
  all_goals
    have hk1:x.er=x.Kids.all qA.er:=by rw [x.er_eq];simp_all
    refine Sem.loop (fun i:Nat=>i≤x.Kids.length∧x.er=(x.Kids.drop i).all qA.er) (fun i=>(⟨[(0,.ept x.enc 0),(3,.int .i64 (i:Nat))],[],[]⟩:VSt)) (fun i=>x.Kids.length-i) 0 (by kernel_rfl) ⟨Nat.zero_le _,by simp [hk1]⟩ (Can.sub (by simp [go_sem]) (by simp [go_sem])) ?_;rintro i ⟨hi,hI⟩;simp only [go_sem];refine qI ?_ ?_<;>intro hc<;>simp only [hc,go_sem]
    · have hlt:i<x.Kids.length:=by have:=odT hc;omega
      simp only [List.getElem?_map,gEg hlt,Option.map_some,go_sem];have hm:=gMm hlt;have hk:=qA.kid_sz hm;refine qL (ih _ hm (by omega)) ?_;simp only [go_sem];rw [jm hlt,List.all_cons] at hI;refine qI ?_ ?_<;>intro hc<;>simp only [hc,go_sem]
      · exact bad (by rw [hI,nt hc];rfl)
      · simp only [zA (show i<4611686018427387904 by omega)];refine qx (i+1) ⟨by omega, ?_⟩ (by omega) (Can.sub (by simp [go_sem]) (by simp [go_sem]));rw [hI,nf hc];rfl
    · obtain rfl:i=x.Kids.length:=by have:=odF hc;omega
      exact qO rfl (by rw [hI];simp)
def z9 (b:qH) (c:qA):Bool:=b.ok&&c.closed&&c.er&&c.refs b.Defs.length&&b.Defs.all qA.er
theorem c339 {b:qH} {c:qA} (hb:b.sz≤1048576) (hz:c.sz≤1048576):Pure Gm 339 [.ept b.enc 0,.ept c.enc 0] (.bool (z9 b c)):=by
  refine Pure.intro [] [] g339 (by kernel_rfl) rfl (by simp [AV.trees,AV.tree,go_sem]) rfl ?_;simp only [Wh,qK,go_sem];have hb':b.Defs.length+qF qA.sz b.Defs≤1048576:=hb;have bad:∀{h:List qC},z9 b c=false→Fin (some [.bool false]) h (.bool (z9 b c)):=fun h=>qO rfl (by rw [h]);refine qL (c579 hb) ?_;simp only [go_sem];refine qq ?_ ?_<;>intro hc<;>simp only [hc,go_sem]
  · have g1:=nf hc;refine qL (c519 hz) ?_;simp only [go_sem];refine qq ?_ ?_<;>intro hc<;>simp only [hc,go_sem]
    · have g2:=nf hc;refine qL (c724 c hz) ?_;simp only [go_sem];refine qq ?_ ?_<;>intro hc<;>simp only [hc,go_sem]
      · have g3:=nf hc;refine qL (c725 c _ hz) ?_;simp only [go_sem];refine qI ?_ ?_<;>intro hc<;>simp only [hc,go_sem]
        · exact bad (by unfold z9;rw [nt hc];simp)
        have g4:=nf hc;refine Sem.loop (fun i:Nat=>i≤b.Defs.length∧z9 b c=(b.Defs.drop i).all qA.er) (fun i=>(⟨[(0,.ept b.enc 0),(5,.int .i64 (i:Nat))],[],[]⟩:VSt)) (fun i=>b.Defs.length-i) 0 (by kernel_rfl) ⟨Nat.zero_le _,by simp [z9,g1,g2,g3,g4]⟩ (Can.sub (by simp [go_sem]) (by simp [go_sem])) ?_;rintro i ⟨hi,hI⟩;simp only [go_sem];refine qI ?_ ?_<;>intro hc<;>simp only [hc,go_sem]
        · have hlt:i<b.Defs.length:=by have:=odT hc;omega
          simp only [List.getElem?_map,gEg hlt,Option.map_some,go_sem];have hm:=gMm hlt;have hk:=zu (f:=qA.sz) hm;refine qL (c724 _ (by omega)) ?_;simp only [go_sem];rw [jm hlt,List.all_cons] at hI;refine qI ?_ ?_<;>intro hc<;>simp only [hc,go_sem]
          · exact bad (by rw [hI,nt hc];rfl)
          · simp only [zA (show i<4611686018427387904 by omega)];refine qx (i+1) ⟨by omega, ?_⟩ (by omega) (Can.sub (by simp [go_sem]) (by simp [go_sem]));rw [hI,nf hc];rfl
        · obtain rfl:i=b.Defs.length:=by have:=odF hc;omega
          exact qO rfl (by rw [hI];simp)
      · exact bad (by unfold z9;rw [nt hc];simp)
    · exact bad (by unfold z9;rw [nt hc];simp)
  · exact bad (by unfold z9;rw [nt hc];simp)
def bxB (x:qA):Bool:=decide (x.Kind=6) || decide (x.Kind=7)
theorem qOR:∀x:qA,x.er= !JQ bxB x:=qA.ind fun x ih=>by
  rw [qA.er_eq,YT,bxB,Bool.not_or,qFE ih,Bool.not_or,Bool.not_or]
theorem c616 {x:qA}:Pure Gm 616 [x.enc] (.bool (bxB x)):=by
  refine Pure.intro [] [] g616 (by kernel_rfl) rfl (by simp [AV.trees,AV.tree,go_sem]) rfl ?_;simp only [XV,qK,go_sem];refine qd qA.ln ?_;simp only [go_sem];refine qq ?_ ?_<;>intro hc<;>simp only [hc,go_sem]
  · exact qO rfl (by unfold bxB;simp at hc;simp [hc])
  · exact qO rfl (by unfold bxB;simp at hc;simp [hc])
theorem c259 {x:qA} (hz:x.sz≤1048576) (hd:x.dep≤2097152) (hs:x.size≤2097152):Pure Gm 259 [x.enc] (.bool (x.valid&&x.er)):=by
  refine Pure.intro [] [] g259 (by kernel_rfl) rfl (by simp [AV.trees,AV.tree,go_sem]) rfl ?_;simp only [Wg,qK,go_sem];refine qd qA.ln ?_;simp only [go_sem];refine qL (c391 hz hd hs) ?_;simp only [go_sem];refine qq ?_ ?_<;>intro hc<;>simp only [hc,go_sem]
  · refine qL (c615 x 616 [] bxB rfl (fun y hy=>c616) hz) ?_;simp only [go_sem];exact qO rfl (by simp [qOR])
  · exact qO rfl (by simp)
theorem qND {x:qA} (hz:x.sz≤1048576) (hd:x.dep≤2097152) (hs:x.size≤2097152):Pure Gm 1045 [x.enc] (.bool (!(x.valid&&x.er))):=by
  refine Pure.intro [] [] qO3 (by kernel_rfl) rfl (by simp [AV.trees,AV.tree,go_sem]) rfl ?_;simp only [Z5,qK,go_sem];refine qd qA.ln ?_;simp only [go_sem];refine qL (c259 hz hd hs) ?_;simp only [go_sem];exact qO rfl rfl
theorem qFR {x:qA} (h:x.sz≤1048576):x.dep≤2097152∧x.size≤2097152:=by
  have:=x.dep_size;have:=x.size_sz;omega
theorem c671 {b:qH} (hz:b.sz≤1048576):Pure Gm 671 [b.enc] (.bool (b.ok&&b.Defs.all fun c=>c.valid&&c.er)):=by
  refine Pure.intro [] [] g671 (by kernel_rfl) rfl (by simp [AV.trees,AV.tree,go_sem]) rfl ?_;simp only [Xa,qK,go_sem];have hz':b.Defs.length+qF qA.sz b.Defs≤1048576:=hz;refine qd rfl ?_;simp only [go_sem];refine qL (c498 hz) ?_;simp only [go_sem];refine qq ?_ ?_<;>intro hc<;>simp only [hc,go_sem]
  · refine qL (c581 (f:=.fn 1045 []) (fun x=> !(x.valid&&x.er)) rfl b.Defs (fun y hy=>⟨1045,_,rfl,by have:=zu (f:=qA.sz) hy;exact qND (by omega) (qFR (by omega)).1 (qFR (by omega)).2⟩) (by omega)) ?_;simp only [go_sem];exact qO rfl (by rw [qFF];simp)
  · exact qO rfl (by simp)
theorem c757 {b:qH} {c:qA} (hz:c.sz≤1048576):Pure Gm 757 [b.enc,c.enc] (.bool (c.closed&&(c.valid&&c.er)&&c.refs b.Defs.length)):=by
  refine Pure.intro [] [] g757 (by kernel_rfl) rfl (by simp [AV.trees,AV.tree,go_sem]) rfl ?_;simp only [Xf,qK,go_sem];obtain ⟨hd,hs⟩:=qFR hz
  repeat' (first | (refine qd rfl ?_;simp only [go_sem]) | (refine qd qA.ln ?_;simp only [go_sem]))
  refine qL (c521 hz hd hs) ?_;simp only [go_sem];refine qq ?_ ?_<;>intro hc<;>simp only [hc,go_sem]
  · have g1:=hc;refine qL (c259 hz hd hs) ?_;simp only [go_sem];refine qq ?_ ?_<;>intro hc<;>simp only [hc,go_sem]
    · refine qL (c847 hz) ?_;simp only [go_sem];exact qO rfl (by simp)
    · exact qO rfl (by simp)
  · exact qO rfl (by simp)
theorem qLW {b:qH} {c:qA}:z9 b c=((b.ok&&b.Defs.all fun c=>c.valid&&c.er)&&(c.closed&&(c.valid&&c.er)&&c.refs b.Defs.length)):=by
  unfold z9;have h1:b.ok=true→(b.Defs.all fun c=>c.valid&&c.er)=b.Defs.all qA.er:=fun h=>by
    unfold qH.ok at h;simp only [bAt,List.all_eq_true] at h;rw [Bool.eq_iff_iff];simp only [List.all_eq_true,bAt];constructor
    · exact fun q x hx=>(q x hx).2
    · intro q x hx;have:=(h.2 x hx).1;unfold qA.closed at this;simp only [bAt] at this;exact ⟨this.1,q x hx⟩
  have h2:c.closed=true→c.valid=true:=fun h=>by unfold qA.closed at h;simp only [bAt] at h;exact h.1
  cases e1:b.ok
  · simp
  · rw [h1 e1];cases e2:c.closed
    · simp
    · rw [h2 e2];cases c.er<;>cases c.refs b.Defs.length<;>simp
theorem c383 {b:qH} {c:qA} (hb:b.sz≤1048576) (hz:c.sz≤1048576):Pure Gm 383 [b.enc,c.enc] (.bool (z9 b c)):=by
  refine Pure.intro [] [] g383 (by kernel_rfl) rfl (by simp [AV.trees,AV.tree,go_sem]) rfl ?_;simp only [XE,qK,go_sem]
  repeat' (first | (refine qd rfl ?_;simp only [go_sem]) | (refine qd qA.ln ?_;simp only [go_sem]))
  refine qL (c671 hb) ?_;simp only [go_sem];refine qq ?_ ?_<;>intro hc<;>simp only [hc,go_sem]
  · refine qL (c757 hz) ?_;simp only [go_sem];exact qO rfl (by rw [qLW,hc];simp)
  · exact qO rfl (by rw [qLW,hc];simp)
theorem c344 {n:Int}:Pure Gm 344 [.int .i64 n] (.bool (inI n 0 20000)):=by
  refine Pure.intro [] [] g344 (by kernel_rfl) rfl (by simp [AV.trees,AV.tree,go_sem]) rfl ?_;simp only [Ww,qK,go_sem]
  repeat' (first | (refine qd rfl ?_;simp only [go_sem]) | (first | (refine qq ?_ ?_<;>intro hc<;>simp only [hc,go_sem]) | (refine qI ?_ ?_<;>intro hc<;>simp only [hc,go_sem])) | refine qO rfl ?_ | refine jG (by rfl) ?_)
  all_goals (simp_all [inI]<;>omega)
def qHD (c:qA):AV:=.agg [.int .i64 c.Kind,.int .i64 c.Value,.lst 1 (c.Data.map qE) false,.lst 4 (c.Kids.map qA.enc) false,.nils,.nils,.nils]
theorem qLX (c:qA):(qHD c).tree=true:=by simp [qHD,AV.tree,AV.trees,qn,qk]
def qKC:AV:=.agg [.int .i64 0,.int .i64 0,.nils,.nils,.nils,.nils,.nils]
theorem c343 {b:qH} {c:qA} (hb:b.sz≤1048576) (hz:c.sz≤1048576):Pure Gm 343 [b.enc,c.enc] (if z9 b c then .tup [qHD c,.int .i64 0] else .tup [qKC,.int .i64 1]):=by
  refine Pure.intro [] [] g343 (by kernel_rfl) rfl (by simp [AV.trees,AV.tree,go_sem]) (by split<;>simp [AV.tree,AV.trees,qLX,qKC]) ?_;simp only [Wv,qK,go_sem]
  repeat' (first | (refine qd rfl ?_;simp only [go_sem]) | (refine qd qA.ln ?_;simp only [go_sem]))
  refine qL (c383 hb hz) ?_;simp only [go_sem];refine qI ?_ ?_<;>intro hc<;>simp only [hc,go_sem]
  · rw [nt hc];refine qY (k:=7) rfl rfl ⟨_,rfl⟩ (by decide) ?_;simp only [go_sem];exact jG (by rfl) rfl
  · rw [nf hc];refine qL (c385 c hz) ?_;simp only [go_sem];refine qY (k:=7) rfl rfl ⟨_,rfl⟩ (by decide) ?_;simp only [go_sem];exact jG (by simp [AV.tree,AV.trees,qLX]) rfl
end Go.Ab
namespace Go.Ab
open Go
set_option maxRecDepth 10000
set_option maxHeartbeats 2000000
attribute [local simp] qn qk
end Go.Ab
namespace Go.Ab
open Go
set_option maxRecDepth 10000
set_option maxHeartbeats 2000000
attribute [local simp] qn qk
end Go.Ab
namespace Go.Ab
open Go
set_option maxRecDepth 10000
set_option maxHeartbeats 2000000
attribute [local simp] qn qk
@[go_sem] theorem d21:decide ((2:Int)=1)=false:=nr rfl
@[go_sem] theorem d31:decide ((3:Int)=1)=false:=nr rfl
@[go_sem] theorem d32:decide ((3:Int)=2)=false:=nr rfl
@[go_sem] theorem d41:decide ((4:Int)=1)=false:=nr rfl
@[go_sem] theorem d42:decide ((4:Int)=2)=false:=nr rfl
@[go_sem] theorem d43:decide ((4:Int)=3)=false:=nr rfl
end Go.Ab
namespace Go.Ab
open Go
set_option maxRecDepth 10000
set_option maxHeartbeats 2000000
attribute [local simp] qn qk
def YY (p:Bool):AV:=.bool p
theorem zO (I:List Bool):AV.trees (I.map YY)=true:=zD (enc:=YY) (fun _=>rfl) I
attribute [local simp] zO
def Zt (b:qH) (lim:Int) (I:List Bool):AV:=.agg [.lst 4 (b.Defs.map qA.enc) false,.int .i64 lim,.lst 1 (I.map YY) false]
@[go_sem] theorem qn2 {b:qH} {lim:Int} {I:List Bool}:(Zt b lim I).part 0 (some 1)=some b.enc:=nr rfl
@[go_sem] theorem qn3 {b:qH} {lim:Int} {I:List Bool}:(Zt b lim I).part 0 none=some (.lst 4 (b.Defs.map qA.enc) false):=nr rfl
@[go_sem] theorem qn4 {b:qH} {lim:Int} {I:List Bool}:(Zt b lim I).part 2 none=some (.lst 1 (I.map YY) false):=nr rfl
@[go_sem] theorem qn5 {b:qH} {lim:Int} {I:List Bool}:(Zt b lim I).tree=true:=by simp [Zt,AV.tree,AV.trees,qn,zO]
def letR (x c:qA) (l:Int):qA×Bool:=if (letC x l).2=0 then (qA.put (letC x l).1 c 0,true) else (zd,false)
end Go.Ab
namespace Go.Ab
open Go
set_option maxRecDepth 10000
set_option maxHeartbeats 2000000
attribute [local simp] qn qk zO
def at1 (b:qH) (I:List Bool) (x a c:qA) (l:Int):qA×Int:=
  if redK x=2 then (.mk 2 (opI x.Value a.Value c.Value) [] [],1) else if redK x=3 then (qNS (redD x) a.Kids,2)
  else if redK x=1 then (qA.put c (kid0 a) 0,3)
  else if x.Kind=5∧a.Kind=11∧I.getD a.Value.toNat false=true∧l+(b.Defs.getD a.Value.toNat zd).boxes≤8 then (appC (b.Defs.getD a.Value.toNat zd) c,5)
  else if x.Kind=7∧(letR x c l).2=true then ((letR x c l).1,4) else (zd,0)
def atC (b:qH) (I:List Bool) (x:qA) (l:Int):qA×Int:=match x.Kids with
  |[]=>(zd,0)
  | a::ys=>at1 b I x a (ys.headD zd) l
end Go.Ab
namespace Go.Ab
open Go
set_option maxRecDepth 10000
set_option maxHeartbeats 2000000
attribute [local simp] qn qk zO
end Go.Ab
namespace Go.Ab
open Go
set_option maxRecDepth 10000
set_option maxHeartbeats 2000000
def RW (h:List qC) (id:Nat) (ys:List Int):List qC:=h.set id (.row 1 (ys.map qE) true)
section
variable {E:Ev} {ks:List Fr1} {s m:qZ} {h:List qC} {Q:qS→VSt→Prop} {l:List qB}
end
end Go.Ab
namespace Go.Ab
open Go
set_option maxRecDepth 10000
set_option maxHeartbeats 2000000
end Go.Ab
namespace Go.Ab
open Go
set_option maxRecDepth 10000
set_option maxHeartbeats 2000000
def bx (k:IntKind) (x:Int):qC:=.row 1 [.int k x] true
end Go.Ab
namespace Go.Ab
open Go
set_option maxRecDepth 10000
set_option maxHeartbeats 2000000
def lenT:List UInt8:=[0,1,2,2,3,3,3,3,4,4,4,4,4,4,4,4,5,5,5,5,5,5,5,5,5,5,5,5,5,5,5,5,6,6,6,6,6,6,6,6,6,6,6,6,6,6,6,6,6,6,6,6,6,6,6,6,6,6,6,6,6,6,6,6,7,7,7,7,7,7,7,7,7,7,7,7,7,7,7,7,7,7,7,7,7,7,7,7,7,7,7,7,7,7,7,7,7,7,7,7,7,7,7,7,7,7,7,7,7,7,7,7,7,7,7,7,7,7,7,7,7,7,7,7,7,7,7,7,8,8,8,8,8,8,8,8,8,8,8,8,8,8,8,8,8,8,8,8,8,8,8,8,8,8,8,8,8,8,8,8,8,8,8,8,8,8,8,8,8,8,8,8,8,8,8,8,8,8,8,8,8,8,8,8,8,8,8,8,8,8,8,8,8,8,8,8,8,8,8,8,8,8,8,8,8,8,8,8,8,8,8,8,8,8,8,8,8,8,8,8,8,8,8,8,8,8,8,8,8,8,8,8,8,8,8,8,8,8,8,8,8,8,8,8,8,8,8,8,8,8,8,8,8,8,8,8]
def tb (n:Int):Int:=((lenT.getD n.toNat 0).toNat:Int)
def shf2 (op:BinOp):Option AV→Option AV→Option AV
  | some (.int k a),some (.int _ b)=>Qr op k a b
  | _,_=>none
section
variable {E:Ev} {ks:List Fr1} {s m:qZ} {h:List qC} {Q:qS→VSt→Prop} {l:List qB} {i:Nat} {d:Option Nat} {g:Option (Nat×Bool)} {ck:List qB} {x y:Ao} {op:BinOp}
@[go_sem] theorem qjI:Go1 E (.mk i d g (.shft op x y) ck) l ks ⟨s,m,h⟩ Q=Put E (shf2 op (ev (toE s) x) (ev (toE s) y)) d l ks ⟨s,m,h⟩ Q:=by
  rw [zH rfl fun _=>rfl];congr 1
@[go_sem] theorem qn0 {k k':IntKind} {a b:Int}:shf2 op (some (.int k a)) (some (.int k' b))=Qr op k a b:=nr rfl
end
end Go.Ab
namespace Go.Ab
open Go
set_option maxRecDepth 10000
set_option maxHeartbeats 2000000
end Go.Ab
namespace Go.Ab
open Go
set_option maxRecDepth 10000
set_option maxHeartbeats 2000000
end Go.Ab
namespace Go.Ab
open Go
set_option maxRecDepth 10000
set_option maxHeartbeats 2000000
end Go.Ab
namespace Go.Ab
open Go
set_option maxRecDepth 10000
set_option maxHeartbeats 2000000
def PR (h:List qC) (id n:Nat) (a b:Int):Prop:=∀(ex:List qC) (ys:List Int) (a' b' lim:Int) (K:AV→List qC→Prop),ys.length=n→0≤a'→a'≤b'→b'≤n→b'-a'<b-a→
  (∀(zs:List Int) (ex':List qC),zs.Perm ys→K (.tup []) (RW (h++(ex++ex')) id zs))→SCall Gm 1053 [.slice 1 id 0 n false,.int .i64 a',.int .i64 b',.int .i64 lim] (RW (h++ex) id ys) K
section
variable {bb id n:Nat} {h ex:List qC} {xs ys:List Int} {s:qZ} {a b lim:Int} {wb wp:Bool} {Q:qS→VSt→Prop}
theorem PR.mono {a' b':Int} (hr:PR h id n a b) (hl:b'-a'≤b-a):PR h id n a' b':=fun ex ys a2 b2 lim K h1 h2 h3 h4 h5 h6=>hr ex ys a2 b2 lim K h1 h2 h3 h4 (by omega) h6
end
end Go.Ab
namespace Go.Ab
open Go
set_option maxRecDepth 10000
set_option maxHeartbeats 2000000
end Go.Ab
namespace Go.Ab
open Go
set_option maxRecDepth 10000
set_option maxHeartbeats 2000000
attribute [local simp] qn qk zO
def qA.nm:qA→List Int:=qA.fold fun x rs=>(if x.Kind=11 then [x.Value] else [])++(x.Data++rs.flatten)
end Go.Ab
namespace Go.Ab
open Go
set_option maxRecDepth 10000
set_option maxHeartbeats 2000000
attribute [local simp] qn qk zO
def SetV (P:Int→Prop) (n:Nat) (v:AV):Prop:=∃ys:List Int,v=.lst 1 (ys.map qE) false∧(∀k,k∈ys↔P k)∧ys.length≤n
theorem SetV.tree {P:Int→Prop} {n:Nat}:∀v,SetV P n v→v.tree=true:=by
  rintro v ⟨ys,rfl,_⟩;simp [AV.tree]
structure jk (U:List (List Int)) (d:Int) (i:Nat) (seen:List Int):Prop where
  nd:seen.Nodup
  rng:∀s∈seen,0≤s∧s<U.length
  rch:∀s∈seen,s=d∨Relation.TransGen (Ed U) d s
  beg:d∈seen
  cls:∀j,j<i→∀s,seen[j]?=some s→∀k,Ed U s k→k∈seen
theorem jk.len {U:List (List Int)} {d:Int} {i:Nat} {seen:List Int} (h:jk U d i seen):seen.length≤U.length:=VS _ _ h.nd h.rng
theorem jk.start {U:List (List Int)} {d:Int} (hd:0≤d∧d<U.length):jk U d 0 [d]:=
  ⟨by simp,fun s hs=>by rw [List.mem_singleton] at hs;subst hs;exact hd,fun s hs=>.inl (by simpa using hs),by simp,fun j hj=>by omega⟩
theorem jk.done {U:List (List Int)} {d:Int} {seen:List Int} (h:jk U d seen.length seen) (k:Int):k∈seen↔k=d∨Relation.TransGen (Ed U) d k:=by
  constructor
  · exact h.rch k
  · have cl:∀{a c:Int},a∈seen→Ed U a c→c∈seen:=fun {a c} ha hc=>by
      obtain ⟨j,hj,e⟩:=List.getElem_of_mem ha;exact h.cls j hj _ (by rw [gEg hj,e]) _ hc
    rintro (rfl | hr)
    · exact h.beg
    · induction hr with
      | single h1=>exact cl h.beg h1
      | tail _ h2 ih=>exact cl ih h2
theorem jk.next {U:List (List Int)} {d:Int} {i:Nat} {seen':List Int} {e:Int} (h:jk U d i seen') (hp:seen'[i]?=some e) (he:∀k,Ed U e k→k∈seen'):jk U d (i+1) seen':=
  ⟨h.nd,h.rng,h.rch,h.beg,fun j hj s hs k hk=>by
    rcases Nat.lt_succ_iff_lt_or_eq.1 hj with hj | rfl
    · exact h.cls j hj s hs k hk
    · rw [hp] at hs;cases hs;exact he k hk⟩
theorem jk.push {U:List (List Int)} (hU:qFC U) {d:Int} {i:Nat} {seen:List Int} {e k:Int} (h:jk U d i seen) (hi:i≤seen.length) (he:e∈seen) (hk:Ed U e k) (hn:k∉seen):jk U d i (seen++[k]) where
  nd:=by
    rw [List.nodup_append];refine ⟨h.nd,by simp, ?_⟩;intro a ha b hb;simp at hb;rintro rfl;subst hb;exact hn ha
  rng:=by
    intro s hs;rcases List.mem_append.1 hs with hs | hs
    · exact h.rng s hs
    · rw [List.mem_singleton] at hs;subst hs;unfold Ed at hk;rw [List.getD_eq_getElem?_getD] at hk;cases q:U[e.toNat]? with
      | none=>rw [q] at hk;simp at hk
      | some ys=>rw [q] at hk;exact hU ys (List.mem_of_getElem? q) _ hk
  rch:=by
    intro s hs;rcases List.mem_append.1 hs with hs | hs
    · exact h.rch s hs
    · rw [List.mem_singleton] at hs;subst hs;rcases h.rch e he with rfl | hr
      · exact .inr (.single hk)
      · exact .inr (hr.tail hk)
  beg:=by simp [h.beg]
  cls:=fun j hj s hs k' hk'=>by
    rw [List.getElem?_append_left (by omega)] at hs;exact List.mem_append_left _ (h.cls j hj s hs k' hk')
end Go.Ab
namespace Go.Ab
open Go
set_option maxRecDepth 10000
set_option maxHeartbeats 2000000
attribute [local simp] qn qk zO
open Classical in
section
variable {E:Ev} {l:List qB} {ks:List Fr1} {s m:qZ} {h:List qC} {Q:qS→VSt→Prop} {b:qH} {lim:Int} {i k:Nat} {X:AV} {v:Bool}
end
end Go.Ab
namespace Go.Ab
open Go
set_option maxRecDepth 10000
set_option maxHeartbeats 2000000
attribute [local simp] qn qk zO
end Go.Ab
namespace Go.Ab
open Go
set_option maxRecDepth 10000
set_option maxHeartbeats 2000000
attribute [local simp] qn qk zO
end Go.Ab
namespace Go.Ab
open Go
set_option maxRecDepth 10000
set_option maxHeartbeats 2000000
theorem qKT {α:Type} {enc:α→AV}:∀{xs:List α},(∀x∈xs,(enc x).pl=true)→AV.pls (xs.map enc)=true
  |[],_=>rfl
  | x::xs,h=>by simp only [List.map_cons,AV.pls,h x (by simp),qKT (xs:=xs) (fun y hy=>h y (by simp [hy])),Bool.and_self]
theorem qIK {α:Type} {enc:α→AV}:∀{xs:List α},(∀x∈xs,(enc x).cn=true)→AV.cns (xs.map enc)=true
  |[],_=>rfl
  | x::xs,h=>by simp only [List.map_cons,AV.cns,h x (by simp),qIK (xs:=xs) (fun y hy=>h y (by simp [hy])),Bool.and_self]
theorem qLB {α:Type} {enc:α→AV} {f:α→Int→α} {c:α→Nat}:∀{xs:List α} (k:Int),(∀x∈xs,∀k,(enc (f x k)).rows=(enc x).rows)→AV.rowss ((mkL f c xs k).map enc)=AV.rowss (xs.map enc)
  |[],_,_=>rfl
  | x::xs,k,h=>by simp only [mkL,List.map_cons,AV.rowss,h x (by simp),qLB (xs:=xs) _ fun y hy=>h y (by simp [hy])]
theorem qA.plx:∀x:qA,x.enc.pl=true:=qA.ind fun x ih=>by
  rw [qA.enc_eq];simp [AV.pl,AV.pls,jK (enc:=qE) (fun _=>rfl),qKT ih]
theorem qA.cnx:∀x:qA,x.enc.cn=true:=qA.ind fun x ih=>by
  rw [qA.enc_eq];simp [AV.cn,AV.cns,Ye (enc:=qE) (fun _=>rfl),qIK ih]
theorem qA.layE (x:qA) (n:Nat):lay x.enc n=(.agg [.int .i64 x.Kind,.int .i64 x.Value,.slice 1 (n) 0 x.Data.length false,.slice 4 (n+AV.rows (.lst 1 (x.Data.map qE) false)) 0 x.Kids.length false],(lay (.lst 1 (x.Data.map qE) false) (n)).2++((lay (.lst 4 (x.Kids.map qA.enc) false) (n+AV.rows (.lst 1 (x.Data.map qE) false))).2++[])):=by
  rw [qA.enc_eq];simp [lay,qN,zt,AV.rows,Nat.add_assoc,Nat.add_comm,Nat.add_left_comm]
theorem qA.rowsE (x:qA):x.enc.rows=AV.rows (.lst 1 (x.Data.map qE) false)+AV.rows (.lst 4 (x.Kids.map qA.enc) false):=by rw [qA.enc_eq];simp [AV.rows,AV.rowss,Nat.add_assoc]
mutual
def qA.ct:qA→Nat
  |.mk _ _ d ks=>1+1+qF ctI d+qA.cts ks
def qA.cts:List qA→Nat
  |[]=>0
  | x::xs=>x.ct+qA.cts xs
end
theorem qA.cts_eq:∀xs,qA.cts xs=qF qA.ct xs
  |[]=>by simp [qA.cts,qF]
  | x::xs=>by simp [qA.cts,qF,qA.cts_eq xs]
theorem qA.ct_eq (x:qA):x.ct=1+1+qF ctI x.Data+qF qA.ct x.Kids:=by cases x;simp [qA.ct,qA.cts_eq,qA.Data,qA.Kids]
mutual
def qA.mrk:qA→Int→qA
  |.mk _ _ d ks,k=>.mk k (k+1) (mkL mkI ctI d (k+1+1)) (qA.mrks ks (k+1+1+((qF ctI d:Nat):Int)))
def qA.mrks:List qA→Int→List qA
  |[],_=>[]
  | x::xs,k=>x.mrk k::qA.mrks xs (k+x.ct)
end
theorem qA.mrks_eq:∀xs k,qA.mrks xs k=mkL qA.mrk qA.ct xs k
  |[],k=>by simp [qA.mrks,mkL]
  | x::xs,k=>by simp [qA.mrks,mkL,qA.mrks_eq xs]
theorem qA.mrk_eq (x:qA) (k:Int):x.mrk k=.mk k (k+1) (mkL mkI ctI x.Data (k+1+1)) (mkL qA.mrk qA.ct x.Kids (k+1+1+((qF ctI x.Data:Nat):Int))):=by
  cases x;simp [qA.mrk,qA.mrks_eq,qA.Data,qA.Kids]
theorem qA.mrkK (x:qA) (k:Int):(x.mrk k).Kind=k:=by rw [qA.mrk_eq];rfl
theorem qA.mrkV (x:qA) (k:Int):(x.mrk k).Value=k+1:=by rw [qA.mrk_eq];rfl
theorem qA.mrkD (x:qA) (k:Int):(x.mrk k).Data=mkL mkI ctI x.Data (k+1+1):=by rw [qA.mrk_eq];rfl
theorem qA.mrkC (x:qA) (k:Int):(x.mrk k).Kids=mkL qA.mrk qA.ct x.Kids (k+1+1+((qF ctI x.Data:Nat):Int)):=by rw [qA.mrk_eq];rfl
theorem qA.rowsM:∀(x:qA) (k:Int),(x.mrk k).enc.rows=x.enc.rows:=qA.ind fun x ih k=>by
  rw [qA.rowsE,qA.rowsE,qA.mrkD,qA.mrkC];simp only [AV.rows,qLB _ ih,zN mkI ctI (enc:=qE) (fun _ _=>rfl)]
def qA.mkV (x:qA) (k:Int):qA:=.mk x.Kind x.Value (mkL mkI ctI x.Data (k)) (mkL qA.mrk qA.ct x.Kids (k+((qF ctI x.Data:Nat):Int)))
def qA.ctV (x:qA):Nat:=qF ctI x.Data+qF qA.ct x.Kids
theorem qA.mkVK (x:qA) (k:Int):(x.mkV k).Kind=x.Kind:=rfl
theorem qA.mkVV (x:qA) (k:Int):(x.mkV k).Value=x.Value:=rfl
theorem qA.mkVD (x:qA) (k:Int):(x.mkV k).Data=mkL mkI ctI x.Data (k):=rfl
theorem qA.mkVC (x:qA) (k:Int):(x.mkV k).Kids=mkL qA.mrk qA.ct x.Kids (k+((qF ctI x.Data:Nat):Int)):=rfl
theorem qA.rowsV (x:qA) (k:Int):(x.mkV k).enc.rows=x.enc.rows:=by
  rw [qA.rowsE,qA.rowsE,qA.mkVD,qA.mkVC];simp only [AV.rows,zN qA.mrk qA.ct (enc:=qA.enc) qA.rowsM,zN mkI ctI (enc:=qE) (fun _ _=>rfl)]
theorem qA.ctle:∀x:qA,x.ct≤16+16*x.sz:=qA.ind fun x ih=>by
  have h:∀xs:List qA,(∀y∈xs,y.ct≤16+16*y.sz)→qF qA.ct xs≤16*(xs.length+qF qA.sz xs):=by
    intro xs
    induction xs with
    | nil=>intro _;exact Nat.le_refl _
    | cons a xs ihx=>intro h;have:=h a (by simp);have:=ihx (fun y hy=>h y (by simp [hy]));simp only [qF,List.length_cons];omega
  have h0:=h _ ih;rw [x.ct_eq,x.sz_eq,wa];omega
theorem qA.ctVle (x:qA):x.ctV≤16*x.sz:=by
  have h0:=x.ctle;rw [x.ct_eq,wa] at h0;have h1:=Vq (c:=qA.ct) (z:=qA.sz) qA.ctle x.Kids;rw [x.sz_eq];unfold qA.ctV;rw [wa];omega
theorem n147 (xs:List Int) (hl:xs.length≤1048576):Fresh Gm 147 [.lst 1 (xs.map qE) false] (.lst 1 (xs.map qE) false):=qTZ g147 xs hl
theorem n83 (x:qA):∀(_:x.sz≤1048576),Fresh Gm 83 [x.enc] x.enc:=by
  induction x using qA.ind with
  | _ x ih=>
  intro hz;refine Fresh.intro [] [] g83 (by kernel_rfl) rfl (by simp [AV.trees,AV.tree,qA.tr]) (qA.plx x) ?_;simp only [F83,qK,go_sem];refine qd qA.ln ?_;simp only [go_sem];rw [qA.sz_eq] at hz;refine w8 (n147 _ (by omega)) ?_;simp only [go_sem,wo];refine w8 (qL7 qA.isSh qA.plx rfl rfl (by simp) Yz x.Kids (fun y hm=>ih y hm (by have:=zu (f:=qA.sz) hm;omega)) (by omega)) ?_;simp only [go_sem,wo];refine qY rfl rfl ⟨_,rfl⟩ (by decide) ?_;simp only [go_sem];exact QN (pre:=[]) (post:=[]) (qA.plx x) (by simp [zI,qA.layE,qa,Nat.add_assoc]) (by simp [qA.layE,qa,Nat.add_assoc])
theorem n342 (xs:List qA) (hl:xs.length+qF qA.sz xs≤1048576):Fresh Gm 342 [.lst 4 (xs.map qA.enc) false] (.lst 4 (xs.map qA.enc) false):=
  qL7 qA.isSh qA.plx rfl rfl (by simp) Yz xs (fun x hm=>n83 x (by have:=zu (f:=qA.sz) hm;omega)) (by omega)
theorem qH.plx (x:qH):x.enc.pl=true:=by simp [qH.enc,AV.pl,AV.pls,jK qA.plx]
theorem qH.cnx (x:qH):x.enc.cn=true:=by simp [qH.enc,AV.cn,AV.cns,Ye qA.cnx]
theorem qH.layE (x:qH) (n:Nat):lay x.enc n=(.agg [.slice 4 (n) 0 x.Defs.length false],(lay (.lst 4 (x.Defs.map qA.enc) false) (n)).2++[]):=by
  simp [qH.enc,lay,qN,zt,AV.rows,Nat.add_assoc,Nat.add_comm,Nat.add_left_comm]
theorem qH.rowsE (x:qH):x.enc.rows=AV.rows (.lst 4 (x.Defs.map qA.enc) false):=by simp [qH.enc,AV.rows,AV.rowss,Nat.add_assoc]
def qH.mrk (x:qH) (k:Int):qH:={Defs:=mkL qA.mrk qA.ct x.Defs (k)}
def qH.ct (x:qH):Nat:=qF qA.ct x.Defs
def qH.mkV (x:qH) (k:Int):qH:={Defs:=mkL qA.mrk qA.ct x.Defs (k)}
def qH.ctV (x:qH):Nat:=qF qA.ct x.Defs
theorem qH.rowsM (x:qH) (k:Int):(x.mrk k).enc.rows=x.enc.rows:=by simp [qH.rowsE,qH.mrk,AV.rows,zN qA.mrk qA.ct (enc:=qA.enc) qA.rowsM]
theorem qH.rowsV (x:qH) (k:Int):(x.mkV k).enc.rows=x.enc.rows:=by simp [qH.rowsE,qH.mkV,AV.rows,zN qA.mrk qA.ct (enc:=qA.enc) qA.rowsM]
theorem qH.ctle (x:qH):x.ct≤16+16*x.sz:=by
  have h0:=Vq (c:=qA.ct) (z:=qA.sz) qA.ctle x.Defs;simp only [qH.ct,qH.sz];omega
theorem qH.ctVle (x:qH):x.ctV≤16*x.sz:=by
  have h0:=Vq (c:=qA.ct) (z:=qA.sz) qA.ctle x.Defs;simp only [qH.ctV,qH.sz];omega
theorem n82 (x:qH) (hz:x.sz≤1048576):Fresh Gm 82 [x.enc] x.enc:=by
  refine Fresh.intro [] [] g82 (by kernel_rfl) rfl (by simp [AV.trees,AV.tree,qH.tr]) (qH.plx x) ?_;simp only [F82,qK,go_sem];refine qd rfl ?_;simp only [go_sem];unfold qH.sz at hz;refine w8 (n342 _ (by omega)) ?_;simp only [go_sem,wo];exact QN (pre:=[]) (post:=[]) (qH.plx x) (by simp [zI,qH.layE,qa,Nat.add_assoc]) (by simp [qH.layE,qa,Nat.add_assoc])
theorem k90 (xs:List Int) (k:Int) (h0:0≤k) (hk:k+(qF ctI xs:Nat)≤4611686018427387904) (hz:xs.length≤4194304):Mark Gm 90 (.lst 1 (xs.map qE) false) (.lst 1 ((mkL mkI ctI xs k).map qE) false) k (k+(qF ctI xs:Nat)):=qRN g90 rfl xs k h0 hk hz
theorem qP7 (n:Nat):∀(xs:List qA) (k:Int) (_:xs.length+qF qA.sz xs<n) (_:0≤k) (_:k+(qF qA.ct xs:Nat)≤4611686018427387904) (_:xs.length+qF qA.sz xs≤4194304),Mark Gm 347 (.lst 4 (xs.map qA.enc) false) (.lst 4 ((mkL qA.mrk qA.ct xs k).map qA.enc) false) k (k+(qF qA.ct xs:Nat)):=by
  induction n with
  | zero=>intro xs k h;exact absurd h (by omega)
  | succ n ih=>
  intro xs k hn h0 hk hz;refine Mark.intro g347 (by kernel_rfl) rfl (jK qA.plx xs) (jK qA.plx _) (by simp only [AV.rows,zN qA.mrk qA.ct (enc:=qA.enc) qA.rowsM]) ?_;simp only [XA,qK,wo,go_sem,Nat.zero_add];refine Sem.loop (fun i:Nat=>i≤xs.length) (fun i=>(⟨[(0,.slice 4 0 0 xs.length false),(1,.int .i64 (k+((qF qA.ct (xs.take i):Nat):Int))),(5,.int .i64 (i:Nat))],[],(lay (.lst 4 ((mkL qA.mrk qA.ct (xs.take i) k++xs.drop i).map qA.enc) false) 0).2⟩:VSt)) (fun i=>xs.length-i) 0 (by kernel_rfl) (Nat.zero_le _) (by simp only [List.take_zero,mkL,List.nil_append,List.drop_zero,qF,Int.ofNat_zero,Int.natCast_zero,Int.add_zero];exact Can.sub (by simp [go_sem]) (by simp [go_sem])) ?_;intro i hi;simp only [go_sem,Nat.zero_add];refine qI ?_ ?_<;>intro hc<;>simp only [hc,go_sem,Nat.zero_add]
  · have hlt:i<xs.length:=by have:=odT hc;omega
    have hct:=qL3 qA.ct hlt;have hcl:=qL1 qA.ct xs (i+1);have hrow:=qA.rowsM;rw [List.drop_eq_getElem_cons hlt,qJR];have hsz:qA.sz xs[i]≤qF qA.sz xs:=zu (f:=qA.sz) (gMm hlt);obtain ⟨K,hK⟩:∃K:Int,K=k+((qF qA.ct (xs.take i):Nat):Int):=⟨_,rfl⟩;have hend:k+((qF qA.ct (xs.take (i+1)):Nat):Int)=K+((qA.ct xs[i]:Nat):Int):=by rw [hct,hK];omega
    have hKb:0≤K∧K+((qA.ct xs[i]:Nat):Int)≤4611686018427387904:=by rw [←hend];omega
    have hmk:(mkL qA.mrk qA.ct (xs.take (i+1)) k++xs.drop (i+1))=mkL qA.mrk qA.ct (xs.take i) k++qA.mrk xs[i] K::xs.drop (i+1):=by rw [qJ7 qA.mrk qA.ct hlt,←hK,List.append_assoc];rfl
    have hrx:=hrow xs[i] K;rw [←hK];obtain ⟨y,hy⟩:∃y,y=xs[i]:=⟨_,rfl⟩;rw [←hy] at hmk hend hKb hrx hsz⊢;have hcy:qA.ct y=1+1+qF ctI y.Data+qF qA.ct y.Kids:=qA.ct_eq y;rw [hcy] at hend hKb;rw [qA.sz_eq] at hsz;have hA:(qN ((mkL qA.mrk qA.ct (xs.take i) k).map qA.enc) 1).1.length=i:=by rw [ja,List.length_map,j6];simp;omega
    have hoA:=zt ((mkL qA.mrk qA.ct (xs.take i) k).map qA.enc) 1;have e2:=qJR (enc:=qA.enc) (w:=4) (c:=false) (A:=mkL qA.mrk qA.ct (xs.take i) k) (B:=xs.drop (i+1)) (z:=qA.mrk y K);rw [hrx] at e2;rw [qA.layE] at e2⊢;obtain ⟨p,hp⟩:∃p,p=1+AV.rowss ((mkL qA.mrk qA.ct (xs.take i) k).map qA.enc):=⟨_,rfl⟩;rw [←hp] at e2⊢;generalize (qN ((xs.drop (i+1)).map qA.enc) (p+y.enc.rows)).1=vB at e2⊢;generalize (qN ((xs.drop (i+1)).map qA.enc) (p+y.enc.rows)).2=oB at e2⊢;generalize (qN ((mkL qA.mrk qA.ct (xs.take i) k).map qA.enc) 1).1=vA at e2 hA⊢;generalize (qN ((mkL qA.mrk qA.ct (xs.take i) k).map qA.enc) 1).2=oA at e2 hoA⊢;simp only [wI hA,JI hA,jo hlt,List.set_cons_zero,go_sem,Nat.zero_add];refine qo (e':=.agg [.int .i64 (K),.int .i64 y.Value,.slice 1 (p) 0 y.Data.length false,.slice 4 (p+AV.rows (.lst 1 (y.Data.map qE) false)) 0 y.Kids.length false]) (by rfl) (by rfl) (wI hA) (by rfl) ?_;simp only [wI hA,JI hA,jo hlt,List.set_cons_zero,go_sem,Nat.zero_add];rw [zC (n:=K+1) (by omega) (by omega)]
    try simp only [wI hA,JI hA,jo hlt,List.set_cons_zero,go_sem,Nat.zero_add]
    refine qo (e':=.agg [.int .i64 (K),.int .i64 (K+1),.slice 1 (p) 0 y.Data.length false,.slice 4 (p+AV.rows (.lst 1 (y.Data.map qE) false)) 0 y.Kids.length false]) (by rfl) (by rfl) (wI hA) (by rfl) ?_;simp only [wI hA,JI hA,jo hlt,List.set_cons_zero,go_sem,Nat.zero_add];rw [zC (n:=K+1+1) (by omega) (by omega)]
    try simp only [wI hA,JI hA,jo hlt,List.set_cons_zero,go_sem,Nat.zero_add]
    refine wX (n:=p) (pre:=.row 4 (vA++.agg [.int .i64 (K),.int .i64 (K+1),.slice 1 (p) 0 y.Data.length false,.slice 4 (p+AV.rows (.lst 1 (y.Data.map qE) false)) 0 y.Kids.length false]::vB) true::(oA++[])) (post:=((lay (.lst 4 (y.Kids.map qA.enc) false) (p+AV.rows (.lst 1 (y.Data.map qE) false))).2++[])++oB) (t:=(.lst 1 (y.Data.map qE) false)) (t':=(.lst 1 ((mkL mkI ctI y.Data (K+1+1)).map qE) false)) (k90 y.Data (K+1+1) (by omega) (by omega) (by omega)) ?_ ?_ (by rw [wo,List.length_map]) ?_
    · first | rfl | (simp only [List.length_cons,lAp,List.length_nil,hoA,qa,AV.rows,zN mkI ctI (enc:=qE) (fun _ _=>rfl)];done) | (simp only [List.length_cons,lAp,List.length_nil,hoA,qa,AV.rows,zN mkI ctI (enc:=qE) (fun _ _=>rfl)];omega)
    · first | rfl | (simp only [List.append_assoc,List.nil_append,List.append_nil,List.cons_append];done)
    simp only [wI hA,JI hA,jo hlt,List.set_cons_zero,List.cons_append,go_sem,Nat.zero_add];refine wX (n:=p+AV.rows (.lst 1 (y.Data.map qE) false)) (pre:=.row 4 (vA++.agg [.int .i64 (K),.int .i64 (K+1),.slice 1 (p) 0 y.Data.length false,.slice 4 (p+AV.rows (.lst 1 (y.Data.map qE) false)) 0 y.Kids.length false]::vB) true::(oA++((lay (.lst 1 ((mkL mkI ctI y.Data (K+1+1)).map qE) false) (p)).2))) (post:=([])++oB) (t:=(.lst 4 (y.Kids.map qA.enc) false)) (t':=(.lst 4 ((mkL qA.mrk qA.ct y.Kids (K+1+1+((qF ctI y.Data:Nat):Int))).map qA.enc) false)) (ih y.Kids (K+1+1+((qF ctI y.Data:Nat):Int)) (by omega) (by omega) (by omega) (by omega)) ?_ ?_ (by rw [wo,List.length_map]) ?_
    · first | rfl | (simp only [List.length_cons,lAp,List.length_nil,hoA,qa,AV.rows,zN mkI ctI (enc:=qE) (fun _ _=>rfl)];done) | (simp only [List.length_cons,lAp,List.length_nil,hoA,qa,AV.rows,zN mkI ctI (enc:=qE) (fun _ _=>rfl)];omega)
    · first | rfl | (simp only [List.append_assoc,List.nil_append,List.append_nil,List.cons_append];done)
    simp only [wI hA,JI hA,jo hlt,List.set_cons_zero,List.cons_append,go_sem,Nat.zero_add];simp only [zA (show i<4611686018427387904 by omega)];refine qx (i+1) (by omega) (by omega) ?_;have e3:K+1+1+((qF ctI y.Data:Nat):Int)+((qF qA.ct y.Kids:Nat):Int)=k+((qF qA.ct (xs.take (i+1)):Nat):Int):=by first | (rw [hend];done) | (rw [hend];omega)
    rw [e3];rw [hmk,e2];simp only [qA.mrkK,qA.mrkV,qA.mrkD,qA.mrkC,j6,AV.rows,List.append_assoc,List.nil_append,List.append_nil,List.cons_append,zN qA.mrk qA.ct (enc:=qA.enc) qA.rowsM,zN mkI ctI (enc:=qE) (fun _ _=>rfl)];exact Can.sub (by simp [go_sem]) (by simp [go_sem])
  · have hge:i=xs.length:=by have:=odF hc;omega
    subst hge;refine Yv (by rw [List.take_length]) ?_;rw [List.take_length,List.drop_length,List.append_nil]
theorem k347 (xs:List qA) (k:Int) (h0:0≤k) (hk:k+(qF qA.ct xs:Nat)≤4611686018427387904) (hz:xs.length+qF qA.sz xs≤4194304):Mark Gm 347 (.lst 4 (xs.map qA.enc) false) (.lst 4 ((mkL qA.mrk qA.ct xs k).map qA.enc) false) k (k+(qF qA.ct xs:Nat)):=qP7 _ xs k (Nat.lt_succ_self _) h0 hk hz
theorem k89 (x:qA) (k:Int) (h0:0≤k) (hk:k+(x.ctV:Nat)≤4611686018427387904) (hz:x.sz≤4194304):Mark Gm 89 x.enc (x.mkV k).enc k (k+(x.ctV:Nat)):=by
  refine Mark.intro g89 (by kernel_rfl) rfl (qA.plx x) (qA.plx _) (qA.rowsV x k) ?_;rw [qA.layE,qA.layE];simp only [F89,qK,go_sem,Nat.zero_add];refine qd rfl ?_;simp only [go_sem,Nat.zero_add];unfold qA.ctV at hk;rw [qA.sz_eq] at hz;refine wX (n:=0) (pre:=[]) (post:=(lay (.lst 4 (x.Kids.map qA.enc) false) (AV.rows (.lst 1 (x.Data.map qE) false))).2++[]) (t:=(.lst 1 (x.Data.map qE) false)) (t':=(.lst 1 ((mkL mkI ctI x.Data (k)).map qE) false)) (k90 x.Data (k) (by omega) (by omega) (by omega)) ?_ ?_ (by rw [wo,List.length_map]) ?_
  · first | rfl | (simp only [lAp,List.length_nil,qa,AV.rows,zN qA.mrk qA.ct (enc:=qA.enc) qA.rowsM,zN mkI ctI (enc:=qE) (fun _ _=>rfl)];done) | (simp only [lAp,List.length_nil,qa,AV.rows,zN qA.mrk qA.ct (enc:=qA.enc) qA.rowsM,zN mkI ctI (enc:=qE) (fun _ _=>rfl)];omega)
  · first | rfl | (simp only [List.append_assoc,List.nil_append,List.append_nil];done)
  simp only [List.append_assoc,List.nil_append,List.append_nil,go_sem,Nat.zero_add];refine wX (n:=AV.rows (.lst 1 (x.Data.map qE) false)) (pre:=(lay (.lst 1 ((mkL mkI ctI x.Data (k)).map qE) false) (0)).2) (post:=[]) (t:=(.lst 4 (x.Kids.map qA.enc) false)) (t':=(.lst 4 ((mkL qA.mrk qA.ct x.Kids (k+((qF ctI x.Data:Nat):Int))).map qA.enc) false)) (k347 x.Kids (k+((qF ctI x.Data:Nat):Int)) (by omega) (by omega) (by omega)) ?_ ?_ (by rw [wo,List.length_map]) ?_
  · first | rfl | (simp only [lAp,List.length_nil,qa,AV.rows,zN qA.mrk qA.ct (enc:=qA.enc) qA.rowsM,zN mkI ctI (enc:=qE) (fun _ _=>rfl)];done) | (simp only [lAp,List.length_nil,qa,AV.rows,zN qA.mrk qA.ct (enc:=qA.enc) qA.rowsM,zN mkI ctI (enc:=qE) (fun _ _=>rfl)];omega)
  · first | rfl | (simp only [List.append_assoc,List.nil_append,List.append_nil];done)
  simp only [List.append_assoc,List.nil_append,List.append_nil,go_sem,Nat.zero_add];refine Yv (by first | rfl | (simp only [qA.ctV];done) | (simp only [qA.ctV];omega)) ?_;simp only [qA.mkVK,qA.mkVV,qA.mkVD,qA.mkVC,j6,AV.rows,Nat.zero_add,List.append_assoc,List.nil_append,List.append_nil,zN qA.mrk qA.ct (enc:=qA.enc) qA.rowsM,zN mkI ctI (enc:=qE) (fun _ _=>rfl)]
theorem k88 (x:qH) (k:Int) (h0:0≤k) (hk:k+(x.ctV:Nat)≤4611686018427387904) (hz:x.sz≤4194304):Mark Gm 88 x.enc (x.mkV k).enc k (k+(x.ctV:Nat)):=by
  refine Mark.intro g88 (by kernel_rfl) rfl (qH.plx x) (qH.plx _) (qH.rowsV x k) ?_;rw [qH.layE,qH.layE];simp only [F88,qK,go_sem,Nat.zero_add];refine qd rfl ?_;simp only [go_sem,Nat.zero_add];unfold qH.ctV at hk;simp only [qH.sz] at hz;refine wX (n:=0) (pre:=[]) (post:=[]) (t:=(.lst 4 (x.Defs.map qA.enc) false)) (t':=(.lst 4 ((mkL qA.mrk qA.ct x.Defs (k)).map qA.enc) false)) (k347 x.Defs (k) (by omega) (by omega) (by omega)) ?_ ?_ (by rw [wo,List.length_map]) ?_
  · first | rfl | (simp only [lAp,List.length_nil,qa,AV.rows,zN qA.mrk qA.ct (enc:=qA.enc) qA.rowsM];done) | (simp only [lAp,List.length_nil,qa,AV.rows,zN qA.mrk qA.ct (enc:=qA.enc) qA.rowsM];omega)
  · first | rfl | (simp only [List.append_assoc,List.nil_append,List.append_nil];done)
  simp only [List.append_assoc,List.nil_append,List.append_nil,go_sem,Nat.zero_add];refine Yv (by first | rfl | (simp only [qH.ctV];done) | (simp only [qH.ctV];omega)) ?_;simp only [qH.mkV,AV.rows,Nat.zero_add,List.append_assoc,List.nil_append,List.append_nil,zN qA.mrk qA.ct (enc:=qA.enc) qA.rowsM]
theorem q92 (xs:List Int) (k:Int) (h0:0≤k) (hk:k+(qF ctI xs:Nat)≤4611686018427387904) (hz:xs.length≤4194304):Pure Gm 92 [.lst 1 ((mkL mkI ctI xs k).map qE) false,.int .i64 k] (.int .i64 (k+(qF ctI xs:Nat))):=qP1 g92 rfl xs k h0 hk hz
theorem qSF (n:Nat):∀(xs:List qA) (k:Int) (_:xs.length+qF qA.sz xs<n) (_:0≤k) (_:k+(qF qA.ct xs:Nat)≤4611686018427387904) (_:xs.length+qF qA.sz xs≤4194304),Pure Gm 348 [(.lst 4 ((mkL qA.mrk qA.ct xs k).map qA.enc) false),.int .i64 k] (.int .i64 (k+(qF qA.ct xs:Nat))):=by
  induction n with
  | zero=>intro xs k h;exact absurd h (by omega)
  | succ n ih=>
  intro xs k hn h0 hk hz;refine Pure.intro [] [] g348 (by kernel_rfl) rfl (by simp [AV.trees,AV.tree,zD qA.isSh.tree]) rfl ?_;simp only [XB,qK,go_sem,Nat.zero_add];refine Sem.loop (fun i:Nat=>i≤xs.length) (fun i=>(⟨[(0,(.lst 4 ((mkL qA.mrk qA.ct xs k).map qA.enc) false)),(1,.int .i64 (k+((qF qA.ct (xs.take i):Nat):Int))),(5,.int .i64 (i:Nat))],[],[]⟩:VSt)) (fun i=>xs.length-i) 0 (by kernel_rfl) (Nat.zero_le _) (by simp only [List.take_zero,qF,Int.ofNat_zero,Int.natCast_zero,Int.add_zero];exact Can.sub (by simp [go_sem]) (by simp [go_sem])) ?_;intro i hi;simp only [j6,go_sem,Nat.zero_add];refine qI ?_ ?_<;>intro hc<;>simp only [hc,go_sem,Nat.zero_add]
  · have hlt:i<xs.length:=by have:=odT hc;omega
    have hct:=qL3 qA.ct hlt;have hcl:=qL1 qA.ct xs (i+1);have hget:=qJ6 qA.mrk qA.ct hlt k;have hsz:qA.sz xs[i]≤qF qA.sz xs:=zu (f:=qA.sz) (gMm hlt);obtain ⟨K,hK⟩:∃K:Int,K=k+((qF qA.ct (xs.take i):Nat):Int):=⟨_,rfl⟩;have hend:k+((qF qA.ct (xs.take (i+1)):Nat):Int)=K+((qA.ct xs[i]:Nat):Int):=by rw [hct,hK];omega
    have hKb:0≤K∧K+((qA.ct xs[i]:Nat):Int)≤4611686018427387904:=by rw [←hend];omega
    rw [←hK] at hget⊢;obtain ⟨y,hy⟩:∃y,y=xs[i]:=⟨_,rfl⟩;rw [←hy] at hget hend hKb hsz;have hcy:qA.ct y=1+1+qF ctI y.Data+qF qA.ct y.Kids:=qA.ct_eq y;rw [hcy] at hend hKb;rw [qA.sz_eq] at hsz;simp only [List.getElem?_map,hget,Option.map_some,go_sem,Nat.zero_add]
    try simp only [List.getElem?_map,hget,Option.map_some,qA.mrkK,qA.mrkV,qA.mrkD,qA.mrkC,go_sem,Nat.zero_add]
    rw [zC (n:=K+1) (by omega) (by omega)]
    try simp only [List.getElem?_map,hget,Option.map_some,qA.mrkK,qA.mrkV,qA.mrkD,qA.mrkC,go_sem,Nat.zero_add]
    try simp only [List.getElem?_map,hget,Option.map_some,qA.mrkK,qA.mrkV,qA.mrkD,qA.mrkC,go_sem,Nat.zero_add]
    rw [zC (n:=K+1+1) (by omega) (by omega)]
    try simp only [List.getElem?_map,hget,Option.map_some,qA.mrkK,qA.mrkV,qA.mrkD,qA.mrkC,go_sem,Nat.zero_add]
    try simp only [List.getElem?_map,hget,Option.map_some,qA.mrkK,qA.mrkV,qA.mrkD,qA.mrkC,go_sem,Nat.zero_add]
    refine qL (q92 y.Data (K+1+1) (by omega) (by omega) (by omega)) ?_;simp only [List.getElem?_map,hget,Option.map_some,qA.mrkK,qA.mrkV,qA.mrkD,qA.mrkC,go_sem,Nat.zero_add];rw [show decide (K+1+1+((qF ctI y.Data:Nat):Int)<0)=false from decide_eq_false (by omega)];simp only [List.getElem?_map,hget,Option.map_some,qA.mrkK,qA.mrkV,qA.mrkD,qA.mrkC,go_sem,Nat.zero_add]
    try simp only [List.getElem?_map,hget,Option.map_some,qA.mrkK,qA.mrkV,qA.mrkD,qA.mrkC,go_sem,Nat.zero_add]
    refine qL (ih y.Kids (K+1+1+((qF ctI y.Data:Nat):Int)) (by omega) (by omega) (by omega) (by omega)) ?_;simp only [List.getElem?_map,hget,Option.map_some,qA.mrkK,qA.mrkV,qA.mrkD,qA.mrkC,go_sem,Nat.zero_add];rw [show decide (K+1+1+((qF ctI y.Data:Nat):Int)+((qF qA.ct y.Kids:Nat):Int)<0)=false from decide_eq_false (by omega)];simp only [List.getElem?_map,hget,Option.map_some,qA.mrkK,qA.mrkV,qA.mrkD,qA.mrkC,go_sem,Nat.zero_add];simp only [zA (show i<4611686018427387904 by omega)];refine qx (i+1) (by omega) (by omega) ?_;have e3:K+1+1+((qF ctI y.Data:Nat):Int)+((qF qA.ct y.Kids:Nat):Int)=k+((qF qA.ct (xs.take (i+1)):Nat):Int):=by first | (rw [hend];done) | (rw [hend];omega)
    rw [e3];exact Can.sub (by simp [go_sem]) (by simp [go_sem])
  · have hge:i=xs.length:=by have:=odF hc;omega
    subst hge;refine qO rfl ?_;rw [List.take_length]
theorem q348 (xs:List qA) (k:Int) (h0:0≤k) (hk:k+(qF qA.ct xs:Nat)≤4611686018427387904) (hz:xs.length+qF qA.sz xs≤4194304):Pure Gm 348 [(.lst 4 ((mkL qA.mrk qA.ct xs k).map qA.enc) false),.int .i64 k] (.int .i64 (k+(qF qA.ct xs:Nat))):=qSF _ xs k (Nat.lt_succ_self _) h0 hk hz
theorem q91 (x:qA) (k:Int) (h0:0≤k) (hk:k+(x.ctV:Nat)≤4611686018427387904) (hz:x.sz≤4194304):Pure Gm 91 [(x.mkV k).enc,.int .i64 k] (.int .i64 (k+(x.ctV:Nat))):=by
  refine Pure.intro [] [] g91 (by kernel_rfl) rfl (by simp [AV.trees,AV.tree,qA.tr]) rfl ?_;simp only [F91,qK,go_sem,Nat.zero_add];refine qd qA.ln ?_;simp only [go_sem,Nat.zero_add];unfold qA.ctV at hk;rw [qA.sz_eq] at hz;refine qL (q92 x.Data (k) (by omega) (by omega) (by omega)) ?_;simp only [go_sem,Nat.zero_add]
  try (rw [show decide (k+((qF ctI x.Data:Nat):Int)<0)=false from decide_eq_false (by omega)];simp only [go_sem,Nat.zero_add])
  refine qL (q348 x.Kids (k+((qF ctI x.Data:Nat):Int)) (by omega) (by omega) (by omega)) ?_;simp only [go_sem,Nat.zero_add]
  try (rw [show decide (k+((qF ctI x.Data:Nat):Int)+((qF qA.ct x.Kids:Nat):Int)<0)=false from decide_eq_false (by omega)];simp only [go_sem,Nat.zero_add])
  refine qO rfl ?_
  first | rfl | (simp only [qA.ctV,AV.int.injEq,true_and];done) | (simp only [qA.ctV,AV.int.injEq,true_and];omega)
end Go.Ab
namespace Go.Ab
open Go
set_option maxRecDepth 10000
set_option maxHeartbeats 2000000
attribute [local simp] qn qk zO
theorem qGG {E:Ev} {l:List qB} {ks:List Fr1} {s m:qZ} {h:List qC} {Q:qS→VSt→Prop} {t:Nat} {x:qA} {n:Nat} {cs:List AV} (h1:cs.length=4) (hr:R E (.ops l::ks) ⟨s,(t,(lay x.enc n).1)::m,h⟩ Q):Lst E t 0 4 (some (.agg cs)) (some (lay x.enc n).1) l ks ⟨s,m,h⟩ Q:=
  qY h1 (by rw [Y7 (qA.plx x)];exact qA.ln (x:=x)) (by rw [qA.layE];exact ⟨_,rfl⟩) (by decide) hr
end Go.Ab
namespace Go.Ab
open Go
set_option maxRecDepth 10000
set_option maxHeartbeats 2000000
attribute [local simp] qn qk zO
inductive Bel:Int→qA→Prop
  | var {v n:Int} {d:List Int} (h:v<n):Bel n (.mk 1 v d [])
  | node {k v n:Int} {d:List Int} {ks:List qA} (hk:¬k=1) (h:∀(i:Nat) (hi:i<ks.length),Bel (n+qv k i) ks[i]):Bel n (.mk k v d ks)
theorem Bel.kid {n:Int} {x:qA} (h:Bel n x) {i:Nat} (hi:i<x.Kids.length):Bel (n+qv x.Kind i) x.Kids[i]:=by
  cases h with
  | var h=>simp [qA.Kids] at hi
  | node hk h=>exact h i hi
theorem qGI {α β:Type} {f:Nat→α→β}:∀(xs:List α) (k i:Nat) (h:i<xs.length),(jr f xs k)[i]'(by rw [VJ];exact h)=f (k+i) xs[i]
  | x::xs,k,0,_=>rfl
  | x::xs,k,i+1,h=>by
    have:=qGI (f:=f) xs (k+1) i (by simpa using h);simp only [jr,List.getElem_cons_succ];rw [this,show k+1+i=k+(i+1) by omega]
theorem Bel.shift {m:Int} {x:qA} (h:Bel m x):∀(a f n:Int),m=n+f→0≤a→0≤n→Bel (n+a+f) (x.shift a f):=by
  induction h with
  | @var v m d h=>
    intro a f n hm ha hn;rw [qA.shift_eq];refine .var ?_;show Vp 1 v a f<_;unfold Vp;split<;>omega
  | @node k v m d ks hk h ih=>
    intro a f n hm ha hn;rw [qA.shift_eq];refine .node hk fun i hi=> ?_;have hi2:i<ks.length:=by rw [VJ] at hi;exact hi
    simp only [qA.Kids];rw [qGI _ _ _ hi2,Nat.zero_add];have:=ih i hi2 a (f+qv k i) n (by omega) ha hn;show Bel (n+a+f+qv k i) (qA.shift a ks[i] (f+qv k i));rw [show n+a+f+qv k i=n+a+(f+qv k i) by omega];exact this
theorem Bel.put {m:Int} {x arg:qA} (h:Bel m x):∀(d n:Int),m=n+1+d→0≤d→0≤n→Bel n arg→Bel (n+d) (qA.put arg x d):=by
  induction h with
  | @var v m d h=>
    intro e n hm he hn ha;rw [qA.put_eq,if_pos (by rfl)];by_cases hv:v=e
    · rw [if_pos (by exact hv)];have:=ha.shift e 0 n (by omega) he hn;rwa [Int.add_zero] at this
    · rw [if_neg (by exact hv)];refine .var ?_;show Vc v e<_;unfold Vc;split<;>omega
  | @node k v m d ks hk h ih=>
    intro e n hm he hn ha;rw [qA.put_eq,if_neg (by exact hk)];refine .node hk fun i hi=> ?_;have hi2:i<ks.length:=by rw [VJ] at hi;exact hi
    have hb:=ZL k i;simp only [qA.Kids];rw [qGI _ _ _ hi2,Nat.zero_add];have:=ih i hi2 (e+qv k i) n (by omega) (by omega) hn ha;show Bel (n+e+qv k i) (qA.put arg ks[i] (e+qv k i));rw [show n+e+qv k i=n+(e+qv k i) by omega];exact this
end Go.Ab
namespace Go.Ab
open Go
set_option maxRecDepth 10000
set_option maxHeartbeats 2000000
attribute [local simp] qn qk zO
theorem Bel.sub {n:Int} {x y:qA} {i:Nat} (h:Bel n x) (hy:x.Kids[i]?=some y) (hb:qv x.Kind i=0):Bel n y:=by
  obtain ⟨hi,rfl⟩:=List.getElem?_eq_some_iff.1 hy;have:=h.kid hi;rwa [hb,Int.add_zero] at this
end Go.Ab
namespace Go.Ab
open Go
set_option maxRecDepth 10000
set_option maxHeartbeats 2000000
attribute [local simp] qn qk zO
theorem zT (x:qA) (n:Nat):(lay x.enc n).1.part 0 (some 4)=some (lay x.enc n).1:=qJS (qA.plx x) ⟨_,qA.enc_eq x⟩ qA.ln
end Go.Ab
namespace Go.Ab
open Go
set_option maxRecDepth 10000
set_option maxHeartbeats 2000000
attribute [local simp] qn qk zO
theorem qJN (x:qA) (k:Int) (n:Nat):(lay (x.mkV k).enc n).1=(lay x.enc n).1:=by
  rw [qA.layE,qA.layE];simp only [qA.mkVK,qA.mkVV,qA.mkVD,qA.mkVC,j6,AV.rows,zN mkI ctI (enc:=qE) (fun _ _=>rfl)]
theorem zR (x:qH) (n:Nat):(lay x.enc n).1.part 0 (some 1)=some (lay x.enc n).1:=qJS (qH.plx x) ⟨_,rfl⟩ rfl
theorem qQF (x:qH) (n:Nat):(lay x.enc n).1.cells.length=1:=by rw [Y7 (qH.plx x)];rfl
theorem qQE (x:qH) (n:Nat):∃cs,(lay x.enc n).1=.agg cs:=⟨_,congrArg Prod.fst (qH.layE x n)⟩
end Go.Ab
namespace Go.Ab
open Go
set_option maxRecDepth 10000
set_option maxHeartbeats 2000000
end Go.Ab
namespace Go.Ab
open Go
set_option maxRecDepth 10000
set_option maxHeartbeats 2000000
attribute [local simp] qn qk zO
def qRS (n:Int) (x:qA):Bool:=inI x.Kids.length (shp x.Kind).1.1 (shp x.Kind).1.2&&inI x.Data.length (shp x.Kind).2.1 (shp x.Kind).2.2&&(if x.Kind=1 then decide (0≤x.Value) else jU x.Kind x.Value)&&x.Data.all jN&&
  (!(decide (x.Kind=11)&&decide (n≤x.Value))&&x.Data.all (fun k=>decide (k<n)))
def qA.ow (n:Int):qA→Bool:=qA.fold fun x rs=>qRS n x&&rs.all id
def Le (a b:List Int):Prop:=a.length≤b.length∧∀n∈a,n∈b
theorem Le.refl (a:List Int):Le a a:=⟨Nat.le_refl _,fun _ h=>h⟩
theorem Le.nil (a:List Int):Le [] a:=⟨Nat.zero_le _,fun _ h=>by cases h⟩
theorem Le.app {a b c d:List Int} (h:Le a b) (h2:Le c d):Le (a++c) (b++d):=by
  refine ⟨by rw [lAp,lAp];have:=h.1;have:=h2.1;omega,fun n hn=> ?_⟩;rcases List.mem_append.1 hn with q | q
  · exact List.mem_append.2 (.inl (h.2 n q))
  · exact List.mem_append.2 (.inr (h2.2 n q))
theorem Le.one {a:List Int} {l:Int} (h1:a.length≤1) (h2:∀n∈a,n=l) {g:Int→List Int}:Le (a.flatMap g) (g l):=by
  match a,h1,h2 with
  |[],_,_=>exact .nil _
  |[n],_,h2=>rw [h2 n (by simp)];simp only [List.flatMap_cons,List.flatMap_nil,List.append_nil];exact .refl _
theorem Le.set {α:Type} {f:Nat→α→List Int} {y:α}:∀{xs:List α} {k i:Nat} (h:i<xs.length),Le (f (k+i) y) (f (k+i) xs[i])→Le (QP f (xs.set i y) k) (QP f xs k)
  | x::xs,k,0,_,hq=>by
    simp only [List.set_cons_zero,QP];exact Le.app hq (.refl _)
  | x::xs,k,i+1,h,hq=>by
    simp only [List.set_cons_succ,QP];refine Le.app (.refl _) (Le.set (by simpa using h) ?_);rw [show k+1+i=k+(i+1) by omega];simpa using hq
end Go.Ab
namespace Go.Ab
open Go
set_option maxRecDepth 10000
set_option maxHeartbeats 2000000
attribute [local simp] qn qk zO
structure Good (n m:Int) (x r:qA) (l:Int):Prop where
  ow:r.ow n=true
  bel:Bel m r
  strat:r.strat l=true
  le:∀v,0≤v→Le (r.levels v l) (x.levels v l)
theorem Bel.mono {m:Int} {x:qA} (h:Bel m x):∀k,m≤k→Bel k x:=by
  induction h with
  | var h=>intro k hk;exact .var (by omega)
  | node hk h ih=>intro k hm;exact .node hk fun i hi=>ih i hi _ (by omega)
end Go.Ab
namespace Go.Ab
open Go
set_option maxRecDepth 10000
set_option maxHeartbeats 2000000
attribute [local simp] qn qk zO
end Go.Ab
namespace Go.Ab
open Go
set_option maxRecDepth 10000
set_option maxHeartbeats 2000000
attribute [local simp] qn qk zO
end Go.Ab
namespace Go.Ab
open Go
set_option maxRecDepth 10000
set_option maxHeartbeats 2000000
attribute [local simp] qn qk zO
end Go.Ab
namespace Go.Ab
open Go
set_option maxRecDepth 10000
set_option maxHeartbeats 2000000
attribute [local simp] qn qk zO
end Go.Ab
namespace Go.Ab
open Go
set_option maxRecDepth 10000
set_option maxHeartbeats 2000000
attribute [local simp] qn qk zO
end Go.Ab
namespace Go.Ab
open Go
set_option maxRecDepth 10000
set_option maxHeartbeats 2000000
attribute [local simp] qn qk zO
def jJ (y:qA×List Int×Int):AV:=.tup [y.1.enc,.lst 1 (y.2.1.map qE) false,.int .i64 y.2.2]
end Go.Ab
namespace Go.Ab
open Go
set_option maxRecDepth 10000
set_option maxHeartbeats 2000000
attribute [local simp] qn qk zO
end Go.Ab
namespace Go.Ab
open Go
set_option maxRecDepth 10000
set_option maxHeartbeats 2000000
attribute [local simp] qn qk zO
theorem plsI (k:List Int):AV.pls (k.map qE)=true:=jK (fun _=>rfl) k
theorem qJT (k:List Int) (n:Nat):qN (k.map qE) n=(k.map qE,[]):=by
  induction k generalizing n with
  | nil=>rfl
  | cons x k ih=>simp [qN,lay,qE,ih]
theorem qR6 {y:qA×List Int×Int}:(jJ y).pl=true:=by
  simp [jJ,AV.pl,AV.pls,qA.plx,plsI]
theorem Y5 {c:qA} {k:List Int} {e:Int} (n:Nat):lay (jJ (c,k,e)) n=(.tup [(lay c.enc n).1,.slice 1 (n+c.enc.rows) 0 k.length false,.int .i64 e],(lay c.enc n).2++[.row 1 (k.map qE) true]):=by
  simp [jJ,lay,qN,qa,qJT]
theorem qFZ {h:List qC} {y:qA×List Int×Int} {e:Int} (he:y=(zd,[],e)):FinF (some [.agg [.int .i64 0,.int .i64 0,.nils,.nils],.nils,.int .i64 e]) h (jJ y):=by
  subst he;have hz:lay zd.enc 0=(.agg [.int .i64 0,.int .i64 0,.slice 1 0 0 0 false,.slice 4 1 0 0 false],[.row 1 [] true,.row 4 [] true]):=by
    simp [qA.layE,zd,qA.Kind,qA.Value,qA.Data,qA.Kids,AV.rows,AV.rowss,lay,qN]
  have hw:zd.enc.rows=2:=by have:=qa zd.enc 0;rw [hz] at this;simpa using this.symm
  refine ⟨[none,none,none],rfl,by rw [Y5,hz];exact ⟨.ph,.ph,.ph,trivial⟩, ?_⟩;rw [Y5,hz,hw];have q:VR2 [none,none,none] (.agg [.int .i64 0,.int .i64 0,.nils,.nils]) (.agg [.int .i64 0,.int .i64 0,.slice 1 0 0 0 false,.slice 4 1 0 0 false]):=
    .agg rfl (VR2s.cons (.tree rfl) (VR2s.cons (.tree rfl) (VR2s.cons (.ph rfl) (VR2s.cons (.ph rfl) VR2s.nil)))).2
  exact .tup rfl (VR2s.cons q (VR2s.cons (.ph rfl) (VR2s.cons (.tree rfl) VR2s.nil))).2
end Go.Ab
namespace Go.Ab
open Go
set_option maxRecDepth 10000
set_option maxHeartbeats 2000000
def jS (b:qH) (c:qA) (budget:Int):qA×List Int×Int:=
  if z9 b c=false then (zd,[],1) else if inI budget 0 20000=false then (zd,[],2)
  else if (qp b 80 ⟨⟨c,[]⟩,[],[]⟩ [0,0,0,0] budget.toNat 0).e=0 then ((qp b 80 ⟨⟨c,[]⟩,[],[]⟩ [0,0,0,0] budget.toNat 0).t,(qp b 80 ⟨⟨c,[]⟩,[],[]⟩ [0,0,0,0] budget.toNat 0).cs,0)
  else (zd,[],(qp b 80 ⟨⟨c,[]⟩,[],[]⟩ [0,0,0,0] budget.toNat 0).e)
theorem fil4 {e:Env} {z1 z2 z3 z4:Int}:fil e 1 (List.replicate 4 (AV.int .i64 0)) 0 (some (.int .i64 z1)) [(1,.c (.int .i64 z2)),(2,.c (.int .i64 z3)),(3,.c (.int .i64 z4))]=some [.int .i64 z1,.int .i64 z2,.int .i64 z3,.int .i64 z4]:=rfl
theorem qHE {b:qH} {c:qA} (h:z9 b c=true):BI b∧MI b ⟨⟨c,[]⟩,[],[]⟩:=by
  unfold z9 at h;simp only [bAt] at h;obtain ⟨⟨⟨⟨h1,h2⟩,h3⟩,h4⟩,h5⟩:=h;have cl:∀{x:qA},x.closed=true→x.er=true→x.refs b.Defs.length=true→TI b.Defs.length 0 x:=fun {x} q1 q2 q3=>by
    unfold qA.closed at q1;simp only [bAt,Bool.not_eq_true'] at q1;exact ⟨q1.1,q2,q3,q1.2⟩
  unfold qH.ok at h1;simp only [bAt,List.all_eq_true,inI,decide_eq_true_eq] at h1;refine ⟨⟨by omega,fun d hd=>cl (h1.2 d hd).1 (List.all_eq_true.1 h5 d hd) (h1.2 d hd).2⟩,⟨⟨⟨cl h2 h3 h4,by simp,fun a ha=>by simp at ha⟩,fun f hf=>by simp at hf,fun t ht=>by simp at ht⟩,by simp,by simp⟩⟩
theorem qFY {h:List qC} {y:qA×List Int×Int} {e:Int} (he:y=(zd,[],e)):Fin (some [.agg [.int .i64 0,.int .i64 0,.nils,.nils],.nils,.int .i64 e]) h (jJ y):=by
  subst he;unfold Fin;refine .tup rfl ?_;simp only [List.zip_cons_cons,List.zip_nil_left,List.mem_cons,List.not_mem_nil,or_false,List.map_nil];rintro p (rfl | rfl | rfl)
  · exact qUC
  · exact .nils
  · exact .refl rfl
theorem qOV {h:List qC} {y:qA×List Int×Int} {x:qA} {k:List Int} {id:Nat} (e:y=(x,k,0)) (hk:k.length=4) (ho:h[id]?=some (.row 1 (k.map qE) true)):Fin (some [x.enc,.slice 1 id 0 4 false,.int .i64 0]) h (jJ y):=by
  subst e;unfold Fin;refine .tup rfl ?_;simp only [List.zip_cons_cons,List.zip_nil_left,List.mem_cons,List.not_mem_nil,or_false];rintro p (rfl | rfl | rfl)
  · exact .refl (by simp [go_sem])
  · exact Cv.row ho (by simp [hk]) (qk _) (by decide)
  · exact .refl rfl
theorem qR7 (y:qA×List Int×Int):(jJ y).tree=true:=by
  simp only [jJ,AV.tree,AV.trees,qA.tr,qk,Bool.and_self]
theorem c81 {b:qH} {c:qA} {budget:Int} (hb:b.sz≤1048576) (hz:c.sz≤1048576):Pure Gm 81 [b.enc,c.enc,.int .i64 budget] (jJ (jS b c budget)):=by
  refine Pure.intro [3,4] [] g81 (by kernel_rfl) rfl (by simp [AV.trees,AV.tree,go_sem]) (by exact qR7 _) ?_;simp only [F81,qK,go_sem];refine wm rfl ?_;simp only [go_sem];refine wm qA.ln ?_;simp only [go_sem];simp only [go_sem,List.nil_append,List.cons_append,List.set_cons_zero,List.set_cons_succ];refine qL (c339 hb hz) ?_;simp only [go_sem];refine qI ?_ ?_<;>intro hc<;>simp only [hc,go_sem]
  · refine qY (k:=4) rfl rfl ⟨_,rfl⟩ (by decide) ?_;simp only [go_sem];exact qFY (by unfold jS;rw [if_pos (nt hc)])
  have hs:=nf hc;refine qL QH ?_;simp only [go_sem];refine qI ?_ ?_<;>intro hc<;>simp only [hc,go_sem]
  · refine qY (k:=4) rfl rfl ⟨_,rfl⟩ (by decide) ?_;simp only [go_sem];exact qFY (by unfold jS;rw [if_neg (by rw [hs];decide),if_pos (nt hc)])
  have hi:=nf hc;clear hc;obtain ⟨hbI,hMI⟩:=qHE hs;obtain ⟨h0,h1⟩:0≤budget∧budget≤20000:=by simpa [inI] using hi
  obtain ⟨l,rfl⟩:∃l:Nat,budget=l:=⟨budget.toNat,by omega⟩;have hv:jS b c (l:Nat)=if (qp b 80 ⟨⟨c,[]⟩,[],[]⟩ [0,0,0,0] l 0).e=0 then ((qp b 80 ⟨⟨c,[]⟩,[],[]⟩ [0,0,0,0] l 0).t,(qp b 80 ⟨⟨c,[]⟩,[],[]⟩ [0,0,0,0] l 0).cs,0)
      else (zd,[],(qp b 80 ⟨⟨c,[]⟩,[],[]⟩ [0,0,0,0] l 0).e):=by
    unfold jS;rw [if_neg (by rw [hs];decide),if_neg (by rw [hi];decide),Int.toNat_natCast]
  rw [fil4];simp only [go_sem];refine wm rfl ?_;simp only [go_sem];simp only [go_sem,List.nil_append,List.cons_append,List.set_cons_zero,List.set_cons_succ];refine qc (SCall.ph (w:=8) (vs':=[.ptr 3 0 0,.int .i64 1]) (h2:=[.dead,.dead,.row 1 [.int .i64 0,.int .i64 0,.int .i64 0,.int .i64 0] true,
      .row 11 [.agg [.ept b.enc 0,.int .i64 c.Kind,.int .i64 c.Value,.lst 1 (c.Data.map qE) false,.lst 4 (c.Kids.map qA.enc) false,.lst 1 [] false,.slice 8 4 0 0 false,.nils,.slice 1 2 0 4 false,.int .i64 (l:Nat),.int .i64 0]] true,.row 8 [] true]) (Wks.refl _)
    (WkH.at' (i:=3) rfl (.cons (.agg (.same (.same (.same (.same (.same (.cons .nilL (.cons (.ph (by simp)) (.refl _))))))))) .nil))
    (SCall.ph (w:=6) (vs':=[.ptr 3 0 0,.int .i64 1]) (h2:=[.dead,.dead,.row 1 [.int .i64 0,.int .i64 0,.int .i64 0,.int .i64 0] true,
      .row 11 [.agg [.ept b.enc 0,.int .i64 c.Kind,.int .i64 c.Value,.lst 1 (c.Data.map qE) false,.lst 4 (c.Kids.map qA.enc) false,.lst 1 [] false,.slice 8 4 0 0 false,.slice 6 5 0 0 false,.slice 1 2 0 4 false,.int .i64 (l:Nat),.int .i64 0]] true,.row 8 [] true,.row 6 [] true]) (Wks.refl _)
    (WkH.at' (i:=3) rfl (.cons (.agg (.same (.same (.same (.same (.same (.same (.same (.cons (.ph (by simp)) (.refl _)))))))))) .nil))
    (s341 hbI 80 (P:=fun _=>False) (ci:=2) (id:=3) (M:=⟨⟨c,[]⟩,[],[]⟩) (cs:=[0,0,0,0]) (l:=l) (n:=0) (d:=1) rfl
      ⟨⟨4,5,[],rfl,rfl,rfl,by decide,by decide,by decide,by simp,by simp,by simp,fun j hj=>by rcases hj with hj | rfl;exact hj.elim;simp⟩,rfl,id,rfl⟩ hMI (by omega) (by omega)
      (fun h' hF _ h0=> ?_) fun h' _ h0=> ?_)))
  · rw [if_pos h0] at hv;have hck:=hF.k;simp only [go_sem];refine qY (k:=4) rfl qA.ln ⟨_,qA.enc_eq _⟩ (by decide) ?_;simp only [go_sem];obtain ⟨si,hi',ho,u1,u2⟩:=hF.left 0 0;clear u1 u2;have hp8:zp none 8 0 h'[3]?=some (.slice 1 2 0 4 false):=by rw [ho];rfl
    rw [hp8];simp only [go_sem];refine qY (k:=4) rfl qA.ln ⟨_,qA.enc_eq _⟩ (by decide) ?_;simp only [go_sem];exact qOV hv hck hF.c
  · rw [if_neg h0] at hv;simp only [go_sem];refine qY (k:=4) rfl qA.ln ⟨_,qA.enc_eq _⟩ (by decide) ?_;simp only [go_sem];refine qI ?_ ?_<;>intro hc<;>simp only [hc,go_sem]
    · try simp only [Xl,go_sem]
      refine qY (k:=4) rfl rfl ⟨_,rfl⟩ (by decide) ?_;simp only [go_sem];exact qFY hv
    · exact absurd (by simpa using hc) h0
end Go.Ab
namespace Go.Ab
open Go
set_option maxRecDepth 10000
set_option maxHeartbeats 2000000
def jn (xs:List Int):AV:=.lst 1 (xs.map qE) false
@[go_sem] theorem qg9 {xs:List Int}:(jn xs).part 0 none=some (jn xs):=nr rfl
theorem qMA (xss:List (List Int)):AV.trees (xss.map jn)=true:=by
  induction xss with
  | nil=>rfl
  | cons a xs ih=>simp [AV.trees,jn,AV.tree,zD shI.tree,ih]
@[go_sem] theorem qkF {xs:List Int}:Ze (some (jn xs))=some (.int .i64 (xs.length:Nat)):=by simp [jn,go_sem]
theorem Yx {α:Type} {xss:List (List α)} {i:Nat} (h:i<xss.length):(xss.take (i+1)).flatten=(xss.take i).flatten++xss[i]:=by rw [List.take_succ_eq_append_getElem h,List.flatten_append];rw [List.flatten_singleton]
theorem qI8 {α:Type} {xss:List (List α)} {i:Nat}:(xss.take i).flatten.length≤xss.flatten.length:=by
  have:xss.flatten=(xss.take i).flatten++(xss.drop i).flatten:=by rw [←List.flatten_append,List.take_append_drop]
  rw [this,lAp];omega
theorem qKS (k:List Int):AV.pls (k.map qE)=true:=jK (fun _=>rfl) k
theorem qM2 {E:Ev} {l:List qB} {ks:List Fr1} {s m:qZ} {h:List qC} {Q:qS→VSt→Prop} {w k id len:Nat} {b:AV} {xs js ys:List AV} (hy:Els h w b ys) (ho:h[id]?=some (.row w (xs++js) true)) (he:xs.length=len) (h0:0<ys.length) (hl:len+ys.length≤4294967296)
    (hr:R E (.ops l::ks) ⟨(k,.slice w h.length 0 (len+ys.length) false)::s,m,h.set id .dead++[.row w (xs++ys) true]⟩ Q):jE E w (some k) (some (.slice w id 0 len false)) (some b) l ks ⟨s,m,h⟩ Q:=by
  unfold jE;refine ⟨hy.1, ?_⟩;simp only [hy.2];refine ⟨rfl,by have:LIM=4294967296:=rfl;omega, ?_⟩;rw [ho];refine ⟨rfl,by simp;omega,.inr (.inl ⟨h0,rfl, ?_⟩)⟩;have e:((xs++js).drop 0).take len=xs:=by rw [List.drop_zero];exact List.take_left' he
  rw [e];exact hr
theorem qMZ {E:Ev} {l:List qB} {ks:List Fr1} {s m:qZ} {h:List qC} {Q:qS→VSt→Prop} {w k id len:Nat} {b:AV} {xs js:List AV} (hy:Els h w b []) (ho:h[id]?=some (.row w (xs++js) true)) (he:xs.length=len) (hl:len≤4294967296)
    (hr:R E (.ops l::ks) ⟨(k,.slice w id 0 len false)::s,m,h⟩ Q):jE E w (some k) (some (.slice w id 0 len false)) (some b) l ks ⟨s,m,h⟩ Q:=by
  unfold jE;refine ⟨hy.1, ?_⟩;simp only [hy.2];refine ⟨rfl,by have:LIM=4294967296:=rfl;simp;omega, ?_⟩;rw [ho];exact ⟨rfl,by simp;omega,.inr (.inr (.inr ⟨rfl,hr⟩))⟩
theorem qS7 {h:List qC} {K:AV→List qC→Prop} {n:Nat} (h0:0<n) (h1:n≤1000000) (hK:K (.slice 1 h.length 0 0 false) (h++[.row 1 (List.replicate n (.int .i64 0)) true])):SCall Gm 1138 [.nils,.int .i64 (n:Nat)] h K:=by
  refine SCall.run [] [] qPD (by kernel_rfl) rfl ?_;simp only [WG,qK,go_sem];refine qI ?_ ?_<;>intro hc<;>simp only [hc,go_sem]
  · have:=odT hc;omega
  have e0:IntKind.i64.wrap ((0:Int)-0)=0:=by rw [zC (by omega) (by omega)];rfl
  have e1:IntKind.i64.wrap ((n:Int)-IntKind.i64.wrap (0-0))=(n:Nat):=by rw [e0,Int.sub_zero,zC (by omega) (by omega)]
  simp only [e1,decide_eq_true (show (0:Int)<(n:Nat) by omega),go_sem];refine qGW (v:=.nils) (by simp [val,go_sem,bnd,AV.isNil]) ?_
  try simp only [go_sem,e1]
  refine ⟨by omega,by have:LIM=4294967296:=rfl;omega, ?_⟩;simp only [go_sem,Int.toNat_natCast];refine qGW (v:=.slice 1 h.length 0 0 false) (by simp [val,go_sem,bnd]) ?_;simp only [go_sem];exact hK
theorem n786 {xss:List (List Int)} (h0:0<xss.flatten.length) (h1:xss.length≤1000) (h2:xss.flatten.length≤1000000):Fresh Gm 786 [.lst 1 (xss.map jn) false] (.lst 1 (xss.flatten.map qE) false):=by
  refine Fresh.intro [] [] g786 (by kernel_rfl) rfl (by simp [AV.trees,AV.tree,qMA]) (by simp only [AV.pl];exact qKS _) ?_;simp only [Xi,qK,go_sem];refine Sem.loop (fun i:Nat=>i≤xss.length) (fun i=>(⟨[(0,.lst 1 (xss.map jn) false),(9,.lst 1 (xss.map jn) false),(10,.int .i64 (xss.length:Nat)),(3,.int .i64 ((xss.take i).flatten.length:Nat)),(11,.int .i64 (i:Nat))],[],[]⟩:VSt)) (fun i=>xss.length-i) 0 (by kernel_rfl) (Nat.zero_le _) (Can.sub (by simp [go_sem]) (by simp [go_sem])) ?_;rintro i hi;simp only [go_sem];refine qI ?_ ?_<;>intro hc<;>simp only [hc,go_sem]
  · have hlt:i<xss.length:=by have:=odT hc;omega
    simp only [List.getElem?_map,gEg hlt,Option.map_some,go_sem];have ht:(xss.take (i+1)).flatten.length=(xss.take i).flatten.length+xss[i].length:=by rw [Yx hlt,lAp]
    have hb:=qI8 (xss:=xss) (i:=i+1);rw [zC (by omega) (by omega),show (((xss.take i).flatten.length:Nat):Int)+((xss[i].length:Nat):Int)=(((xss.take (i+1)).flatten.length:Nat):Int) by omega];refine qI ?_ ?_<;>intro hc<;>simp only [hc,go_sem]
    · have:=odT hc;omega
    · simp only [zA (show i<4611686018427387904 by omega)];exact qx (i+1) (by omega) (by omega) (Can.sub (by simp [go_sem]) (by simp [go_sem]))
  · obtain rfl:i=xss.length:=by have:=odF hc;omega
    rw [List.take_length];refine qc (qS7 h0 h2 ?_);simp only [go_sem];refine Sem.loop (fun q:Nat×List AV=>q.1≤xss.length∧(q.2=[]∨(xss.take q.1).flatten=[])) (fun q=>(⟨[(25,.lst 1 (xss.map jn) false),(26,.int .i64 (xss.length:Nat)),(27,.int .i64 (q.1:Nat)),(6,.slice 1 0 0 (xss.take q.1).flatten.length false)],[],[.row 1 ((xss.take q.1).flatten.map qE++q.2) true]⟩:VSt)) (fun q=>xss.length-q.1) (0,List.replicate xss.flatten.length (.int .i64 0)) (by kernel_rfl) ⟨Nat.zero_le _,.inr rfl⟩ (Can.sub (by simp [go_sem]) (by simp [go_sem])) ?_;rintro ⟨i,js⟩ ⟨hi,hjs⟩;simp only at hi hjs⊢;simp only [Xj,go_sem];refine qI ?_ ?_<;>intro hc<;>simp only [hc,go_sem]
    · have hlt:i<xss.length:=by have:=odT hc;omega
      simp only [List.getElem?_map,gEg hlt,Option.map_some,go_sem];have hb:=qI8 (xss:=xss) (i:=i+1);have ht:(xss.take (i+1)).flatten.length=(xss.take i).flatten.length+xss[i].length:=by rw [Yx hlt,lAp]
      rcases Nat.eq_zero_or_pos xss[i].length with h0 | h0
      · have hn:=List.eq_nil_of_length_eq_zero h0;refine qMZ (xs:=(xss.take i).flatten.map qE) (js:=js) (by unfold jn;rw [hn];exact Els.lst) rfl (by rw [List.length_map]) (by omega) ?_;simp only [go_sem];simp only [zA (show i<4611686018427387904 by omega)];have e:(xss.take (i+1)).flatten=(xss.take i).flatten:=by rw [Yx hlt,hn,List.append_nil]
        refine qx (i+1,js) ⟨by simp only;omega,by simp only [e];exact hjs⟩ (by simp only;omega) ?_;simp only [e];exact Can.sub (by simp [go_sem]) (by simp [go_sem])
      · refine qM2 (ys:=xss[i].map qE) (xs:=(xss.take i).flatten.map qE) (js:=js) Els.lst rfl (by rw [List.length_map]) (by simpa using h0) (by rw [List.length_map];omega) ?_;simp only [go_sem];simp only [zA (show i<4611686018427387904 by omega)];refine qx (i+1,[]) ⟨by simp only;omega,.inl rfl⟩ (by simp only;omega) ?_;simp only [ht,List.length_map,List.append_nil];refine Can.renum [some 1] rfl ⟨.row rfl ?_,trivial⟩ ⟨⟨_,rfl,.tree (by simp only [AV.tree];exact qMA _)⟩,⟨_,rfl,.tree rfl⟩,⟨_,rfl,.tree rfl⟩,⟨_,rfl,.slice rfl⟩,trivial⟩ trivial;rw [Yx hlt,List.map_append];have t:=zD shI.tree ((xss.take i).flatten++xss[i]);rw [List.map_append] at t;exact VR2s.trees t
    · obtain rfl:i=xss.length:=by have:=odF hc;omega
      rw [List.take_length] at hjs⊢;have:js=[]:=by
        rcases hjs with h | h
        · exact h
        · rw [h] at h0;simp at h0
      subst this;clear hi;generalize xss.flatten=fl;exact QN (pre:=[]) (post:=[]) (by simp only [AV.pl];exact qKS _) (by simp [zI,lay]) (by simp [lay,qN,lI])
end Go.Ab
namespace Go.Ab
open Go
set_option maxRecDepth 10000
set_option maxHeartbeats 2000000
section
variable {P:Nat→Prop} {w:Nat} {pre post:List AV} {id j:Nat} {h:List qC} {M:qD} {K:AV→List qC→Prop} {b:qH}
theorem qLO {α:Type} {h:List α} {x y:α}:(h++[x]).set h.length y=h++[y]:=by simp [List.set_append]
theorem qMO {g:List qC} {e1 e2:Nat} {v:Int} {env:List Int} (h1:g[e1]?=some (.row 1 [.int .i64 v] true)) (h2:g[e2]?=some (.row 1 [.slice 1 e1 0 1 false,.lst 1 (env.map qE) false] true)):Cv g (.slice 1 e2 0 2 false) (.lst 1 ([[v],env].map jn) false):=
  .slc h2 (by simp) (by decide) rfl (fun p hp=>by
    simp at hp;rcases hp with rfl | rfl
    · exact Cv.row h1 rfl rfl (by decide)
    · exact .refl (by simp only [AV.tree];exact zD shI.tree _))
theorem layZ {ks:List Int} {n:Nat}:lay (.lst 1 (ks.map qE) false) n=(.slice 1 n 0 ks.length false,[.row 1 (ks.map qE) true]):=by simp [lay,lI]
theorem qS9 {ns:List Int} (hK:K (.fn 1406 [.ptr h.length 0 0]) (h++[.row 1 [.lst 1 (ns.map qE) false] true])):SCall Gm 1157 [.lst 1 (ns.map qE) false] h K:=by
  refine SCall.run [] [] qPK (by kernel_rfl) rfl ?_;simp only [WV,qK,go_sem];refine wm rfl ?_;simp only [go_sem];exact hK
theorem s829 (hj:pre.length=j) (hN:NSx P w pre post id h M) (hb:BI b) (hM:MI b M) (hv:M.Control.val=true) (hs:0<M.Stack.length)
    (hK:∀h',NSx P w pre post id h' M.meet.2→Keep P h h'→K (.int .i64 M.meet.1) h'):SCall Gm 829 [.ptr id 0 j] h K:=by
  have sl:=hM.sl;have ht:=hM.c.t;have hN1:NSx P w pre post id (h++[.dead]) M:=hN.out (P:=P) ⟨by simp,fun i hi _=>List.getElem?_append_left hi⟩ fun i hi=>⟨.inl hi,by have:=hN.pl hi;simp;omega⟩;have hK1:Keep P h (h++[.dead]):=⟨by simp,fun i hi=>List.getElem?_append_left (hN.pl hi)⟩;refine SCall.runW [1] [2] g829 (by kernel_rfl) rfl ?_;simp only [X0];simp only [qK,go_sem];simp only [List.contains_cons,List.contains_nil,Option.getD_some,Option.getD_none,Nat.reduceBEq,Bool.or_false,Bool.false_or,Bool.or_self,bFt,Bool.or_true,Bool.true_or,if_false,if_true,go_sem];refine wm rfl ?_;simp only [List.contains_cons,List.contains_nil,Option.getD_some,Option.getD_none,Nat.reduceBEq,Bool.or_false,Bool.false_or,Bool.or_self,bFt,Bool.or_true,Bool.true_or,if_false,if_true,go_sem];simp only [X2,List.getElem?_concat_length,go_sem];simp only [qLO];clear hN;have hN0:=hN1;generalize hh1:h++[qC.dead]=h1 at*;obtain ⟨si,hi,js,hN⟩:=hN1;simp only [List.contains_cons,List.contains_nil,Option.getD_some,Option.getD_none,Nat.reduceBEq,Bool.or_false,Bool.false_or,Bool.or_self,bFt,Bool.or_true,Bool.true_or,if_false,if_true,go_sem];simp only [hN.o,Nat.add_zero,ne0 hj,ne1 hj,ne2 hj,ne3 hj,ne4 hj,ne5 hj,ne6 hj,neT hj,neC hj,go_sem];simp only [QR hs (show M.Stack.length≤1000000 by omega),hN.s,Qt hs,go_sem];refine qY (k:=4) rfl qA.ln ⟨_,qA.enc_eq _⟩ (by decide) ?_;simp only [List.contains_cons,List.contains_nil,Option.getD_some,Option.getD_none,Nat.reduceBEq,Bool.or_false,Bool.false_or,Bool.or_self,bFt,Bool.or_true,Bool.true_or,if_false,if_true,go_sem];refine qY (k:=8) rfl qR.ln ⟨_,rfl⟩ (by decide) ?_;simp only [X3,X1];simp only [List.contains_cons,List.contains_nil,Option.getD_some,Option.getD_none,Nat.reduceBEq,Bool.or_false,Bool.false_or,Bool.or_self,bFt,Bool.or_true,Bool.true_or,if_false,if_true,go_sem];refine qI ?_ ?_<;>intro hc<;>simp only [hc,go_sem]
  · have q1:M.top.Kind=1:=odT hc;obtain ⟨a0,a1⟩:=(hM.s _ (wQ hs).2).a (.inl q1);have a2:M.top.Value.toNat<M.Heap.length:=by omega
    have e3:M.meet=(3,({M with Heap:=M.Heap.set M.top.Value.toNat ⟨true,M.Control⟩}:qD).pop):=by unfold qD.meet;rw [if_pos q1];rfl
    rw [e3] at hK;simp only [X8];simp only [List.contains_cons,List.contains_nil,Option.getD_some,Option.getD_none,Nat.reduceBEq,Bool.or_false,Bool.false_or,Bool.or_self,bFt,Bool.or_true,Bool.true_or,if_false,if_true,go_sem];simp only [hN.o,Nat.add_zero,ne0 hj,ne1 hj,ne2 hj,ne3 hj,ne4 hj,ne5 hj,ne6 hj,neT hj,neC hj,go_sem];simp only [jQ a0 (show M.top.Value<(M.Heap.length:Int) by omega),go_sem];refine qo rfl hN.t (by rw [List.getElem?_map,gEg a2];rfl) (jt (k:=6) qT.ln rfl ⟨fun _=>⟨_,rfl⟩,fun _=>⟨_,rfl⟩⟩ (by decide)) ?_;simp only [List.contains_cons,List.contains_nil,Option.getD_some,Option.getD_none,Nat.reduceBEq,Bool.or_false,Bool.false_or,Bool.or_self,bFt,Bool.or_true,Bool.true_or,if_false,if_true,go_sem];obtain ⟨n1,n2⟩:=hN.cell (M':={M with Heap:=M.Heap.set M.top.Value.toNat ⟨true,M.Control⟩}) rfl rfl (by simp);simp only [List.map_set] at n1 n2;refine qc (Jf QQ hj ⟨_,_,_,n1⟩ hs (show M.Stack.length≤1000000 by omega) fun h3 hN3 k3=> ?_);simp only [List.contains_cons,List.contains_nil,Option.getD_some,Option.getD_none,Nat.reduceBEq,Bool.or_false,Bool.false_or,Bool.or_self,bFt,Bool.or_true,Bool.true_or,if_false,if_true,go_sem];refine Sem.reg (by kernel_rfl) ?_;simp only [List.contains_cons,List.contains_nil,Option.getD_some,Option.getD_none,Nat.reduceBEq,Bool.or_false,Bool.false_or,Bool.or_self,bFt,Bool.or_true,Bool.true_or,if_false,if_true,go_sem];exact ⟨_,_,.refl _,.refl _,hK _ hN3 (hK1.trans (n2.trans k3))⟩
  have h1n:¬M.top.Kind=1:=odF hc;clear hc;have hkk:M.Control.Term.Kind=4∨M.Control.Term.Kind=2∨M.Control.Term.Kind=8:=by
    unfold qW.val at hv;split at hv
    · rename_i q;rcases q with q | q<;>simp [q]
    · split at hv
      · rename_i q;simp [q]
      · cases hv
  have pk:∀(h2:List qC),NSx P w pre post id h2 M.pop→Keep P h1 h2→Keep P h h2:=fun h2 _ k2=>hK1.trans k2;have hen:=hM.c.l;rcases hkk with hk | hk | hk
  · simp only [J9,X9];simp only [hk,Int.reduceEq,decide_true,decide_false,List.contains_cons,List.contains_nil,Option.getD_some,Option.getD_none,Nat.reduceBEq,Bool.or_false,Bool.false_or,Bool.or_self,bFt,Bool.or_true,Bool.true_or,if_false,if_true,go_sem];refine qI ?_ ?_<;>intro hc<;>simp only [hc,go_sem]
    · have q2:M.top.Kind=2:=odT hc;clear hc;have em:M.meet=((4:Int),M.pop.ctl ⟨M.Control.Term.kid 0,M.top.Value::M.Control.Env⟩):=by unfold qD.meet;rw [if_neg h1n,if_pos ⟨hk,q2⟩]
      rw [em] at hK;simp only [List.contains_cons,List.contains_nil,Option.getD_some,Option.getD_none,Nat.reduceBEq,Bool.or_false,Bool.false_or,Bool.or_self,bFt,Bool.or_true,Bool.true_or,if_false,if_true,go_sem];refine qc (Jf QQ hj hN0 hs (by omega) fun h2 hN2 k2=> ?_);simp only [List.contains_cons,List.contains_nil,Option.getD_some,Option.getD_none,Nat.reduceBEq,Bool.or_false,Bool.false_or,Bool.or_self,bFt,Bool.or_true,Bool.true_or,if_false,if_true,go_sem];clear hN;obtain ⟨si2,hi2,js2,hN⟩:=hN2;obtain ⟨hl,_⟩:=ht.lam hk;simp only [List.getElem?_map,gEg hl,Option.map_some,go_sem];simp only [hN.o,Nat.add_zero,ne0 hj,ne1 hj,ne2 hj,ne3 hj,ne4 hj,ne5 hj,ne6 hj,neT hj,neC hj,go_sem];generalize hgA:h2++[qC.row 1 [AV.int IntKind.i64 M.top.Value] true]++[qC.row 1 [AV.slice 1 h2.length 0 1 false,AV.lst 1 (List.map qE M.Control.Env) false] true]=gA;have x1:gA[h2.length]?=some (.row 1 [.int .i64 M.top.Value] true):=by rw [←hgA,List.getElem?_append_left (by simp),List.getElem?_concat_length]
      have x2:gA[h2.length+1]?=some (.row 1 [.slice 1 h2.length 0 1 false,.lst 1 (M.Control.Env.map qE) false] true):=by rw [←hgA,List.getElem?_append_right (by simp)];simp
      have x3:gA.length=h2.length+2:=by rw [←hgA];simp
      have x4:∀i,i<h2.length→gA[i]?=h2[i]?:=fun i hi=>by rw [←hgA,List.getElem?_append_left (by simp;omega),List.getElem?_append_left hi]
      have x5:([[M.top.Value],M.Control.Env]:List (List Int)).flatten=M.top.Value::M.Control.Env:=by simp
      rw [show (h2++[qC.row 1 [AV.int IntKind.i64 M.top.Value] true]).length=h2.length+1 by simp];refine qID (Cvs.cons (qMO x1 x2) Cvs.nil) (n786 (by rw [x5];simp) (by simp) (by rw [x5];simp;omega)) ?_;rw [x5,layZ];simp only;have g1:h2.length≤(gA++[qC.row 1 ((M.top.Value::M.Control.Env).map qE) true]).length:=by simp;omega
      have g2:∀i,i<h2.length→(gA++[qC.row 1 ((M.top.Value::M.Control.Env).map qE) true])[i]?=h2[i]?:=fun i hi=>by rw [List.getElem?_append_left (by omega),x4 i hi]
      have g3:(gA++[qC.row 1 ((M.top.Value::M.Control.Env).map qE) true])[gA.length]?=some (.row 1 ((M.top.Value::M.Control.Env).map qE) true):=List.getElem?_concat_length;simp only [List.contains_cons,List.contains_nil,Option.getD_some,Option.getD_none,Nat.reduceBEq,Bool.or_false,Bool.false_or,Bool.or_self,bFt,Bool.or_true,Bool.true_or,if_false,if_true,go_sem];refine qo rfl ((g2 _ (qi hN.o)).trans hN.o) rfl (zg hj rfl) ?_;simp only [List.contains_cons,List.contains_nil,Option.getD_some,Option.getD_none,Nat.reduceBEq,Bool.or_false,Bool.false_or,Bool.or_self,bFt,Bool.or_true,Bool.true_or,if_false,if_true,go_sem];obtain ⟨h3,c1,n1,n2⟩:=Yj (bb:=h.length) (t:=M.Control.Term.kid 0) hN g1 g2 g3 (by omega);rw [z6 hl] at c1;refine Sem.can (c1 _ _) (Sem.reg (by kernel_rfl) ?_);simp only [List.contains_cons,List.contains_nil,Option.getD_some,Option.getD_none,Nat.reduceBEq,Bool.or_false,Bool.false_or,Bool.or_self,bFt,Bool.or_true,Bool.true_or,if_false,if_true,go_sem];exact ⟨_,_,.refl _,.refl _,hK _ n1 (hK1.trans (k2.trans n2))⟩
    · have em:M.meet=((0:Int),M):=by
        have q2:¬M.top.Kind=2:=odF hc;unfold qD.meet;rw [if_neg h1n,if_neg (by omega),if_neg (by omega),if_neg (by omega),if_neg (by omega),if_neg (by omega)]
      rw [em] at hK;simp only [QA,J6,QB,J5,J7,J8];simp only [hk,Int.reduceEq,decide_true,decide_false,List.contains_cons,List.contains_nil,Option.getD_some,Option.getD_none,Nat.reduceBEq,Bool.or_false,Bool.false_or,Bool.or_self,bFt,Bool.or_true,Bool.true_or,if_false,if_true,go_sem];refine Sem.reg (by kernel_rfl) ?_;simp only [List.contains_cons,List.contains_nil,Option.getD_some,Option.getD_none,Nat.reduceBEq,Bool.or_false,Bool.false_or,Bool.or_self,bFt,Bool.or_true,Bool.true_or,if_false,if_true,go_sem];exact ⟨_,_,.refl _,.refl _,hK _ hN0 hK1⟩
  · simp only [J9,QA,J6];simp only [hk,Int.reduceEq,decide_true,decide_false,List.contains_cons,List.contains_nil,Option.getD_some,Option.getD_none,Nat.reduceBEq,Bool.or_false,Bool.false_or,Bool.or_self,bFt,Bool.or_true,Bool.true_or,if_false,if_true,go_sem];refine qI ?_ ?_<;>intro hc<;>simp only [hc,go_sem]
    · have q2:M.top.Kind=3:=odT hc;clear hc;have em:M.meet=((1:Int),(M.pop.push ⟨4,M.top.Value,[M.Control.Term.Value],noC⟩).ctl M.top.Closure):=by unfold qD.meet;rw [if_neg h1n,if_neg (by omega),if_pos ⟨hk,q2⟩]
      rw [em] at hK;simp only [List.contains_cons,List.contains_nil,Option.getD_some,Option.getD_none,Nat.reduceBEq,Bool.or_false,Bool.false_or,Bool.or_self,bFt,Bool.or_true,Bool.true_or,if_false,if_true,go_sem];refine qc (Jf QQ hj hN0 hs (by omega) fun h2 hN2 k2=> ?_);simp only [YA,YB];simp only [List.contains_cons,List.contains_nil,Option.getD_some,Option.getD_none,Nat.reduceBEq,Bool.or_false,Bool.false_or,Bool.or_self,bFt,Bool.or_true,Bool.true_or,if_false,if_true,go_sem];have x1:(h2++[qC.row 1 [AV.int .i64 M.Control.Term.Value] true])[h2.length]?=some (.row 1 ([M.Control.Term.Value].map qE) true):=List.getElem?_concat_length;have hpl:M.pop.Stack.length≤1000000:=by simp [qD.pop];omega
      have hN3:NSx P w pre post id (without [h2.length] (h2++[qC.row 1 [AV.int .i64 M.Control.Term.Value] true])) M.pop:=by
        refine hN2.out (P:=P) ⟨by rw [zy];simp,fun i hi _=>by rw [jh (by simp;omega),List.getElem?_append_left hi]⟩ fun i hi=>⟨.inl hi,by have:=hN2.pl hi;rw [zy];simp;omega⟩
      have hK3:Keep P h2 (without [h2.length] (h2++[qC.row 1 [AV.int .i64 M.Control.Term.Value] true])):=⟨by rw [zy];simp,fun i hi=>by have:=hN2.pl hi;rw [jh (by simp;omega),List.getElem?_append_left this]⟩;refine qc (SCall.giveH (vs':=[.ptr id 0 j,qR.enc ⟨4,M.top.Value,[M.Control.Term.Value],noC⟩]) [h2.length] (HCv.list (.same _) (HCv.list ?_ (HCv.refls []))) (Jg JT hj hN3 hpl ⟨4,M.top.Value,[M.Control.Term.Value],noC⟩ fun h3 hN4 k3=> ?_))
      · have q:=HCv.list (H:=only [h2.length] (h2++[qC.row 1 [AV.int .i64 M.Control.Term.Value] true])) (.same (.int .i64 4)) (HCv.list (.same (.int .i64 M.top.Value)) (HCv.list (V2 x1) (HCv.list (.same (.int .i64 0)) (HCv.list (.same (.int .i64 0))
          (HCv.list (.cv (.nils (w:=1) (c:=false)) rfl) (HCv.list (.cv (.nils (w:=4) (c:=false)) rfl) (HCv.list (.cv (.nils (w:=1) (c:=false)) rfl) (HCv.refls []))))))))
        exact .agg q.1 q.2
      simp only [List.contains_cons,List.contains_nil,Option.getD_some,Option.getD_none,Nat.reduceBEq,Bool.or_false,Bool.false_or,Bool.or_self,bFt,Bool.or_true,Bool.true_or,if_false,if_true,go_sem];clear hN;obtain ⟨si,hi,js,hN⟩:=hN4;refine qo rfl hN.o rfl (zg hj rfl) ?_;simp only [List.contains_cons,List.contains_nil,Option.getD_some,Option.getD_none,Nat.reduceBEq,Bool.or_false,Bool.false_or,Bool.or_self,bFt,Bool.or_true,Bool.true_or,if_false,if_true,go_sem];refine Sem.reg (by kernel_rfl) ?_;obtain ⟨n2,k4⟩:=hN.struct (post':=post) (M':=(M.pop.push ⟨4,M.top.Value,[M.Control.Term.Value],noC⟩).ctl M.top.Closure) (js':=js) rfl rfl;simp only [List.contains_cons,List.contains_nil,Option.getD_some,Option.getD_none,Nat.reduceBEq,Bool.or_false,Bool.false_or,Bool.or_self,bFt,Bool.or_true,Bool.true_or,if_false,if_true,go_sem];exact ⟨_,_,.refl _,.refl _,hK _ ⟨_,_,_,n2⟩ (hK1.trans (k2.trans (hK3.trans (k3.trans k4))))⟩
    have n3:¬M.top.Kind=3:=odF hc;clear hc;simp only [QB,J5];simp only [hk,Int.reduceEq,decide_true,decide_false,List.contains_cons,List.contains_nil,Option.getD_some,Option.getD_none,Nat.reduceBEq,Bool.or_false,Bool.false_or,Bool.or_self,bFt,Bool.or_true,Bool.true_or,if_false,if_true,go_sem];refine qI ?_ ?_<;>intro hc<;>simp only [hc,go_sem]
    · have q2:M.top.Kind=4:=odT hc;clear hc;have hd0:0<M.top.Data.length:=by have:=(hM.s _ (wQ hs).2).d q2;omega
      have em:M.meet=((5:Int),M.pop.ctl ⟨.mk 2 (opI M.top.Value M.top.Data[0] M.Control.Term.Value) [] [],[]⟩):=by unfold qD.meet;rw [if_neg h1n,if_neg (by omega),if_neg (by omega),if_pos ⟨hk,q2⟩,zZ hd0]
      rw [em] at hK;simp only [List.contains_cons,List.contains_nil,Option.getD_some,Option.getD_none,Nat.reduceBEq,Bool.or_false,Bool.false_or,Bool.or_self,bFt,Bool.or_true,Bool.true_or,if_false,if_true,go_sem];refine qc (Jf QQ hj hN0 hs (by omega) fun h2 hN2 k2=> ?_);simp only [YC];simp only [List.contains_cons,List.contains_nil,Option.getD_some,Option.getD_none,Nat.reduceBEq,Bool.or_false,Bool.false_or,Bool.or_self,bFt,Bool.or_true,Bool.true_or,if_false,if_true,go_sem];clear hN;obtain ⟨si2,hi2,js2,hN⟩:=hN2;simp only [List.getElem?_map,gEg hd0,Option.map_some,go_sem];simp only [qE];simp only [List.contains_cons,List.contains_nil,Option.getD_some,Option.getD_none,Nat.reduceBEq,Bool.or_false,Bool.false_or,Bool.or_self,bFt,Bool.or_true,Bool.true_or,if_false,if_true,go_sem];refine qL qNG ?_;simp only [List.contains_cons,List.contains_nil,Option.getD_some,Option.getD_none,Nat.reduceBEq,Bool.or_false,Bool.false_or,Bool.or_self,bFt,Bool.or_true,Bool.true_or,if_false,if_true,go_sem];refine qL c726 ?_;simp only [List.contains_cons,List.contains_nil,Option.getD_some,Option.getD_none,Nat.reduceBEq,Bool.or_false,Bool.false_or,Bool.or_self,bFt,Bool.or_true,Bool.true_or,if_false,if_true,go_sem];refine qo rfl hN.o rfl (zg hj rfl) ?_;simp only [List.contains_cons,List.contains_nil,Option.getD_some,Option.getD_none,Nat.reduceBEq,Bool.or_false,Bool.false_or,Bool.or_self,bFt,Bool.or_true,Bool.true_or,if_false,if_true,go_sem];refine Sem.reg (by kernel_rfl) ?_;obtain ⟨n1,n2⟩:=hN.struct (post':=post) (M':=M.pop.ctl ⟨.mk 2 (opI M.top.Value M.top.Data[0] M.Control.Term.Value) [] [],[]⟩) (js':=js2) rfl rfl;simp only [List.contains_cons,List.contains_nil,Option.getD_some,Option.getD_none,Nat.reduceBEq,Bool.or_false,Bool.false_or,Bool.or_self,bFt,Bool.or_true,Bool.true_or,if_false,if_true,go_sem];exact ⟨_,_,.refl _,WkH.set w9,hK _ ⟨_,_,_,n1⟩ (hK1.trans (k2.trans n2))⟩
    have n4:¬M.top.Kind=4:=odF hc;clear hc;simp only [J7];simp only [hk,Int.reduceEq,decide_true,decide_false,List.contains_cons,List.contains_nil,Option.getD_some,Option.getD_none,Nat.reduceBEq,Bool.or_false,Bool.false_or,Bool.or_self,bFt,Bool.or_true,Bool.true_or,if_false,if_true,go_sem];refine qI ?_ ?_<;>intro hc<;>simp only [hc,go_sem]
    · have q2:M.top.Kind=6:=odT hc;clear hc;have hd2:=(hM.s _ (wQ hs).2).l q2;have hd0:0<M.top.Data.length:=by omega
      have hd1:1<M.top.Data.length:=by omega
      simp only [List.contains_cons,List.contains_nil,Option.getD_some,Option.getD_none,Nat.reduceBEq,Bool.or_false,Bool.false_or,Bool.or_self,bFt,Bool.or_true,Bool.true_or,if_false,if_true,go_sem];refine qc (Jf QQ hj hN0 hs (by omega) fun h2 hN2 k2=> ?_);simp only [X4];simp only [List.contains_cons,List.contains_nil,Option.getD_some,Option.getD_none,Nat.reduceBEq,Bool.or_false,Bool.false_or,Bool.or_self,bFt,Bool.or_true,Bool.true_or,if_false,if_true,go_sem];clear hN;obtain ⟨si2,hi2,js2,hN⟩:=hN2;refine qL YZ ?_;simp only [List.contains_cons,List.contains_nil,Option.getD_some,Option.getD_none,Nat.reduceBEq,Bool.or_false,Bool.false_or,Bool.or_self,bFt,Bool.or_true,Bool.true_or,if_false,if_true,go_sem];by_cases hv0:M.Control.Term.Value=0
      · have em:M.meet=((6:Int),M.pop.toRef M.top.Data[1]):=by
          unfold qD.meet;rw [if_neg h1n,if_neg (by omega),if_neg (by omega),if_neg (by omega),if_pos ⟨hk,q2⟩,if_pos hv0,zZ hd1]
        rw [em] at hK;simp only [decide_eq_true hv0,if_true];simp only [List.getElem?_map,gEg hd1,Option.map_some,go_sem];simp only [qE];simp only [List.contains_cons,List.contains_nil,Option.getD_some,Option.getD_none,Nat.reduceBEq,Bool.or_false,Bool.false_or,Bool.or_self,bFt,Bool.or_true,Bool.true_or,if_false,if_true,go_sem];refine qL qFK ?_;simp only [List.contains_cons,List.contains_nil,Option.getD_some,Option.getD_none,Nat.reduceBEq,Bool.or_false,Bool.false_or,Bool.or_self,bFt,Bool.or_true,Bool.true_or,if_false,if_true,go_sem];refine qo rfl hN.o rfl (zg hj rfl) ?_;simp only [List.contains_cons,List.contains_nil,Option.getD_some,Option.getD_none,Nat.reduceBEq,Bool.or_false,Bool.false_or,Bool.or_self,bFt,Bool.or_true,Bool.true_or,if_false,if_true,go_sem];refine Sem.reg (by kernel_rfl) ?_;obtain ⟨n1,n2⟩:=hN.struct (post':=post) (M':=M.pop.toRef M.top.Data[1]) (js':=js2) rfl rfl;simp only [List.contains_cons,List.contains_nil,Option.getD_some,Option.getD_none,Nat.reduceBEq,Bool.or_false,Bool.false_or,Bool.or_self,bFt,Bool.or_true,Bool.true_or,if_false,if_true,go_sem];exact ⟨_,_,.refl _,WkH.set w9,hK _ ⟨_,_,_,n1⟩ (hK1.trans (k2.trans n2))⟩
      · have em:M.meet=((6:Int),M.pop.toRef M.top.Data[0]):=by
          unfold qD.meet;rw [if_neg h1n,if_neg (by omega),if_neg (by omega),if_neg (by omega),if_pos ⟨hk,q2⟩,if_neg hv0,zZ hd0]
        rw [em] at hK;simp only [decide_eq_false hv0,bFt,if_false];simp only [List.getElem?_map,gEg hd0,Option.map_some,go_sem];simp only [qE];simp only [List.contains_cons,List.contains_nil,Option.getD_some,Option.getD_none,Nat.reduceBEq,Bool.or_false,Bool.false_or,Bool.or_self,bFt,Bool.or_true,Bool.true_or,if_false,if_true,go_sem];refine qL qFK ?_;simp only [List.contains_cons,List.contains_nil,Option.getD_some,Option.getD_none,Nat.reduceBEq,Bool.or_false,Bool.false_or,Bool.or_self,bFt,Bool.or_true,Bool.true_or,if_false,if_true,go_sem];refine qo rfl hN.o rfl (zg hj rfl) ?_;simp only [List.contains_cons,List.contains_nil,Option.getD_some,Option.getD_none,Nat.reduceBEq,Bool.or_false,Bool.false_or,Bool.or_self,bFt,Bool.or_true,Bool.true_or,if_false,if_true,go_sem];refine Sem.reg (by kernel_rfl) ?_;obtain ⟨n1,n2⟩:=hN.struct (post':=post) (M':=M.pop.toRef M.top.Data[0]) (js':=js2) rfl rfl;simp only [List.contains_cons,List.contains_nil,Option.getD_some,Option.getD_none,Nat.reduceBEq,Bool.or_false,Bool.false_or,Bool.or_self,bFt,Bool.or_true,Bool.true_or,if_false,if_true,go_sem];exact ⟨_,_,.refl _,WkH.set w9,hK _ ⟨_,_,_,n1⟩ (hK1.trans (k2.trans n2))⟩
    · have n6:¬M.top.Kind=6:=odF hc;have em:M.meet=((0:Int),M):=by
        unfold qD.meet;rw [if_neg h1n,if_neg (by omega),if_neg (by omega),if_neg (by omega),if_neg (by omega),if_neg (by omega)]
      rw [em] at hK;simp only [J8];simp only [hk,Int.reduceEq,decide_true,decide_false,List.contains_cons,List.contains_nil,Option.getD_some,Option.getD_none,Nat.reduceBEq,Bool.or_false,Bool.false_or,Bool.or_self,bFt,Bool.or_true,Bool.true_or,if_false,if_true,go_sem];refine Sem.reg (by kernel_rfl) ?_;simp only [List.contains_cons,List.contains_nil,Option.getD_some,Option.getD_none,Nat.reduceBEq,Bool.or_false,Bool.false_or,Bool.or_self,bFt,Bool.or_true,Bool.true_or,if_false,if_true,go_sem];exact ⟨_,_,.refl _,.refl _,hK _ hN0 hK1⟩
  · simp only [J9,QA,J6,QB,J5,J7,J8];simp only [hk,Int.reduceEq,decide_true,decide_false,List.contains_cons,List.contains_nil,Option.getD_some,Option.getD_none,Nat.reduceBEq,Bool.or_false,Bool.false_or,Bool.or_self,bFt,Bool.or_true,Bool.true_or,if_false,if_true,go_sem];have none (em:M.meet=((0:Int),M)):K (.int .i64 0) h1:=by rw [em] at hK;exact hK _ hN0 hK1
    refine qq ?_ ?_<;>intro hc<;>simp only [hc,go_sem]
    · have q2:M.top.Kind=5:=odT hc;clear hc;refine qI ?_ ?_<;>intro hc<;>simp only [hc,go_sem]
      · have q3:M.Control.Term.Value<M.top.Data.length:=by simpa using hc
        clear hc;obtain ⟨v0,v1⟩:=ht.val8 hk;have hvl:M.Control.Term.Value.toNat<M.top.Data.length:=by omega
        have em:M.meet=((6:Int),({M.pop with Stack:=M.pop.Stack++(M.Control.Env.drop (M.Control.Env.length-M.Control.Env.length)).reverse.map (fr 2)}:qD).toRef M.top.Data[M.Control.Term.Value.toNat]):=by
          unfold qD.meet;rw [if_neg h1n,if_neg (by omega),if_neg (by omega),if_neg (by omega),if_neg (by omega),if_pos ⟨hk,q2,q3⟩,zZ hvl,Nat.sub_self];rfl
        rw [em] at hK;simp only [List.contains_cons,List.contains_nil,Option.getD_some,Option.getD_none,Nat.reduceBEq,Bool.or_false,Bool.false_or,Bool.or_self,bFt,Bool.or_true,Bool.true_or,if_false,if_true,go_sem];refine qc (Jf QQ hj hN0 hs (by omega) fun h2 hN2 k2=> ?_);simp only [X5,X6,X7];clear hN;have hN2':=hN2;obtain ⟨si2,hi2,js2,hN⟩:=hN2;simp only [List.contains_cons,List.contains_nil,Option.getD_some,Option.getD_none,Nat.reduceBEq,Bool.or_false,Bool.false_or,Bool.or_self,bFt,Bool.or_true,Bool.true_or,if_false,if_true,go_sem];simp only [hN.o,Nat.add_zero,ne0 hj,ne1 hj,ne2 hj,ne3 hj,ne4 hj,ne5 hj,ne6 hj,neT hj,neC hj,go_sem];refine qc (qS9 ?_);simp only [List.contains_cons,List.contains_nil,Option.getD_some,Option.getD_none,Nat.reduceBEq,Bool.or_false,Bool.false_or,Bool.or_self,bFt,Bool.or_true,Bool.true_or,if_false,if_true,go_sem];clear hN;refine Sem.rng (bid:=h2.length) (ns:=M.Control.Env) (cl:=false) (v1:=.ept (.ptr id 0 j) 0) (fun k g=>NSx P w pre post id g {M.pop with Stack:=M.pop.Stack++(M.Control.Env.drop (M.Control.Env.length-k)).reverse.map (fr 2)}∧Keep P h2 g)
          ⟨by kernel_rfl,by kernel_rfl⟩ (by decide) rfl List.getElem?_concat_length (by have:LIM=4294967296:=rfl;omega) rfl ?_ ?_ ?_
        · rw [qLO];refine ⟨?_,by simp,fun i hi=>List.getElem?_append_left (hN2'.pl hi)⟩;simp only [Nat.sub_zero,List.drop_length,List.reverse_nil,List.map_nil,List.append_nil];exact hN2'.out (P:=P) ⟨by simp,fun i hi _=>List.getElem?_append_left hi⟩ fun i hi=>⟨.inl hi,by have:=hN2'.pl hi;simp;omega⟩
        · rintro k n g ⟨gN,gK⟩ hk1 hk2;have hlt:M.Control.Env.length-1-k<M.Control.Env.length:=by omega
          have hn:n=M.Control.Env[M.Control.Env.length-1-k]:=by rw [gEg hlt] at hk2;exact (Option.some.inj hk2).symm
          have hsl:(M.pop.Stack++(M.Control.Env.drop (M.Control.Env.length-k)).reverse.map (fr 2)).length≤1000000:=by simp [qD.pop];omega
          simp only [go_sem];refine qc (SCall.arg (.same (.cons frW .nil)) (Jg JT hj gN hsl (fr 2 n) fun h3 hN3 k3=> ?_));simp only [go_sem];refine ⟨trivial, ?_,gK.trans k3⟩;have e:M.Control.Env.drop (M.Control.Env.length-(k+1))=n::M.Control.Env.drop (M.Control.Env.length-k):=by
            have:=List.drop_eq_getElem_cons hlt;rw [show M.Control.Env.length-1-k+1=M.Control.Env.length-k by omega,←hn,show M.Control.Env.length-1-k=M.Control.Env.length-(k+1) by omega] at this;exact this
          rw [e];simpa using hN3
        · rintro g ⟨gN,gK⟩;refine Sem.of (by kernel_rfl) ?_;obtain ⟨si,hi,js,hN⟩:=gN;simp only [List.contains_cons,List.contains_nil,Option.getD_some,Option.getD_none,Nat.reduceBEq,Bool.or_false,Bool.false_or,Bool.or_self,bFt,Bool.or_true,Bool.true_or,if_false,if_true,go_sem];rw [wn v0];simp only [List.getElem?_map,gEg hvl,Option.map_some,go_sem];simp only [qE];simp only [List.contains_cons,List.contains_nil,Option.getD_some,Option.getD_none,Nat.reduceBEq,Bool.or_false,Bool.false_or,Bool.or_self,bFt,Bool.or_true,Bool.true_or,if_false,if_true,go_sem];refine qL qFK ?_;simp only [List.contains_cons,List.contains_nil,Option.getD_some,Option.getD_none,Nat.reduceBEq,Bool.or_false,Bool.false_or,Bool.or_self,bFt,Bool.or_true,Bool.true_or,if_false,if_true,go_sem];refine qo rfl hN.o rfl (zg hj rfl) ?_;simp only [List.contains_cons,List.contains_nil,Option.getD_some,Option.getD_none,Nat.reduceBEq,Bool.or_false,Bool.false_or,Bool.or_self,bFt,Bool.or_true,Bool.true_or,if_false,if_true,go_sem];refine Sem.reg (by kernel_rfl) ?_;obtain ⟨n1,n2⟩:=hN.struct (post':=post) (M':=({M.pop with Stack:=M.pop.Stack++(M.Control.Env.drop (M.Control.Env.length-M.Control.Env.length)).reverse.map (fr 2)}:qD).toRef M.top.Data[M.Control.Term.Value.toNat]) (js':=js) rfl rfl;simp only [List.contains_cons,List.contains_nil,Option.getD_some,Option.getD_none,Nat.reduceBEq,Bool.or_false,Bool.false_or,Bool.or_self,bFt,Bool.or_true,Bool.true_or,if_false,if_true,go_sem];exact ⟨_,_,.refl _,WkH.set w9,hK _ ⟨_,_,_,n1⟩ (hK1.trans (k2.trans (gK.trans n2)))⟩
      · have n5:¬M.Control.Term.Value<M.top.Data.length:=by simpa using hc
        simp only [List.contains_cons,List.contains_nil,Option.getD_some,Option.getD_none,Nat.reduceBEq,Bool.or_false,Bool.false_or,Bool.or_self,bFt,Bool.or_true,Bool.true_or,if_false,if_true,go_sem];refine Sem.reg (by kernel_rfl) ?_;simp only [List.contains_cons,List.contains_nil,Option.getD_some,Option.getD_none,Nat.reduceBEq,Bool.or_false,Bool.false_or,Bool.or_self,bFt,Bool.or_true,Bool.true_or,if_false,if_true,go_sem];exact ⟨_,_,.refl _,.refl _,none (by
          unfold qD.meet;rw [if_neg h1n,if_neg (by omega),if_neg (by omega),if_neg (by omega),if_neg (by omega),if_neg (fun q=>n5 q.2.2)])⟩
    · have n5:¬M.top.Kind=5:=by simpa using hc
      simp only [List.contains_cons,List.contains_nil,Option.getD_some,Option.getD_none,Nat.reduceBEq,Bool.or_false,Bool.false_or,Bool.or_self,bFt,Bool.or_true,Bool.true_or,if_false,if_true,go_sem];refine Sem.reg (by kernel_rfl) ?_;simp only [List.contains_cons,List.contains_nil,Option.getD_some,Option.getD_none,Nat.reduceBEq,Bool.or_false,Bool.false_or,Bool.or_self,bFt,Bool.or_true,Bool.true_or,if_false,if_true,go_sem];exact ⟨_,_,.refl _,.refl _,none (by
        unfold qD.meet;rw [if_neg h1n,if_neg (by omega),if_neg (by omega),if_neg (by omega),if_neg (by omega),if_neg (by omega)])⟩
end
end Go.Ab
namespace Go.Ab
open Go
set_option maxRecDepth 10000
set_option maxHeartbeats 2000000
section
variable {P:Nat→Prop} {w:Nat} {pre post:List AV} {id j:Nat} {h:List qC} {M:qD} {K:AV→List qC→Prop} {b:qH}
theorem s830 (hj:pre.length=j) (hN:NSx P w pre post id h M) (hb:BI b) (hM:MI b M) (hv:M.Control.val=false)
    (hK:∀h',NSx P w pre post id h' (M.eval b).2→Keep P h h'→K (.int .i64 (M.eval b).1) h'):SCall Gm 830 [.ptr id 0 j,b.enc] h K:=by
  have hN0:=hN;obtain ⟨si,hi,js,hN⟩:=hN;have sl:=hM.sl;have hhl:=hM.hl;have ht:=hM.c.t;have hen:=hM.c.l;have hkn:=ht.kinds;have hlens:=VW ht.ok;have hcase:M.Control.Term.Kind=1∨M.Control.Term.Kind=5∨M.Control.Term.Kind=3∨M.Control.Term.Kind=9∨M.Control.Term.Kind=10∨M.Control.Term.Kind=11∨M.Control.Term.Kind=8:=by
    have h4:¬(M.Control.Term.Kind=4∨M.Control.Term.Kind=2):=fun q=>by unfold qW.val at hv;rw [if_pos q] at hv;cases hv
    omega
  have hMI0:∀{i:Nat} (hi:i<M.Control.Term.Kids.length),¬M.Control.Term.Kind=4→M.Control.Term.Kids[i].Kind=1→0≤M.Control.Term.Kids[i].Value∧M.Control.Term.Kids[i].Value.toNat<M.Control.Env.length:=fun hi h4 h1=>(ht.kid0 h4 hi).var h1;refine SCall.runW [] [] g830 (by kernel_rfl) rfl ?_;simp only [YD,qK,go_sem];refine qd rfl ?_;simp only [go_sem];simp only [hN.o,Nat.add_zero,ne0 hj,ne1 hj,ne2 hj,ne3 hj,ne4 hj,ne5 hj,ne6 hj,neT hj,neC hj,go_sem];refine qY (k:=4) rfl qA.ln ⟨_,qA.enc_eq _⟩ (by decide) ?_;simp only [go_sem];rcases hcase with hk | hk | hk | hk | hk | hk | hk
  · obtain ⟨v0,v1⟩:=ht.var hk;obtain ⟨a0,a1⟩:=hM.c.e _ (gMm v1);have em:M.eval b=((2:Int),M.enter M.Control.Env[M.Control.Term.Value.toNat]):=by unfold qD.eval;simp only [hk,Int.reduceEq,if_false,if_true,zZ v1]
    rw [em] at hK;simp only [hk,Int.reduceEq,decide_true,decide_false,List.contains_cons,List.contains_nil,Option.getD_some,Option.getD_none,Nat.reduceBEq,Bool.or_false,Bool.false_or,Bool.or_self,bFt,Bool.or_true,Bool.true_or,if_false,if_true,go_sem];simp only [hN.o,Nat.add_zero,ne0 hj,ne1 hj,ne2 hj,ne3 hj,ne4 hj,ne5 hj,ne6 hj,neT hj,neC hj,go_sem];rw [wn v0];simp only [List.getElem?_map,gEg v1,Option.map_some,go_sem];simp only [qE];simp only [List.contains_cons,List.contains_nil,Option.getD_some,Option.getD_none,Nat.reduceBEq,Bool.or_false,Bool.false_or,Bool.or_self,bFt,Bool.or_true,Bool.true_or,if_false,if_true,go_sem];refine qc (qTA hj hN0 (by omega) _ a0 (by omega) fun h2 hN2 k2=> ?_);simp only [List.contains_cons,List.contains_nil,Option.getD_some,Option.getD_none,Nat.reduceBEq,Bool.or_false,Bool.false_or,Bool.or_self,bFt,Bool.or_true,Bool.true_or,if_false,if_true,go_sem];exact ⟨_,_,.refl _,.refl _,hK _ hN2 k2⟩
  · have hl:=hlens.1 (.inr (.inl hk));have hl0:0<M.Control.Term.Kids.length:=by omega
    have hl1:1<M.Control.Term.Kids.length:=by omega
    have em:M.eval b=((1:Int),(((M.addr M.Control.Term.Kids[1]).2).push (fr 2 (M.addr M.Control.Term.Kids[1]).1)).ctl ⟨M.Control.Term.Kids[0],M.Control.Env⟩):=by
      unfold qD.eval;simp only [hk,Int.reduceEq,if_false,if_true,z6 hl0,z6 hl1]
    rw [em] at hK;simp only [hk,Int.reduceEq,decide_true,decide_false,List.contains_cons,List.contains_nil,Option.getD_some,Option.getD_none,Nat.reduceBEq,Bool.or_false,Bool.false_or,Bool.or_self,bFt,Bool.or_true,Bool.true_or,if_false,if_true,go_sem];simp only [List.getElem?_map,gEg hl1,Option.map_some,go_sem];obtain ⟨_,q2,_,q4,_,_,q7⟩:=hM.toMI0.addr (ht.kid0 (by omega) hl1);refine qc (qLJ hj hN0 (by omega) M.Control.Term.Kids[1] (hMI0 hl1 (by omega)) fun h2 hN2 k2=> ?_);simp only [List.contains_cons,List.contains_nil,Option.getD_some,Option.getD_none,Nat.reduceBEq,Bool.or_false,Bool.false_or,Bool.or_self,bFt,Bool.or_true,Bool.true_or,if_false,if_true,go_sem];refine qc (SCall.arg (.same (.cons frW .nil)) (Jg JT hj hN2 (by rw [q7];omega) (fr 2 (M.addr M.Control.Term.Kids[1]).1) fun h3 hN3 k3=> ?_));simp only [List.contains_cons,List.contains_nil,Option.getD_some,Option.getD_none,Nat.reduceBEq,Bool.or_false,Bool.false_or,Bool.or_self,bFt,Bool.or_true,Bool.true_or,if_false,if_true,go_sem];simp only [List.getElem?_map,gEg hl0,Option.map_some,go_sem];refine qc (Vm hj hN3 M.Control.Term.Kids[0] fun h4 hN4 k4=> ?_);simp only [List.contains_cons,List.contains_nil,Option.getD_some,Option.getD_none,Nat.reduceBEq,Bool.or_false,Bool.false_or,Bool.or_self,bFt,Bool.or_true,Bool.true_or,if_false,if_true,go_sem];simp only [q2] at hN4;exact ⟨_,_,.refl _,.refl _,hK _ hN4 (k2.trans (k3.trans k4))⟩
  · have hl:=hlens.1 (.inl hk);have hl0:0<M.Control.Term.Kids.length:=by omega
    have hl1:1<M.Control.Term.Kids.length:=by omega
    have em:M.eval b=((1:Int),(M.push ⟨3,M.Control.Term.Value,[],⟨M.Control.Term.Kids[1],M.Control.Env⟩⟩).ctl ⟨M.Control.Term.Kids[0],M.Control.Env⟩):=by
      unfold qD.eval;simp only [hk,Int.reduceEq,if_false,if_true,z6 hl0,z6 hl1]
    rw [em] at hK;simp only [hk,Int.reduceEq,decide_true,decide_false,List.contains_cons,List.contains_nil,Option.getD_some,Option.getD_none,Nat.reduceBEq,Bool.or_false,Bool.false_or,Bool.or_self,bFt,Bool.or_true,Bool.true_or,if_false,if_true,go_sem];simp only [List.getElem?_map,gEg hl1,Option.map_some,go_sem];simp only [hN.o,Nat.add_zero,ne0 hj,ne1 hj,ne2 hj,ne3 hj,ne4 hj,ne5 hj,ne6 hj,neT hj,neC hj,go_sem];refine qc (SCall.arg (.same (.cons (.agg (.same (.same (.cons .nilL (.refl _))))) .nil)) (Jg JT hj hN0 (by omega) ⟨3,M.Control.Term.Value,[],⟨M.Control.Term.Kids[1],M.Control.Env⟩⟩ fun h3 hN3 k3=> ?_));simp only [List.contains_cons,List.contains_nil,Option.getD_some,Option.getD_none,Nat.reduceBEq,Bool.or_false,Bool.false_or,Bool.or_self,bFt,Bool.or_true,Bool.true_or,if_false,if_true,go_sem];simp only [List.getElem?_map,gEg hl0,Option.map_some,go_sem];refine qc (Vm hj hN3 M.Control.Term.Kids[0] fun h4 hN4 k4=> ?_);simp only [List.contains_cons,List.contains_nil,Option.getD_some,Option.getD_none,Nat.reduceBEq,Bool.or_false,Bool.false_or,Bool.or_self,bFt,Bool.or_true,Bool.true_or,if_false,if_true,go_sem];exact ⟨_,_,.refl _,.refl _,hK _ hN4 (k3.trans k4)⟩
  · have hl:=hlens.2 (.inr (.inr (.inl hk)));have hl0:0<M.Control.Term.Kids.length:=by omega
    have em:M.eval b=((1:Int),(M.push ⟨5,0,M.Control.Term.Data,noC⟩).ctl ⟨M.Control.Term.Kids[0],M.Control.Env⟩):=by
      unfold qD.eval;simp only [hk,Int.reduceEq,if_false,if_true,z6 hl0]
    rw [em] at hK;simp only [hk,Int.reduceEq,decide_true,decide_false,List.contains_cons,List.contains_nil,Option.getD_some,Option.getD_none,Nat.reduceBEq,Bool.or_false,Bool.false_or,Bool.or_self,bFt,Bool.or_true,Bool.true_or,if_false,if_true,go_sem];refine qc (SCall.arg (.same (.cons Yy .nil)) (Jg JT hj hN0 (by omega) ⟨5,0,M.Control.Term.Data,noC⟩ fun h3 hN3 k3=> ?_));simp only [List.contains_cons,List.contains_nil,Option.getD_some,Option.getD_none,Nat.reduceBEq,Bool.or_false,Bool.false_or,Bool.or_self,bFt,Bool.or_true,Bool.true_or,if_false,if_true,go_sem];simp only [List.getElem?_map,gEg hl0,Option.map_some,go_sem];refine qc (Vm hj hN3 M.Control.Term.Kids[0] fun h4 hN4 k4=> ?_);simp only [List.contains_cons,List.contains_nil,Option.getD_some,Option.getD_none,Nat.reduceBEq,Bool.or_false,Bool.false_or,Bool.or_self,bFt,Bool.or_true,Bool.true_or,if_false,if_true,go_sem];exact ⟨_,_,.refl _,.refl _,hK _ hN4 (k3.trans k4)⟩
  · have hl:=hlens.2 (.inr (.inr (.inr hk)));have hl0:0<M.Control.Term.Kids.length:=by omega
    have em:M.eval b=((1:Int),(M.push ⟨6,0,M.Control.Term.Data,noC⟩).ctl ⟨M.Control.Term.Kids[0],M.Control.Env⟩):=by
      unfold qD.eval;simp only [hk,Int.reduceEq,if_false,if_true,z6 hl0]
    rw [em] at hK;simp only [hk,Int.reduceEq,decide_true,decide_false,List.contains_cons,List.contains_nil,Option.getD_some,Option.getD_none,Nat.reduceBEq,Bool.or_false,Bool.false_or,Bool.or_self,bFt,Bool.or_true,Bool.true_or,if_false,if_true,go_sem];refine qc (SCall.arg (.same (.cons Yy .nil)) (Jg JT hj hN0 (by omega) ⟨6,0,M.Control.Term.Data,noC⟩ fun h3 hN3 k3=> ?_));simp only [List.contains_cons,List.contains_nil,Option.getD_some,Option.getD_none,Nat.reduceBEq,Bool.or_false,Bool.false_or,Bool.or_self,bFt,Bool.or_true,Bool.true_or,if_false,if_true,go_sem];simp only [List.getElem?_map,gEg hl0,Option.map_some,go_sem];refine qc (Vm hj hN3 M.Control.Term.Kids[0] fun h4 hN4 k4=> ?_);simp only [List.contains_cons,List.contains_nil,Option.getD_some,Option.getD_none,Nat.reduceBEq,Bool.or_false,Bool.false_or,Bool.or_self,bFt,Bool.or_true,Bool.true_or,if_false,if_true,go_sem];exact ⟨_,_,.refl _,.refl _,hK _ hN4 (k3.trans k4)⟩
  · obtain ⟨v0,v1⟩:=ht.ref hk;have hvl:M.Control.Term.Value.toNat<b.Defs.length:=by omega
    have em:M.eval b=((7:Int),M.ctl ⟨b.Defs[M.Control.Term.Value.toNat],[]⟩):=by
      unfold qD.eval;simp only [hk,Int.reduceEq,if_false,if_true,zZ hvl]
    rw [em] at hK;simp only [hk,Int.reduceEq,decide_true,decide_false,List.contains_cons,List.contains_nil,Option.getD_some,Option.getD_none,Nat.reduceBEq,Bool.or_false,Bool.false_or,Bool.or_self,bFt,Bool.or_true,Bool.true_or,if_false,if_true,go_sem];rw [wn v0];simp only [List.getElem?_map,gEg hvl,Option.map_some,go_sem];simp only [Nat.add_zero];refine qo rfl hN.o rfl (zg hj rfl) ?_;simp only [List.contains_cons,List.contains_nil,Option.getD_some,Option.getD_none,Nat.reduceBEq,Bool.or_false,Bool.false_or,Bool.or_self,bFt,Bool.or_true,Bool.true_or,if_false,if_true,go_sem];obtain ⟨n1,n2⟩:=hN.struct (post':=post) (M':=M.ctl ⟨b.Defs[M.Control.Term.Value.toNat],[]⟩) (js':=js) rfl rfl;exact ⟨_,_,.refl _,WkH.set w9,hK _ ⟨_,_,_,n1⟩ n2⟩
  · have em:M.eval b=((8:Int),M.build M.Control.Term):=by
      unfold qD.eval;simp only [hk,Int.reduceEq,if_false,if_true]
    rw [em] at hK;simp only [hk,Int.reduceEq,decide_true,decide_false,List.contains_cons,List.contains_nil,Option.getD_some,Option.getD_none,Nat.reduceBEq,Bool.or_false,Bool.false_or,Bool.or_self,bFt,Bool.or_true,Bool.true_or,if_false,if_true,go_sem];refine qc (qTB hj hN0 M.Control.Term (by have:=ht.lens;omega) (by omega) (fun k hk' h1=>by
      obtain ⟨i,hi,rfl⟩:=List.mem_iff_getElem.1 hk';exact hMI0 hi (by omega) h1) fun h2 hN2 k2=> ?_)
    simp only [List.contains_cons,List.contains_nil,Option.getD_some,Option.getD_none,Nat.reduceBEq,Bool.or_false,Bool.false_or,Bool.or_self,bFt,Bool.or_true,Bool.true_or,if_false,if_true,go_sem];exact ⟨_,_,.refl _,.refl _,hK _ hN2 k2⟩
theorem s466 (hj:pre.length=j) (hN:NSx P w pre post id h M) (hb:BI b) (hM:MI b M) (hd:M.done=false)
    (hK:∀h',NSx P w pre post id h' (M.step b).2.2→Keep P h h'→K (.tup [.int .i64 (M.step b).1,.int .i64 (M.step b).2.1]) h'):SCall Gm 466 [.ptr id 0 j,b.enc] h K:=by
  have hz:M.Control.sz≤1048576:=by have:=hM.c.t.sz;have:=hM.c.l;unfold qW.sz;omega
  refine SCall.run [] [] g466 (by kernel_rfl) rfl ?_;simp only [XJ,qK,go_sem];refine qd rfl ?_;simp only [go_sem];refine qc (s670 hj hN hz ?_);rw [hd];simp only [go_sem];have hN0:=hN;obtain ⟨si,hi,js,hN⟩:=hN;simp only [hN.o,Nat.add_zero,ne0 hj,ne1 hj,ne2 hj,ne3 hj,ne4 hj,ne5 hj,ne6 hj,neT hj,neC hj,go_sem];refine qL (c673 hz) ?_;simp only [go_sem];clear hN si hi js;have es:M.step b=if (M.move b).1=0 then (0,5,(M.move b).2) else if 2000<(M.move b).2.Heap.length∨400<(M.move b).2.Stack.length∨256<(M.move b).2.Control.Env.length then (0,4,(M.move b).2) else ((M.move b).1,0,(M.move b).2):=rfl;refine qI ?_ ?_<;>intro hc<;>simp only [hc,go_sem]
  · have hv:M.Control.val=true:=hc;have hmv:M.move b=M.meet:=by unfold qD.move;rw [if_pos hv]
    rw [hmv] at es;refine qc (s829 hj hN0 hb hM hv (MI.pos hd hv) fun h2 hN2 k2=> ?_);generalize M.meet=r at*;simp only [go_sem];refine qI ?_ ?_<;>intro hc<;>simp only [hc,go_sem]
    · rw [es,if_pos (odT hc)] at hK;exact hK _ hN2 k2
    have h0:=odF hc;rw [es,if_neg h0] at hK;obtain ⟨si,hi,js,hN⟩:=hN2;clear hmv;obtain ⟨k,M⟩:=r;simp only at hN hK;simp only [hN.o,Nat.add_zero,ne0 hj,ne1 hj,ne2 hj,ne3 hj,ne4 hj,ne5 hj,ne6 hj,neT hj,neC hj,go_sem];refine qq ?_ ?_<;>intro hc<;>simp only [hc,go_sem]
    · have g1:=odF hc;simp only [hN.o,Nat.add_zero,ne0 hj,ne1 hj,ne2 hj,ne3 hj,ne4 hj,ne5 hj,ne6 hj,neT hj,neC hj,go_sem];refine qq ?_ ?_<;>intro hc<;>simp only [hc,go_sem]
      · have g2:=odF hc;simp only [hN.o,Nat.add_zero,ne0 hj,ne1 hj,ne2 hj,ne3 hj,ne4 hj,ne5 hj,ne6 hj,neT hj,neC hj,go_sem];refine qI ?_ ?_<;>intro hc<;>simp only [hc,go_sem]
        · have g3:=odT hc;rw [if_pos (by omega)] at hK;exact hK _ ⟨_,_,_,hN⟩ k2
        · have g3:=odF hc;rw [if_neg (by omega)] at hK;exact hK _ ⟨_,_,_,hN⟩ k2
      · have g2:=odT (by simpa using hc);rw [if_pos (by omega)] at hK;exact hK _ ⟨_,_,_,hN⟩ k2
    · have g1:=odT (by simpa using hc);rw [if_pos (by omega)] at hK;exact hK _ ⟨_,_,_,hN⟩ k2
  · have hv:M.Control.val=false:=hc;have hmv:M.move b=M.eval b:=JJ hv;rw [hmv] at es;refine qc (s830 hj hN0 hb hM hv fun h2 hN2 k2=> ?_);generalize M.eval b=r at*;simp only [go_sem];refine qI ?_ ?_<;>intro hc<;>simp only [hc,go_sem]
    · rw [es,if_pos (odT hc)] at hK;exact hK _ hN2 k2
    have h0:=odF hc;rw [es,if_neg h0] at hK;obtain ⟨si,hi,js,hN⟩:=hN2;clear hmv;obtain ⟨k,M⟩:=r;simp only at hN hK;simp only [hN.o,Nat.add_zero,ne0 hj,ne1 hj,ne2 hj,ne3 hj,ne4 hj,ne5 hj,ne6 hj,neT hj,neC hj,go_sem];refine qq ?_ ?_<;>intro hc<;>simp only [hc,go_sem]
    · have g1:=odF hc;simp only [hN.o,Nat.add_zero,ne0 hj,ne1 hj,ne2 hj,ne3 hj,ne4 hj,ne5 hj,ne6 hj,neT hj,neC hj,go_sem];refine qq ?_ ?_<;>intro hc<;>simp only [hc,go_sem]
      · have g2:=odF hc;simp only [hN.o,Nat.add_zero,ne0 hj,ne1 hj,ne2 hj,ne3 hj,ne4 hj,ne5 hj,ne6 hj,neT hj,neC hj,go_sem];refine qI ?_ ?_<;>intro hc<;>simp only [hc,go_sem]
        · have g3:=odT hc;rw [if_pos (by omega)] at hK;exact hK _ ⟨_,_,_,hN⟩ k2
        · have g3:=odF hc;rw [if_neg (by omega)] at hK;exact hK _ ⟨_,_,_,hN⟩ k2
      · have g2:=odT (by simpa using hc);rw [if_pos (by omega)] at hK;exact hK _ ⟨_,_,_,hN⟩ k2
    · have g1:=odT (by simpa using hc);rw [if_pos (by omega)] at hK;exact hK _ ⟨_,_,_,hN⟩ k2
end
end Go.Ab
namespace Go.Ab
open Go
set_option maxRecDepth 10000
set_option maxHeartbeats 2000000
structure IS (P:Nat→Prop) (ci cid nid id:Nat) (h:List qC) (M:qD) (cs:List Int) (l n:Nat):Prop where
  m:NSx (fun i=>P i∨i=ci∨i=cid∨i=nid) 7 [] [] id h M
  c:h[ci]?=some (.row 1 (cs.map qE) true)
  o:h[cid]?=some (.row 2 [.agg [.slice 1 ci 0 4 false,.int .i64 (l:Nat)]] true)
  q:h[nid]?=some (.row 1 [.int .i64 (n:Nat)] true)
  d1:ci≠cid
  d2:ci≠nid
  d3:cid≠nid
  p1:¬P ci
  p2:¬P cid
  p3:¬P nid
  k:cs.length=4
section
variable {P Q:Nat→Prop} {b:qH} {ci cid nid id:Nat} {h h':List qC} {M M':qD} {cs cs':List Int} {l n l' n':Nat} {K:AV→List qC→Prop}
theorem IS.pl (hF:IS P ci cid nid id h M cs l n) {i:Nat} (hi:P i):i<h.length:=hF.m.pl (.inl hi)
theorem IS.go (hF:IS P ci cid nid id h M cs l n) (hN:NSx (fun i=>P i∨i=ci∨i=cid∨i=nid) 7 [] [] id h' M') (hk:Keep (fun i=>P i∨i=ci∨i=cid∨i=nid) h h'):IS P ci cid nid id h' M' cs l n∧Keep P h h':=
  ⟨⟨hN,(hk.2 ci (.inr (.inl rfl))).trans hF.c,(hk.2 cid (.inr (.inr (.inl rfl)))).trans hF.o,(hk.2 nid (.inr (.inr (.inr rfl)))).trans hF.q,hF.d1,hF.d2,hF.d3,hF.p1,hF.p2,hF.p3,hF.k⟩,hk.sub fun _=>.inl⟩
theorem IS.out (hF:IS P ci cid nid id h M cs l n) (ho:Outs P h h') (hq:∀j,Q j→(P j∨h.length≤j)∧j<h'.length):IS Q ci cid nid id h' M cs l n:=by
  have c1:=qi hF.c;have c2:=qi hF.o;have c3:=qi hF.q;have hn:∀i,i<h.length→¬P i→¬Q i:=fun i hi hp q=>by
    rcases (hq _ q).1 with q | q
    · exact hp q
    · omega
  refine ⟨hF.m.out (P:=fun i=>P i∨i=ci∨i=cid∨i=nid) ⟨ho.1,fun j hj hnj=>ho.2 j hj fun q=>hnj (.inl q)⟩ fun j hj=> ?_,(ho.2 ci c1 hF.p1).trans hF.c,(ho.2 cid c2 hF.p2).trans hF.o,(ho.2 nid c3 hF.p3).trans hF.q,hF.d1,hF.d2,hF.d3,hn _ c1 hF.p1,hn _ c2 hF.p2,hn _ c3 hF.p3,hF.k⟩;have:=ho.1;rcases hj with hj | rfl | rfl | rfl
  · obtain ⟨q1,q2⟩:=hq j hj;exact ⟨q1.elim (fun q=>.inl (.inl q)) .inr,q2⟩
  · exact ⟨.inl (.inr (.inl rfl)),by omega⟩
  · exact ⟨.inl (.inr (.inr (.inl rfl))),by omega⟩
  · exact ⟨.inl (.inr (.inr (.inr rfl))),by omega⟩
theorem IS.mset (hF:IS P ci cid nid id h M cs l n) {x:Nat} {o:qC} (hx:x=ci∨x=cid∨x=nid):NSx (fun i=>P i∨i=ci∨i=cid∨i=nid) 7 [] [] id (h.set x o) M∧Keep P h (h.set x o):=by
  refine ⟨hF.m.out (P:=fun i=>P i∨i=ci∨i=cid∨i=nid) ⟨by simp,fun j hj hnj=>by rw [List.getElem?_set_ne];rintro rfl;exact hnj (.inr hx)⟩ fun j hj=>⟨.inl hj,by rw [List.length_set];exact hF.m.pl hj⟩,by simp,fun j hj=> ?_⟩;rw [List.getElem?_set_ne];rintro rfl;rcases hx with rfl | rfl | rfl
  · exact hF.p1 hj
  · exact hF.p2 hj
  · exact hF.p3 hj
theorem IS.left (hF:IS P ci cid nid id h M cs l n) (l':Nat):IS P ci cid nid id (h.set cid (.row 2 [.agg [.slice 1 ci 0 4 false,.int .i64 (l':Nat)]] true)) M cs l' n∧Keep P h (h.set cid (.row 2 [.agg [.slice 1 ci 0 4 false,.int .i64 (l':Nat)]] true)):=by
  obtain ⟨n1,n2⟩:=hF.mset (x:=cid) (o:=.row 2 [.agg [.slice 1 ci 0 4 false,.int .i64 (l':Nat)]] true) (.inr (.inl rfl));exact ⟨⟨n1,by rw [List.getElem?_set_ne (Ne.symm hF.d1)];exact hF.c,by rw [List.getElem?_set,if_pos rfl,if_pos (qi hF.o)],by rw [List.getElem?_set_ne hF.d3];exact hF.q,hF.d1,hF.d2,hF.d3,hF.p1,hF.p2,hF.p3,hF.k⟩,n2⟩
theorem IS.nodes (hF:IS P ci cid nid id h M cs l n) (n':Nat):IS P ci cid nid id (h.set nid (.row 1 [.int .i64 (n':Nat)] true)) M cs l n'∧Keep P h (h.set nid (.row 1 [.int .i64 (n':Nat)] true)):=by
  obtain ⟨n1,n2⟩:=hF.mset (x:=nid) (o:=.row 1 [.int .i64 (n':Nat)] true) (.inr (.inr rfl));exact ⟨⟨n1,by rw [List.getElem?_set_ne (Ne.symm hF.d2)];exact hF.c,by rw [List.getElem?_set_ne (Ne.symm hF.d3)];exact hF.o,by rw [List.getElem?_set,if_pos rfl,if_pos (qi hF.q)],hF.d1,hF.d2,hF.d3,hF.p1,hF.p2,hF.p3,hF.k⟩,n2⟩
theorem IS.cnts (hF:IS P ci cid nid id h M cs l n) (hl:cs'.length=4):IS P ci cid nid id (h.set ci (.row 1 (cs'.map qE) true)) M cs' l n∧Keep P h (h.set ci (.row 1 (cs'.map qE) true)):=by
  obtain ⟨n1,n2⟩:=hF.mset (x:=ci) (o:=.row 1 (cs'.map qE) true) (.inl rfl);exact ⟨⟨n1,by rw [List.getElem?_set,if_pos rfl,if_pos (qi hF.c)],by rw [List.getElem?_set_ne hF.d1];exact hF.o,by rw [List.getElem?_set_ne hF.d2];exact hF.q,hF.d1,hF.d2,hF.d3,hF.p1,hF.p2,hF.p3,hl⟩,n2⟩
theorem IS.junk (hF:IS P ci cid nid id h M cs l n) {o:qC}:IS P ci cid nid id (h++[o]) M cs l n∧Keep P h (h++[o]):=
  ⟨hF.out ⟨by simp,fun j hj _=>List.getElem?_append_left hj⟩ fun j hj=>⟨.inl hj,by have:=hF.pl hj;simp;omega⟩,by simp,fun j hj=>List.getElem?_append_left (hF.pl hj)⟩
theorem qP3 {kd:Int} (h:0≤kd∧kd≤8):jH (fun k=>decide (kd=k)) [4,5,6,7] 0=if 4≤kd∧kd≤7 then kd-4 else-1:=by
  have:kd=0∨kd=1∨kd=2∨kd=3∨kd=4∨kd=5∨kd=6∨kd=7∨kd=8:=by omega
  rcases this with rfl | rfl | rfl | rfl | rfl | rfl | rfl | rfl | rfl<;>rfl
theorem s478 (hb:BI b) (hF:IS P ci cid nid id h M cs l n) (hM:MI b M) (hl:l≤20000)
    (hK0:∀h',IS P ci cid nid id h' (qU b l M cs).2.1 (qU b l M cs).2.2.1 (qU b l M cs).2.2.2 n→Keep P h h'→(qU b l M cs).1=0→K (.int .i64 0) h')
    (hK1:∀h',Keep P h h'→(qU b l M cs).1≠0→K (.int .i64 (qU b l M cs).1) h'):SCall Gm 478 [.ptr cid 0 0,b.enc,.ptr id 0 0] h K:=by
  refine SCall.run [] [] g478 (by kernel_rfl) rfl ?_;simp only [XL,qK,go_sem];refine qd rfl ?_;simp only [go_sem];refine Sem.loop (fun q:List qC×qD×List Int×Nat=>IS P ci cid nid id q.1 q.2.1 q.2.2.1 q.2.2.2 n∧MI b q.2.1∧q.2.2.2≤20000∧Keep P h q.1∧qU b l M cs=qU b q.2.2.2 q.2.1 q.2.2.1)
    (fun q=>(⟨[(0,.ptr cid 0 0),(2,.ptr id 0 0)],[(4,b.enc)],q.1⟩:VSt)) (fun q=>q.2.2.2) (h,M,cs,l) (by kernel_rfl) ⟨hF,hM,hl,.refl,rfl⟩ (Can.sub (by simp [go_sem]) (by simp [go_sem])) ?_
  rintro ⟨g,M1,cs1,l1⟩ ⟨gF,gM,gl,gK,gr⟩;simp only at gF gM gl gK gr⊢;rw [gr] at hK0 hK1;have hz:M1.Control.sz≤1048576:=by have:=gM.c.t.sz;have:=gM.c.l;unfold qW.sz;omega
  simp only [go_sem];refine qc (s670 rfl gF.m hz ?_);simp only [go_sem];refine qI ?_ ?_<;>intro hc<;>simp only [hc,go_sem]
  · have hd:M1.done=false:=by simpa using hc
    clear hc;have hp1:zp none 1 0 g[cid]?=some (.int .i64 (l1:Nat)):=by rw [gF.o];rfl
    try simp only [List.contains_cons,List.contains_nil,Option.getD_some,Option.getD_none,Nat.reduceBEq,Bool.or_false,Bool.false_or,Bool.or_self,bFt,Bool.or_true,Bool.true_or,if_false,if_true,go_sem]
    rw [hp1]
    try simp only [List.contains_cons,List.contains_nil,Option.getD_some,Option.getD_none,Nat.reduceBEq,Bool.or_false,Bool.false_or,Bool.or_self,bFt,Bool.or_true,Bool.true_or,if_false,if_true,go_sem]
    refine qI ?_ ?_<;>intro hc<;>simp only [hc,go_sem]
    · have h0:l1=0:=by have:=odT hc;omega
      subst h0;have e:qU b 0 M1 cs1=(12,M1,cs1,0):=by unfold qU;rw [hd];rfl
      rw [e] at hK1;exact hK1 _ gK (show ¬(12:Int)=0 by decide)
    have h0:l1≠0:=by have:=odF hc;omega
    clear hc hp1;obtain ⟨l2,rfl⟩:∃l2,l1=l2+1:=⟨l1-1,by omega⟩;have e:qU b (l2+1) M1 cs1=if (M1.step b).2.1≠0 then ((M1.step b).2.1,(M1.step b).2.2,cs1,l2+1) else qU b l2 (M1.step b).2.2 (cnt cs1 (M1.step b).1):=by
      conv=>lhs;unfold qU
      rw [hd];rfl
    simp only [XM]
    try simp only [List.contains_cons,List.contains_nil,Option.getD_some,Option.getD_none,Nat.reduceBEq,Bool.or_false,Bool.false_or,Bool.or_self,bFt,Bool.or_true,Bool.true_or,if_false,if_true,go_sem]
    refine qc (s466 rfl gF.m hb gM hd fun g2 hN2 k2=> ?_)
    try simp only [List.contains_cons,List.contains_nil,Option.getD_some,Option.getD_none,Nat.reduceBEq,Bool.or_false,Bool.false_or,Bool.or_self,bFt,Bool.or_true,Bool.true_or,if_false,if_true,go_sem]
    obtain ⟨gF2,gK2⟩:=gF.go hN2 k2;refine qI ?_ ?_<;>intro hc<;>simp only [hc,go_sem]
    · have h1:(M1.step b).2.1≠0:=by simpa using hc
      rw [e,if_pos h1] at hK1;exact hK1 _ (gK.trans gK2) h1
    have h1:(M1.step b).2.1=0:=by simpa using hc
    clear hc;rw [e,if_neg (by simpa using h1)] at hK0 hK1 gr;have gM2:=gM.step hb hd h1;have hkd:=qKE (M:=M1) (b:=b);generalize hst:M1.step b=st at*;obtain ⟨kd,c0,M2⟩:=st;simp only at hN2 gF2 gM2 hK0 hK1 gr hkd⊢;have hp1:zp none 1 0 g2[cid]?=some (.int .i64 ((l2+1:Nat):Int)):=by rw [gF2.o];rfl
    try simp only [List.contains_cons,List.contains_nil,Option.getD_some,Option.getD_none,Nat.reduceBEq,Bool.or_false,Bool.false_or,Bool.or_self,bFt,Bool.or_true,Bool.true_or,if_false,if_true,go_sem]
    rw [hp1]
    try simp only [List.contains_cons,List.contains_nil,Option.getD_some,Option.getD_none,Nat.reduceBEq,Bool.or_false,Bool.false_or,Bool.or_self,bFt,Bool.or_true,Bool.true_or,if_false,if_true,go_sem]
    rw [zC (n:=((l2+1:Nat):Int)-1) (by omega) (by omega),show ((l2+1:Nat):Int)-1=(l2:Nat) by omega];refine qo rfl gF2.o rfl (show (AV.agg [.slice 1 ci 0 4 false,.int .i64 ((l2+1:Nat):Int)]).put 1 (.int .i64 (l2:Nat))=some (.agg [.slice 1 ci 0 4 false,.int .i64 (l2:Nat)]) from rfl) ?_;simp only [List.set_cons_zero];obtain ⟨gF3,gK3⟩:=gF2.left l2;generalize List.set g2 cid _=g3 at*
    try simp only [List.contains_cons,List.contains_nil,Option.getD_some,Option.getD_none,Nat.reduceBEq,Bool.or_false,Bool.false_or,Bool.or_self,bFt,Bool.or_true,Bool.true_or,if_false,if_true,go_sem]
    rw [fil4]
    try simp only [List.contains_cons,List.contains_nil,Option.getD_some,Option.getD_none,Nat.reduceBEq,Bool.or_false,Bool.false_or,Bool.or_self,bFt,Bool.or_true,Bool.true_or,if_false,if_true,go_sem]
    obtain ⟨gF4,gK4⟩:=gF3.junk (o:=.row 1 [.int .i64 4,.int .i64 5,.int .i64 6,.int .i64 7] true);refine jY (vs':=[.lst 1 (([4,5,6,7]:List Int).map qE) false,.int .i64 kd]) (Cvs.cons (Cv.row (List.getElem?_concat_length (l:=g3) (a:=qC.row 1 [.int .i64 4,.int .i64 5,.int .i64 6,.int .i64 7] true)) rfl rfl (by decide)) (Cvs.cons (.refl rfl) Cvs.nil)) (c834 (n:=kd) (xs:=[4,5,6,7]) (by simp)) rfl ?_;rw [qP3 hkd];generalize g3++[qC.row 1 [.int .i64 4,.int .i64 5,.int .i64 6,.int .i64 7] true]=g4 at*;by_cases hk:4≤kd∧kd≤7
    · rw [if_pos hk];have hi:(kd-4).toNat<cs1.length:=by have:=gF4.k;omega
      have e1:cnt cs1 kd=cs1.set (kd-4).toNat (IntKind.i64.wrap (cs1[(kd-4).toNat]+1)):=by unfold cnt;rw [if_pos hk,zZ hi]
      obtain ⟨gF5,gK5⟩:=gF4.cnts (cs':=cnt cs1 kd) (by rw [qFP];exact gF4.k);rw [e1,List.map_set] at gF5 gK5
      try simp only [List.contains_cons,List.contains_nil,Option.getD_some,Option.getD_none,Nat.reduceBEq,Bool.or_false,Bool.false_or,Bool.or_self,bFt,Bool.or_true,Bool.true_or,if_false,if_true,go_sem]
      simp only [decide_eq_true (show (0:Int)≤kd-4 by omega)]
      try simp only [List.contains_cons,List.contains_nil,Option.getD_some,Option.getD_none,Nat.reduceBEq,Bool.or_false,Bool.false_or,Bool.or_self,bFt,Bool.or_true,Bool.true_or,if_false,if_true,go_sem]
      have hp0:zp none 0 0 g4[cid]?=some (.slice 1 ci 0 4 false):=by rw [gF4.o];rfl
      rw [hp0]
      try simp only [List.contains_cons,List.contains_nil,Option.getD_some,Option.getD_none,Nat.reduceBEq,Bool.or_false,Bool.false_or,Bool.or_self,bFt,Bool.or_true,Bool.true_or,if_false,if_true,go_sem]
      rw [jQ (by omega) (by omega)];have hpc:zp none 0 (kd-4).toNat g4[ci]?=some (.int .i64 cs1[(kd-4).toNat]):=by
        rw [gF4.c];simp [zp,gEg hi,qE,AV.part,AV.cells];rfl
      try simp only [List.contains_cons,List.contains_nil,Option.getD_some,Option.getD_none,Nat.reduceBEq,Bool.or_false,Bool.false_or,Bool.or_self,bFt,Bool.or_true,Bool.true_or,if_false,if_true,go_sem]
      rw [hpc]
      try simp only [List.contains_cons,List.contains_nil,Option.getD_some,Option.getD_none,Nat.reduceBEq,Bool.or_false,Bool.false_or,Bool.or_self,bFt,Bool.or_true,Bool.true_or,if_false,if_true,go_sem]
      rw [jQ (by omega) (by omega)]
      try simp only [List.contains_cons,List.contains_nil,Option.getD_some,Option.getD_none,Nat.reduceBEq,Bool.or_false,Bool.false_or,Bool.or_self,bFt,Bool.or_true,Bool.true_or,if_false,if_true,go_sem]
      refine qo rfl gF4.c (by rw [List.getElem?_map,gEg hi];rfl) (show (qE cs1[(kd-4).toNat]).put 0 (.int .i64 (IntKind.i64.wrap (cs1[(kd-4).toNat]+1)))=some (qE (IntKind.i64.wrap (cs1[(kd-4).toNat]+1))) from rfl) ?_
      try simp only [List.contains_cons,List.contains_nil,Option.getD_some,Option.getD_none,Nat.reduceBEq,Bool.or_false,Bool.false_or,Bool.or_self,bFt,Bool.or_true,Bool.true_or,if_false,if_true,go_sem]
      rw [e1] at gr;exact qx (_,M2,cs1.set (kd-4).toNat (IntKind.i64.wrap (cs1[(kd-4).toNat]+1)),l2) ⟨gF5,gM2,by simp only;omega,gK.trans (gK2.trans (gK3.trans (gK4.trans gK5))),gr⟩ (by simp only;omega) (Can.sub (by simp [go_sem]) (by simp [go_sem]))
    · rw [if_neg hk];rw [qIL hk] at gr
      try simp only [List.contains_cons,List.contains_nil,Option.getD_some,Option.getD_none,Nat.reduceBEq,Bool.or_false,Bool.false_or,Bool.or_self,bFt,Bool.or_true,Bool.true_or,if_false,if_true,go_sem]
      simp only [show decide ((0:Int)≤-1)=false from rfl]
      try simp only [List.contains_cons,List.contains_nil,Option.getD_some,Option.getD_none,Nat.reduceBEq,Bool.or_false,Bool.false_or,Bool.or_self,bFt,Bool.or_true,Bool.true_or,if_false,if_true,go_sem]
      exact qx (g4,M2,cs1,l2) ⟨gF4,gM2,by simp only;omega,gK.trans (gK2.trans (gK3.trans gK4)),gr⟩ (by simp only;omega) (Can.sub (by simp [go_sem]) (by simp [go_sem]))
  · have hd:M1.done=true:=by simpa using hc
    have e:qU b l1 M1 cs1=(0,M1,cs1,l1):=by cases l1<;>(unfold qU;rw [hd];rfl)
    rw [e] at hK0;exact hK0 _ gF gK rfl
end
end Go.Ab
