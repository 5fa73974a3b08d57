/- For all arguments the law FnExactLeastCells returns true and leaves its arguments as they were. No condition.  -/
import Derived.Test.YtifmaamaodjfjaaGreatRows
import Derived.Test.YtifmaamaodjfjaaGreatFit
import Derived.KernelRfl
import Derived.WideShapes
import Derived.Test.YtifmaamaodjfjaaGreatP5
import Derived.Test.YtifmaamaodjfjaaGreatP9
namespace Go.Proofs.YtifmaamaodjfjaaGreat
open Go Go.Ab Go.Proofs
set_option maxRecDepth 100000

theorem qh7{H:Type}{enc:TypeId×Value→H}{P:Program}{W:World}{N:zB}{α:Type}{t e':TypeId}{e:α→AV}{bd:α→Prop}{v:Value}{d}{ps:List MemPlace}(ht:P.underlying t=some (.slice e'))(he:∀x,(e x).cells=[e x])(hr:Rd enc N P W t e bd)
    {b:Nat} (hok:Value.okWide P W .any b t v) (h:DataW.Trod enc P W 0 (λ_=>true) true t v d ps) (hwt:Wt P t d):RdA N W e bd v:=by
  obtain⟨fuel,h⟩:=h
  obtain⟨a,len,cap,rfl⟩:=WideShapes.okWide_slice ht hok
  obtain⟨x,h1,h2⟩:=hr _ _ _ h hwt
  refine⟨x, ?_,h2⟩
  have h3:=h1.1
  rw[he]at h3
  simp only[Value.cells,VRs]at h3
  obtain⟨v,vs,e1,e2,_⟩:=h3
  cases e1
  exact e2
section
variable {H:Type} {enc:TypeId×Value→H} {W:World}
theorem Tryz.cells2:Tryz.prog.cellsOf 2=1:=by kernel_rfl
theorem Wn:Rd enc SS.N Tryz.prog W 2 (λn:Int=>.int .i64 n) (λn=>(Lit.int .i64 n).wf=true):=qpH Tryz.underlying2
theorem Tryz.cells39:Tryz.prog.cellsOf 39=1:=by kernel_rfl
theorem qpG:Rd enc SS.N Tryz.prog W 39 (λxs:List Int=>.lst 1 (xs.map qQ) false) (λxs=>xs.length≤140737488355328∧∀x∈xs,(λn=>(Lit.int .i64 n).wf=true) x):=Vj Tryz.underlying39 Tryz.cells2 (by decide) (λ_=>rfl) (of_decide_eq_true (by kernel_rfl)) Wn
theorem Tryz.cells182:Tryz.prog.cellsOf 182=2:=by kernel_rfl
theorem qpC:Rd enc SS.N Tryz.prog W 182 qH.enc (λ_=>True):=by
  intro fuel cs d h hw
  obtain⟨hl,hf⟩:=qCX Tryz.underlying182 Tryz.cells182 h hw
  obtain⟨x0,r0,b0⟩:=ZK hf 0 0 1 rfl rfl rfl Tryz.cells2 Wn
  obtain⟨x1,r1,b1⟩:=ZK hf 1 1 1 rfl rfl rfl Tryz.cells2 Wn
  exact⟨⟨x0,x1⟩,RdL.cat (o:=0) r0 (RdL.cat r1 (RdL.nil (by omega))),trivial⟩
theorem Tryz.cells82:Tryz.prog.cellsOf 82=1:=by kernel_rfl
theorem qpF:Rd enc SS.N Tryz.prog W 82 (λxs:List qH=>.lst 2 (xs.map qH.enc) false) (λxs=>xs.length≤140737488355328∧∀x∈xs,(λ_=>True) x):=Vj Tryz.underlying82 Tryz.cells182 (by decide) (λ_=>qH.ln) (of_decide_eq_true (by kernel_rfl)) qpC
theorem Tryz.cells84:Tryz.prog.cellsOf 84=5:=by kernel_rfl
theorem qpB:Rd enc SS.N Tryz.prog W 84 qB.enc qB.bd:=by
  intro fuel cs d h hw
  obtain⟨hl,hf⟩:=qCX Tryz.underlying84 Tryz.cells84 h hw
  obtain⟨x0,r0,b0⟩:=ZK hf 0 0 1 rfl rfl rfl Tryz.cells2 Wn
  obtain⟨x1,r1,b1⟩:=ZK hf 1 1 1 rfl rfl rfl Tryz.cells2 Wn
  obtain⟨x2,r2,b2⟩:=ZK hf 2 2 1 rfl rfl rfl Tryz.cells2 Wn
  obtain⟨x3,r3,b3⟩:=ZK hf 3 3 1 rfl rfl rfl Tryz.cells39 qpG
  obtain⟨x4,r4,b4⟩:=ZK hf 4 4 1 rfl rfl rfl Tryz.cells82 qpF
  exact⟨⟨x0,x1,x2,x3,x4⟩,RdL.cat (o:=0) r0 (RdL.cat r1 (RdL.cat r2 (RdL.cat r3 (RdL.cat r4 (RdL.nil (by omega)))))),⟨b3.1,b4.1⟩⟩
theorem Tryz.cells23:Tryz.prog.cellsOf 23=1:=by kernel_rfl
theorem qpD:Rd enc SS.N Tryz.prog W 23 (λxs:List qB=>.lst 5 (xs.map qB.enc) false) (λxs=>xs.length≤140737488355328∧∀x∈xs,qB.bd x):=Vj Tryz.underlying23 Tryz.cells84 (by decide) (λ_=>qB.ln) (of_decide_eq_true (by kernel_rfl)) qpB
theorem Tryz.cells25:Tryz.prog.cellsOf 25=1:=by kernel_rfl
theorem qJY:Rd enc SS.N Tryz.prog W 25 qD.enc qD.bd:=by
  intro fuel cs d h hw
  obtain⟨hl,hf⟩:=qCX Tryz.underlying25 Tryz.cells25 h hw
  obtain⟨x0,r0,b0⟩:=ZK hf 0 0 1 rfl rfl rfl Tryz.cells23 qpD
  exact⟨⟨x0⟩,RdL.cat (o:=0) r0 (RdL.nil (by omega)),⟨b0.1,b0.2⟩⟩
theorem Tryz.cells22:Tryz.prog.cellsOf 22=1:=by kernel_rfl
theorem qpE:Rd enc SS.N Tryz.prog W 22 (λxs:List qD=>.lst 1 (xs.map qD.enc) false) (λxs=>xs.length≤140737488355328∧∀x∈xs,qD.bd x):=Vj Tryz.underlying22 Tryz.cells25 (by decide) (λ_=>qD.ln) (of_decide_eq_true (by kernel_rfl)) qJY
end

theorem qoB:SS.N.f 25=3:=by kernel_rfl
theorem qoW:ownKnob Tryz.prog.godebug=none:=by kernel_rfl
theorem qmS(os:Os)(started:os.Started)(H:Type)(enc:TypeId×Value→H):ReturnsInHanded {} Tryz.checked os 3 .any (Rows.fnExactLeastCellsSpec.pre6 enc Tryz.prog Tryz.f3 [] false) (Rows.fnExactLeastCellsSpec.post enc Tryz.prog Tryz.f3 false true false false):=by
  refine qmQ (C:=Tryz.checked) (tb:=4) started qoW (by kernel_rfl) Tryz.func3
    (ChangeSpec.witness6 (enc:=enc) (C:=Tryz.checked) false ⟨#[], #[.slice none 0 0,.agg #[.slice none 0 0],.int .i64 0],[]⟩ 8 (by kernel_rfl) (by kernel_rfl) (by kernel_rfl) (by kernel_rfl))
    (by kernel_rfl) (λu hu=>of_decide_eq_true (by revert u;exact by intro u hu;rw[Tryz.params3]at hu;simp at hu;first | (subst hu;kernel_rfl) | (rcases hu with rfl | rfl | rfl<;>kernel_rfl))) rfl rfl Tryz.underlying4 (λds hd=> ?_) (λW base args ds ps hval hA hwt=> ?_)
  · rw[Tryz.params3]at hd
    match ds,hd with
    |[d0,d1,d2],_=>exact⟨rfl,rfl,rfl⟩
  · have hval:∀(j:Nat) t v,Tryz.f3.params[j]?=some t→args[j]?=some v→Value.okWide Tryz.prog W .any base t v:=hval
    have hA:DataW.TrodAll enc Tryz.prog W 0 (λ_=>true) true Tryz.f3.params.toList args.toList ds ps:=hA
    have hwt:∀n∈DataW.weightsEach Tryz.prog Tryz.f3.params.toList ds,n≤reachBytes:=hwt
    rw[Tryz.params3]at hval hA hwt
    obtain⟨v0,vs0,d0,ds0,p0,q0,hargs,rfl,rfl,h0,hA0⟩:=ChangeShapes.trodAll_cons hA
    obtain⟨v1,vs1,d1,ds1,p1,q1,rfl,rfl,rfl,h1,hA1⟩:=ChangeShapes.trodAll_cons hA0
    obtain⟨v2,vs2,d2,ds2,p2,q2,rfl,rfl,rfl,h2,hA2⟩:=ChangeShapes.trodAll_cons hA1
    obtain⟨rfl,rfl,rfl⟩:=ChangeShapes.trodAll_nil hA2
    obtain rfl:args= #[v0,v1,v2]:=by cases args;simp_all
    obtain⟨x0,r0,b0⟩:=qh7 Tryz.underlying22 (λ_=>rfl) qpE (hval 0 22 v0 rfl rfl) h0 (λn hn=>hwt n (by simp only[DataW.weightsEach,List.mem_append];exact .inl hn))
    obtain⟨x1,r1,b1⟩:=qh8 Tryz.underlying25 (λ_=>⟨_,rfl⟩) qJY (hval 1 25 v1 rfl rfl) h1 (λn hn=>hwt n (by simp only[DataW.weightsEach,List.mem_append];exact .inr (.inl hn)))
    obtain⟨x2,r2,b2⟩:=qh6 (N:=SS.N) Tryz.underlying2 (hval 2 2 v2 rfl rfl) h2
    have key:=qmP (S:=SS) (qlV qBQ fitAll) (qmM qBQ fitAll) (qlL qBQ fitAll) (c25 b0 b1) (W:=W) (vs:= #[v0,v1,v2]) (by simp only[VRs];exact⟨_,_,rfl,r0,⟨_,_,rfl,r1,⟨_,_,rfl,r2,rfl⟩⟩⟩)
    rw[SSP,qoB]at key
    exact key

theorem over:Rows.fnExactLeastCellsRow.holds Tryz.pinned (OpenSpec.ofChange Rows.fnExactLeastCellsSpec):=
  OpenClaim.holds_of_wide 3 Tryz.f3 rfl rfl rfl rfl rfl rfl rfl ⟨rfl,rfl,rfl,rfl,rfl⟩ rfl rfl rfl rfl rfl (by kernel_rfl) Tryz.func3 (by kernel_rfl)
    (of_decide_eq_true (by kernel_rfl)) (by unfold Func.isWrapper;first | (rw[if_pos (by decide+kernel)];kernel_rfl) | (rw[if_neg (by decide+kernel)];exact⟨rfl,rfl⟩))
    (λos started H enc _=>qmS os started H enc)

theorem fnExactLeastCells_holds:Rows.FnExactLeastCellsSaid:=over
#print axioms fnExactLeastCells_holds
end Go.Proofs.YtifmaamaodjfjaaGreat
