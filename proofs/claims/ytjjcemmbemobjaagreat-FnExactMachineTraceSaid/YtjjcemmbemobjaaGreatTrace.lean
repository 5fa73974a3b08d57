/- For all arguments the law FnExactMachineTrace returns true and leaves its arguments as they were. No condition.  -/
import Derived.Test.YtjjcemmbemobjaaGreatRows
import Derived.Test.YtjjcemmbemobjaaGreatFit
import Derived.KernelRfl
import Derived.WideShapes
import Derived.Test.YtjjcemmbemobjaaGreatP5
import Derived.Test.YtjjcemmbemobjaaGreatP9
namespace Go.Proofs.YtjjcemmbemobjaaGreat
open Go Go.Ab Go.Proofs
set_option maxRecDepth 100000

theorem qiW{H:Type}{enc:TypeId×Value→H}{P:Program}{W:World}{N:qz}{α:Type}{t e':TypeId}{e:α→AV}{bd:α→Prop}{v:Value}{d}{ps:List MemPlace}(ht:P.underlying t=some (.slice e'))(he:∀x,(e x).cells=[e x])(hr:Rd enc N P W t e bd)
    {b:Nat} (hok:Value.okWide P W .any b t v) (h:DataW.Trod enc P W 0 (λ_=>true) true t v d ps) (hwt:Wt P t d):RdA N W e bd v:=by
  obtain⟨fuel,h⟩:=h
  obtain⟨a,len,cap,rfl⟩:=WideShapes.okWide_slice ht hok
  obtain⟨x,h1,h2⟩:=hr _ _ _ h hwt
  refine⟨x, ?_,h2⟩
  have h3:=h1.1
  rw[he]at h3
  simp only[Value.cells,VRs]at h3
  obtain⟨v,vs,e1,e2,_⟩:=h3
  cases e1
  exact e2
section
variable {H:Type} {enc:TypeId×Value→H} {W:World}
theorem Tryz.cells2:Tryz.prog.cellsOf 2=1:=by kernel_rfl
theorem JL:Rd enc SS.N Tryz.prog W 2 (λn:Int=>.int .i64 n) (λn=>(Lit.int .i64 n).wf=true):=qpJ Tryz.underlying2
theorem Tryz.cells31:Tryz.prog.cellsOf 31=1:=by kernel_rfl
theorem qgL:Rd enc SS.N Tryz.prog W 31 (λxs:List Int=>.lst 1 (xs.map qP) false) (λxs=>xs.length≤140737488355328∧∀x∈xs,(λn=>(Lit.int .i64 n).wf=true) x):=Zw Tryz.underlying31 Tryz.cells2 (by decide) (λ_=>rfl) (of_decide_eq_true (by kernel_rfl)) JL
theorem Tryz.cells217:Tryz.prog.cellsOf 217=2:=by kernel_rfl
theorem qpC:Rd enc SS.N Tryz.prog W 217 qM.enc (λ_=>True):=by
  intro fuel cs d h hw
  obtain⟨hl,hf⟩:=Zv Tryz.underlying217 Tryz.cells217 h hw
  obtain⟨x0,r0,b0⟩:=jz hf 0 0 1 rfl rfl rfl Tryz.cells2 JL
  obtain⟨x1,r1,b1⟩:=jz hf 1 1 1 rfl rfl rfl Tryz.cells2 JL
  exact⟨⟨x0,x1⟩,RdL.cat (o:=0) r0 (RdL.cat r1 (RdL.nil (by omega))),trivial⟩
theorem Tryz.cells121:Tryz.prog.cellsOf 121=1:=by kernel_rfl
theorem qpH:Rd enc SS.N Tryz.prog W 121 (λxs:List qM=>.lst 2 (xs.map qM.enc) false) (λxs=>xs.length≤140737488355328∧∀x∈xs,(λ_=>True) x):=Zw Tryz.underlying121 Tryz.cells217 (by decide) (λ_=>qM.ln) (of_decide_eq_true (by kernel_rfl)) qpC
theorem Tryz.cells123:Tryz.prog.cellsOf 123=5:=by kernel_rfl
theorem qo7:Rd enc SS.N Tryz.prog W 123 qC.enc qC.bd:=by
  intro fuel cs d h hw
  obtain⟨hl,hf⟩:=Zv Tryz.underlying123 Tryz.cells123 h hw
  obtain⟨x0,r0,b0⟩:=jz hf 0 0 1 rfl rfl rfl Tryz.cells2 JL
  obtain⟨x1,r1,b1⟩:=jz hf 1 1 1 rfl rfl rfl Tryz.cells2 JL
  obtain⟨x2,r2,b2⟩:=jz hf 2 2 1 rfl rfl rfl Tryz.cells2 JL
  obtain⟨x3,r3,b3⟩:=jz hf 3 3 1 rfl rfl rfl Tryz.cells31 qgL
  obtain⟨x4,r4,b4⟩:=jz hf 4 4 1 rfl rfl rfl Tryz.cells121 qpH
  exact⟨⟨x0,x1,x2,x3,x4⟩,RdL.cat (o:=0) r0 (RdL.cat r1 (RdL.cat r2 (RdL.cat r3 (RdL.cat r4 (RdL.nil (by omega)))))),⟨b3.1,b4.1⟩⟩
theorem Tryz.cells50:Tryz.prog.cellsOf 50=1:=by kernel_rfl
theorem qpD:Rd enc SS.N Tryz.prog W 50 (λxs:List qC=>.lst 5 (xs.map qC.enc) false) (λxs=>xs.length≤140737488355328∧∀x∈xs,qC.bd x):=Zw Tryz.underlying50 Tryz.cells123 (by decide) (λ_=>qC.ln) (of_decide_eq_true (by kernel_rfl)) qo7
theorem Tryz.cells52:Tryz.prog.cellsOf 52=1:=by kernel_rfl
theorem qpA:Rd enc SS.N Tryz.prog W 52 qE.enc qE.bd:=by
  intro fuel cs d h hw
  obtain⟨hl,hf⟩:=Zv Tryz.underlying52 Tryz.cells52 h hw
  obtain⟨x0,r0,b0⟩:=jz hf 0 0 1 rfl rfl rfl Tryz.cells50 qpD
  exact⟨⟨x0⟩,RdL.cat (o:=0) r0 (RdL.nil (by omega)),⟨b0.1,b0.2⟩⟩
theorem Tryz.cells22:Tryz.prog.cellsOf 22=1:=by kernel_rfl
theorem qpF:Rd enc SS.N Tryz.prog W 22 (λxs:List qE=>.lst 1 (xs.map qE.enc) false) (λxs=>xs.length≤140737488355328∧∀x∈xs,qE.bd x):=Zw Tryz.underlying22 Tryz.cells52 (by decide) (λ_=>qE.ln) (of_decide_eq_true (by kernel_rfl)) qpA
theorem Tryz.cells25:Tryz.prog.cellsOf 25=2:=by kernel_rfl
theorem qgM:Rd enc SS.N Tryz.prog W 25 qF.enc (λ_=>True):=by
  intro fuel cs d h hw
  obtain⟨hl,hf⟩:=Zv Tryz.underlying25 Tryz.cells25 h hw
  obtain⟨x0,r0,b0⟩:=jz hf 0 0 1 rfl rfl rfl Tryz.cells2 JL
  obtain⟨x1,r1,b1⟩:=jz hf 1 1 1 rfl rfl rfl Tryz.cells2 JL
  exact⟨⟨x0,x1⟩,RdL.cat (o:=0) r0 (RdL.cat r1 (RdL.nil (by omega))),trivial⟩
theorem Tryz.cells85:Tryz.prog.cellsOf 85=1:=by kernel_rfl
theorem qpI:Rd enc SS.N Tryz.prog W 85 (λxs:List qF=>.lst 2 (xs.map qF.enc) false) (λxs=>xs.length≤140737488355328∧∀x∈xs,(λ_=>True) x):=Zw Tryz.underlying85 Tryz.cells25 (by decide) (λ_=>qF.ln) (of_decide_eq_true (by kernel_rfl)) qgM
theorem Tryz.cells87:Tryz.prog.cellsOf 87=5:=by kernel_rfl
theorem qo8:Rd enc SS.N Tryz.prog W 87 qD.enc qD.bd:=by
  intro fuel cs d h hw
  obtain⟨hl,hf⟩:=Zv Tryz.underlying87 Tryz.cells87 h hw
  obtain⟨x0,r0,b0⟩:=jz hf 0 0 1 rfl rfl rfl Tryz.cells2 JL
  obtain⟨x1,r1,b1⟩:=jz hf 1 1 1 rfl rfl rfl Tryz.cells2 JL
  obtain⟨x2,r2,b2⟩:=jz hf 2 2 1 rfl rfl rfl Tryz.cells2 JL
  obtain⟨x3,r3,b3⟩:=jz hf 3 3 1 rfl rfl rfl Tryz.cells31 qgL
  obtain⟨x4,r4,b4⟩:=jz hf 4 4 1 rfl rfl rfl Tryz.cells85 qpI
  exact⟨⟨x0,x1,x2,x3,x4⟩,RdL.cat (o:=0) r0 (RdL.cat r1 (RdL.cat r2 (RdL.cat r3 (RdL.cat r4 (RdL.nil (by omega)))))),⟨b3.1,b4.1⟩⟩
theorem Tryz.cells23:Tryz.prog.cellsOf 23=1:=by kernel_rfl
theorem qpE:Rd enc SS.N Tryz.prog W 23 (λxs:List qD=>.lst 5 (xs.map qD.enc) false) (λxs=>xs.length≤140737488355328∧∀x∈xs,qD.bd x):=Zw Tryz.underlying23 Tryz.cells87 (by decide) (λ_=>qD.ln) (of_decide_eq_true (by kernel_rfl)) qo8
theorem Tryz.cells107:Tryz.prog.cellsOf 107=2:=by kernel_rfl
theorem qpB:Rd enc SS.N Tryz.prog W 107 qL.enc (λ_=>True):=by
  intro fuel cs d h hw
  obtain⟨hl,hf⟩:=Zv Tryz.underlying107 Tryz.cells107 h hw
  obtain⟨x0,r0,b0⟩:=jz hf 0 0 1 rfl rfl rfl Tryz.cells2 JL
  obtain⟨x1,r1,b1⟩:=jz hf 1 1 1 rfl rfl rfl Tryz.cells2 JL
  exact⟨⟨x0,x1⟩,RdL.cat (o:=0) r0 (RdL.cat r1 (RdL.nil (by omega))),trivial⟩
theorem Tryz.cells26:Tryz.prog.cellsOf 26=1:=by kernel_rfl
theorem qpG:Rd enc SS.N Tryz.prog W 26 (λxs:List qL=>.lst 2 (xs.map qL.enc) false) (λxs=>xs.length≤140737488355328∧∀x∈xs,(λ_=>True) x):=Zw Tryz.underlying26 Tryz.cells107 (by decide) (λ_=>qL.ln) (of_decide_eq_true (by kernel_rfl)) qpB
theorem Tryz.cells28:Tryz.prog.cellsOf 28=5:=by kernel_rfl
theorem qo9:Rd enc SS.N Tryz.prog W 28 qH.enc qH.bd:=by
  intro fuel cs d h hw
  obtain⟨hl,hf⟩:=Zv Tryz.underlying28 Tryz.cells28 h hw
  obtain⟨x0,r0,b0⟩:=jz hf 0 0 1 rfl rfl rfl Tryz.cells23 qpE
  obtain⟨x1,r1,b1⟩:=jz hf 1 1 1 rfl rfl rfl Tryz.cells2 JL
  obtain⟨x2,r2,b2⟩:=jz hf 2 2 2 rfl rfl rfl Tryz.cells25 qgM
  obtain⟨x3,r3,b3⟩:=jz hf 3 4 1 rfl rfl rfl Tryz.cells26 qpG
  exact⟨⟨x0,x1,x2,x3⟩,RdL.cat (o:=0) r0 (RdL.cat r1 (RdL.cat r2 (RdL.cat r3 (RdL.nil (by omega))))),⟨b0.1,b0.2,b3.1⟩⟩
end

theorem qoC:SS.N.f 36=3:=by kernel_rfl
theorem qoU:ownKnob Tryz.prog.godebug=none:=by kernel_rfl
theorem qm8(os:Os)(started:os.Started)(H:Type)(enc:TypeId×Value→H):ReturnsInHanded {} Tryz.checked os 3 .any (Rows.fnExactMachineTraceSpec.pre6 enc Tryz.prog Tryz.f3 [] false) (Rows.fnExactMachineTraceSpec.post enc Tryz.prog Tryz.f3 false true false false):=by
  refine qm6 (C:=Tryz.checked) (tb:=4) started qoU (by kernel_rfl) Tryz.func3
    (ChangeSpec.witness6 (enc:=enc) (C:=Tryz.checked) false ⟨#[], #[.slice none 0 0,.agg #[.slice none 0 0,.int .i64 0,.int .i64 0,.int .i64 0,.slice none 0 0],.int .i64 0],[]⟩ 8 (by kernel_rfl) (by kernel_rfl) (by kernel_rfl) (by kernel_rfl))
    (by kernel_rfl) (λu hu=>of_decide_eq_true (by revert u;exact by intro u hu;rw[Tryz.params3]at hu;simp at hu;first | (subst hu;kernel_rfl) | (rcases hu with rfl | rfl | rfl<;>kernel_rfl))) rfl rfl Tryz.underlying4 (λds hd=> ?_) (λW base args ds ps hval hA hwt=> ?_)
  · rw[Tryz.params3]at hd
    match ds,hd with
    |[d0,d1,d2],_=>exact⟨rfl,rfl,rfl⟩
  · have hval:∀(j:Nat) t v,Tryz.f3.params[j]?=some t→args[j]?=some v→Value.okWide Tryz.prog W .any base t v:=hval
    have hA:DataW.TrodAll enc Tryz.prog W 0 (λ_=>true) true Tryz.f3.params.toList args.toList ds ps:=hA
    have hwt:∀n∈DataW.weightsEach Tryz.prog Tryz.f3.params.toList ds,n≤reachBytes:=hwt
    rw[Tryz.params3]at hval hA hwt
    obtain⟨v0,vs0,d0,ds0,p0,q0,hargs,rfl,rfl,h0,hA0⟩:=ChangeShapes.trodAll_cons hA
    obtain⟨v1,vs1,d1,ds1,p1,q1,rfl,rfl,rfl,h1,hA1⟩:=ChangeShapes.trodAll_cons hA0
    obtain⟨v2,vs2,d2,ds2,p2,q2,rfl,rfl,rfl,h2,hA2⟩:=ChangeShapes.trodAll_cons hA1
    obtain⟨rfl,rfl,rfl⟩:=ChangeShapes.trodAll_nil hA2
    obtain rfl:args= #[v0,v1,v2]:=by cases args;simp_all
    obtain⟨x0,r0,b0⟩:=qiW Tryz.underlying22 (λ_=>rfl) qpF (hval 0 22 v0 rfl rfl) h0 (λn hn=>hwt n (by simp only[DataW.weightsEach,List.mem_append];exact .inl hn))
    obtain⟨x1,r1,b1⟩:=qiX Tryz.underlying28 (λ_=>⟨_,rfl⟩) qo9 (hval 1 28 v1 rfl rfl) h1 (λn hn=>hwt n (by simp only[DataW.weightsEach,List.mem_append];exact .inr (.inl hn)))
    obtain⟨x2,r2,b2⟩:=qiV (N:=SS.N) Tryz.underlying2 (hval 2 2 v2 rfl rfl) h2
    have key:=qm5 (S:=SS) (qmE qBL fitAll) (qm3 qBL fitAll) (ql9 qBL fitAll) (c36 b0 b1) (W:=W) (vs:= #[v0,v1,v2]) (by simp only[VRs];exact⟨_,_,rfl,r0,⟨_,_,rfl,r1,⟨_,_,rfl,r2,rfl⟩⟩⟩)
    rw[SSP,qoC]at key
    exact key

theorem over:Rows.fnExactMachineTraceRow.holds Tryz.pinned (OpenSpec.ofChange Rows.fnExactMachineTraceSpec):=
  OpenClaim.holds_of_wide 3 Tryz.f3 rfl rfl rfl rfl rfl rfl rfl ⟨rfl,rfl,rfl,rfl,rfl⟩ rfl rfl rfl rfl rfl (by kernel_rfl) Tryz.func3 (by kernel_rfl)
    (of_decide_eq_true (by kernel_rfl)) (by unfold Func.isWrapper;first | (rw[if_pos (by decide+kernel)];kernel_rfl) | (rw[if_neg (by decide+kernel)];exact⟨rfl,rfl⟩))
    (λos started H enc _=>qm8 os started H enc)

theorem fnExactMachineTrace_holds:Rows.FnExactMachineTraceSaid:=over
#print axioms fnExactMachineTrace_holds
end Go.Proofs.YtjjcemmbemobjaaGreat
