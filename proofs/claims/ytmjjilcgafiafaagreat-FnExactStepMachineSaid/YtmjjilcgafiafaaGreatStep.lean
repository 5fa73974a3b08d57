/- For all arguments the law FnExactStepMachine returns true and leaves its arguments as they were. No condition.  -/
import Derived.Test.YtmjjilcgafiafaaGreatRows
import Derived.Test.YtmjjilcgafiafaaGreatFit
import Derived.KernelRfl
import Derived.WideShapes
import Derived.Test.YtmjjilcgafiafaaGreatP5
import Derived.Test.YtmjjilcgafiafaaGreatP9
namespace Go.Proofs.YtmjjilcgafiafaaGreat
open Go Go.Ab Go.Proofs
set_option maxRecDepth 100000

theorem qj3{H:Type}{enc:TypeId×Value→H}{P:Program}{W:World}{N:zG}{α:Type}{t e':TypeId}{e:α→AV}{bd:α→Prop}{v:Value}{d}{ps:List MemPlace}(ht:P.underlying t=some (.slice e'))(he:∀x,(e x).cells=[e x])(hr:Rd enc N P W t e bd)
    {b:Nat} (hok:Value.okWide P W .any b t v) (h:DataW.Trod enc P W 0 (λ_=>true) true t v d ps) (hwt:Wt P t d):RdA N W e bd v:=by
  obtain⟨fuel,h⟩:=h
  obtain⟨a,len,cap,rfl⟩:=WideShapes.okWide_slice ht hok
  obtain⟨x,h1,h2⟩:=hr _ _ _ h hwt
  refine⟨x, ?_,h2⟩
  have h3:=h1.1
  rw[he]at h3
  simp only[Value.cells,VRs]at h3
  obtain⟨v,vs,e1,e2,_⟩:=h3
  cases e1
  exact e2
section
variable {H:Type} {enc:TypeId×Value→H} {W:World}
theorem Tryz.cells2:Tryz.prog.cellsOf 2=1:=by kernel_rfl
theorem JI:Rd enc SS.N Tryz.prog W 2 (λn:Int=>.int .i64 n) (λn=>(Lit.int .i64 n).wf=true):=qq6 Tryz.underlying2
theorem Tryz.cells46:Tryz.prog.cellsOf 46=1:=by kernel_rfl
theorem qI8:Rd enc SS.N Tryz.prog W 46 (λxs:List Int=>.lst 1 (xs.map qQ) false) (λxs=>xs.length≤140737488355328∧∀x∈xs,(λn=>(Lit.int .i64 n).wf=true) x):=Zw Tryz.underlying46 Tryz.cells2 (by decide) (λ_=>rfl) (of_decide_eq_true (by kernel_rfl)) JI
theorem Tryz.cells243:Tryz.prog.cellsOf 243=2:=by kernel_rfl
theorem qqZ:Rd enc SS.N Tryz.prog W 243 qI.enc (λ_=>True):=by
  intro fuel cs d h hw
  obtain⟨hl,hf⟩:=Zv Tryz.underlying243 Tryz.cells243 h hw
  obtain⟨x0,r0,b0⟩:=js hf 0 0 1 rfl rfl rfl Tryz.cells2 JI
  obtain⟨x1,r1,b1⟩:=js hf 1 1 1 rfl rfl rfl Tryz.cells2 JI
  exact⟨⟨x0,x1⟩,RdL.cat (o:=0) r0 (RdL.cat r1 (RdL.nil (by omega))),trivial⟩
theorem Tryz.cells144:Tryz.prog.cellsOf 144=1:=by kernel_rfl
theorem qq4:Rd enc SS.N Tryz.prog W 144 (λxs:List qI=>.lst 2 (xs.map qI.enc) false) (λxs=>xs.length≤140737488355328∧∀x∈xs,(λ_=>True) x):=Zw Tryz.underlying144 Tryz.cells243 (by decide) (λ_=>qI.ln) (of_decide_eq_true (by kernel_rfl)) qqZ
theorem Tryz.cells146:Tryz.prog.cellsOf 146=5:=by kernel_rfl
theorem qqU:Rd enc SS.N Tryz.prog W 146 qB.enc qB.bd:=by
  intro fuel cs d h hw
  obtain⟨hl,hf⟩:=Zv Tryz.underlying146 Tryz.cells146 h hw
  obtain⟨x0,r0,b0⟩:=js hf 0 0 1 rfl rfl rfl Tryz.cells2 JI
  obtain⟨x1,r1,b1⟩:=js hf 1 1 1 rfl rfl rfl Tryz.cells2 JI
  obtain⟨x2,r2,b2⟩:=js hf 2 2 1 rfl rfl rfl Tryz.cells2 JI
  obtain⟨x3,r3,b3⟩:=js hf 3 3 1 rfl rfl rfl Tryz.cells46 qI8
  obtain⟨x4,r4,b4⟩:=js hf 4 4 1 rfl rfl rfl Tryz.cells144 qq4
  exact⟨⟨x0,x1,x2,x3,x4⟩,RdL.cat (o:=0) r0 (RdL.cat r1 (RdL.cat r2 (RdL.cat r3 (RdL.cat r4 (RdL.nil (by omega)))))),⟨b3.1,b4.1⟩⟩
theorem Tryz.cells52:Tryz.prog.cellsOf 52=1:=by kernel_rfl
theorem qq0:Rd enc SS.N Tryz.prog W 52 (λxs:List qB=>.lst 5 (xs.map qB.enc) false) (λxs=>xs.length≤140737488355328∧∀x∈xs,qB.bd x):=Zw Tryz.underlying52 Tryz.cells146 (by decide) (λ_=>qB.ln) (of_decide_eq_true (by kernel_rfl)) qqU
theorem Tryz.cells54:Tryz.prog.cellsOf 54=1:=by kernel_rfl
theorem qqX:Rd enc SS.N Tryz.prog W 54 qD.enc qD.bd:=by
  intro fuel cs d h hw
  obtain⟨hl,hf⟩:=Zv Tryz.underlying54 Tryz.cells54 h hw
  obtain⟨x0,r0,b0⟩:=js hf 0 0 1 rfl rfl rfl Tryz.cells52 qq0
  exact⟨⟨x0⟩,RdL.cat (o:=0) r0 (RdL.nil (by omega)),⟨b0.1,b0.2⟩⟩
theorem Tryz.cells22:Tryz.prog.cellsOf 22=1:=by kernel_rfl
theorem qq2:Rd enc SS.N Tryz.prog W 22 (λxs:List qD=>.lst 1 (xs.map qD.enc) false) (λxs=>xs.length≤140737488355328∧∀x∈xs,qD.bd x):=Zw Tryz.underlying22 Tryz.cells54 (by decide) (λ_=>qD.ln) (of_decide_eq_true (by kernel_rfl)) qqX
theorem Tryz.cells25:Tryz.prog.cellsOf 25=2:=by kernel_rfl
theorem qI9:Rd enc SS.N Tryz.prog W 25 qE.enc (λ_=>True):=by
  intro fuel cs d h hw
  obtain⟨hl,hf⟩:=Zv Tryz.underlying25 Tryz.cells25 h hw
  obtain⟨x0,r0,b0⟩:=js hf 0 0 1 rfl rfl rfl Tryz.cells2 JI
  obtain⟨x1,r1,b1⟩:=js hf 1 1 1 rfl rfl rfl Tryz.cells2 JI
  exact⟨⟨x0,x1⟩,RdL.cat (o:=0) r0 (RdL.cat r1 (RdL.nil (by omega))),trivial⟩
theorem Tryz.cells97:Tryz.prog.cellsOf 97=1:=by kernel_rfl
theorem qq5:Rd enc SS.N Tryz.prog W 97 (λxs:List qE=>.lst 2 (xs.map qE.enc) false) (λxs=>xs.length≤140737488355328∧∀x∈xs,(λ_=>True) x):=Zw Tryz.underlying97 Tryz.cells25 (by decide) (λ_=>qE.ln) (of_decide_eq_true (by kernel_rfl)) qI9
theorem Tryz.cells99:Tryz.prog.cellsOf 99=5:=by kernel_rfl
theorem qqV:Rd enc SS.N Tryz.prog W 99 qC.enc qC.bd:=by
  intro fuel cs d h hw
  obtain⟨hl,hf⟩:=Zv Tryz.underlying99 Tryz.cells99 h hw
  obtain⟨x0,r0,b0⟩:=js hf 0 0 1 rfl rfl rfl Tryz.cells2 JI
  obtain⟨x1,r1,b1⟩:=js hf 1 1 1 rfl rfl rfl Tryz.cells2 JI
  obtain⟨x2,r2,b2⟩:=js hf 2 2 1 rfl rfl rfl Tryz.cells2 JI
  obtain⟨x3,r3,b3⟩:=js hf 3 3 1 rfl rfl rfl Tryz.cells46 qI8
  obtain⟨x4,r4,b4⟩:=js hf 4 4 1 rfl rfl rfl Tryz.cells97 qq5
  exact⟨⟨x0,x1,x2,x3,x4⟩,RdL.cat (o:=0) r0 (RdL.cat r1 (RdL.cat r2 (RdL.cat r3 (RdL.cat r4 (RdL.nil (by omega)))))),⟨b3.1,b4.1⟩⟩
theorem Tryz.cells23:Tryz.prog.cellsOf 23=1:=by kernel_rfl
theorem qq1:Rd enc SS.N Tryz.prog W 23 (λxs:List qC=>.lst 5 (xs.map qC.enc) false) (λxs=>xs.length≤140737488355328∧∀x∈xs,qC.bd x):=Zw Tryz.underlying23 Tryz.cells99 (by decide) (λ_=>qC.ln) (of_decide_eq_true (by kernel_rfl)) qqV
theorem Tryz.cells124:Tryz.prog.cellsOf 124=2:=by kernel_rfl
theorem qqY:Rd enc SS.N Tryz.prog W 124 qF.enc (λ_=>True):=by
  intro fuel cs d h hw
  obtain⟨hl,hf⟩:=Zv Tryz.underlying124 Tryz.cells124 h hw
  obtain⟨x0,r0,b0⟩:=js hf 0 0 1 rfl rfl rfl Tryz.cells2 JI
  obtain⟨x1,r1,b1⟩:=js hf 1 1 1 rfl rfl rfl Tryz.cells2 JI
  exact⟨⟨x0,x1⟩,RdL.cat (o:=0) r0 (RdL.cat r1 (RdL.nil (by omega))),trivial⟩
theorem Tryz.cells26:Tryz.prog.cellsOf 26=1:=by kernel_rfl
theorem qq3:Rd enc SS.N Tryz.prog W 26 (λxs:List qF=>.lst 2 (xs.map qF.enc) false) (λxs=>xs.length≤140737488355328∧∀x∈xs,(λ_=>True) x):=Zw Tryz.underlying26 Tryz.cells124 (by decide) (λ_=>qF.ln) (of_decide_eq_true (by kernel_rfl)) qqY
theorem Tryz.cells28:Tryz.prog.cellsOf 28=5:=by kernel_rfl
theorem qqW:Rd enc SS.N Tryz.prog W 28 qH.enc qH.bd:=by
  intro fuel cs d h hw
  obtain⟨hl,hf⟩:=Zv Tryz.underlying28 Tryz.cells28 h hw
  obtain⟨x0,r0,b0⟩:=js hf 0 0 1 rfl rfl rfl Tryz.cells23 qq1
  obtain⟨x1,r1,b1⟩:=js hf 1 1 1 rfl rfl rfl Tryz.cells2 JI
  obtain⟨x2,r2,b2⟩:=js hf 2 2 2 rfl rfl rfl Tryz.cells25 qI9
  obtain⟨x3,r3,b3⟩:=js hf 3 4 1 rfl rfl rfl Tryz.cells26 qq3
  exact⟨⟨x0,x1,x2,x3⟩,RdL.cat (o:=0) r0 (RdL.cat r1 (RdL.cat r2 (RdL.cat r3 (RdL.nil (by omega))))),⟨b0.1,b0.2,b3.1⟩⟩
end

theorem qpW:SS.N.f 38=3:=by kernel_rfl
theorem qqH:ownKnob Tryz.prog.godebug=none:=by kernel_rfl
theorem qoH(os:Os)(started:os.Started)(H:Type)(enc:TypeId×Value→H):ReturnsInHanded {} Tryz.checked os 3 .any (Rows.fnExactStepMachineSpec.pre6 enc Tryz.prog Tryz.f3 [] false) (Rows.fnExactStepMachineSpec.post enc Tryz.prog Tryz.f3 false true false false):=by
  refine qoF (C:=Tryz.checked) (tb:=4) started qqH (by kernel_rfl) Tryz.func3
    (ChangeSpec.witness6 (enc:=enc) (C:=Tryz.checked) false ⟨#[], #[.slice none 0 0,.agg #[.slice none 0 0,.int .i64 0,.int .i64 0,.int .i64 0,.slice none 0 0],.int .i64 0],[]⟩ 8 (by kernel_rfl) (by kernel_rfl) (by kernel_rfl) (by kernel_rfl))
    (by kernel_rfl) (λu hu=>of_decide_eq_true (by revert u;exact by intro u hu;rw[Tryz.params3]at hu;simp at hu;first | (subst hu;kernel_rfl) | (rcases hu with rfl | rfl | rfl<;>kernel_rfl))) rfl rfl Tryz.underlying4 (λds hd=> ?_) (λW base args ds ps hval hA hwt=> ?_)
  · rw[Tryz.params3]at hd
    match ds,hd with
    |[d0,d1,d2],_=>exact⟨rfl,rfl,rfl⟩
  · have hval:∀(j:Nat) t v,Tryz.f3.params[j]?=some t→args[j]?=some v→Value.okWide Tryz.prog W .any base t v:=hval
    have hA:DataW.TrodAll enc Tryz.prog W 0 (λ_=>true) true Tryz.f3.params.toList args.toList ds ps:=hA
    have hwt:∀n∈DataW.weightsEach Tryz.prog Tryz.f3.params.toList ds,n≤reachBytes:=hwt
    rw[Tryz.params3]at hval hA hwt
    obtain⟨v0,vs0,d0,ds0,p0,q0,hargs,rfl,rfl,h0,hA0⟩:=ChangeShapes.trodAll_cons hA
    obtain⟨v1,vs1,d1,ds1,p1,q1,rfl,rfl,rfl,h1,hA1⟩:=ChangeShapes.trodAll_cons hA0
    obtain⟨v2,vs2,d2,ds2,p2,q2,rfl,rfl,rfl,h2,hA2⟩:=ChangeShapes.trodAll_cons hA1
    obtain⟨rfl,rfl,rfl⟩:=ChangeShapes.trodAll_nil hA2
    obtain rfl:args= #[v0,v1,v2]:=by cases args;simp_all
    obtain⟨x0,r0,b0⟩:=qj3 Tryz.underlying22 (λ_=>rfl) qq2 (hval 0 22 v0 rfl rfl) h0 (λn hn=>hwt n (by simp only[DataW.weightsEach,List.mem_append];exact .inl hn))
    obtain⟨x1,r1,b1⟩:=qj4 Tryz.underlying28 (λ_=>⟨_,rfl⟩) qqW (hval 1 28 v1 rfl rfl) h1 (λn hn=>hwt n (by simp only[DataW.weightsEach,List.mem_append];exact .inr (.inl hn)))
    obtain⟨x2,r2,b2⟩:=qj2 (N:=SS.N) Tryz.underlying2 (hval 2 2 v2 rfl rfl) h2
    have key:=qoE (S:=SS) (qnN qBO fitAll) (qoC qBO fitAll) (qnI qBO fitAll) (c38 b0 b1) (W:=W) (vs:= #[v0,v1,v2]) (by simp only[VRs];exact⟨_,_,rfl,r0,⟨_,_,rfl,r1,⟨_,_,rfl,r2,rfl⟩⟩⟩)
    rw[SSP,qpW]at key
    exact key

theorem over:Rows.fnExactStepMachineRow.holds Tryz.pinned (OpenSpec.ofChange Rows.fnExactStepMachineSpec):=
  OpenClaim.holds_of_wide 3 Tryz.f3 rfl rfl rfl rfl rfl rfl rfl ⟨rfl,rfl,rfl,rfl,rfl⟩ rfl rfl rfl rfl rfl (by kernel_rfl) Tryz.func3 (by kernel_rfl)
    (of_decide_eq_true (by kernel_rfl)) (by unfold Func.isWrapper;first | (rw[if_pos (by decide+kernel)];kernel_rfl) | (rw[if_neg (by decide+kernel)];exact⟨rfl,rfl⟩))
    (λos started H enc _=>qoH os started H enc)

theorem fnExactStepMachine_holds:Rows.FnExactStepMachineSaid:=over
#print axioms fnExactStepMachine_holds
end Go.Proofs.YtmjjilcgafiafaaGreat
