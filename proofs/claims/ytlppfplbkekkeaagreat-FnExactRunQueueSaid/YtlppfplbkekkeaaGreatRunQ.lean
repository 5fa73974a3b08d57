/- For all arguments the law FnExactRunQueue returns true and leaves its arguments as they were. No condition.  -/
import Derived.Test.YtlppfplbkekkeaaGreatRows
import Derived.Test.YtlppfplbkekkeaaGreatFit
import Derived.KernelRfl
import Derived.Test.YtlppfplbkekkeaaGreatP5
import Derived.Test.YtlppfplbkekkeaaGreatP9
namespace Go.Proofs.YtlppfplbkekkeaaGreat
open Go Go.Ab Go.Proofs
set_option maxRecDepth 100000

section
variable {H:Type} {enc:TypeId×Value→H} {W:World}
theorem Tryz.cells2:Tryz.prog.cellsOf 2=1:=by kernel_rfl
theorem JZ:Rd enc SS.N Tryz.prog W 2 (λn:Int=>.int .i64 n) (λn=>(Lit.int .i64 n).wf=true):=qn8 Tryz.underlying2
theorem Tryz.cells43:Tryz.prog.cellsOf 43=1:=by kernel_rfl
theorem qDY:Rd enc SS.N Tryz.prog W 43 (λxs:List Int=>.lst 1 (xs.map qQ) false) (λxs=>xs.length≤140737488355328∧∀x∈xs,(λn=>(Lit.int .i64 n).wf=true) x):=Y6 Tryz.underlying43 Tryz.cells2 (by decide) (λ_=>rfl) (of_decide_eq_true (by kernel_rfl)) JZ
theorem Tryz.cells198:Tryz.prog.cellsOf 198=2:=by kernel_rfl
theorem qn2:Rd enc SS.N Tryz.prog W 198 qE.enc (λ_=>True):=by
  intro fuel cs d h hw
  obtain⟨hl,hf⟩:=Y5 Tryz.underlying198 Tryz.cells198 h hw
  obtain⟨x0,r0,b0⟩:=j6 hf 0 0 1 rfl rfl rfl Tryz.cells2 JZ
  obtain⟨x1,r1,b1⟩:=j6 hf 1 1 1 rfl rfl rfl Tryz.cells2 JZ
  exact⟨⟨x0,x1⟩,RdL.cat (o:=0) r0 (RdL.cat r1 (RdL.nil (by omega))),trivial⟩
theorem Tryz.cells149:Tryz.prog.cellsOf 149=1:=by kernel_rfl
theorem qn7:Rd enc SS.N Tryz.prog W 149 (λxs:List qE=>.lst 2 (xs.map qE.enc) false) (λxs=>xs.length≤140737488355328∧∀x∈xs,(λ_=>True) x):=Y6 Tryz.underlying149 Tryz.cells198 (by decide) (λ_=>qE.ln) (of_decide_eq_true (by kernel_rfl)) qn2
theorem Tryz.cells151:Tryz.prog.cellsOf 151=5:=by kernel_rfl
theorem qn0:Rd enc SS.N Tryz.prog W 151 qB.enc qB.bd:=by
  intro fuel cs d h hw
  obtain⟨hl,hf⟩:=Y5 Tryz.underlying151 Tryz.cells151 h hw
  obtain⟨x0,r0,b0⟩:=j6 hf 0 0 1 rfl rfl rfl Tryz.cells2 JZ
  obtain⟨x1,r1,b1⟩:=j6 hf 1 1 1 rfl rfl rfl Tryz.cells2 JZ
  obtain⟨x2,r2,b2⟩:=j6 hf 2 2 1 rfl rfl rfl Tryz.cells2 JZ
  obtain⟨x3,r3,b3⟩:=j6 hf 3 3 1 rfl rfl rfl Tryz.cells43 qDY
  obtain⟨x4,r4,b4⟩:=j6 hf 4 4 1 rfl rfl rfl Tryz.cells149 qn7
  exact⟨⟨x0,x1,x2,x3,x4⟩,RdL.cat (o:=0) r0 (RdL.cat r1 (RdL.cat r2 (RdL.cat r3 (RdL.cat r4 (RdL.nil (by omega)))))),⟨b3.1,b4.1⟩⟩
theorem Tryz.cells60:Tryz.prog.cellsOf 60=1:=by kernel_rfl
theorem qn4:Rd enc SS.N Tryz.prog W 60 (λxs:List qB=>.lst 5 (xs.map qB.enc) false) (λxs=>xs.length≤140737488355328∧∀x∈xs,qB.bd x):=Y6 Tryz.underlying60 Tryz.cells151 (by decide) (λ_=>qB.ln) (of_decide_eq_true (by kernel_rfl)) qn0
theorem Tryz.cells62:Tryz.prog.cellsOf 62=1:=by kernel_rfl
theorem qfL:Rd enc SS.N Tryz.prog W 62 qD.enc qD.bd:=by
  intro fuel cs d h hw
  obtain⟨hl,hf⟩:=Y5 Tryz.underlying62 Tryz.cells62 h hw
  obtain⟨x0,r0,b0⟩:=j6 hf 0 0 1 rfl rfl rfl Tryz.cells60 qn4
  exact⟨⟨x0⟩,RdL.cat (o:=0) r0 (RdL.nil (by omega)),⟨b0.1,b0.2⟩⟩
theorem Tryz.cells59:Tryz.prog.cellsOf 59=1:=by kernel_rfl
theorem qn6:Rd enc SS.N Tryz.prog W 59 (λxs:List qD=>.lst 1 (xs.map qD.enc) false) (λxs=>xs.length≤140737488355328∧∀x∈xs,qD.bd x):=Y6 Tryz.underlying59 Tryz.cells62 (by decide) (λ_=>qD.ln) (of_decide_eq_true (by kernel_rfl)) qfL
theorem Tryz.cells64:Tryz.prog.cellsOf 64=10:=by kernel_rfl
theorem qn1:Rd enc SS.N Tryz.prog W 64 qF.enc qF.bd:=by
  intro fuel cs d h hw
  obtain⟨hl,hf⟩:=Y5 Tryz.underlying64 Tryz.cells64 h hw
  obtain⟨x0,r0,b0⟩:=j6 hf 0 0 1 rfl rfl rfl Tryz.cells2 JZ
  obtain⟨x1,r1,b1⟩:=j6 hf 1 1 1 rfl rfl rfl Tryz.cells2 JZ
  obtain⟨x2,r2,b2⟩:=j6 hf 2 2 1 rfl rfl rfl Tryz.cells2 JZ
  obtain⟨x3,r3,b3⟩:=j6 hf 3 3 1 rfl rfl rfl Tryz.cells2 JZ
  obtain⟨x4,r4,b4⟩:=j6 hf 4 4 1 rfl rfl rfl Tryz.cells2 JZ
  obtain⟨x5,r5,b5⟩:=j6 hf 5 5 1 rfl rfl rfl Tryz.cells2 JZ
  obtain⟨x6,r6,b6⟩:=j6 hf 6 6 1 rfl rfl rfl Tryz.cells43 qDY
  obtain⟨x7,r7,b7⟩:=j6 hf 7 7 1 rfl rfl rfl Tryz.cells43 qDY
  obtain⟨x8,r8,b8⟩:=j6 hf 8 8 1 rfl rfl rfl Tryz.cells59 qn6
  obtain⟨x9,r9,b9⟩:=j6 hf 9 9 1 rfl rfl rfl Tryz.cells62 qfL
  exact⟨⟨x0,x1,x2,x3,x4,x5,x6,x7,x8,x9⟩,RdL.cat (o:=0) r0 (RdL.cat r1 (RdL.cat r2 (RdL.cat r3 (RdL.cat r4 (RdL.cat r5 (RdL.cat r6 (RdL.cat r7 (RdL.cat r8 (RdL.cat r9 (RdL.nil (by omega))))))))))),⟨b6.1,b7.1,b8.1,b8.2,b9⟩⟩
theorem Tryz.cells22:Tryz.prog.cellsOf 22=1:=by kernel_rfl
theorem qn5:Rd enc SS.N Tryz.prog W 22 (λxs:List qF=>.lst 10 (xs.map qF.enc) false) (λxs=>xs.length≤140737488355328∧∀x∈xs,qF.bd x):=Y6 Tryz.underlying22 Tryz.cells64 (by decide) (λ_=>qF.ln) (of_decide_eq_true (by kernel_rfl)) qn1
theorem Tryz.cells24:Tryz.prog.cellsOf 24=4:=by kernel_rfl
theorem qn3:Rd enc SS.N Tryz.prog W 24 qP.enc qP.bd:=by
  intro fuel cs d h hw
  obtain⟨hl,hf⟩:=Y5 Tryz.underlying24 Tryz.cells24 h hw
  obtain⟨x0,r0,b0⟩:=j6 hf 0 0 1 rfl rfl rfl Tryz.cells2 JZ
  obtain⟨x1,r1,b1⟩:=j6 hf 1 1 1 rfl rfl rfl Tryz.cells2 JZ
  obtain⟨x2,r2,b2⟩:=j6 hf 2 2 1 rfl rfl rfl Tryz.cells2 JZ
  obtain⟨x3,r3,b3⟩:=j6 hf 3 3 1 rfl rfl rfl Tryz.cells22 qn5
  exact⟨⟨x0,x1,x2,x3⟩,RdL.cat (o:=0) r0 (RdL.cat r1 (RdL.cat r2 (RdL.cat r3 (RdL.nil (by omega))))),⟨b3.1,b3.2⟩⟩
end

theorem qmT:SS.N.f 37=4:=by kernel_rfl
theorem qnB:ownKnob Tryz.prog.godebug=none:=by kernel_rfl
theorem qlS(os:Os)(started:os.Started)(H:Type)(enc:TypeId×Value→H):ReturnsInHanded {} Tryz.checked os 4 .any (Rows.fnExactRunQueueSpec.pre6 enc Tryz.prog Tryz.f4 [] false) (Rows.fnExactRunQueueSpec.post enc Tryz.prog Tryz.f4 false true false false):=by
  refine qlQ (C:=Tryz.checked) (tb:=4) started qnB (by kernel_rfl) Tryz.func4
    (ChangeSpec.witness6 (enc:=enc) (C:=Tryz.checked) false ⟨#[], #[.agg #[.int .i64 0,.int .i64 0,.int .i64 0,.slice none 0 0],.int .i64 0],[]⟩ 8 (by kernel_rfl) (by kernel_rfl) (by kernel_rfl) (by kernel_rfl))
    (by kernel_rfl) (λu hu=>of_decide_eq_true (by revert u;exact by intro u hu;rw[Tryz.params4]at hu;simp at hu;first | (subst hu;kernel_rfl) | (rcases hu with rfl | rfl<;>kernel_rfl))) rfl rfl Tryz.underlying4 (λds hd=> ?_) (λW base args ds ps hval hA hwt=> ?_)
  · rw[Tryz.params4]at hd
    match ds,hd with
    |[d0,d1],_=>exact⟨rfl,rfl,rfl⟩
  · have hval:∀(j:Nat) t v,Tryz.f4.params[j]?=some t→args[j]?=some v→Value.okWide Tryz.prog W .any base t v:=hval
    have hA:DataW.TrodAll enc Tryz.prog W 0 (λ_=>true) true Tryz.f4.params.toList args.toList ds ps:=hA
    have hwt:∀n∈DataW.weightsEach Tryz.prog Tryz.f4.params.toList ds,n≤reachBytes:=hwt
    rw[Tryz.params4]at hval hA hwt
    obtain⟨v0,vs0,d0,ds0,p0,q0,hargs,rfl,rfl,h0,hA0⟩:=ChangeShapes.trodAll_cons hA
    obtain⟨v1,vs1,d1,ds1,p1,q1,rfl,rfl,rfl,h1,hA1⟩:=ChangeShapes.trodAll_cons hA0
    obtain⟨rfl,rfl,rfl⟩:=ChangeShapes.trodAll_nil hA1
    obtain rfl:args= #[v0,v1]:=by cases args;simp_all
    obtain⟨x0,r0,b0⟩:=qhJ Tryz.underlying24 (λ_=>⟨_,rfl⟩) qn3 (hval 0 24 v0 rfl rfl) h0 (λn hn=>hwt n (by simp only[DataW.weightsEach,List.mem_append];exact .inl hn))
    obtain⟨x1,r1,b1⟩:=qhI (N:=SS.N) Tryz.underlying2 (hval 1 2 v1 rfl rfl) h1
    have key:=qlP (S:=SS) (qkV qCL fitAll) (qlN qCL fitAll) (qkP qCL fitAll) (c37 b0) (W:=W) (vs:= #[v0,v1]) (by simp only[VRs];exact⟨_,_,rfl,r0,⟨_,_,rfl,r1,rfl⟩⟩)
    rw[SSP,qmT]at key
    exact key

theorem over:Rows.fnExactRunQueueRow.holds Tryz.pinned (OpenSpec.ofChange Rows.fnExactRunQueueSpec):=
  OpenClaim.holds_of_wide 4 Tryz.f4 rfl rfl rfl rfl rfl rfl rfl ⟨rfl,rfl,rfl,rfl,rfl⟩ rfl rfl rfl rfl rfl (by kernel_rfl) Tryz.func4 (by kernel_rfl)
    (of_decide_eq_true (by kernel_rfl)) (by unfold Func.isWrapper;first | (rw[if_pos (by decide+kernel)];kernel_rfl) | (rw[if_neg (by decide+kernel)];exact⟨rfl,rfl⟩))
    (λos started H enc _=>qlS os started H enc)

theorem fnExactRunQueue_holds:Rows.FnExactRunQueueSaid:=over
#print axioms fnExactRunQueue_holds
end Go.Proofs.YtlppfplbkekkeaaGreat
