/- For all arguments the law FnExactStepForward returns true and leaves its arguments as they were. No condition.  -/
import Derived.Test.YthackbfgkomkjaaGreatRows
import Derived.Test.YthackbfgkomkjaaGreatFit
import Derived.KernelRfl
import Derived.Test.YthackbfgkomkjaaGreatP5
import Derived.Test.YthackbfgkomkjaaGreatP9
namespace Go.Proofs.YthackbfgkomkjaaGreat
open Go Go.Ab Go.Proofs
set_option maxRecDepth 100000

section
variable {H:Type} {enc:TypeId×Value→H} {W:World}
theorem Tryz.cells2:Tryz.prog.cellsOf 2=1:=by kernel_rfl
theorem JL:Rd enc SS.N Tryz.prog W 2 (fun n:Int=>.int .i64 n) (fun n=>(Lit.int .i64 n).wf=true):=qk6 Tryz.underlying2
theorem Tryz.cells23:Tryz.prog.cellsOf 23=1:=by kernel_rfl
theorem qdH:Rd enc SS.N Tryz.prog W 23 (fun xs:List Int=>.lst 1 (xs.map qK) false) (fun xs=>xs.length≤140737488355328∧∀x∈xs,(fun n=>(Lit.int .i64 n).wf=true) x):=WB Tryz.underlying23 Tryz.cells2 (by decide) (fun _=>rfl) (of_decide_eq_true (by kernel_rfl)) JL
theorem Tryz.cells219:Tryz.prog.cellsOf 219=2:=by kernel_rfl
theorem qk0:Rd enc SS.N Tryz.prog W 219 qG.enc (fun _=>True):=by
  intro fuel cs d h hw
  obtain⟨hl,hf⟩:=WA Tryz.underlying219 Tryz.cells219 h hw
  obtain⟨x0,r0,b0⟩:=jQ hf 0 0 1 rfl rfl rfl Tryz.cells2 JL
  obtain⟨x1,r1,b1⟩:=jQ hf 1 1 1 rfl rfl rfl Tryz.cells2 JL
  exact⟨⟨x0,x1⟩,RdL.cat (o:=0) r0 (RdL.cat r1 (RdL.nil (by omega))),trivial⟩
theorem Tryz.cells159:Tryz.prog.cellsOf 159=1:=by kernel_rfl
theorem qk5:Rd enc SS.N Tryz.prog W 159 (fun xs:List qG=>.lst 2 (xs.map qG.enc) false) (fun xs=>xs.length≤140737488355328∧∀x∈xs,(fun _=>True) x):=WB Tryz.underlying159 Tryz.cells219 (by decide) (fun _=>qG.ln) (of_decide_eq_true (by kernel_rfl)) qk0
theorem Tryz.cells161:Tryz.prog.cellsOf 161=5:=by kernel_rfl
theorem qkV:Rd enc SS.N Tryz.prog W 161 qA.enc qA.bd:=by
  intro fuel cs d h hw
  obtain⟨hl,hf⟩:=WA Tryz.underlying161 Tryz.cells161 h hw
  obtain⟨x0,r0,b0⟩:=jQ hf 0 0 1 rfl rfl rfl Tryz.cells2 JL
  obtain⟨x1,r1,b1⟩:=jQ hf 1 1 1 rfl rfl rfl Tryz.cells2 JL
  obtain⟨x2,r2,b2⟩:=jQ hf 2 2 1 rfl rfl rfl Tryz.cells2 JL
  obtain⟨x3,r3,b3⟩:=jQ hf 3 3 1 rfl rfl rfl Tryz.cells23 qdH
  obtain⟨x4,r4,b4⟩:=jQ hf 4 4 1 rfl rfl rfl Tryz.cells159 qk5
  exact⟨⟨x0,x1,x2,x3,x4⟩,RdL.cat (o:=0) r0 (RdL.cat r1 (RdL.cat r2 (RdL.cat r3 (RdL.cat r4 (RdL.nil (by omega)))))),⟨b3.1,b4.1⟩⟩
theorem Tryz.cells24:Tryz.prog.cellsOf 24=1:=by kernel_rfl
theorem qk1:Rd enc SS.N Tryz.prog W 24 (fun xs:List qA=>.lst 5 (xs.map qA.enc) false) (fun xs=>xs.length≤140737488355328∧∀x∈xs,qA.bd x):=WB Tryz.underlying24 Tryz.cells161 (by decide) (fun _=>qA.ln) (of_decide_eq_true (by kernel_rfl)) qkV
theorem Tryz.cells26:Tryz.prog.cellsOf 26=1:=by kernel_rfl
theorem qCY:Rd enc SS.N Tryz.prog W 26 qC.enc qC.bd:=by
  intro fuel cs d h hw
  obtain⟨hl,hf⟩:=WA Tryz.underlying26 Tryz.cells26 h hw
  obtain⟨x0,r0,b0⟩:=jQ hf 0 0 1 rfl rfl rfl Tryz.cells24 qk1
  exact⟨⟨x0⟩,RdL.cat (o:=0) r0 (RdL.nil (by omega)),⟨b0.1,b0.2⟩⟩
theorem Tryz.cells22:Tryz.prog.cellsOf 22=1:=by kernel_rfl
theorem qk4:Rd enc SS.N Tryz.prog W 22 (fun xs:List qC=>.lst 1 (xs.map qC.enc) false) (fun xs=>xs.length≤140737488355328∧∀x∈xs,qC.bd x):=WB Tryz.underlying22 Tryz.cells26 (by decide) (fun _=>qC.ln) (of_decide_eq_true (by kernel_rfl)) qCY
theorem Tryz.cells114:Tryz.prog.cellsOf 114=3:=by kernel_rfl
theorem qkZ:Rd enc SS.N Tryz.prog W 114 qE.enc (fun _=>True):=by
  intro fuel cs d h hw
  obtain⟨hl,hf⟩:=WA Tryz.underlying114 Tryz.cells114 h hw
  obtain⟨x0,r0,b0⟩:=jQ hf 0 0 1 rfl rfl rfl Tryz.cells2 JL
  obtain⟨x1,r1,b1⟩:=jQ hf 1 1 1 rfl rfl rfl Tryz.cells2 JL
  obtain⟨x2,r2,b2⟩:=jQ hf 2 2 1 rfl rfl rfl Tryz.cells2 JL
  exact⟨⟨x0,x1,x2⟩,RdL.cat (o:=0) r0 (RdL.cat r1 (RdL.cat r2 (RdL.nil (by omega)))),trivial⟩
theorem Tryz.cells27:Tryz.prog.cellsOf 27=1:=by kernel_rfl
theorem qdG:Rd enc SS.N Tryz.prog W 27 (fun xs:List qE=>.lst 3 (xs.map qE.enc) false) (fun xs=>xs.length≤140737488355328∧∀x∈xs,(fun _=>True) x):=WB Tryz.underlying27 Tryz.cells114 (by decide) (fun _=>qE.ln) (of_decide_eq_true (by kernel_rfl)) qkZ
theorem Tryz.cells116:Tryz.prog.cellsOf 116=2:=by kernel_rfl
theorem qkW:Rd enc SS.N Tryz.prog W 116 qI.enc (fun _=>True):=by
  intro fuel cs d h hw
  obtain⟨hl,hf⟩:=WA Tryz.underlying116 Tryz.cells116 h hw
  obtain⟨x0,r0,b0⟩:=jQ hf 0 0 1 rfl rfl rfl Tryz.cells2 JL
  obtain⟨x1,r1,b1⟩:=jQ hf 1 1 1 rfl rfl rfl Tryz.cells2 JL
  exact⟨⟨x0,x1⟩,RdL.cat (o:=0) r0 (RdL.cat r1 (RdL.nil (by omega))),trivial⟩
theorem Tryz.cells28:Tryz.prog.cellsOf 28=1:=by kernel_rfl
theorem qk2:Rd enc SS.N Tryz.prog W 28 (fun xs:List qI=>.lst 2 (xs.map qI.enc) false) (fun xs=>xs.length≤140737488355328∧∀x∈xs,(fun _=>True) x):=WB Tryz.underlying28 Tryz.cells116 (by decide) (fun _=>qI.ln) (of_decide_eq_true (by kernel_rfl)) qkW
theorem Tryz.cells95:Tryz.prog.cellsOf 95=3:=by kernel_rfl
theorem qkX:Rd enc SS.N Tryz.prog W 95 qF.enc qF.bd:=by
  intro fuel cs d h hw
  obtain⟨hl,hf⟩:=WA Tryz.underlying95 Tryz.cells95 h hw
  obtain⟨x0,r0,b0⟩:=jQ hf 0 0 1 rfl rfl rfl Tryz.cells2 JL
  obtain⟨x1,r1,b1⟩:=jQ hf 1 1 1 rfl rfl rfl Tryz.cells26 qCY
  obtain⟨x2,r2,b2⟩:=jQ hf 2 2 1 rfl rfl rfl Tryz.cells27 qdG
  exact⟨⟨x0,x1,x2⟩,RdL.cat (o:=0) r0 (RdL.cat r1 (RdL.cat r2 (RdL.nil (by omega)))),⟨b1,b2.1⟩⟩
theorem Tryz.cells29:Tryz.prog.cellsOf 29=1:=by kernel_rfl
theorem qk3:Rd enc SS.N Tryz.prog W 29 (fun xs:List qF=>.lst 3 (xs.map qF.enc) false) (fun xs=>xs.length≤140737488355328∧∀x∈xs,qF.bd x):=WB Tryz.underlying29 Tryz.cells95 (by decide) (fun _=>qF.ln) (of_decide_eq_true (by kernel_rfl)) qkX
theorem Tryz.cells31:Tryz.prog.cellsOf 31=8:=by kernel_rfl
theorem qkY:Rd enc SS.N Tryz.prog W 31 qJ.enc qJ.bd:=by
  intro fuel cs d h hw
  obtain⟨hl,hf⟩:=WA Tryz.underlying31 Tryz.cells31 h hw
  obtain⟨x0,r0,b0⟩:=jQ hf 0 0 1 rfl rfl rfl Tryz.cells22 qk4
  obtain⟨x1,r1,b1⟩:=jQ hf 1 1 1 rfl rfl rfl Tryz.cells23 qdH
  obtain⟨x2,r2,b2⟩:=jQ hf 2 2 1 rfl rfl rfl Tryz.cells2 JL
  obtain⟨x3,r3,b3⟩:=jQ hf 3 3 1 rfl rfl rfl Tryz.cells2 JL
  obtain⟨x4,r4,b4⟩:=jQ hf 4 4 1 rfl rfl rfl Tryz.cells26 qCY
  obtain⟨x5,r5,b5⟩:=jQ hf 5 5 1 rfl rfl rfl Tryz.cells27 qdG
  obtain⟨x6,r6,b6⟩:=jQ hf 6 6 1 rfl rfl rfl Tryz.cells28 qk2
  obtain⟨x7,r7,b7⟩:=jQ hf 7 7 1 rfl rfl rfl Tryz.cells29 qk3
  exact⟨⟨x0,x1,x2,x3,x4,x5,x6,x7⟩,RdL.cat (o:=0) r0 (RdL.cat r1 (RdL.cat r2 (RdL.cat r3 (RdL.cat r4 (RdL.cat r5 (RdL.cat r6 (RdL.cat r7 (RdL.nil (by omega))))))))),⟨b0.1,b0.2,b1.1,b4,b5.1,b6.1,b7.1,b7.2⟩⟩
end

theorem qjV:SS.N.f 41=5:=by kernel_rfl
theorem qkD:ownKnob Tryz.prog.godebug=none:=by kernel_rfl
theorem qiO(os:Os)(started:os.Started)(H:Type)(enc:TypeId×Value→H):ReturnsInHanded {} Tryz.checked os 5 .any (Rows.fnExactStepForwardSpec.pre6 enc Tryz.prog Tryz.f5 [] false) (Rows.fnExactStepForwardSpec.post enc Tryz.prog Tryz.f5 false true false false):=by
  refine qiM (C:=Tryz.checked) (tb:=4) started qkD (by kernel_rfl) Tryz.func5
    (ChangeSpec.witness6 (enc:=enc) (C:=Tryz.checked) false ⟨#[], #[.agg #[.slice none 0 0,.slice none 0 0,.int .i64 0,.int .i64 0,.slice none 0 0,.slice none 0 0,.slice none 0 0,.slice none 0 0],.int .i64 0],[]⟩ 8 (by kernel_rfl) (by kernel_rfl) (by kernel_rfl) (by kernel_rfl))
    (by kernel_rfl) (fun u hu=>of_decide_eq_true (by revert u;exact by intro u hu;rw[Tryz.params5]at hu;simp at hu;first | (subst hu;kernel_rfl) | (rcases hu with rfl | rfl<;>kernel_rfl))) rfl rfl Tryz.underlying4 (fun ds hd=> ?_) (fun W base args ds ps hval hA hwt=> ?_)
  · rw[Tryz.params5]at hd
    match ds,hd with
    |[d0,d1],_=>exact⟨rfl,rfl,rfl⟩
  · have hval:∀(j:Nat) t v,Tryz.f5.params[j]?=some t→args[j]?=some v→Value.okWide Tryz.prog W .any base t v:=hval
    have hA:DataW.TrodAll enc Tryz.prog W 0 (fun _=>true) true Tryz.f5.params.toList args.toList ds ps:=hA
    have hwt:∀n∈DataW.weightsEach Tryz.prog Tryz.f5.params.toList ds,n≤reachBytes:=hwt
    rw[Tryz.params5]at hval hA hwt
    obtain⟨v0,vs0,d0,ds0,p0,q0,hargs,rfl,rfl,h0,hA0⟩:=ChangeShapes.trodAll_cons hA
    obtain⟨v1,vs1,d1,ds1,p1,q1,rfl,rfl,rfl,h1,hA1⟩:=ChangeShapes.trodAll_cons hA0
    obtain⟨rfl,rfl,rfl⟩:=ChangeShapes.trodAll_nil hA1
    obtain rfl:args= #[v0,v1]:=by cases args;simp_all
    obtain⟨x0,r0,b0⟩:=qe4 Tryz.underlying31 (fun _=>⟨_,rfl⟩) qkY (hval 0 31 v0 rfl rfl) h0 (fun n hn=>hwt n (by simp only[DataW.weightsEach,List.mem_append];exact .inl hn))
    obtain⟨x1,r1,b1⟩:=qe3 (N:=SS.N) Tryz.underlying2 (hval 1 2 v1 rfl rfl) h1
    have key:=qiL (S:=SS) (qhZ qBU fitAll) (qiK qBU fitAll) (qhU qBU fitAll) (c41 b0) (W:=W) (vs:= #[v0,v1]) (by simp only[VRs];exact⟨_,_,rfl,r0,⟨_,_,rfl,r1,rfl⟩⟩)
    rw[SSP,qjV]at key
    exact key

theorem over:Rows.fnExactStepForwardRow.holds Tryz.pinned (OpenSpec.ofChange Rows.fnExactStepForwardSpec):=
  OpenClaim.holds_of_wide 5 Tryz.f5 rfl rfl rfl rfl rfl rfl rfl ⟨rfl,rfl,rfl,rfl,rfl⟩ rfl rfl rfl rfl rfl (by kernel_rfl) Tryz.func5 (by kernel_rfl)
    (of_decide_eq_true (by kernel_rfl)) (by unfold Func.isWrapper;first | (rw[if_pos (by decide+kernel)];kernel_rfl) | (rw[if_neg (by decide+kernel)];exact⟨rfl,rfl⟩))
    (fun os started H enc _=>qiO os started H enc)

theorem fnExactStepForward_holds:Rows.FnExactStepForwardSaid:=over
#print axioms fnExactStepForward_holds
end Go.Proofs.YthackbfgkomkjaaGreat
