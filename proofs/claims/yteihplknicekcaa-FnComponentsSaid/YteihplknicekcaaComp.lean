/- For all arguments the law FnComponents returns true and leaves its arguments as they were. No condition.  -/
import Derived.Test.YteihplknicekcaaRows
import Derived.Test.YteihplknicekcaaFit
import Derived.KernelRfl
import Derived.WideShapes
import Derived.Test.YteihplknicekcaaP6
import Derived.Test.YteihplknicekcaaP8
namespace Go.Proofs.Yteihplknicekcaa
open Go Go.Ab Go.Proofs
set_option maxRecDepth 100000

theorem qMG{H:Type}{enc:TypeId×Value→H}{P:Program}{W:World}{N:qb}{α:Type}{t e':TypeId}{e:α→AV}{bd:α→Prop}{v:Value}{d}{ps:List MemPlace}(ht:P.underlying t=some (.slice e'))(he:∀x,(e x).cells=[e x])(hr:Rd enc N P W t e bd)
    {b:Nat} (hok:Value.okWide P W .any b t v) (h:DataW.Trod enc P W 0 (fun _=>true) true t v d ps) (hwt:Wt P t d):RdA N W e bd v:=by
  obtain⟨fuel,h⟩:=h
  obtain⟨a,len,cap,rfl⟩:=WideShapes.okWide_slice ht hok
  obtain⟨x,h1,h2⟩:=hr _ _ _ h hwt
  refine⟨x, ?_,h2⟩
  have h3:=h1.1
  rw[he]at h3
  simp only[Value.cells,VRs]at h3
  obtain⟨v,vs,e1,e2,_⟩:=h3
  cases e1
  exact e2
theorem qP2{bytes:List Int}(h:∀n∈bytes,(Lit.int .u8 n).wf=true):OkB bytes:=fun n hn=>by
  have:=h n hn
  simp only[Lit.wf,Bool.and_eq_true,decide_eq_true_eq]at this
  have e1:IntKind.u8.min=0:=by decide
  have e2:IntKind.u8.max=255:=by decide
  omega
section
variable {H:Type} {enc:TypeId×Value→H} {W:World}
theorem Try.cells5:Try.prog.cellsOf 5=1:=by kernel_rfl
theorem qQZ:Rd enc SS.N Try.prog W 5 z4 (fun n=>(Lit.int .u8 n).wf=true):=qQW Try.underlying5
theorem Try.cells22:Try.prog.cellsOf 22=1:=by kernel_rfl
theorem qQV:Rd enc SS.N Try.prog W 22 (fun xs:List Int=>.lst 1 (xs.map z4) false) (fun xs=>xs.length≤140737488355328∧∀x∈xs,(fun n=>(Lit.int .u8 n).wf=true) x):=qQX Try.underlying22 Try.cells5 (by decide) (fun _=>rfl) (of_decide_eq_true (by kernel_rfl)) qQZ
end

theorem qP1:SS.N.f 3=3:=by kernel_rfl
theorem qQB:ownKnob Try.prog.godebug=none:=by kernel_rfl
theorem qPB(os:Os)(started:os.Started)(H:Type)(enc:TypeId×Value→H):ReturnsInHanded {} Try.checked os 3 .any (Rows.fnComponentsSpec.pre6 enc Try.prog Try.f3 [] false) (Rows.fnComponentsSpec.post enc Try.prog Try.f3 false true false false):=by
  refine qO9 (C:=Try.checked) (tb:=4) started qQB (by kernel_rfl) Try.func3
    (ChangeSpec.witness6 (enc:=enc) (C:=Try.checked) false ⟨#[], #[.slice none 0 0],[]⟩ 8 (by kernel_rfl) (by kernel_rfl) (by kernel_rfl) (by kernel_rfl))
    (by kernel_rfl) (fun u hu=>of_decide_eq_true (by revert u;exact by intro u hu;rw[Try.params3]at hu;simp at hu;first | (subst hu;kernel_rfl) | (rcases hu with rfl<;>kernel_rfl))) rfl rfl Try.underlying4 (fun ds hd=> ?_) (fun W base args ds ps hval hA hwt=> ?_)
  · rw[Try.params3]at hd
    match ds,hd with
    |[d0],_=>exact⟨rfl,rfl,rfl⟩
  · have hval:∀(j:Nat) t v,Try.f3.params[j]?=some t→args[j]?=some v→Value.okWide Try.prog W .any base t v:=hval
    have hA:DataW.TrodAll enc Try.prog W 0 (fun _=>true) true Try.f3.params.toList args.toList ds ps:=hA
    have hwt:∀n∈DataW.weightsEach Try.prog Try.f3.params.toList ds,n≤reachBytes:=hwt
    rw[Try.params3]at hval hA hwt
    obtain⟨v0,vs0,d0,ds0,p0,q0,hargs,rfl,rfl,h0,hA0⟩:=ChangeShapes.trodAll_cons hA
    obtain⟨rfl,rfl,rfl⟩:=ChangeShapes.trodAll_nil hA0
    obtain rfl:args= #[v0]:=by cases args;simp_all
    obtain⟨x0,r0,b0⟩:=qMG Try.underlying22 (fun _=>rfl) qQV (hval 0 22 v0 rfl rfl) h0 (fun n hn=>hwt n (by simp only[DataW.weightsEach,List.mem_append];exact .inl hn))
    have key:=qO8 (S:=SS) (qOS VA fitAll) (qO7 VA fitAll) (qOL VA fitAll) (c3 (qP2 b0.2)) (W:=W) (vs:= #[v0]) (by simp only[VRs];exact⟨_,_,rfl,r0,rfl⟩)
    rw[SSP,qP1]at key
    exact key

theorem over:Rows.fnComponentsRow.holds Try.pinned (OpenSpec.ofChange Rows.fnComponentsSpec):=
  OpenClaim.holds_of_wide 3 Try.f3 rfl rfl rfl rfl rfl rfl rfl ⟨rfl,rfl,rfl,rfl,rfl⟩ rfl rfl rfl rfl rfl (by kernel_rfl) Try.func3 (by kernel_rfl)
    (of_decide_eq_true (by kernel_rfl)) (by unfold Func.isWrapper;first | (rw[if_pos (by decide+kernel)];kernel_rfl) | (rw[if_neg (by decide+kernel)];exact⟨rfl,rfl⟩))
    (fun os started H enc _=>qPB os started H enc)

theorem fnComponents_holds:Rows.FnComponentsSaid:=over
#print axioms fnComponents_holds
end Go.Proofs.Yteihplknicekcaa
