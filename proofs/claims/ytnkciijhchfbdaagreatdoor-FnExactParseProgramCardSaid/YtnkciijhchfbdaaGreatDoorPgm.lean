/- For every text the law FnExactParseProgram returns true and leaves its argument as it was. No condition; the library's listed variables start as the program's text qS them, which the card ties. -/
import Derived.Test.YtnkciijhchfbdaaGreatDoorRows
import Derived.Test.YtnkciijhchfbdaaGreatDoorTie
import Derived.Test.YtnkciijhchfbdaaGreatDoorCards
import Derived.Test.YtnkciijhchfbdaaGreatDoorTold
import Derived.LaidHandle
import Derived.Lib.LaidTab
import Derived.Stop.LaidErr
import Derived.SevenTiedAt
import Derived.WideShapes
import Derived.KernelRfl
import Derived.Test.YtnkciijhchfbdaaGreatDoorP6
import Derived.Test.YtnkciijhchfbdaaGreatDoorP10
namespace Go.Proofs.YtnkciijhchfbdaaGreatDoor
open Go Go.Ab Go.Proofs
set_option maxRecDepth 100000

theorem qdG{z:Nat→Option (Array Value)}:(SS z).N.f 46=4:=by kernel_rfl
theorem qdK:ownKnob Tryz.prog.godebug=none:=by kernel_rfl
theorem qVK:(Rows.fnExactParseProgramRow.laid.filter fun x=>x.2.handleName?.isSome)=[]:=by kernel_rfl
theorem qb9{W:World}(h:laidMetH Tryz.prog Rows.fnExactParseProgramRow.laid W):laidMet Tryz.prog Rows.fnExactParseProgramRow.laid W:=by
  unfold laidMetH at h
  rw[qVK]at h
  exact h
theorem qb8{W:World}(h:laidMet Tryz.prog Rows.fnExactParseProgramRow.laid W):laidMetH Tryz.prog Rows.fnExactParseProgramRow.laid W:=by
  unfold laidMetH
  rw[qVK]
  exact h

def rngS:ByteArray:=⟨#[118,97,108,117,101,32,111,117,116,32,111,102,32,114,97,110,103,101]⟩
def synS:ByteArray:=⟨#[105,110,118,97,108,105,100,32,115,121,110,116,97,120]⟩
def qfB:List Int:=[0,1,28,2,29,14,24,3,30,22,20,15,25,17,4,8,31,27,13,23,21,19,16,7,26,12,18,6,11,5,10,9]
def qfC:List Int:=[0,1,56,2,57,49,28,3,61,58,42,50,38,29,17,4,62,47,59,36,45,43,51,22,53,39,33,30,24,18,12,5,63,55,48,27,60,41,37,16,46,35,44,21,52,32,23,11,54,26,40,15,34,20,31,10,25,14,19,9,13,8,7,6]
noncomputable def low:Nat:=(World.holding Tryz.prog default ⟨#[], #[],[]⟩).heap.size
/--What is put into a variable's cells. -/
def Wk(cs:Array Value):Obj→Obj
  |.cells _ t frozen=>.cells cs t frozen
  | o=>o
/--A memory that meets the condition. -/
noncomputable def qUT(os:Os):World:=
  let w0:=World.holding Tryz.prog os ⟨#[.cells #[.string rngS] 185,.cells #[.string synS] 185], #[],[]⟩
  {w0 with heap:=((((w0.heap.modify 2 (Wk #[.iface 183 (.pointer (some ⟨low,0,none⟩))])).modify 1 (Wk #[.iface 183 (.pointer (some ⟨low+1,0,none⟩))])).modify 3 (Wk (Lib.pow10Tab.map fun n=>Value.int .u64 n).toArray)).modify 4 (Wk (qfB.map fun n=>Value.int .u8 n).toArray)).modify 5 (Wk (qfC.map fun n=>Value.int .u8 n).toArray)}
theorem qb7(os:Os)(args:Array Value):laidMetH Tryz.prog Rows.fnExactParseProgramRow.laid ((qUT os).forCall (fun _ _=>0) ⟨#[],args,[]⟩).memory:=
  qb8 (laidMet_of_run' 8 (by kernel_rfl) (by kernel_rfl))

theorem star : "*" ++ "errors.errorString" = "*errors.errorString" := by decide
theorem qWO (u : TypeId) (h : Tryz.prog.typeName? 3 u = some "*errors.errorString") : u = 183 :=
  typeName_ptr_named (nm := "errors.errorString") (by rw [star]; kernel_rfl) (by kernel_rfl) (by decide) u (by rw [star]; exact h)
/--What the condition Wj. -/
def Wj(p1 p2:Value)(b:Nat):Option (Array Value):=if b=1 then some #[.iface 183 p1]else if b=2 then some #[.iface 183 p2]else if b=3 then some (Lib.pow10Tab.map fun n=>Value.int .u64 n).toArray else none
theorem kZ{W:World}{n:String}{b:Nat}{c:Array Value}(hn:Tryz.prog.globalNamed n=some b)(h:W.var? Tryz.prog n=some c):(fz0 W).z b=some c:=by
  unfold World.var? at h
  rw[hn]at h
  simp only[Option.bind_some]at h
  simp only[fz0]
  exact h
theorem qWA{W:World}(h:laidMetH Tryz.prog Rows.fnExactParseProgramRow.laid W):∃p1 p2,∀b c,Wj p1 p2 b=some c→(fz0 W).z b=some c:=by
  have h:=qb9 h
  have h3:=laidMet.tail (laidMet.tail h)
  have h2:=laidMet.tail h3
  have h1:=laidMet.tail h2
  have ht : Lib.TabIs Tryz.prog W "internal/strconv.uint64pow10" .u64 Lib.pow10Tab :=
    Lib.tabIs_of_head (rest:=Rows.fnExactParseProgramRow.laid.drop 3) (g:=3) (t:=188) (e:=165) (n:=20) (by kernel_rfl) (by kernel_rfl) Tryz.underlying188 Tryz.underlying165 (by kernel_rfl) (by kernel_rfl) h3
  obtain⟨a2,s2,v2,_⟩:=laid_sentinel (g:=2) (ti:=156) (tp:=183) (te:=185) (ts:=9) h2 (by kernel_rfl) (by kernel_rfl) Tryz.underlying156 qWO Tryz.underlying183 Tryz.underlying185 rfl rfl Tryz.underlying9 (by kernel_rfl) (by kernel_rfl)
  obtain⟨a1,s1,v1,_⟩:=laid_sentinel (g:=1) (ti:=156) (tp:=183) (te:=185) (ts:=9) h1 (by kernel_rfl) (by kernel_rfl) Tryz.underlying156 qWO Tryz.underlying183 Tryz.underlying185 rfl rfl Tryz.underlying9 (by kernel_rfl) (by kernel_rfl)
  refine⟨.pointer (some a1),.pointer (some a2),fun b c hb=> ?_⟩
  unfold Wj at hb
  split at hb
  · rename_i e; subst e; cases hb; exact kZ (n := "strconv.ErrSyntax") (by kernel_rfl) v1
  · split at hb
    · rename_i e; subst e; cases hb; exact kZ (n := "strconv.ErrRange") (by kernel_rfl) v2
    · split at hb
      · rename_i e; subst e; cases hb; exact kZ (n := "internal/strconv.uint64pow10") (by kernel_rfl) ht
      · cases hb

theorem qcD(os:Os)(started:os.Started)(H:Type)(enc:TypeId×Value→H):ReturnsInHanded {} Tryz.checked os 4 .any (fun w args=>(Rows.fnExactParseProgramSpec.pre enc Tryz.prog Tryz.f4 [] false w args∧laidMetH Tryz.prog Rows.fnExactParseProgramRow.laid w)∧sizedMet enc Tryz.prog Tryz.f4 (OpenSpec.ofChange Rows.fnExactParseProgramSpec) false w args) (Rows.fnExactParseProgramSpec.post enc Tryz.prog Tryz.f4 false true false false):=by
  refine qcB (X:=fun w _=>laidMetH Tryz.prog Rows.fnExactParseProgramRow.laid w) (fun _ _ _ hh h=>h.of_heap hh) (C:=Tryz.checked) (tb:=4) started qdK (by kernel_rfl) Tryz.func4
    (ChangeSpec.witness_at (enc:=enc) (C:=Tryz.checked) (os:=os) (X:=fun w _=>laidMetH Tryz.prog Rows.fnExactParseProgramRow.laid w) false (qUT os) #[.string ⟨#[]⟩] 8 rfl (by kernel_rfl) (by kernel_rfl) (by kernel_rfl) (by kernel_rfl) (by kernel_rfl) (qb7 os _))
    (by kernel_rfl) (fun u hu=>of_decide_eq_true (by revert u;exact by intro u hu;rw[Tryz.params4]at hu;simp at hu;subst hu;kernel_rfl)) rfl rfl Tryz.underlying4 (fun ds hd=> ?_) (fun W base args ds ps hval hA hwt hX=> ?_)
  · rw[Tryz.params4]at hd
    match ds,hd with
    |[d0],_=>exact⟨rfl,rfl,rfl⟩
  · have hval:∀(j:Nat) t v,Tryz.f4.params[j]?=some t→args[j]?=some v→Value.okWide Tryz.prog W .any base t v:=hval
    have hA:DataW.TrodAll enc Tryz.prog W 0 (fun _=>true) true Tryz.f4.params.toList args.toList ds ps:=hA
    rw[Tryz.params4]at hval hA
    obtain⟨v0,vs0,d0,ds0,p0,q0,hargs,rfl,rfl,h0,hA0⟩:=ChangeShapes.trodAll_cons hA
    obtain⟨rfl,rfl,rfl⟩:=ChangeShapes.trodAll_nil hA0
    obtain rfl:args= #[v0]:=by cases args;simp_all
    obtain⟨s0,rfl⟩:=WideShapes.okWide_string Tryz.underlying9 (hval 0 9 v0 rfl rfl)
    obtain⟨p1,p2,hpin⟩:=qWA hX
    have ht:=qfN (z:=Wj p1 p2) rfl rfl rfl
    have key:=qcA (S:=SS (Wj p1 p2)) (qa9 Ky ht fitAll) (qb6 Ky ht fitAll) (qa3 Ky ht fitAll) (c46 (t:=s0.data.toList)) (W:=W) (vs:= #[.string s0]) hpin (by simp only[VRs];exact⟨_,_,rfl,by simp only[VR],rfl⟩)
    rw[SSP,qdG]at key
    exact key

theorem row_holds:Rows.FnExactParseProgramSaid:=
  OpenClaim.holds_of_wide 4 Tryz.f4 rfl rfl rfl rfl rfl rfl rfl ⟨rfl,rfl,rfl,rfl,rfl⟩ rfl rfl rfl rfl rfl (by kernel_rfl) Tryz.func4 (by kernel_rfl)
    (of_decide_eq_true (by kernel_rfl)) (by unfold Func.isWrapper;first | (rw[if_pos (by decide+kernel)];kernel_rfl) | (rw[if_neg (by decide+kernel)];exact⟨rfl,rfl⟩))
    (fun os started H enc _=>qcD os started H enc)

theorem fnExactParseProgram_holds:Rows.FnExactParseProgramCardSaid:=
  Claim7.holds_tied_plain_at .later [] [.data,.data,.data,.sentinel,.sentinel] true Rows.fnExactParseProgramCard.stood.harness true
    row_holds (fun _ h=>by cases h) (by kernel_rfl) (fun _ h=>by cases h) fnExactParseProgram_row_tie rfl ⟨rfl,rfl⟩ (by kernel_rfl) rfl
    (fun f fn hf hfn=>by
      obtain rfl : f = 4 := Option.some.inj ((show Tryz.prog.funcNamed "loop.example/g01074/laws.FnExactParseProgram" = some 4 by kernel_rfl).symm.trans hf) |>.symm
      obtain rfl:fn=Tryz.f4:=(Option.some.inj (Tryz.func4.symm.trans hfn)).symm
      exact⟨by kernel_rfl,fun j t ht=>by
        rw[Tryz.params4]at ht
        have h3:t=9:=by
          rcases j with _ | j
          · simpa using ht.symm
          · simp at ht
        subst h3
        exact(show Tryz.prog.wantsStandIn 9=false by kernel_rfl)⟩)
    (by kernel_rfl)
#print axioms fnExactParseProgram_holds
end Go.Proofs.YtnkciijhchfbdaaGreatDoor
