/- For every text the law FnExactIsCanonical returns true and leaves its argument as it was. No condition; the library's listed variables start as the program's text qZ them, which the card ties. -/
import Derived.Test.YtkgbnffcaabafaaGreatDoorRows
import Derived.Test.YtkgbnffcaabafaaGreatDoorTie
import Derived.Test.YtkgbnffcaabafaaGreatDoorCards
import Derived.Test.YtkgbnffcaabafaaGreatDoorTold
import Derived.LaidHandle
import Derived.Lib.LaidTab
import Derived.Stop.LaidErr
import Derived.SevenTiedAt
import Derived.WideShapes
import Derived.KernelRfl
import Derived.Test.YtkgbnffcaabafaaGreatDoorP6
import Derived.Test.YtkgbnffcaabafaaGreatDoorP10
import Derived.Test.YtkgbnffcaabafaaGreatDoorP11
namespace Go.Proofs.YtkgbnffcaabafaaGreatDoor
open Go Go.Ab Go.Proofs
set_option maxRecDepth 100000

theorem qeP{z:Nat→Option (Array Value)}:(SS z).N.f 43=4:=by kernel_rfl
theorem qeU:ownKnob Tryz.prog.godebug=none:=by kernel_rfl
theorem qWG:(Rows.fnExactIsCanonicalRow.laid.filter fun x=>x.2.handleName?.isSome)=[]:=by kernel_rfl
theorem qdF{W:World}(h:laidMetH Tryz.prog Rows.fnExactIsCanonicalRow.laid W):laidMet Tryz.prog Rows.fnExactIsCanonicalRow.laid W:=by
  unfold laidMetH at h
  rw[qWG]at h
  exact h
theorem qdE{W:World}(h:laidMet Tryz.prog Rows.fnExactIsCanonicalRow.laid W):laidMetH Tryz.prog Rows.fnExactIsCanonicalRow.laid W:=by
  unfold laidMetH
  rw[qWG]
  exact h

def rngS:ByteArray:=⟨#[118,97,108,117,101,32,111,117,116,32,111,102,32,114,97,110,103,101]⟩
def synS:ByteArray:=⟨#[105,110,118,97,108,105,100,32,115,121,110,116,97,120]⟩
def qgJ:List Int:=[0,1,28,2,29,14,24,3,30,22,20,15,25,17,4,8,31,27,13,23,21,19,16,7,26,12,18,6,11,5,10,9]
def qgK:List Int:=[0,1,56,2,57,49,28,3,61,58,42,50,38,29,17,4,62,47,59,36,45,43,51,22,53,39,33,30,24,18,12,5,63,55,48,27,60,41,37,16,46,35,44,21,52,32,23,11,54,26,40,15,34,20,31,10,25,14,19,9,13,8,7,6]
noncomputable def low:Nat:=(World.holding Tryz.prog default ⟨#[], #[],[]⟩).heap.size
/--What is put into a variable's cells. -/
def Wy(cs:Array Value):Obj→Obj
  |.cells _ t frozen=>.cells cs t frozen
  | o=>o
/--A memory that meets the condition. -/
noncomputable def qVG(os:Os):World:=
  let w0:=World.holding Tryz.prog os ⟨#[.cells #[.string rngS] 200,.cells #[.string synS] 200], #[],[]⟩
  {w0 with heap:=((((w0.heap.modify 5 (Wy #[.iface 198 (.pointer (some ⟨low,0,none⟩))])).modify 4 (Wy #[.iface 198 (.pointer (some ⟨low+1,0,none⟩))])).modify 1 (Wy (Lib.pow10Tab.map fun n=>Value.int .u64 n).toArray)).modify 2 (Wy (qgJ.map fun n=>Value.int .u8 n).toArray)).modify 3 (Wy (qgK.map fun n=>Value.int .u8 n).toArray)}
theorem qdD(os:Os)(args:Array Value):laidMetH Tryz.prog Rows.fnExactIsCanonicalRow.laid ((qVG os).forCall (fun _ _=>0) ⟨#[],args,[]⟩).memory:=
  qdE (laidMet_of_run' 8 (by kernel_rfl) (by kernel_rfl))

theorem star : "*" ++ "errors.errorString" = "*errors.errorString" := by decide
theorem qXO (u : TypeId) (h : Tryz.prog.typeName? 3 u = some "*errors.errorString") : u = 198 :=
  typeName_ptr_named (nm := "errors.errorString") (by rw [star]; kernel_rfl) (by kernel_rfl) (by decide) u (by rw [star]; exact h)
/--What the condition Wx. -/
def Wx(p1 p2:Value)(b:Nat):Option (Array Value):=if b=4 then some #[.iface 198 p1]else if b=5 then some #[.iface 198 p2]else if b=1 then some (Lib.pow10Tab.map fun n=>Value.int .u64 n).toArray else none
theorem qAQ{W:World}{n:String}{b:Nat}{c:Array Value}(hn:Tryz.prog.globalNamed n=some b)(h:W.var? Tryz.prog n=some c):(fz0 W).z b=some c:=by
  unfold World.var? at h
  rw[hn]at h
  simp only[Option.bind_some]at h
  simp only[fz0]
  exact h
theorem qXA{W:World}(h:laidMetH Tryz.prog Rows.fnExactIsCanonicalRow.laid W):∃p1 p2,∀b c,Wx p1 p2 b=some c→(fz0 W).z b=some c:=by
  have h:=qdF h
  have h3:=laidMet.tail (laidMet.tail h)
  have h2:=laidMet.tail h3
  have h1:=laidMet.tail h2
  have ht : Lib.TabIs Tryz.prog W "internal/strconv.uint64pow10" .u64 Lib.pow10Tab :=
    Lib.tabIs_of_head (rest:=Rows.fnExactIsCanonicalRow.laid.drop 3) (g:=1) (t:=158) (e:=133) (n:=20) (by kernel_rfl) (by kernel_rfl) Tryz.underlying158 Tryz.underlying133 (by kernel_rfl) (by kernel_rfl) h3
  obtain⟨a2,s2,v2,_⟩:=laid_sentinel (g:=5) (ti:=74) (tp:=198) (te:=200) (ts:=9) h2 (by kernel_rfl) (by kernel_rfl) Tryz.underlying74 qXO Tryz.underlying198 Tryz.underlying200 rfl rfl Tryz.underlying9 (by kernel_rfl) (by kernel_rfl)
  obtain⟨a1,s1,v1,_⟩:=laid_sentinel (g:=4) (ti:=74) (tp:=198) (te:=200) (ts:=9) h1 (by kernel_rfl) (by kernel_rfl) Tryz.underlying74 qXO Tryz.underlying198 Tryz.underlying200 rfl rfl Tryz.underlying9 (by kernel_rfl) (by kernel_rfl)
  refine⟨.pointer (some a1),.pointer (some a2),fun b c hb=> ?_⟩
  unfold Wx at hb
  split at hb
  · rename_i e; subst e; cases hb; exact qAQ (n := "strconv.ErrSyntax") (by kernel_rfl) v1
  · split at hb
    · rename_i e; subst e; cases hb; exact qAQ (n := "strconv.ErrRange") (by kernel_rfl) v2
    · split at hb
      · rename_i e; subst e; cases hb; exact qAQ (n := "internal/strconv.uint64pow10") (by kernel_rfl) ht
      · cases hb

theorem qdJ(os:Os)(started:os.Started)(H:Type)(enc:TypeId×Value→H):ReturnsInHanded {} Tryz.checked os 4 .any (fun w args=>(Rows.fnExactIsCanonicalSpec.pre enc Tryz.prog Tryz.f4 [] false w args∧laidMetH Tryz.prog Rows.fnExactIsCanonicalRow.laid w)∧sizedMet enc Tryz.prog Tryz.f4 (OpenSpec.ofChange Rows.fnExactIsCanonicalSpec) false w args) (Rows.fnExactIsCanonicalSpec.post enc Tryz.prog Tryz.f4 false true false false):=by
  refine qdH (X:=fun w _=>laidMetH Tryz.prog Rows.fnExactIsCanonicalRow.laid w) (fun _ _ _ hh h=>h.of_heap hh) (C:=Tryz.checked) (tb:=4) started qeU (by kernel_rfl) Tryz.func4
    (ChangeSpec.witness_at (enc:=enc) (C:=Tryz.checked) (os:=os) (X:=fun w _=>laidMetH Tryz.prog Rows.fnExactIsCanonicalRow.laid w) false (qVG os) #[.string ⟨#[]⟩] 8 rfl (by kernel_rfl) (by kernel_rfl) (by kernel_rfl) (by kernel_rfl) (by kernel_rfl) (qdD os _))
    (by kernel_rfl) (fun u hu=>of_decide_eq_true (by revert u;exact by intro u hu;rw[Tryz.params4]at hu;simp at hu;subst hu;kernel_rfl)) rfl rfl Tryz.underlying4 (fun ds hd=> ?_) (fun W base args ds ps hval hA hwt hX=> ?_)
  · rw[Tryz.params4]at hd
    match ds,hd with
    |[d0],_=>exact⟨rfl,rfl,rfl⟩
  · have hval:∀(j:Nat) t v,Tryz.f4.params[j]?=some t→args[j]?=some v→Value.okWide Tryz.prog W .any base t v:=hval
    have hA:DataW.TrodAll enc Tryz.prog W 0 (fun _=>true) true Tryz.f4.params.toList args.toList ds ps:=hA
    rw[Tryz.params4]at hval hA
    obtain⟨v0,vs0,d0,ds0,p0,q0,hargs,rfl,rfl,h0,hA0⟩:=ChangeShapes.trodAll_cons hA
    obtain⟨rfl,rfl,rfl⟩:=ChangeShapes.trodAll_nil hA0
    obtain rfl:args= #[v0]:=by cases args;simp_all
    obtain⟨s0,rfl⟩:=WideShapes.okWide_string Tryz.underlying9 (hval 0 9 v0 rfl rfl)
    obtain⟨p1,p2,hpin⟩:=qXA hX
    have ht:=qgW (z:=Wx p1 p2) rfl rfl rfl
    have key:=qdG (S:=SS (Wx p1 p2)) (qcE kS ht fitAll) (qdC kS ht fitAll) (qb8 kS ht fitAll) (c43 (t:=s0.data.toList)) (W:=W) (vs:= #[.string s0]) hpin (by simp only[VRs];exact⟨_,_,rfl,by simp only[VR],rfl⟩)
    rw[SSP,qeP]at key
    exact key

theorem row_holds:Rows.FnExactIsCanonicalSaid:=
  OpenClaim.holds_of_wide 4 Tryz.f4 rfl rfl rfl rfl rfl rfl rfl ⟨rfl,rfl,rfl,rfl,rfl⟩ rfl rfl rfl rfl rfl (by kernel_rfl) Tryz.func4 (by kernel_rfl)
    (of_decide_eq_true (by kernel_rfl)) (by unfold Func.isWrapper;first | (rw[if_pos (by decide+kernel)];kernel_rfl) | (rw[if_neg (by decide+kernel)];exact⟨rfl,rfl⟩))
    (fun os started H enc _=>qdJ os started H enc)

theorem fnExactIsCanonical_holds:Rows.FnExactIsCanonicalCardSaid:=
  Claim7.holds_tied_plain_at .later [] [.data,.data,.data,.sentinel,.sentinel] true Rows.fnExactIsCanonicalCard.stood.harness true
    row_holds (fun _ h=>by cases h) (by kernel_rfl) (fun _ h=>by cases h) fnExactIsCanonical_row_tie rfl ⟨rfl,rfl⟩ (by kernel_rfl) rfl
    (fun f fn hf hfn=>by
      obtain rfl : f = 4 := Option.some.inj ((show Tryz.prog.funcNamed "loop.example/g01074/laws.FnExactIsCanonical" = some 4 by kernel_rfl).symm.trans hf) |>.symm
      obtain rfl:fn=Tryz.f4:=(Option.some.inj (Tryz.func4.symm.trans hfn)).symm
      exact⟨by kernel_rfl,fun j t ht=>by
        rw[Tryz.params4]at ht
        have h3:t=9:=by
          rcases j with _ | j
          · simpa using ht.symm
          · simp at ht
        subst h3
        exact(show Tryz.prog.wantsStandIn 9=false by kernel_rfl)⟩)
    (by kernel_rfl)
#print axioms fnExactIsCanonical_holds
end Go.Proofs.YtkgbnffcaabafaaGreatDoor
