/- For every list of bytes the law FnErasedTypes returns true and leaves its argument as it was. No condition; the library's listed variables start as the program's text lays them, which the card ties. -/
import Derived.Test.YtdcoliamajikfaaGreatDoorRows
import Derived.Test.YtdcoliamajikfaaGreatDoorTie
import Derived.Test.YtdcoliamajikfaaGreatDoorCards
import Derived.Test.YtdcoliamajikfaaGreatDoorTold
import Derived.LaidHandle
import Derived.Lib.LaidTab
import Derived.Stop.LaidErr
import Derived.SevenTiedAt
import Derived.WideShapes
import Derived.KernelRfl
import Derived.Test.YtdcoliamajikfaaGreatDoorP6
import Derived.Test.YtdcoliamajikfaaGreatDoorP7
namespace Go.Proofs.YtdcoliamajikfaaGreatDoor
open Go Go.Ab Go.Proofs
set_option maxRecDepth 100000

theorem arg_slice{H:Type}{enc:TypeId×Value→H}{P:Program}{W:World}{N:Nums}{α:Type}{t e':TypeId}{e:α→AV}{bd:α→Prop}{v:Value}{d}{ps:List MemPlace}(ht:P.underlying t=some (.slice e'))(he:∀x,(e x).cells=[e x])(hr:Rd enc N P W t e bd)
    {b:Nat} (hok:Value.okWide P W .any b t v) (h:DataW.Trod enc P W 0 (fun _=>true) true t v d ps) (hwt:Wt P t d):RdA N W e bd v:=by
  obtain⟨fuel,h⟩:=h
  obtain⟨a,len,cap,rfl⟩:=WideShapes.okWide_slice ht hok
  obtain⟨x,h1,h2⟩:=hr _ _ _ h hwt
  refine⟨x, ?_,h2⟩
  have h3:=h1.1
  rw[he]at h3
  simp only[Value.cells,VRs]at h3
  obtain⟨v,vs,e1,e2,_⟩:=h3
  cases e1
  exact e2
theorem okB_wf{bytes:List Int}(h:∀n∈bytes,(Lit.int .u8 n).wf=true):OkB bytes:=fun n hn=>by
  have:=h n hn
  simp only[Lit.wf,Bool.and_eq_true,decide_eq_true_eq]at this
  have e1:IntKind.u8.min=0:=by decide
  have e2:IntKind.u8.max=255:=by decide
  omega
section
variable {H:Type} {enc:TypeId×Value→H} {W:World} {z:Nat→Option (Array Value)}
theorem rd_uint8:Rd enc (SS z).N Tryz.prog W 5 encY (fun n=>(Lit.int .u8 n).wf=true):=rd_int Tryz.underlying5
theorem rd_S_uint8:Rd enc (SS z).N Tryz.prog W 22 (fun xs:List Int=>.lst 1 (xs.map encY) false) (fun xs=>xs.length≤140737488355328∧∀x∈xs,(fun n=>(Lit.int .u8 n).wf=true) x):=rd_slice Tryz.underlying22 (show Tryz.prog.cellsOf 5=1 by kernel_rfl) (by decide) (fun _=>rfl) (of_decide_eq_true (by kernel_rfl)) rd_uint8
end

theorem num_law{z:Nat→Option (Array Value)}:(SS z).N.f 4=3:=by kernel_rfl
theorem own_knob:ownKnob Tryz.prog.godebug=none:=by kernel_rfl
theorem noHandle:(Rows.fnErasedTypesRow.laid.filter fun x=>x.2.handleName?.isSome)=[]:=by kernel_rfl
theorem laid_plain{W:World}(h:laidMetH Tryz.prog Rows.fnErasedTypesRow.laid W):laidMet Tryz.prog Rows.fnErasedTypesRow.laid W:=by
  unfold laidMetH at h
  rw[noHandle]at h
  exact h
theorem laid_handle{W:World}(h:laidMet Tryz.prog Rows.fnErasedTypesRow.laid W):laidMetH Tryz.prog Rows.fnErasedTypesRow.laid W:=by
  unfold laidMetH
  rw[noHandle]
  exact h

def rngS:ByteArray:=⟨#[118,97,108,117,101,32,111,117,116,32,111,102,32,114,97,110,103,101]⟩
def synS:ByteArray:=⟨#[105,110,118,97,108,105,100,32,115,121,110,116,97,120]⟩
def tab32:List Int:=[0,1,28,2,29,14,24,3,30,22,20,15,25,17,4,8,31,27,13,23,21,19,16,7,26,12,18,6,11,5,10,9]
def tab64:List Int:=[0,1,56,2,57,49,28,3,61,58,42,50,38,29,17,4,62,47,59,36,45,43,51,22,53,39,33,30,24,18,12,5,63,55,48,27,60,41,37,16,46,35,44,21,52,32,23,11,54,26,40,15,34,20,31,10,25,14,19,9,13,8,7,6]
noncomputable def low:Nat:=(World.holding Tryz.prog default ⟨#[], #[],[]⟩).heap.size
/--What is put into a variable's cells. -/
def putC(cs:Array Value):Obj→Obj
  |.cells _ t frozen=>.cells cs t frozen
  | o=>o
/--A memory that meets the condition. -/
noncomputable def laidWorld(os:Os):World:=
  let w0:=World.holding Tryz.prog os ⟨#[.cells #[.string rngS] 126,.cells #[.string synS] 126], #[],[]⟩
  {w0 with heap:=((((w0.heap.modify 2 (putC #[.iface 124 (.pointer (some ⟨low,0,none⟩))])).modify 1 (putC #[.iface 124 (.pointer (some ⟨low+1,0,none⟩))])).modify 3 (putC (Lib.pow10Tab.map fun n=>Value.int .u64 n).toArray)).modify 4 (putC (tab32.map fun n=>Value.int .u8 n).toArray)).modify 5 (putC (tab64.map fun n=>Value.int .u8 n).toArray)}
theorem laidWorld_met(os:Os)(args:Array Value):laidMetH Tryz.prog Rows.fnErasedTypesRow.laid ((laidWorld os).forCall (fun _ _=>0) ⟨#[],args,[]⟩).memory:=
  laid_handle (laidMet_of_run' 8 (by kernel_rfl) (by kernel_rfl))

theorem star : "*" ++ "errors.errorString" = "*errors.errorString" := by decide
theorem rowErr (u : TypeId) (h : Tryz.prog.typeName? 3 u = some "*errors.errorString") : u = 124 :=
  typeName_ptr_named (nm := "errors.errorString") (by rw [star]; kernel_rfl) (by kernel_rfl) (by decide) u (by rw [star]; exact h)
/--What the condition pins. -/
def pins(p1 p2:Value)(b:Nat):Option (Array Value):=if b=1 then some #[.iface 124 p1]else if b=2 then some #[.iface 124 p2]else if b=3 then some (Lib.pow10Tab.map fun n=>Value.int .u64 n).toArray else none
theorem of_var{W:World}{n:String}{b:Nat}{c:Array Value}(hn:Tryz.prog.globalNamed n=some b)(h:W.var? Tryz.prog n=some c):(fz0 W).z b=some c:=by
  unfold World.var? at h
  rw[hn]at h
  simp only[Option.bind_some]at h
  simp only[fz0]
  exact h
theorem pinned{W:World}(h:laidMetH Tryz.prog Rows.fnErasedTypesRow.laid W):∃p1 p2,∀b c,pins p1 p2 b=some c→(fz0 W).z b=some c:=by
  have h:=laid_plain h
  have h3:=laidMet.tail (laidMet.tail h)
  have h2:=laidMet.tail h3
  have h1:=laidMet.tail h2
  have ht : Lib.TabIs Tryz.prog W "internal/strconv.uint64pow10" .u64 Lib.pow10Tab :=
    Lib.tabIs_of_head (rest:=Rows.fnErasedTypesRow.laid.drop 3) (g:=3) (t:=129) (e:=59) (n:=20) (by kernel_rfl) (by kernel_rfl) Tryz.underlying129 Tryz.underlying59 (by kernel_rfl) (by kernel_rfl) h3
  obtain⟨a2,s2,v2,_⟩:=laid_sentinel (g:=2) (ti:=102) (tp:=124) (te:=126) (ts:=9) h2 (by kernel_rfl) (by kernel_rfl) Tryz.underlying102 rowErr Tryz.underlying124 Tryz.underlying126 rfl rfl Tryz.underlying9 (by kernel_rfl) (by kernel_rfl)
  obtain⟨a1,s1,v1,_⟩:=laid_sentinel (g:=1) (ti:=102) (tp:=124) (te:=126) (ts:=9) h1 (by kernel_rfl) (by kernel_rfl) Tryz.underlying102 rowErr Tryz.underlying124 Tryz.underlying126 rfl rfl Tryz.underlying9 (by kernel_rfl) (by kernel_rfl)
  refine⟨.pointer (some a1),.pointer (some a2),fun b c hb=> ?_⟩
  unfold pins at hb
  split at hb
  · rename_i e; subst e; cases hb; exact of_var (n := "strconv.ErrSyntax") (by kernel_rfl) v1
  · split at hb
    · rename_i e; subst e; cases hb; exact of_var (n := "strconv.ErrRange") (by kernel_rfl) v2
    · split at hb
      · rename_i e; subst e; cases hb; exact of_var (n := "internal/strconv.uint64pow10") (by kernel_rfl) ht
      · cases hb

theorem law_step(os:Os)(started:os.Started)(H:Type)(enc:TypeId×Value→H):ReturnsInHanded {} Tryz.checked os 3 .any (fun w args=>(Rows.fnErasedTypesSpec.pre enc Tryz.prog Tryz.f3 [] false w args∧laidMetH Tryz.prog Rows.fnErasedTypesRow.laid w)∧sizedMet enc Tryz.prog Tryz.f3 (OpenSpec.ofChange Rows.fnErasedTypesSpec) false w args) (Rows.fnErasedTypesSpec.post enc Tryz.prog Tryz.f3 false true false false):=by
  refine law_liftedX (X:=fun w _=>laidMetH Tryz.prog Rows.fnErasedTypesRow.laid w) (fun _ _ _ hh h=>h.of_heap hh) (C:=Tryz.checked) (tb:=4) started own_knob (by kernel_rfl) Tryz.func3
    (ChangeSpec.witness_at (enc:=enc) (C:=Tryz.checked) (os:=os) (X:=fun w _=>laidMetH Tryz.prog Rows.fnErasedTypesRow.laid w) false (laidWorld os) #[.slice none 0 0] 8 rfl (by kernel_rfl) (by kernel_rfl) (by kernel_rfl) (by kernel_rfl) (by kernel_rfl) (laidWorld_met os _))
    (by kernel_rfl) (fun u hu=>of_decide_eq_true (by revert u;exact by intro u hu;rw[Tryz.params3]at hu;simp at hu;subst hu;kernel_rfl)) rfl rfl Tryz.underlying4 (fun ds hd=> ?_) (fun W base args ds ps hval hA hwt hX=> ?_)
  · rw[Tryz.params3]at hd
    match ds,hd with
    |[d0],_=>exact⟨rfl,rfl,rfl⟩
  · have hval:∀(j:Nat) t v,Tryz.f3.params[j]?=some t→args[j]?=some v→Value.okWide Tryz.prog W .any base t v:=hval
    have hA:DataW.TrodAll enc Tryz.prog W 0 (fun _=>true) true Tryz.f3.params.toList args.toList ds ps:=hA
    have hwt:∀n∈DataW.weightsEach Tryz.prog Tryz.f3.params.toList ds,n≤reachBytes:=hwt
    rw[Tryz.params3]at hval hA hwt
    obtain⟨v0,vs0,d0,ds0,p0,q0,hargs,rfl,rfl,h0,hA0⟩:=ChangeShapes.trodAll_cons hA
    obtain⟨rfl,rfl,rfl⟩:=ChangeShapes.trodAll_nil hA0
    obtain rfl:args= #[v0]:=by cases args;simp_all
    obtain⟨p1,p2,hpin⟩:=pinned hX
    obtain⟨x0,r0,b0⟩:=arg_slice (N:=(SS (pins p1 p2)).N) Tryz.underlying22 (fun _=>rfl) rd_S_uint8 (hval 0 22 v0 rfl rfl) h0 (fun n hn=>hwt n (by simp only[DataW.weightsEach,List.mem_append];exact .inl hn))
    have ht:=tryAll (z:=pins p1 p2) rfl rfl rfl
    have key:=law_calls (S:=SS (pins p1 p2)) (gok_of gm_look ht fitAll) (known_of gm_look ht fitAll) (fits_of gm_look ht fitAll) (c4 (okB_wf b0.2) b0.1) (W:=W) (vs:= #[v0]) hpin (by simp only[VRs];exact⟨_,_,rfl,r0,rfl⟩)
    rw[SSP,num_law]at key
    exact key

theorem row_holds:Rows.FnErasedTypesSaid:=
  OpenClaim.holds_of_wide 3 Tryz.f3 rfl rfl rfl rfl rfl rfl rfl ⟨rfl,rfl,rfl,rfl,rfl⟩ rfl rfl rfl rfl rfl (by kernel_rfl) Tryz.func3 (by kernel_rfl)
    (of_decide_eq_true (by kernel_rfl)) (by unfold Func.isWrapper;first | (rw[if_pos (by decide+kernel)];kernel_rfl) | (rw[if_neg (by decide+kernel)];exact⟨rfl,rfl⟩))
    (fun os started H enc _=>law_step os started H enc)

theorem fnErasedTypes_holds:Rows.FnErasedTypesCardSaid:=
  Claim7.holds_tied_plain_at .later [] [.data,.data,.data,.sentinel,.sentinel] true Rows.fnErasedTypesCard.stood.harness true
    row_holds (fun _ h=>by cases h) (by kernel_rfl) (fun _ h=>by cases h) fnErasedTypes_row_tie rfl ⟨rfl,rfl⟩ (by kernel_rfl) rfl
    (fun f fn hf hfn=>by
      obtain rfl : f = 3 := Option.some.inj ((show Tryz.prog.funcNamed "loop.example/g01074/laws.FnErasedTypes" = some 3 by kernel_rfl).symm.trans hf) |>.symm
      obtain rfl:fn=Tryz.f3:=(Option.some.inj (Tryz.func3.symm.trans hfn)).symm
      exact⟨by kernel_rfl,fun j t ht=>by
        rw[Tryz.params3]at ht
        have h3:t=22:=by
          rcases j with _ | j
          · simpa using ht.symm
          · simp at ht
        subst h3
        exact(show Tryz.prog.wantsStandIn 22=false by kernel_rfl)⟩)
    (by kernel_rfl)
#print axioms fnErasedTypes_holds
end Go.Proofs.YtdcoliamajikfaaGreatDoor
