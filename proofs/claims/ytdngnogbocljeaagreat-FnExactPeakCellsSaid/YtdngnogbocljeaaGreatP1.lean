/- Texts AbIt .. AbIt: the abstract machine, its laws and contracts of functions: lemmas for the statement. No condition. -/
import Derived.RangeFuncCalls
import Derived.RangeFuncKeeps
import Derived.RangeFuncLeaves
set_option linter.unusedSimpArgs false
set_option linter.unusedVariables false
namespace Go.Ab
open Go Go.RowKit
def XI(b:Nat)(c:Array Value)(W:World):Prop:=∃e fz,W.heap[b]?=some (.cells c e fz)
def qDO(P:Program)(gf:Nat):Prop:=
 ∀(l bx ox:Nat)(cx:Array Value)(ad:Option Addr)(cap be oe:Nat)(ce:Array Value)(ns:List Int)(J:Nat->World->Prop)(W:World),
  cx[ox]?=some (.slice ad ns.length cap)->(ns=[]\/ad=some ⟨be,oe,none⟩/\∀i n,ns[i]?=some n->ce[oe+i]?=some (.int .i64 n))->ns.length<=4294967296->
  (∀k W,J k W->XI bx cx W/\(ns=[]\/XI be ce W))->
  (∀k W1 n,k<ns.length->ns[ns.length-1-k]?=some n->J k W1->
   YieldAt Fence.wide 3 P l #[.int .i64 ((ns.length-1-k:Nat):Int),.int .i64 n] W1 λe W'=>e=.returned (.bool true)/\J (k+1) W')->
  J 0 W->CallsIn Fence.wide 4 P gf #[.func (.yield l) #[] #[],.pointer (some ⟨bx,ox,none⟩)] W λe W'=>(∃v,e=.returned v)/\J ns.length W'
def qa5(d:Nat)(W W':World):Prop:=W'.heap[d]?=W.heap[d]?/\W'.heap[d+1]?=W.heap[d+1]?
theorem qrD{P:Program}{g:Operand}{p1 p2:Tmp}{assign body:Code}{Q:Exit->Act->World->Prop}{a:Act}{w:World}{gf bx ox:Nat}{cx:Array Value}
  (hg:a.eval g=.func (.func gf) #[] #[.pointer (some ⟨bx,ox,none⟩)]) (eg:∀args w,(callFunc gf args).run P w=.ok (.enter gf args) w) (hB:qDO P gf)
  {ad:Option Addr} {cap be oe:Nat} {ce:Array Value} (ns:List Int) (hcx:cx[ox]?=some (.slice ad ns.length cap))
  (had:ns=[]\/ad=some ⟨be,oe,none⟩/\∀i n,ns[i]?=some n->ce[oe+i]?=some (.int .i64 n)) (hlim:ns.length<=4294967296)
  (J:Nat->World->Prop) (h0:∀o o',J 0 ((w.alloc o).alloc o'))
  (hput:∀k W o',J k W->w.heap.size+1<W.heap.size->J k (W.putObj (w.heap.size+1) o'))
  (hS:∀k W,J k W->XI bx cx W/\(ns=[]\/XI be ce W))
  (hround:∀(l k:Nat)(n:Int)(W:World),l=w.heap.size+1->k<ns.length->ns[ns.length-1-k]?=some n->J k W->l<W.heap.size->
   assign.wpIn (Fence.wide.inRound l) 3 P (Exit.then (λa₁ W₁=>qa5 w.heap.size W W₁/\∀o',
     body.wpIn (Fence.wide.inRound l) 3 P (λe _ W₃=>e=.normal/\qa5 w.heap.size (W₁.putObj l o') W₃/\J (k+1) W₃) a₁ (W₁.putObj l o')) (λ_ _ _=>False))
    {tmps:=(a.tmps.setIfInBounds p1 (.int .i64 ((ns.length-1-k:Nat):Int))).setIfInBounds p2 (.int .i64 n),defers:=[]} W)
  (hdone:∀(W:World),J ns.length W->W.heap[w.heap.size]?=some (.deferred (some []))->Q .normal {a with defers:={target:=.collected w.heap.size,args:= #[]}::a.defers} W):
  (Code.rangeFunc g #[p1,p2] assign body).wp P Q a w:=by
 refine(wpIn_wide (n:=5)).1 (wpIn_rangeFunc ?_);intro fn hfn;obtain⟨rec,hrec⟩:∃rec:LoopState->Option Code->Loop,rec=λst pe=>{state:=st,pending:=pe,fn,tmps:=a.tmps,params:= #[p1,p2],assign,body,defers:=w.heap.size}:=⟨_,rfl⟩;obtain⟨W1,hW1⟩:∃W1,(w.alloc (.deferred (some []))).alloc (.loop (rec .ready none))=W1:=⟨_,rfl⟩;have hL1:W1.heap[w.heap.size+1]?=some (.loop (rec .ready none)):=by
  rw[<-hW1];have:=World.alloc_heap_new (w.alloc (.deferred (some []))) (.loop (rec .ready none));rwa[World.size_alloc]at this
 have hK1:W1.heap[w.heap.size]?=some (.deferred (some [])):=by
  rw[<-hW1];exact(Below.heap_alloc _ _ _ (by simp)).trans (World.alloc_heap_new w _)
 have hI1:J 0 W1:=by rw[<-hW1];exact h0 _ _
 refine⟨w.heap.size+1,[{target:=.collected w.heap.size,args:= #[]}],W1,{target:=.fn (.func gf) #[.pointer (some ⟨bx,ox,none⟩)],args:= #[.func (.yield (w.heap.size+1)) #[] #[]]},W1,gf,
  #[.func (.yield (w.heap.size+1)) #[] #[]]++ #[.pointer (some ⟨bx,ox,none⟩)],W1, ?_, ?_, ?_, ?_,λ_=>(by omega), ?_⟩
 ·rw[<-hW1,hrec];exact run_enterLoop_outer _ _ _ _ _
 ·simp only[resolve,hg];simp[go_sem]
 ·intro f' hf';trivial
 ·simp[invoke,go_sem,eg]
 ·refine(hB (w.heap.size+1) bx ox cx ad cap be oe ce ns
   (λk W=>J k W/\W.heap[w.heap.size+1]?=some (.loop (rec .ready none))/\W.heap[w.heap.size]?=some (.deferred (some []))) W1 hcx had hlim (λk W h=>hS k W h.1) ?_ ⟨hI1,hL1,hK1⟩).mono ?_
  ·rintro k W n hk hn ⟨hi,hl,hd⟩;have hlt:w.heap.size+1<W.heap.size:=(Array.getElem?_eq_some_iff.1 hl).1;have hy:=run_yield (P:=P) (args:= #[.int .i64 ((ns.length-1-k:Nat):Int),.int .i64 n]) hl (by rw[hrec];rfl);rw[hrec]at hy;have hz:((#[p1,p2]:Array Tmp).zip #[Value.int .i64 ((ns.length-1-k:Nat):Int),.int .i64 n]).foldl (λt (p,v)=>t.setIfInBounds p v) a.tmps=(a.tmps.setIfInBounds p1 (.int .i64 ((ns.length-1-k:Nat):Int))).setIfInBounds p2 (.int .i64 n):=by simp
   refine⟨fn,_,assign,body,hy,roundIn_of_wpIn hfn (wpIn_mono (by have:=hround _ k n W rfl hk hn hi hlt;rw[<-hz]at this;exact this) ?_)⟩;rintro e a₁ W₁ hq;cases e with
   | normal=>
    obtain⟨hk1,hq⟩:=hq;have hl1:=hk1.2.trans hl;have hd1:=hk1.1.trans hd;have hlt1:w.heap.size+1<W₁.heap.size:=(Array.getElem?_eq_some_iff.1 hl1).1;refine⟨_,run_beginRound hl1 (by rw[hrec]),wpIn_mono (hq _) ?_⟩;rintro e2 a₂ W₃ ⟨rfl,hk3,hj⟩;have hl3:=hk3.2.trans (World.putObj_heap_same hlt1);have hd3:=hk3.1.trans ((World.putObj_heap_other (by omega)).trans hd1);have hr:=run_endRound (P:=P) none hl3;rw[hrec]at hr hl3;refine⟨_,_,hr,rfl,hput _ _ _ hj (Array.getElem?_eq_some_iff.1 hl3).1, ?_,(World.putObj_heap_other (by omega)).trans hd3⟩;rw[hrec];exact World.putObj_heap_same (Array.getElem?_eq_some_iff.1 hl3).1
   | _=>exact hq.elim
  ·rintro e W2 ⟨⟨v,rfl⟩,hi,hl,hd⟩;have hr:=run_endLoop (P:=P) hl (by rw[hrec];simp);rw[hrec]at hr;exact⟨none,_,hr,hdone _ (hput _ _ _ hi (Array.getElem?_eq_some_iff.1 hl).1) ((World.putObj_heap_other (by omega)).trans hd)⟩
end Go.Ab
