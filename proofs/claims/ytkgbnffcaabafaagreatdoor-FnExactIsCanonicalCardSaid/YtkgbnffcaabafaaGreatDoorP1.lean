/- Texts AbIt .. AbIt: the abstract machine, its laws and contracts of functions: lemmas for the statement. No condition. -/
import Derived.RangeFuncCalls
import Derived.RangeFuncKeeps
import Derived.RangeFuncLeaves
set_option linter.unusedSimpArgs false
set_option linter.unusedVariables false
namespace Go.Ab
open Go Go.RowKit
def Seen(b:Nat)(c:Array Value)(W:World):Prop:=∃e fz,W.heap[b]?=some (.cells c e fz)
def qY4(P:Program)(gf:Nat):Prop:=
 ∀(l bx ox:Nat)(cx:Array Value)(ad:Option Addr)(cap be oe:Nat)(ce:Array Value)(ns:List Int)(J:Nat->World->Prop)(W:World),
  cx[ox]?=some (.slice ad ns.length cap)->(ns=[]\/ad=some ⟨be,oe,none⟩/\∀i n,ns[i]?=some n->ce[oe+i]?=some (.int .i64 n))->ns.length<=4294967296->
  (∀k W,J k W->Seen bx cx W/\(ns=[]\/Seen be ce W))->
  (∀k W1 n,k<ns.length->ns[ns.length-1-k]?=some n->J k W1->
   YieldAt Fence.wide 3 P l #[.int .i64 ((ns.length-1-k:Nat):Int),.int .i64 n] W1 fun e W'=>e=.returned (.bool true)/\J (k+1) W')->
  J 0 W->CallsIn Fence.wide 4 P gf #[.func (.yield l) #[] #[],.pointer (some ⟨bx,ox,none⟩)] W fun e W'=>(∃v,e=.returned v)/\J ns.length W'
end Go.Ab
