/- Texts AbZ .. AbZ: the abstract machine, its laws and contracts of functions: lemmas for the statement. No condition. -/
import Derived.Carry
import Derived.ChangeArms
import Derived.ChangeSame
import Derived.JoinedOf
import Derived.OpenShut
import Derived.RowKit3
import Derived.SizedLaws
import Derived.WideKeyArgs
import Derived.Test.YtnkciijhchfbdaaGreatDoorP3
import Derived.Test.YtnkciijhchfbdaaGreatDoorP5
set_option linter.unusedSimpArgs false
set_option linter.unusedVariables false
namespace Go.Ab
open Go
theorem VL {P : Program} {f : FuncId} {fn : Func} {c : Code} (hf : P.funcs[f]? = some fn) (hname : (fn.name == "runtime.NumGoroutine") = false) (hb : fn.body = some c) (args : Array Value) (w : World) :
  (callFunc f args).run P w=.ok (.enter f args) w:=by
 have h1 : fn.name ≠ "runtime.NumGoroutine" := by simpa using hname
 simp[callFunc,hf,h1,hb]
def qN (S : qK) (g : Nat) (F : qJ) : Prop := ∃ fn, S.P.funcs[S.N.f g]? = some fn ∧ (fn.name == "runtime.NumGoroutine") = false ∧ ZP S F fn = true
def qMY (S : qK) (g : Nat) (t : jB) : Prop := (∃ fn, S.P.funcs[S.N.f g]? = some fn ∧ (fn.name == "runtime.NumGoroutine") = false ∧ ∃ c, fn.body = some c) ∧ UZ S g t
def Y1 (S : qK) (g : Nat) (P : List AV → AV → Prop) : Prop := (∃ fn, S.P.funcs[S.N.f g]? = some fn ∧ (fn.name == "runtime.NumGoroutine") = false ∧ ∃ c, fn.body = some c) ∧
 ∀as v,P as v->∀m h w (vs:Array Value),HR S.N m h w->VRs S.N m as vs.toList->Calls S.P (S.N.f g) vs w fun e w'=>RowKit.Below w.heap.size w w'/\∃u,e=.returned u/\VR S.N m v u
def UX(S:qK)(g:Nat):AFn->Prop
 |.fn _=>False
 |.try t=>qMY S g t
 |.ext R=>∃P,R=Js P/\Y1 S g P
def Jy(S:qK):List (Nat×AFn)->Prop
 |[]=>S.X=[]/\S.Yk=[]
 | (g,t)::r=>UX S g t/\Jy S r
def Q7(S:qK):List (Nat×qJ)->Prop
 |[]=>True
 | (g,F)::r=>qN S g F/\Q7 S r
theorem kK{S:qK}:∀{tt:List (Nat×AFn)},Jy S tt->S.X=[]/\S.Yk=[]
 |[],h=>h
 | _::_,h=>kK h.2
theorem qPM{S:qK}:∀{tt:List (Nat×AFn)},Jy S tt->∀{g:Nat}{x:AFn},JH.lookY0 g tt=some x->UX S g x
 |[],_,g,x,h=>by cases h
 | (k,F)::r,hf,g,x,h=>by
  simp only[JH.lookY0]at h;cases hk:Nat.beq k g with
  | true=>
   rw[hk]at h;have:k=g:=Nat.eq_of_beq_eq_true hk;subst this;simp only[cond_true,oSi]at h;subst h;exact hf.1
  | false=>
   rw[hk]at h;exact qPM hf.2 h
theorem ZM{S:qK}{tt:List (Nat×AFn)}(ht:Jy S tt):∀{tab:List (Nat×qJ)},Q7 S tab->∀{g:Nat}{x:AFn},JH g tt tab=some x->(∃F,x=.fn F/\qN S g F)\/UX S g x
 |[],_,g,x,h=>.inr (qPM ht h)
 | (k,F)::r,hf,g,x,h=>by
  simp only[JH]at h;cases hk:Nat.beq k g with
  | true=>
   rw[hk]at h;have:k=g:=Nat.eq_of_beq_eq_true hk;subst this;simp only[cond_true,oSi]at h;exact .inl ⟨F,h.symm,hf.1⟩
  | false=>
   rw[hk]at h;exact ZM ht hf.2 h
def qPL(g:Nat):List (Nat×Nat)->Nat
 |[]=>0
 | (k,n)::r=>bif Nat.beq k g then n else qPL g r
theorem qO {S : qK} {P : Program} {g k : Nat} {F : qJ} {fn : Func} (hN : S.N.f g = k) (hP : S.P = P) (hf : P.funcs[k]? = some fn) (hn : (fn.name == "runtime.NumGoroutine") = false) (hm : ZP S F fn = true) : qN S g F :=
 ⟨fn,by rw[hN,hP];exact hf,hn,hm⟩
section
variable {S:qK} {Γ:Nat->Option AFn} {tab:List (Nat×qJ)} {tt:List (Nat×AFn)}
theorem qWR(hΓ:∀g,Γ g=JH g tt tab)(ht:Jy S tt)(hf:Q7 S tab):GOK Γ:=fun g R hg as h r h' hR id o hid=>by
 rw[hΓ]at hg;rcases ZM ht hf hg with⟨F,h,_⟩ | ⟨P,rfl,_⟩
 ·cases h
 ·obtain⟨rfl,v,rfl,hp⟩:=hR;exact⟨hid,rfl,v,rfl,hp⟩
theorem qUT(hΓ:∀g,Γ g=JH g tt tab)(ht:Jy S tt)(hf:Q7 S tab):Yx S Γ where
 X:=(kK ht).1
 Y:=(kK ht).2
 tr:=fun g t hg=>by
  rw[hΓ]at hg;rcases ZM ht hf hg with⟨F,h,_⟩ | h
  ·cases h
  ·exact h.2
 fn:=fun g F hg=>by
  rw[hΓ]at hg;rcases ZM ht hf hg with⟨F',h,fn,h1,_,h2⟩ | h
  ·cases h;exact⟨fn,h1,h2⟩
  ·exact h.elim
 ext:=fun g R hg as h r h' hR m w vs hH hvs=>by
  rw[hΓ]at hg;rcases ZM ht hf hg with⟨F,h,_⟩ | ⟨P,rfl,_,hT⟩
  ·cases h
  ·obtain⟨rfl,v,rfl,hp⟩:=hR;refine Calls.mono (hT as v hp m h' w vs hH hvs) ?_;rintro e w' ⟨hb,u,rfl,hu⟩;refine⟨m,⟨hb.os,hb.tape,hb.output,hb.size,m.le_refl,fun b h1 h2=>⟨hb.block b h1,h2⟩,fun b _ h2=>h2⟩,hH.blocks hb.size (fun id o p ho hl hp=>hb.block _ (hH.lt ho hl hp)) (fun b c hz=>hb.block _ (hH.zlt hz)),u,rfl,hu⟩
theorem qXK(hΓ:∀g,Γ g=JH g tt tab)(ht:Jy S tt)(hf:Q7 S tab):Known S Γ:=fun g hg args w=>by
 rw[hΓ]at hg;obtain⟨x,hx⟩:=Option.ne_none_iff_exists'.1 hg;rcases ZM ht hf hx with⟨F,_,fn,h1,hn,h2⟩ | h
 ·unfold ZP at h2;cases hb:fn.body with
  | none=>rw[hb]at h2;cases h2
  | some c=>exact VL h1 hn hb args w
 ·cases x with
  | fn F=>exact h.elim
  | «try»t=>
   obtain⟨⟨fn,h1,hn,c,hb⟩,_⟩:=h;exact VL h1 hn hb args w
  | ext R=>
   obtain⟨P,_,⟨fn,h1,hn,c,hb⟩,_⟩:=h;exact VL h1 hn hb args w
end
def fz0(W:World):Mp:=⟨fun _=>none,fun b=>match W.heap[b]? with
 | some (.cells c _ _)=>some c
 | _=>none⟩
theorem qUW{N:qi}{W:World}(hg:∀b c,N.gz b=some c->(fz0 W).z b=some c):HR N (fz0 W) AH.empty W where
 gg:=hg
 at':=fun id o h=>by cases h
 none':=fun _ _=>rfl
 apart:=fun i j o o' p q h=>by cases h
 zz:=fun b c h=>by
  refine⟨?_,fun id o p h=>by cases h⟩;simp only[fz0]at h;split at h
  ·rename_i c' e fz hh;cases h;exact⟨e,fz,hh⟩
  ·cases h
theorem qX2{v:AV}(hl:v.leaf=true){r:AV}(h:RelV ρ0 v r):r=v:=WL _ _ hl h
theorem qXO{S:qK}{Γ:Nat->Option AFn}(hG:GOK Γ)(hK:Known S Γ)(hF:Yx S Γ){g:Nat}{as:List AV}{b:Bool}(hp:Pure Γ g as (.bool b)){W:World}{vs:Array Value}(hg:∀b c,S.N.gz b=some c->(fz0 W).z b=some c)
  (hv:VRs S.N (fz0 W) as vs.toList):Calls S.P (S.N.f g) vs W fun e w'=>e=.returned (.bool b)/\RowKit.Below W.heap.size W w':=by
 unfold Pure at hp;obtain⟨t1,t2,hp⟩:=hp;obtain⟨k,r,hr',h1,h2,h3,h4⟩:=hp AH.empty as (QP _ t1);have hr:=qX2 rfl h4;subst hr;refine Calls.mono (qTF hG hK hF k g as _ _ _ h1 (fz0 W) W vs (qUW hg) hv) ?_;rintro e w' ⟨m',hfr,_,u,rfl,hu⟩;simp only[VR]at hu;subst hu;exact⟨rfl,hfr.os,hfr.tape,hfr.output,hfr.size,fun i hi=>(hfr.keep i hi (fun id o p h=>by cases h)).1⟩
section
variable {H:Type} (enc:TypeId×Value->H) (N:qi) (P:Program) (W:World)
def RdL(as:List AV)(cs:List Value):Prop:=VRs N (fz0 W) as cs/\as.all AV.sc=true
def Wt(t:TypeId)(d:DataW H):Prop:=∀n∈d.weights P t,n<=reachBytes
def Rd{α:Type}(t:TypeId)(e:α->AV)(bd:α->Prop):Prop:=∀fuel cs d,DataW.trod enc P W 0 (fun _=>true) true fuel t cs=some d->Wt P t d.1->∃x,RdL N W (e x).cells cs/\bd x
def RdB{α:Type}(m:Nat)(t:TypeId)(e:α->AV)(bd:α->Prop):Prop:=∀fuel,fuel<m->∀cs d,DataW.trod enc P W 0 (fun _=>true) true fuel t cs=some d->Wt P t d.1->∃x,RdL N W (e x).cells cs/\bd x
variable {enc N P W}
theorem Rd.mono{α:Type}{t:TypeId}{e:α->AV}{bd bd':α->Prop}(h:Rd enc N P W t e bd)(hb:∀x,bd x->bd' x):Rd enc N P W t e bd':=fun fuel cs d hd hw=>
 let ⟨x,h1,h2⟩:=h fuel cs d hd hw;⟨x,h1,hb x h2⟩
theorem RdL.nil{cs:List Value}{o:Nat}(h:cs.length<=o):RdL N W [] (cs.drop o):=by
 rw[List.drop_eq_nil_of_le h];exact⟨by simp only[VRs],rfl⟩
theorem RdL.val{a:AV}{cs:List Value}(h:RdL N W a.cells cs)(hl:0<a.cells.length):∃u:Value,VR N (fz0 W) a u/\u.cells.toList=cs:=by
 by_cases hag:∃xs,a=.agg xs
 ·obtain⟨xs,rfl⟩:=hag;refine⟨.agg cs.toArray, ?_,by simp[Value.cells]⟩;simp only[VR];exact⟨_,rfl,h.1,h.2⟩
 ·have hc:a.cells=[a]/\a.sc=true:=by
   cases a<;>first
    | exact⟨rfl,rfl⟩
    | exact absurd ⟨_,rfl⟩ hag
    | (simp[AV.cells]at hl;done)
  obtain⟨h1,h2⟩:=h;rw[hc.1]at h1;simp only[VRs]at h1;obtain⟨u,us,rfl,h3,rfl⟩:=h1;exact⟨u,h3,by rw[h3.sc_cells hc.2]⟩
theorem Rd.up{α:Type}{m0:Nat}{t:TypeId}{e:α->AV}{bd:α->Prop}(h:Rd enc N P W t e bd):RdB enc N P W m0 t e bd:=fun k _=>h k
theorem RdB.dn{α:Type}{m0 m1:Nat}{t:TypeId}{e:α->AV}{bd:α->Prop}(h:RdB enc N P W m0 t e bd)(hm:m1<=m0):RdB enc N P W m1 t e bd:=fun k hk=>h k (by omega)
theorem RdB.all{α:Type}{t:TypeId}{e:α->AV}{bd:α->Prop}(h:∀m,RdB enc N P W m t e bd):Rd enc N P W t e bd:=fun k=>h (k+1) k (by omega)
end
section
variable {H:Type} {enc:TypeId×Value->H} {P:Program} {W W':World}
theorem qM2(hl:laidOutB P=true)(hb:RowKit.Below W.heap.size W W'){sp:Nat->Bool}:∀{ts:List TypeId}{vs:List Value}{ds:List (DataW H)}{ps:List MemPlace},
  (∀t∈ts,P.readableRec t=true/\t<P.types.size)->DataW.TrodAll enc P W 0 (fun _=>true) true ts vs ds ps->(∀p∈ps,sp p.block=true)->DataW.TrodAll enc P W' 0 sp true ts vs ds ps
 |[],vs,ds,ps,_,h,_=>by
  obtain⟨rfl,rfl,rfl⟩:=ChangeShapes.trodAll_nil h;exact ChangeShapes.trodAll_mk0
 | t::ts,vs,ds,ps,ht,h,hs=>by
  obtain⟨v,vs',d,ds',p,q,rfl,rfl,rfl,h1,h2⟩:=ChangeShapes.trodAll_cons h;obtain⟨r1,r2⟩:=ht t (by simp);have hlt:∀x∈p,x.block<W.heap.size:=fun x hx=>(ChangeShapes.trodAll_mk1 h1).lt x (by simpa using hx);exact⟨p,q,WideElems.Trod_stays hl r1 r2 h1 (fun x hx=>hb.same (hlt x hx)) (fun x hx=>hs x (by simp[hx])),qM2 hl hb (fun t ht'=>ht t (by simp[ht'])) h2 (fun x hx=>hs x (by simp[hx])),rfl⟩
theorem qXQ{f:Func}{s:ChangeSpec}{args:Array Value}{ds gs:List (DataW H)}{before:List MemPlace}{tb:TypeId}(hsv:s.vars=[])
  (hW:DataW.Whole enc P f.params.toList s.vars false W args.toList ds gs before) (hl:laidOutB P=true) (hrow:∀t∈f.params.toList,P.readableRec t=true/\t<P.types.size)
  (hr:f.resultTypes= #[tb]) (htb:P.underlying tb=some .bool) (hs:(s.fn H ds).results=[.lit (.bool true)]/\(s.fn H ds).args=ds/\(s.fn H ds).vars=[]) (hb:RowKit.Below W.heap.size W W'):
  s.post enc P f false true false false W args (.bool true) W':=by
 have hW':=hW;have hlt:∀p∈before,p.block<W.heap.size:=fun p hp=>hW.lt p hp;obtain⟨pa,q,hA,hV,rfl,hz,hn⟩:=hW;rw[hsv]at hV;obtain⟨rfl,rfl⟩:=ChangeShapes.trodVars_none hV;have hres:∀(b:Nat)(sp:Nat->Bool)(hd:Bool),DataW.TrodAll enc P W' b sp hd f.resultTypes.toList ((Value.bool true).resultList f.resultTypes.size) (s.fn H (ds++[])).results []:=fun b sp hd=>by
  rw[hr,lAn,hs.1];exact ChangeShapes.trodAll_mk1 (RowKit.shut_bool htb true)
 have hargs:∀sp:Nat->Bool,(∀p∈pa++[],sp p.block=true)->DataW.TrodAll enc P W' 0 sp true f.params.toList args.toList (s.fn H (ds++[])).args pa:=fun sp hsp=>by
  rw[lAn,hs.2.1];exact qM2 hl hb hrow hA (by simpa using hsp)
 have hvars:∀sp:Nat->Bool,DataW.TrodVars enc P W' sp s.vars (s.fn H (ds++[])).vars []:=fun sp=>by
  rw[hsv,lAn,hs.2.2];rfl
 have hold:∀p∈pa++[],(fun b=>decide (b<W.heap.size)) p.block=true:=fun p hp=>by simpa using hlt p hp
 refine⟨ds,[],pa++[],[],pa,[],hW',hres _ _ _,hargs _ hold,hvars _,World.keptBut_mono (fun p hp=>⟨hp,by simpa using hp⟩) (hb.frame (· ∈pa++[])),fun _=> ?_⟩;refine⟨RowKit.ok_one hr rfl (RowKit.okWide_bool_mk htb true),_,_,([]++pa)++[],⟨[]++pa,[],ChangeShapes.trodAll_append (hargs _ (fun _ _=>rfl)) (hres _ _ _),hvars _,rfl,fun b off hp=> ?_,fun ha=>by cases ha⟩,fun p hp _=>by simpa using hp⟩;have hin:MemPlace.cell b off∈pa++[]:=by simpa using hp
 rw[hb.frozen (hlt _ hin)];exact hz b off hin
theorem qXP{X:World->Array Value->Prop}(hX:∀(w w':World)(args:Array Value),w.heap=w'.heap->X w args->X w' args){C:Checked}{os:Os}(started:os.Started){f:FuncId}{fn:Func}{s:ChangeSpec}{tb:TypeId}(own:ownKnob C.prog.godebug=none)(noInit:C.prog.inits.idxOf? f=none)(hfn:C.prog.funcs[f]?=some fn)
  (witness:∃(w:World)(tape:Tape)(i:Input),w.os=os/\(w.forCall tape i).Shaped C.prog/\i.vars=[]/\Input.okWide C.prog (w.forCall tape i) .any w.heap.size f i/\
   ((s.pre enc C.prog fn [] false (w.forCall tape i).memory i.args/\X (w.forCall tape i).memory i.args)/\sizedMet enc C.prog fn (OpenSpec.ofChange s) false (w.forCall tape i).memory i.args)/\({}:Assume).holds C.prog (lone (Frame.enter C.prog f i.args .normal) [] (w.forCall tape i)))
  (hl:laidOutB C.prog=true) (hrow:∀t∈fn.params.toList,C.prog.readableRec t=true/\t<C.prog.types.size) (hsv:s.vars=[]) (hr:fn.resultTypes= #[tb]) (htb:C.prog.underlying tb=some .bool)
  (hs:∀ds:List (DataW H),ds.length=fn.params.size->(s.fn H ds).results=[.lit (.bool true)]/\(s.fn H ds).args=ds/\(s.fn H ds).vars=[])
  (core:∀(W:World)(base:Nat)(args:Array Value)(ds:List (DataW H))(ps:List MemPlace),(∀(j:Nat) t v,fn.params[j]?=some t->args[j]?=some v->Value.okWide C.prog W .any base t v)->
   DataW.TrodAll enc C.prog W 0 (fun _=>true) true fn.params.toList args.toList ds ps->(∀n∈DataW.weightsEach C.prog fn.params.toList ds,n<=reachBytes)->X W args->
   Calls C.prog f args W fun e W'=>e=.returned (.bool true)/\RowKit.Below W.heap.size W W'):
  ReturnsInHanded {} C os f .any (fun w args=>(s.pre enc C.prog fn [] false w args/\X w args)/\sizedMet enc C.prog fn (OpenSpec.ofChange s) false w args) (s.post enc C.prog fn false true false false):=by
 refine returnsInHanded_of_change_and hX own started noInit hfn witness ?_;intro W base args ds gs before hval hW _ hwt hx _;have hW':=hW;obtain⟨p,q,hA,hV,rfl,_,_⟩:=hW;rw[hsv]at hV;obtain⟨rfl,rfl⟩:=ChangeShapes.trodVars_none hV;have hlen:ds.length=fn.params.size:=by
  have key:∀{ts:List TypeId}{vs:List Value}{ds:List (DataW H)}{ps:List MemPlace},DataW.TrodAll enc C.prog W 0 (fun _=>true) true ts vs ds ps->ds.length=ts.length:=by
   intro ts
   induction ts with
   | nil=>intro vs ds ps h;obtain⟨_,rfl,_⟩:=ChangeShapes.trodAll_nil h;rfl
   | cons t ts ih=>
    intro vs ds ps h;obtain⟨v,vs',d,ds',p,q,rfl,rfl,rfl,_,h2⟩:=ChangeShapes.trodAll_cons h;simp[ih h2]
  simpa using key hA
 have hw:∀n∈DataW.weightsEach C.prog fn.params.toList ds,n<=reachBytes:=by
  have hv0:s.plain.varTypes C.prog=[]:=by
   have:s.plain.vars=[]:=hsv;simp[DataSpec.varTypes,this]
  rw[hv0,lAn,lAn]at hwt;intro n hn;simpa using lAt.1 hwt n hn
 refine(core W base args ds p hval hA hw hx).mono ?_;rintro e W' ⟨rfl,hb⟩;exact⟨_,rfl,qXQ hsv hW' hl hrow hr htb (hs ds hlen) hb⟩
end
end Go.Ab
