/- Texts AbZ .. AbZ: the abstract machine, its laws and contracts of functions: lemmas for the statement. No condition. -/
import Derived.Carry
import Derived.ChangeArms
import Derived.ChangeSame
import Derived.JoinedOf
import Derived.OpenShut
import Derived.RowKit3
import Derived.SizedLaws
import Derived.WideKeyArgs
import Derived.Test.YtkgbnffcaabafaaGreatDoorP3
import Derived.Test.YtkgbnffcaabafaaGreatDoorP5
set_option linter.unusedSimpArgs false
set_option linter.unusedVariables false
namespace Go.Ab
open Go
theorem Xq {P : Program} {f : FuncId} {fn : Func} {c : Code} (hf : P.funcs[f]? = some fn) (hname : (fn.name == "runtime.NumGoroutine") = false) (hb : fn.body = some c) (args : Array Value) (w : World) :
  (callFunc f args).run P w=.ok (.enter f args) w:=by
 have h1 : fn.name ≠ "runtime.NumGoroutine" := by simpa using hname
 simp[callFunc,hf,h1,hb]
def XK (S : qL) (g : Nat) (F : qI) : Prop := ∃ fn, S.P.funcs[S.N.f g]? = some fn ∧ (fn.name == "runtime.NumGoroutine") = false ∧ ZA S F fn = true
def qSR (S : qL) (g : Nat) (t : jA) : Prop := (∃ fn, S.P.funcs[S.N.f g]? = some fn ∧ (fn.name == "runtime.NumGoroutine") = false ∧ ∃ c, fn.body = some c) ∧ Kg S g t
def Zc (S : qL) (g : Nat) (P : List AV → AV → Prop) : Prop := (∃ fn, S.P.funcs[S.N.f g]? = some fn ∧ (fn.name == "runtime.NumGoroutine") = false ∧ ∃ c, fn.body = some c) ∧
 ∀as v,P as v->∀m h w (vs:Array Value),HR S.N m h w->VRs S.N m as vs.toList->Calls S.P (S.N.f g) vs w fun e w'=>RowKit.Below w.heap.size w w'/\∃u,e=.returned u/\VR S.N m v u
def ZZ (S : qL) (g : Nat) (R : List AV → AH → Qo → AH → Prop) : Prop := (∃ fn, S.P.funcs[S.N.f g]? = some fn ∧ (fn.name == "runtime.NumGoroutine") = false ∧ ∃ c, fn.body = some c) ∧
 (∀as h r h',R as h r h'->∀id o,h'.fr id->h.fr id/\R as (h.upd id o) r (h'.upd id o))/\
 ∀as h r h',R as h r h'->∀m w (vs:Array Value),HR S.N m h w->VRs S.N m as vs.toList->
  Calls S.P (S.N.f g) vs w fun e w'=>∃m',Fr w.heap.size m h w m' h' w'/\HR S.N m' h' w'/\(match r with
   |.ok v=>∃u,e=.returned u/\VR S.N m' v u
   |.pan v=>∃u,e=.panicked [{v:=u,recovered:=false}]/\VR S.N m' v u)
theorem Yi{S:qL}{g:Nat}{P:List AV->AV->Prop}(hT:Zc S g P):ZZ S g (Jf P):=
 ⟨hT.1,fun as h r h' hR id o hid=>by
  obtain⟨rfl,v,rfl,hp⟩:=hR;exact⟨hid,rfl,v,rfl,hp⟩,fun as h r h' hR m w vs hH hvs=>by
  obtain⟨rfl,v,rfl,hp⟩:=hR;refine Calls.mono (hT.2 as v hp m h' w vs hH hvs) ?_;rintro e w' ⟨hb,u,rfl,hu⟩;refine⟨m,⟨hb.os,hb.tape,hb.output,hb.size,m.le_refl,fun b h1 h2=>⟨hb.block b h1,h2⟩,fun b _ h2=>h2⟩,hH.blocks hb.size (fun id o p ho hl hp=>hb.block _ (hH.lt ho hl hp)) (fun b c hz=>hb.block _ (hH.zlt hz)),u,rfl,hu⟩⟩
def Ke(S:qL)(g:Nat):AFn->Prop
 |.fn _=>False
 |.try t=>qSR S g t
 |.ext R=>ZZ S g R
def QE(S:qL):List (Nat×AFn)->Prop
 |[]=>S.X=[]/\S.Yk=[]
 | (g,t)::r=>Ke S g t/\QE S r
def Za(S:qL):List (Nat×qI)->Prop
 |[]=>True
 | (g,F)::r=>XK S g F/\Za S r
theorem qBL{S:qL}:∀{tt:List (Nat×AFn)},QE S tt->S.X=[]/\S.Yk=[]
 |[],h=>h
 | _::_,h=>qBL h.2
theorem qVW{S:qL}:∀{tt:List (Nat×AFn)},QE S tt->∀{g:Nat}{x:AFn},Jk.lookY0 g tt=some x->Ke S g x
 |[],_,g,x,h=>by cases h
 | (k,F)::r,hf,g,x,h=>by
  simp only[Jk.lookY0]at h;cases hk:Nat.beq k g with
  | true=>
   rw[hk]at h;have:k=g:=Nat.eq_of_beq_eq_true hk;subst this;simp only[cond_true,oSi]at h;subst h;exact hf.1
  | false=>
   rw[hk]at h;exact qVW hf.2 h
theorem Zr{S:qL}{tt:List (Nat×AFn)}(ht:QE S tt):∀{tab:List (Nat×qI)},Za S tab->∀{g:Nat}{x:AFn},Jk g tt tab=some x->(∃F,x=.fn F/\XK S g F)\/Ke S g x
 |[],_,g,x,h=>.inr (qVW ht h)
 | (k,F)::r,hf,g,x,h=>by
  simp only[Jk]at h;cases hk:Nat.beq k g with
  | true=>
   rw[hk]at h;have:k=g:=Nat.eq_of_beq_eq_true hk;subst this;simp only[cond_true,oSi]at h;exact .inl ⟨F,h.symm,hf.1⟩
  | false=>
   rw[hk]at h;exact Zr ht hf.2 h
def qVV(g:Nat):List (Nat×Nat)->Nat
 |[]=>0
 | (k,n)::r=>bif Nat.beq k g then n else qVV g r
theorem qb7 {S : qL} {P : Program} {g k : Nat} {F : qI} {fn : Func} (hN : S.N.f g = k) (hP : S.P = P) (hf : P.funcs[k]? = some fn) (hn : (fn.name == "runtime.NumGoroutine") = false) (hm : ZA S F fn = true) : XK S g F :=
 ⟨fn,by rw[hN,hP];exact hf,hn,hm⟩
section
variable {S:qL} {Γ:Nat->Option AFn} {tab:List (Nat×qI)} {tt:List (Nat×AFn)}
theorem qcE(hΓ:∀g,Γ g=Jk g tt tab)(ht:QE S tt)(hf:Za S tab):GOK Γ:=fun g R hg as h r h' hR id o hid=>by
 rw[hΓ]at hg;rcases Zr ht hf hg with⟨F,h,_⟩ | hE
 ·cases h
 ·exact hE.2.1 as h r h' hR id o hid
theorem qb8(hΓ:∀g,Γ g=Jk g tt tab)(ht:QE S tt)(hf:Za S tab):XJ S Γ where
 X:=(qBL ht).1
 Y:=(qBL ht).2
 tr:=fun g t hg=>by
  rw[hΓ]at hg;rcases Zr ht hf hg with⟨F,h,_⟩ | h
  ·cases h
  ·exact h.2
 fn:=fun g F hg=>by
  rw[hΓ]at hg;rcases Zr ht hf hg with⟨F',h,fn,h1,_,h2⟩ | h
  ·cases h;exact⟨fn,h1,h2⟩
  ·exact h.elim
 ext:=fun g R hg as h r h' hR m w vs hH hvs=>by
  rw[hΓ]at hg;rcases Zr ht hf hg with⟨F,h,_⟩ | hE
  ·cases h
  ·exact hE.2.2 as h r h' hR m w vs hH hvs
theorem qdC(hΓ:∀g,Γ g=Jk g tt tab)(ht:QE S tt)(hf:Za S tab):Known S Γ:=fun g hg args w=>by
 rw[hΓ]at hg;obtain⟨x,hx⟩:=Option.ne_none_iff_exists'.1 hg;rcases Zr ht hf hx with⟨F,_,fn,h1,hn,h2⟩ | h
 ·unfold ZA at h2;cases hb:fn.body with
  | none=>rw[hb]at h2;cases h2
  | some c=>exact Xq h1 hn hb args w
 ·cases x with
  | fn F=>exact h.elim
  | «try»t=>
   obtain⟨⟨fn,h1,hn,c,hb⟩,_⟩:=h;exact Xq h1 hn hb args w
  | ext R=>
   obtain⟨⟨fn,h1,hn,c,hb⟩,_⟩:=h;exact Xq h1 hn hb args w
end
def fz0(W:World):Mp:=⟨fun _=>none,fun b=>match W.heap[b]? with
 | some (.cells c _ _)=>some c
 | _=>none⟩
theorem qcB{N:qh}{W:World}(hg:∀b c,N.gz b=some c->(fz0 W).z b=some c):HR N (fz0 W) AH.empty W where
 gg:=hg
 at':=fun id o h=>by cases h
 none':=fun _ _=>rfl
 apart:=fun i j o o' p q h=>by cases h
 zz:=fun b c h=>by
  refine⟨?_,fun id o p h=>by cases h⟩;simp only[fz0]at h;split at h
  ·rename_i c' e fz hh;cases h;exact⟨e,fz,hh⟩
  ·cases h
theorem qdV{v:AV}(hl:v.leaf=true){r:AV}(h:RelV ρ0 v r):r=v:=Wg _ _ hl h
theorem qdG{S:qL}{Γ:Nat->Option AFn}(hG:GOK Γ)(hK:Known S Γ)(hF:XJ S Γ){g:Nat}{as:List AV}{b:Bool}(hp:Pure Γ g as (.bool b)){W:World}{vs:Array Value}(hg:∀b c,S.N.gz b=some c->(fz0 W).z b=some c)
  (hv:VRs S.N (fz0 W) as vs.toList):Calls S.P (S.N.f g) vs W fun e w'=>e=.returned (.bool b)/\RowKit.Below W.heap.size W w':=by
 unfold Pure at hp;obtain⟨t1,t2,hp⟩:=hp;obtain⟨k,r,hr',h1,h2,h3,h4⟩:=hp AH.empty as (ZR _ t1);have hr:=qdV rfl h4;subst hr;refine Calls.mono (qaP hG hK hF k g as _ _ _ h1 (fz0 W) W vs (qcB hg) hv) ?_;rintro e w' ⟨m',hfr,_,u,rfl,hu⟩;simp only[VR]at hu;subst hu;exact⟨rfl,hfr.os,hfr.tape,hfr.output,hfr.size,fun i hi=>(hfr.keep i hi (fun id o p h=>by cases h)).1⟩
section
variable {H:Type} (enc:TypeId×Value->H) (N:qh) (P:Program) (W:World)
variable {enc N P W}
end
section
variable {H:Type} {enc:TypeId×Value->H} {P:Program} {W W':World}
theorem qSU(hl:laidOutB P=true)(hb:RowKit.Below W.heap.size W W'){sp:Nat->Bool}:∀{ts:List TypeId}{vs:List Value}{ds:List (DataW H)}{ps:List MemPlace},
  (∀t∈ts,P.readableRec t=true/\t<P.types.size)->DataW.TrodAll enc P W 0 (fun _=>true) true ts vs ds ps->(∀p∈ps,sp p.block=true)->DataW.TrodAll enc P W' 0 sp true ts vs ds ps
 |[],vs,ds,ps,_,h,_=>by
  obtain⟨rfl,rfl,rfl⟩:=ChangeShapes.trodAll_nil h;exact ChangeShapes.trodAll_mk0
 | t::ts,vs,ds,ps,ht,h,hs=>by
  obtain⟨v,vs',d,ds',p,q,rfl,rfl,rfl,h1,h2⟩:=ChangeShapes.trodAll_cons h;obtain⟨r1,r2⟩:=ht t (by simp);have hlt:∀x∈p,x.block<W.heap.size:=fun x hx=>(ChangeShapes.trodAll_mk1 h1).lt x (by simpa using hx);exact⟨p,q,WideElems.Trod_stays hl r1 r2 h1 (fun x hx=>hb.same (hlt x hx)) (fun x hx=>hs x (by simp[hx])),qSU hl hb (fun t ht'=>ht t (by simp[ht'])) h2 (fun x hx=>hs x (by simp[hx])),rfl⟩
theorem qdI{f:Func}{s:ChangeSpec}{args:Array Value}{ds gs:List (DataW H)}{before:List MemPlace}{tb:TypeId}(hsv:s.vars=[])
  (hW:DataW.Whole enc P f.params.toList s.vars false W args.toList ds gs before) (hl:laidOutB P=true) (hrow:∀t∈f.params.toList,P.readableRec t=true/\t<P.types.size)
  (hr:f.resultTypes= #[tb]) (htb:P.underlying tb=some .bool) (hs:(s.fn H ds).results=[.lit (.bool true)]/\(s.fn H ds).args=ds/\(s.fn H ds).vars=[]) (hb:RowKit.Below W.heap.size W W'):
  s.post enc P f false true false false W args (.bool true) W':=by
 have hW':=hW;have hlt:∀p∈before,p.block<W.heap.size:=fun p hp=>hW.lt p hp;obtain⟨pa,q,hA,hV,rfl,hz,hn⟩:=hW;rw[hsv]at hV;obtain⟨rfl,rfl⟩:=ChangeShapes.trodVars_none hV;have hres:∀(b:Nat)(sp:Nat->Bool)(hd:Bool),DataW.TrodAll enc P W' b sp hd f.resultTypes.toList ((Value.bool true).resultList f.resultTypes.size) (s.fn H (ds++[])).results []:=fun b sp hd=>by
  rw[hr,lAn,hs.1];exact ChangeShapes.trodAll_mk1 (RowKit.shut_bool htb true)
 have hargs:∀sp:Nat->Bool,(∀p∈pa++[],sp p.block=true)->DataW.TrodAll enc P W' 0 sp true f.params.toList args.toList (s.fn H (ds++[])).args pa:=fun sp hsp=>by
  rw[lAn,hs.2.1];exact qSU hl hb hrow hA (by simpa using hsp)
 have hvars:∀sp:Nat->Bool,DataW.TrodVars enc P W' sp s.vars (s.fn H (ds++[])).vars []:=fun sp=>by
  rw[hsv,lAn,hs.2.2];rfl
 have hold:∀p∈pa++[],(fun b=>decide (b<W.heap.size)) p.block=true:=fun p hp=>by simpa using hlt p hp
 refine⟨ds,[],pa++[],[],pa,[],hW',hres _ _ _,hargs _ hold,hvars _,World.keptBut_mono (fun p hp=>⟨hp,by simpa using hp⟩) (hb.frame (· ∈pa++[])),fun _=> ?_⟩;refine⟨RowKit.ok_one hr rfl (RowKit.okWide_bool_mk htb true),_,_,([]++pa)++[],⟨[]++pa,[],ChangeShapes.trodAll_append (hargs _ (fun _ _=>rfl)) (hres _ _ _),hvars _,rfl,fun b off hp=> ?_,fun ha=>by cases ha⟩,fun p hp _=>by simpa using hp⟩;have hin:MemPlace.cell b off∈pa++[]:=by simpa using hp
 rw[hb.frozen (hlt _ hin)];exact hz b off hin
theorem qdH{X:World->Array Value->Prop}(hX:∀(w w':World)(args:Array Value),w.heap=w'.heap->X w args->X w' args){C:Checked}{os:Os}(started:os.Started){f:FuncId}{fn:Func}{s:ChangeSpec}{tb:TypeId}(own:ownKnob C.prog.godebug=none)(noInit:C.prog.inits.idxOf? f=none)(hfn:C.prog.funcs[f]?=some fn)
  (witness:∃(w:World)(tape:Tape)(i:Input),w.os=os/\(w.forCall tape i).Shaped C.prog/\i.vars=[]/\Input.okWide C.prog (w.forCall tape i) .any w.heap.size f i/\
   ((s.pre enc C.prog fn [] false (w.forCall tape i).memory i.args/\X (w.forCall tape i).memory i.args)/\sizedMet enc C.prog fn (OpenSpec.ofChange s) false (w.forCall tape i).memory i.args)/\({}:Assume).holds C.prog (lone (Frame.enter C.prog f i.args .normal) [] (w.forCall tape i)))
  (hl:laidOutB C.prog=true) (hrow:∀t∈fn.params.toList,C.prog.readableRec t=true/\t<C.prog.types.size) (hsv:s.vars=[]) (hr:fn.resultTypes= #[tb]) (htb:C.prog.underlying tb=some .bool)
  (hs:∀ds:List (DataW H),ds.length=fn.params.size->(s.fn H ds).results=[.lit (.bool true)]/\(s.fn H ds).args=ds/\(s.fn H ds).vars=[])
  (core:∀(W:World)(base:Nat)(args:Array Value)(ds:List (DataW H))(ps:List MemPlace),(∀(j:Nat) t v,fn.params[j]?=some t->args[j]?=some v->Value.okWide C.prog W .any base t v)->
   DataW.TrodAll enc C.prog W 0 (fun _=>true) true fn.params.toList args.toList ds ps->(∀n∈DataW.weightsEach C.prog fn.params.toList ds,n<=reachBytes)->X W args->
   Calls C.prog f args W fun e W'=>e=.returned (.bool true)/\RowKit.Below W.heap.size W W'):
  ReturnsInHanded {} C os f .any (fun w args=>(s.pre enc C.prog fn [] false w args/\X w args)/\sizedMet enc C.prog fn (OpenSpec.ofChange s) false w args) (s.post enc C.prog fn false true false false):=by
 refine returnsInHanded_of_change_and hX own started noInit hfn witness ?_;intro W base args ds gs before hval hW _ hwt hx _;have hW':=hW;obtain⟨p,q,hA,hV,rfl,_,_⟩:=hW;rw[hsv]at hV;obtain⟨rfl,rfl⟩:=ChangeShapes.trodVars_none hV;have hlen:ds.length=fn.params.size:=by
  have key:∀{ts:List TypeId}{vs:List Value}{ds:List (DataW H)}{ps:List MemPlace},DataW.TrodAll enc C.prog W 0 (fun _=>true) true ts vs ds ps->ds.length=ts.length:=by
   intro ts
   induction ts with
   | nil=>intro vs ds ps h;obtain⟨_,rfl,_⟩:=ChangeShapes.trodAll_nil h;rfl
   | cons t ts ih=>
    intro vs ds ps h;obtain⟨v,vs',d,ds',p,q,rfl,rfl,rfl,_,h2⟩:=ChangeShapes.trodAll_cons h;simp[ih h2]
  simpa using key hA
 have hw:∀n∈DataW.weightsEach C.prog fn.params.toList ds,n<=reachBytes:=by
  have hv0:s.plain.varTypes C.prog=[]:=by
   have:s.plain.vars=[]:=hsv;simp[DataSpec.varTypes,this]
  rw[hv0,lAn,lAn]at hwt;intro n hn;simpa using lAt.1 hwt n hn
 refine(core W base args ds p hval hA hw hx).mono ?_;rintro e W' ⟨rfl,hb⟩;exact⟨_,rfl,qdI hsv hW' hl hrow hr htb (hs ds hlen) hb⟩
end
end Go.Ab
