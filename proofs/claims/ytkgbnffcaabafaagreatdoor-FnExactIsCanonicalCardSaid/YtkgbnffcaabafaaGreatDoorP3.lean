/- Texts Ab18 .. Ab23: the abstract machine, its laws and contracts of functions: lemmas for the statement. No condition. -/
import Derived.KernelRfl
import Derived.Laws.Sem
import Derived.Orders
import Derived.RecoverIn
import Derived.Test.YtkgbnffcaabafaaGreatDoorP2
set_option linter.unusedSimpArgs false
set_option linter.unusedVariables false
namespace Go.Ab
open Go
structure zp where
 i:Nat
 d:Nat
 t:Nat
 off:Nat
 g:Option (Nat×Bool)
def JK(ns:List zp):AMap:=ns.map fun e=>(e.d,e.t,e.off)
theorem qSS:∀{ns:List zp}{d t off:Nat},(JK ns).look d=some (t,off)->∃e∈ns,e.d=d/\e.t=t/\e.off=off
 |[],_,_,_,h=>by cases h
 | e::ns,d,t,off,h=>by
  simp only[JK,lMc,AMap.look]at h;split at h
  ·rename_i hd;simp only[oSi,Prod.mk.injEq]at h;exact⟨e,lMs,hd,h.1,h.2⟩
  ·obtain⟨e',h1,h2⟩:=qSS (ns:=ns) h;exact⟨e',List.mem_cons_of_mem _ h1,h2⟩
def NopInv(ns:List zp)(dn:Nat->Prop)(st:St)(a:Act):Prop:=
 ∀e∈ns,dn e.i->zB st.s e.g=some true->∀c,lk st.l e.t=some c->∃b,a.tmps[e.t]?=some (.pointer (some ⟨b,0,none⟩))/\a.tmps.getD e.d undef=.pointer (some ⟨b,e.off,none⟩)
def touch(c:qA)(e:zp):Bool:=match c.d with
 | some d=>d==e.d || d==e.t || (match e.g with
  | some (g,_)=>d==g
  | none=>false)
 | none=>false
def dEq:Option Nat->Option Nat->Bool
 | none,none=>true
 | some a,some b=>a==b
 | _,_=>false
theorem qT6{a b:Option Nat}(h:dEq a b=true):a=b:=by cases a<;>cases b<;>simp_all[dEq]
def Wk(L:List Nat)(n:Nat)(ops:Array Oper):Option (Nat×Bool)->Option (Nat×Bool)->Bool
 | none,none=>true
 | some (d,b),some (j,b')=>b==b'&&decide (d<n)&& !mem L d&&(match ops[j]? with
  | some o=>dEq o.dst (some d)
  | none=>false)
 | _,_=>false
def Q4:AOp->Bool
 |.lalloc _ |.lbox _ _=>true
 | _=>false
def mDst(L:List Nat)(n:Nat)(o:Oper):Bool:=match o.dst with
 | some d=>decide (d<n)&& !mem L d
 | none=>true
def Zx(S:qL)(L:List Nat)(ns:List zp)(o:Oper):Option (Nat×Nat):=match o.op with
 |.fieldAddr T y i=>(match wH L (JK ns) y,S.T T with
  | some (t,off),some ⟨.struct fs,_,_,_⟩=>(match wu S fs i with
   | some (fo,z)=>if z=0 then none else some (t,off+fo)
   | none=>none)
  | _,_=>none)
 |.indexAddr T y (.const (.int _ x))=>(match wH L (JK ns) y,S.T T with
  | some (t,off),some ⟨.arr k e,_,_,_⟩=>(match jP S e with
   | some z=>if 0<=x/\x<(k:Int)then some (t,off+x.toNat*z)else none
   | none=>none)
  | _,_=>none)
 | _=>none
def Q5:AOp->Bool
 |.nop _=>true
 | _=>false
def J0(S:qL)(L:List Nat)(n:Nat)(ns:List zp)(c:qA)(o:Oper):Bool:=match c.o with
 |.nop t=>(match Zx S L ns o with
  | some (t',_)=>t==t'
  | none=>false)
 |.call g args=>(match o.op with
  |.call ⟨.value (.func f),args',_⟩=>S.N.f g==f&&QV S.N L args args'.toList
  | _=>false)
 |.callv x args=>(match o.op with
  |.call ⟨.value y,args',_⟩=>mAo S.N L x y&&QV S.N L args args'.toList
  | _=>false)
 |.panic x=>(match o.op with
  |.panic y=>mAo S.N L x y
  | _=>false)
 | _=>QX S L n (JK ns) c.o o
def Wj(S:qL)(L:List Nat)(ns:List zp)(c:qA)(o:Oper)(e:zp):Bool:= !(e.i==c.i) || (Q5 c.o&&gEq e.g c.g&&(match Zx S L ns o with
 | some (t,off)=>e.t==t&&e.off==off
 | none=>false)&&(match o.dst with
 | some d=>e.d==d&& !(e.t==d)&&(match c.g with
  | some (g,_)=> !(g==d)
  | none=>true)
 | none=>false))
def mUse(ns:List zp)(c:qA)(o:Oper):Bool:=o.op.operands.toList.all fun y=>match y with
 |.tmp d=>ns.all fun e=> !(e.d==d) || (e.g.isNone || gEq e.g c.g)
 | _=>true
def wx(S:qL)(L:List Nat)(n:Nat)(ns:List zp)(ops:Array Oper)(c:qA):Bool:=match ops[c.i]? with
 | none=>false
 | some o=>dEq c.d o.dst&&Wk L n ops c.g o.guard&&(c.g.isNone || !Q4 c.o)&&(Q4 c.o || mDst L n o)&&J0 S L n ns c o&&ns.all (Wj S L ns c o)&&mUse ns c o
def XC(ns:List zp)(o:Oper)(dn:Nat->Prop):Prop:=∀d,Operand.tmp d∈o.op.operands.toList->∀e∈ns,e.d=d->dn e.i
variable {Γ:Nat->Option AFn} {kk:Nat}
def CallSim(S:qL)(Γ:Nat->Option AFn)(k:Nat):Prop:=
 ∀g as h r h',Ex Γ k (.call g as h) (.res r h')->∀m w (vs:Array Value),HR S.N m h w->VRs S.N m as vs.toList->
  Calls S.P (S.N.f g) vs w fun e w'=>∃m',Fr w.heap.size m h w m' h' w'/\HR S.N m' h' w'/\(match r with
   |.ok v=>∃u,e=.returned u/\VR S.N m' v u
   |.pan v=>∃u,e=.panicked [{v:=u,recovered:=false}]/\VR S.N m' v u)
def Known(S:qL)(Γ:Nat->Option AFn):Prop:=∀g,Γ g≠none->∀(args:Array Value)(w:World),(callFunc (S.N.f g) args).run S.P w=.ok (.enter (S.N.f g) args) w
theorem qTR{g:Nat}{as:List AV}{h:AH}{r:Qo}{h':AH}(hx:Ex Γ kk (.call g as h) (.res r h')):Γ g≠none:=by
 have key:∀k j o,Ex Γ k j o->∀g as h,j=.call g as h->Γ g≠none:=by
  intro k j o hx
  induction hx with
  | fn hg=>rintro g as h ⟨⟩;rw[hg];simp
  | fnP hg=>rintro g as h ⟨⟩;rw[hg];simp
  | ext hg=>rintro g as h ⟨⟩;rw[hg];simp
  | tryX hg=>rintro g as h ⟨⟩;rw[hg];simp
  | tryV hg=>rintro g as h ⟨⟩;rw[hg];simp
  | tryP hg=>rintro g as h ⟨⟩;rw[hg];simp
  | tryF hg=>rintro g as h ⟨⟩;rw[hg];simp
  | frzA K hK hl hc hx ih=>rintro g as h ⟨⟩;exact ih _ _ _ rfl
  | frzR K hK hc hx ih=>rintro g as h ⟨⟩;exact ih _ _ _ rfl
  | drop hh ht hx ih=>rintro g as h ⟨⟩;exact ih _ _ _ rfl
  | brw K hK hl hc ht hx ih=>rintro g as h ⟨⟩;exact ih _ _ _ rfl
  | nilc id hid hh1 hh2 ht hx1 hx2 ih1 ih2=>rintro g as h ⟨⟩;exact ih1 _ _ _ rfl
  | brn K S hK hl hc hv hn hx ih=>rintro g as h ⟨⟩;exact ih _ _ _ rfl
  | trim n ho hx ih=>rintro g as h ⟨⟩;exact ih _ _ _ rfl
  | _=>rintro g as h ⟨⟩
 exact key _ _ _ hx _ _ _ rfl
section
variable {S:qL} {m:Mp} {L:List Nat} {n B:Nat} {ns:List zp} {ops:Array Oper} {st st':St} {a:Act} {w:World}
theorem Ys{c:qA}{o:Oper}(hf:FR S m L n B st a w)(hm:Wk L n ops c.g o.guard=true){t:Bool}(hw:zB st.s c.g=some t):Region.wanted o (yielded ops a.tmps)=t:=by
 cases hg:c.g with
 | none=>
  rw[hg]at hm hw;cases ho:o.guard with
  | none=>simp only[zB,oSi]at hw;simp[Region.wanted,ho,hw]
  | some _=>rw[ho]at hm;simp[Wk]at hm
 | some q=>
  obtain⟨d,b⟩:=q;rw[hg]at hm hw;cases ho:o.guard with
  | none=>rw[ho]at hm;simp[Wk]at hm
  | some q'=>
   obtain⟨j,b'⟩:=q';rw[ho]at hm;simp only[Wk,bAt,bIe,dTe,bNt]at hm;obtain⟨⟨⟨rfl,hd⟩,hL⟩,hj⟩:=hm;cases hoj:ops[j]? with
   | none=>simp[hoj]at hj
   | some oj=>
    simp only[hoj]at hj;have hdj:=qT6 hj;have hlt:d<a.tmps.size:=by rw[hf.size];exact hd
    simp only[zB]at hw;have hsl:=hf.slots d;have hget:a.tmps[d]?=some (a.tmps.getD d undef):=by
     rw[aGe hlt];simp[Array.getD,hlt]
    split at hw
    ·rename_i c' hlk;simp only[oSi]at hw;have:=(hsl _ hlk (Zt.1 hL)).bool_eq;rw[this]at hget;simp[Region.wanted,ho,yielded,hoj,hdj,hget,hw]
    ·rename_i hlk;simp only[oSi]at hw;have hv:=hsl _ hlk (Zt.1 hL);simp only[VR,VRs]at hv;obtain⟨vs,hv,_⟩:=hv;rw[hv]at hget;simp[Region.wanted,ho,yielded,hoj,hdj,hget,hw]
    ·cases hw
theorem qA4{d:Option Nat}{v:Value}{x:Nat}(h:d≠some x):(a.put d v).tmps[x]?=a.tmps[x]?:=by
 cases d with
 | none=>rfl
 | some d=>exact JZ (by rintro rfl;exact h rfl)
theorem NopInv.next{dn:Nat->Prop}{c:qA}(hN:NopInv ns dn st a)(ht:∀e∈ns,dn e.i->touch c e=false){v:Value}{vw:Option AV}{lw:Option (Nat×AV)}{h':AH}
  (hl:∀t x,lw=some (t,x)->c.d=some t\/∃c0,lk st.l t=some c0):NopInv ns dn (qj c.d vw lw st h') (a.put c.d v):=by
 intro e he hd hw c0 hc0;have htc:=ht e he hd;have hne:c.d≠some e.d/\c.d≠some e.t/\∀g b,e.g=some (g,b)->c.d≠some g:=by
  unfold touch at htc;cases hcd:c.d with
  | none=>simp
  | some d=>
   rw[hcd]at htc;simp only[Bool.or_eq_false_iff,beq_eq_false_iff_ne]at htc;refine⟨by simpa using htc.1.1,by simpa using htc.1.2,fun g b hg=> ?_⟩;have:=htc.2;rw[hg]at this;simpa using this
 have hw':zB st.s e.g=some true:=by
  rw[<-hw];unfold qj;cases vw with
  | none=>rfl
  | some x=>
   cases hg:e.g with
   | none=>rfl
   | some q=>
    obtain⟨g,b⟩:=q;simp only[zB,qAE];rw[if_neg (hne.2.2 g b hg)]
 have hlk:∃c1,lk st.l e.t=some c1:=by
  unfold qj at hc0;cases lw with
  | none=>exact⟨c0,hc0⟩
  | some q=>
   obtain⟨t,x⟩:=q;simp only[jD]at hc0;by_cases ht':t=e.t
   ·rcases hl t x rfl with h1 | h1
    ·exact absurd (ht'▸h1) hne.2.1
    ·rw[<-ht'];exact h1
   ·rw[if_neg ht']at hc0;exact⟨c0,hc0⟩
 obtain⟨c1,hlk⟩:=hlk;obtain⟨b,h1,h2⟩:=hN e he hd hw' c1 hlk;refine⟨b,by rw[qA4 hne.2.1];exact h1, ?_⟩;rw[<-h2];simp only[Array.getD_eq_getD_getElem?];rw[qA4 hne.1]
theorem qbW{d:Option Nat}{v:AV}{h:AH}:({st with h:=h}:St).put d v=qj d (some v) none st h:=rfl
theorem qf7{c:qA}(h:Step c.o c.d st st'):∃vw lw,st'=qj c.d vw lw st st'.h/\∀t x,lw=some (t,x)->c.d=some t\/∃c0,lk st.l t=some c0:=by
 obtain⟨vw,lw,e1,e2,_⟩:=qX8 h;refine⟨vw,lw,e1,fun t x hx=> ?_⟩;have:=e2 t x hx;unfold jL at this;cases ho:c.o<;>rw[ho]at this<;>simp only at this
 case lalloc z=>cases hd:c.d<;>simp[hd]at this;exact .inl (by rw[this])
 case lbox k y=>cases hd:c.d<;>simp[hd]at this;exact .inl (by rw[this])
 case lstore t' off k y=>
  rw[ho]at h;obtain⟨q,_,_,h1,_⟩:=h;simp only[oSi,Prod.mk.injEq,and_true]at this;exact .inr ⟨q,by rw[<-this];exact h1⟩
 all_goals simp at this
theorem YV{o:Oper}{f:FuncId}{y:Operand}{args:Array Operand}{ts:Array TypeId}{cap:Array Value}(ho:o.op=.call ⟨.value y,args,ts⟩)(hy:a.eval y=.func (.func f) #[] cap)
  (hk:∀(args:Array Value)(w:World),(callFunc f args).run S.P w=.ok (.enter f args) w):(execOp a.eval o).run S.P w=.ok (.enter f (args.map a.eval++cap)) w:=by
 unfold execOp;simp only[ho];simp only[resolve,hy,Deferred.ofValue,Sem.run_bind,Sem.run_pure,Result.andThen_ok,invoke,hk];simp
theorem qY7{dn:Nat->Prop}{c:qA}{o:Oper}(hN:NopInv ns dn st a)(hu:XC ns o dn)(hw:zB st.s c.g=some true)
  (hg:mUse ns c o=true):ZW (JK ns) (fun y=>y∈o.op.operands.toList) st.l a:=by
 intro d t off hd hlook c0 hc0;obtain⟨e,he,rfl,rfl,rfl⟩:=qSS hlook;have h1:=lAt.1 hg _ hd;simp only at h1;have h2:=lAt.1 h1 e he;simp only[beq_self_eq_true,nT,Bool.false_or,Bool.or_eq_true]at h2;have hw':zB st.s e.g=some true:=by
  rcases h2 with h2 | h2
  ·cases hg':e.g with
   | none=>rfl
   | some _=>rw[hg']at h2;cases h2
  ·rw[kN h2];exact hw
 exact hN e he (hu _ hd e he rfl) hw' c0 hc0
theorem qAK{o:Oper}(h:mDst L n o=true):∀x,o.dst=some x->x<n/\x∉L:=JB h
theorem qeM{o:Oper}{t off:Nat}{c0:AV}(hf:FR S m L n B st a w)(hA:ZW (JK ns) (fun y=>y∈o.op.operands.toList) st.l a)(hn:Zx S L ns o=some (t,off))(hc:lk st.l t=some c0):
  ∃b,a.tmps[t]?=some (.pointer (some ⟨b,0,none⟩))/\(execOp a.eval o).run S.P w=.ok (.value (.pointer (some ⟨b,off,none⟩))) w:=by
 have key:∀y off0,y∈o.op.operands.toList->wH L (JK ns) y=some (t,off0)->∃b,a.tmps[t]?=some (.pointer (some ⟨b,0,none⟩))/\a.eval y=.pointer (some ⟨b,off0,none⟩):=by
  intro y off0 hy ha;obtain⟨_,b,h1,_⟩:=hf.locs t c0 hc;refine⟨b,h1, ?_⟩;cases y with
  | tmp q=>
   simp only[wH]at ha;split at ha
   ·simp only[oSi,Prod.mk.injEq]at ha;obtain⟨rfl,rfl⟩:=ha;simp[Act.eval,h1]
   ·obtain⟨b',h5,h6⟩:=hA q t off0 hy ha c0 hc;rw[h1]at h5;simp only[oSi,Value.pointer.injEq,Addr.mk.injEq,and_true]at h5;subst h5;exact h6
  | _=>simp[wH]at ha
 unfold Zx at hn;split at hn
 ·rename_i T y i hop;split at hn
  ·rename_i t' off' fs sz bs z ha hT;split at hn
   ·rename_i fo zz hfo;split at hn
    ·cases hn
    ·rename_i hz;simp only[oSi,Prod.mk.injEq]at hn;obtain⟨rfl,rfl⟩:=hn;obtain⟨b,h1,h2⟩:=key y off' (by rw[hop];simp[Op.operands]) ha;refine⟨b,h1, ?_⟩;obtain⟨d,hd,hk⟩:=qL.kind (S:=S) (w:=w) hT rfl;cases d<;>simp only[zK,bFt]at hk;rename_i gs;obtain⟨g,hg,hgo,hgs⟩:=Xv hk hfo;have hg':gs[i]?=some g:=by simpa using hg
     have hz':(sizeOf g.type).run S.P w=.ok zz w:=hgs w;unfold execOp;simp only[hop];rw[h2];refine Z8 Next.value ?_;unfold Instr.fieldAt Instr.sureAddr fieldPlace;simp only[Sem.run_bind,hd,Result.andThen_ok,hg'];simp[hz',hz,wn,hgo]
   ·cases hn
  ·cases hn
 ·rename_i T y k x hop;split at hn
  ·rename_i t' off' kk e sz bs z ha hT;split at hn
   ·rename_i zz hzz;split at hn
    ·rename_i hx;simp only[oSi,Prod.mk.injEq]at hn;obtain⟨rfl,rfl⟩:=hn;obtain⟨b,h1,h2⟩:=key y off' (by rw[hop];simp[Op.operands]) ha;refine⟨b,h1, ?_⟩;obtain⟨d,hd,hk⟩:=qL.kind (S:=S) (w:=w) hT rfl;cases d<;>simp only[zK,bFt,bAt,bIe]at hk;obtain⟨rfl,rfl⟩:=hk;cases hTe:S.T e with
     | none=>simp[jP,hTe]at hzz
     | some ie=>
      simp only[jP,hTe,oMs,oSi]at hzz;unfold execOp;simp only[hop];rw[h2];refine Z8 Next.value ?_;unfold Instr.indexAt;simp only[asIntOf,Instr.sureAddr,Sem.run_bind,Sem.run_pure,hd,Result.andThen_ok,Act.eval,if_pos hx,qL.size hTe,wn,hzz]
    ·cases hn
   ·cases hn
  ·cases hn
 ·cases hn
set_option maxHeartbeats 1000000 in
theorem qWT(_hG:GOK Γ)(hK:Known S Γ)(hcs:CallSim S Γ kk){c:qA}{o:Oper}{dn:Nat->Prop}{Q:Exit->Act->World->Prop}{K:Act->World->Prop}(hf:FR S m L n B st a w)(hN:NopInv ns dn st a)(ho:ops[c.i]?=some o)(hm:wx S L n ns ops c=true)
  (hu:XC ns o dn) (ht:∀e∈ns,dn e.i->touch c e=false) (hs:St0 Γ kk c st st')
  (hk:∀a' w' m',FR S m' L n B st' a' w'->NopInv ns (fun i=>dn i\/i=c.i) st' a'->Fr B m st.h w m' st'.h w'->K a' w'):wpOp S.P ops Q c.i K a w:=by
 unfold wx at hm;simp only[ho,bAt]at hm;obtain⟨⟨⟨⟨⟨⟨hd,hg⟩,hgl⟩,hds⟩,hop⟩,hent⟩,huse⟩:=hm;have hdd:=qT6 hd;unfold wpOp;simp only[ho]
 --the invariant of the addresses,where the operation is no address itself
 have hext:∀{s2:St}{a2:Act},NopInv ns dn s2 a2->Q5 c.o=false->NopInv ns (fun i=>dn i\/i=c.i) s2 a2:=by
  intro s2 a2 h1 h2 e he hdn;rcases hdn with hdn | hdn
  ·exact h1 e he hdn
  ·have:=lAt.1 hent e he;simp[Wj,hdn,h2]at this
 rcases hs with⟨hw,rfl⟩ | ⟨hw,hs | ⟨g,as,v,h',hce,hx,rfl⟩⟩
 ·--passed over
  rw[Ys hf hg hw];simp only[bFt,if_false];have hgs:c.g.isNone=false:=by
   cases hcg:c.g with
   | none=>rw[hcg]at hw;simp[zB]at hw
   | some _=>rfl
  have hnl:Q4 c.o=false:=by simpa[hgs]using hgl
  have hdst:=qAK (by simpa[hnl]using hds);have hf':=hf.next (d:=o.dst) (av:=.undef) (v:=undef) hf.heap m.le_refl (nLr _) (fun _ _ _ hb=>⟨rfl,hb⟩) (by simp only[VR,VRs];exact⟨#[],rfl,rfl⟩) hdst;refine hk _ _ m (by rw[hdd];exact hf') ?_ (Fr.refl _ _ _ _);have h1:NopInv ns dn (st.put c.d .undef) (a.put o.dst undef):=by
   rw[<-hdd];exact hN.next (v:=undef) (vw:=some .undef) (lw:=none) (h':=st.h) ht nofun
  intro e he hdn hwe;rcases hdn with hdn | hdn
  ·exact h1 e he hdn hwe
  ·exfalso;have hq:=lAt.1 hent e he;simp only[Wj,hdn,beq_self_eq_true,nT,Bool.false_or,bAt]at hq;have hge:=kN hq.1.1.2;rw[hge]at hwe;cases hod:o.dst with
   | none=>rw[hod]at hq;simp at hq
   | some d=>
    rw[hod]at hq;simp only[bAt]at hq;cases hcg:c.g with
    | none=>rw[hcg]at hw;simp[zB]at hw
    | some q=>
     obtain⟨g,b⟩:=q;rw[hcg]at hq hw hwe;simp only[bNt,beq_eq_false_iff_ne]at hq;simp only[zB,St.put,hdd,hod,qAE]at hwe hw;rw[if_neg (by simpa using Ne.symm hq.2.2)]at hwe;rw[hwe]at hw;cases hw
 ·rw[Ys hf hg hw];simp only[if_true];refine .inl ?_;have hA:=qY7 hN hu hw huse;by_cases hnop:Q5 c.o=true
  ·--an address
   have hco:∃t,c.o=.nop t:=by cases hc:c.o<;>rw[hc]at hnop<;>first | exact⟨_,rfl⟩ | cases hnop
   obtain⟨t,hco⟩:=hco;rw[hco]at hs;obtain⟨v,hv,rfl⟩:=hs;simp only[val,oMi]at hv;obtain⟨c0,hc0,rfl⟩:=hv;have hdst:=qAK (by simpa[hco,Q4]using hds);unfold J0 at hop;rw[hco]at hop;simp only at hop;cases hnv:Zx S L ns o with
   | none=>rw[hnv]at hop;cases hop
   | some q=>
   obtain⟨t',off⟩:=q;rw[hnv]at hop;simp only[bIe]at hop;subst hop;obtain⟨b,hb,hrun⟩:=qeM hf hA hnv hc0;unfold Oper.wp;rw[hrun];show K (a.put o.dst _) w;have hf':=hf.next (d:=o.dst) (av:=.any) (v:=.pointer (some ⟨b,off,none⟩)) hf.heap m.le_refl (nLr _) (fun _ _ _ hb=>⟨rfl,hb⟩) (by simp only[VR]) hdst;refine hk _ _ m (by rw[hdd];exact hf') ?_ (Fr.refl _ _ _ _);have h1:NopInv ns dn (st.put c.d .any) (a.put o.dst (.pointer (some ⟨b,off,none⟩))):=by
    rw[<-hdd];exact hN.next (vw:=some .any) (lw:=none) (h':=st.h) ht nofun
   intro e he hdn hwe c1 hc1;rcases hdn with hdn | hdn
   ·exact h1 e he hdn hwe c1 hc1
   ·have hq:=lAt.1 hent e he;simp only[Wj,hdn,beq_self_eq_true,nT,Bool.false_or,bAt,hnv,bIe]at hq;obtain⟨⟨_,hqt,hqo⟩,hq⟩:=hq;cases hod:o.dst with
    | none=>rw[hod]at hq;simp at hq
    | some d=>
     rw[hod]at hq;simp only[bAt,bIe,bNt,beq_eq_false_iff_ne]at hq;have hdn2:=(hdst d hod).1;refine⟨b, ?_, ?_⟩
     ·rw[qA4 (by simpa using Ne.symm hq.1.2),hqt];exact hb
     ·rw[hq.1.1,W0,if_pos ⟨rfl,by rw[hf.size];exact hdn2⟩,hqo]
  ·have hnop':Q5 c.o=false:=by simpa using hnop
   have hms:QX S L n (JK ns) c.o o=true:=by
    unfold J0 at hop;cases hc:c.o<;>rw[hc]at hop hs hnop'<;>first
     | exact hop
     | (cases hnop';done)
     | exact hs.elim
   have hsd:=hs;rw[hdd]at hsd;obtain⟨v,w',m',hrun,hf',hfr⟩:=qf6 hf hA hms hsd;have hgo:K (a.put o.dst v) w':=by
    refine hk _ _ m' hf' (hext ?_ hnop') hfr;obtain⟨vw,lw,e1,e2⟩:=qf7 hs;rw[e1,<-hdd];exact hN.next ht e2
   unfold Oper.wp;rcases hrun with hrun | ⟨hrun,rfl⟩
   ·rw[hrun];exact hgo
   ·rw[hrun];exact hgo
 ·rw[Ys hf hg hw];simp only[if_true];refine .inl ?_;have hnop':Q5 c.o=false/\Q4 c.o=false:=by
   cases hc:c.o<;>rw[hc]at hce<;>simp only[zf]at hce<;>first | exact⟨rfl,rfl⟩ | cases hce
  have hdst:=qAK (by simpa[hnop'.2]using hds);have hgk:=hK g (qTR hx);have hrun:∃vs:Array Value,(execOp a.eval o).run S.P w=.ok (.enter (S.N.f g) vs) w/\VRs S.N m as vs.toList:=by
   unfold J0 at hop;cases hc:c.o<;>rw[hc]at hce hop<;>simp only[zf]at hce<;>try (cases hce;done)
   case call g' args=>
    simp only[oMi,Prod.mk.injEq]at hce;obtain⟨as',hev,rfl,rfl⟩:=hce;simp only at hop;split at hop
    ·rename_i f args' ts hop';simp only[bAt,bIe]at hop;obtain⟨rfl,hma⟩:=hop;refine⟨_,YV hop' rfl hgk, ?_⟩;have:=Zs hma hf.slots hev;simpa using this
    ·cases hop
   case callv x args=>
    split at hce
    ·rename_i g' cs as' he1 he2;simp only[oSi,Prod.mk.injEq]at hce;obtain⟨rfl,rfl⟩:=hce;simp only at hop;split at hop
     ·rename_i y args' ts hop';simp only[bAt]at hop;have hv:=qb (a:=a) hop.1 hf.slots he1;simp only[VR]at hv;obtain⟨vs,hv,hvs⟩:=hv;refine⟨_,YV hop' hv hgk, ?_⟩;have:=(Zs hop.2 hf.slots he2).append hvs;simpa using this
     ·cases hop
    ·cases hce
  obtain⟨vs,hrun,hvs⟩:=hrun;unfold Oper.wp;rw[hrun];refine Calls.mono (hcs g as st.h (.ok v) h' hx m w vs hf.heap hvs) ?_;rintro e w' ⟨m',hfr,hH,u,rfl,hu⟩;show K (a.put o.dst u) w';have hf':=hf.next (d:=o.dst) (av:=v) (v:=u) hH hfr.le hfr.size (fun b _ hlt hfree=>⟨(hfr.keep b hlt hfree.still).1,hfr.free b hlt hfree⟩) hu hdst;refine hk _ _ m' (by rw[hdd];exact hf') (hext ?_ hnop'.1) (hfr.mono hf.base);rw[<-hdd,qbW];exact hN.next (v:=u) ht nofun
end
end Go.Ab
namespace Go.Ab
open Go
def Ze(acc:List Nat):List Edge->Nat
 |[]=>0
 | e::r=>if Region.binds .any e then 2^e.on ||| (acc.getD e.on 0 ||| Ze acc r)else Ze acc r
def XX:List Oper->List Nat->List Nat
 |[],acc=>acc
 | o::r,acc=>XX r (acc++[Ze acc o.after.toList])
def JM(ops:Array Oper):List Nat:=XX ops.toList []
def bef(B:List Nat)(y z:Nat):Bool:=(B.getD z 0).testBit y
def KY(ops:List Oper)(B:List Nat):Prop:=
 ∀z y,bef B y z=true->∃o,ops[z]?=some o/\∃e∈o.after,Region.binds .any e=true/\(e.on=y\/(e.on<z/\bef B y e.on=true))
theorem Kn{acc:List Nat}{y:Nat}:∀{l:List Edge},(Ze acc l).testBit y=true->∃e∈l,Region.binds .any e=true/\(e.on=y\/bef acc y e.on=true)
 |[],h=>by simp[Ze]at h
 | e::r,h=>by
  simp only[Ze]at h;split at h
  ·rename_i hb;simp only[Nat.testBit_or,Nat.testBit_two_pow,Bool.or_eq_true,dTe]at h;rcases h with h | h | h
   ·exact⟨e,by simp,hb,.inl h⟩
   ·exact⟨e,by simp,hb,.inr h⟩
   ·obtain⟨e',h1,h2⟩:=Kn h;exact⟨e',by simp[h1],h2⟩
  ·obtain⟨e',h1,h2⟩:=Kn h;exact⟨e',by simp[h1],h2⟩
theorem Ko{acc b:List Nat}{y z:Nat}(h:z<acc.length):bef (acc++b) y z=bef acc y z:=by
 simp only[bef,lGd];rw[gAl h]
theorem qS2{acc:List Nat}{y z:Nat}(h:acc.length<=z):bef acc y z=false:=by
 simp only[bef,lGd];rw[gEn h];simp
theorem qS0:∀(r pre:List Oper)(acc:List Nat),acc.length=pre.length->KY (pre++r) acc->KY (pre++r) (XX r acc)
 |[],_,_,_,h=>h
 | o::r,pre,acc,hl,h=>by
  rw[XX];have hp:pre++o::r=(pre++[o])++r:=by simp
  rw[hp]at h|-;refine qS0 r (pre++[o]) _ (by simp[hl]) ?_;intro z y hy;by_cases hz:z<acc.length
  ·rw[Ko hz]at hy;obtain⟨q,h1,e,h2,h3,h4⟩:=h z y hy;refine⟨q,h1,e,h2,h3, ?_⟩;rcases h4 with h4 | ⟨h4,h5⟩
   ·exact .inl h4
   ·exact .inr ⟨h4,by rw[Ko (by omega)];exact h5⟩
  ·by_cases hz':z=acc.length
   ·subst hz';simp only[bef,lGd]at hy;rw[gAr (nLr _)]at hy;simp only[nSs,List.getElem?_cons_zero,Option.getD_some]at hy;obtain⟨e,he,hb,hy⟩:=Kn hy;refine⟨o,by simp[hl],e,by simpa using he,hb, ?_⟩;rcases hy with h1 | h1
    ·exact .inl h1
    ·have hlt:e.on<acc.length:=by
      rcases Nat.lt_or_ge e.on acc.length with h2 | h2
      ·exact h2
      ·rw[qS2 h2]at h1;cases h1
     exact .inr ⟨hlt,by rw[Ko hlt];exact h1⟩
   ·rw[qS2 (by simp;omega)]at hy;cases hy
theorem qS3(ops:Array Oper):KY ops.toList (JM ops):=by
 have:=qS0 ops.toList [] [] rfl (fun z y hy=>by simp[bef]at hy);simpa[JM]using this
def DC(ops:Array Oper)(listed:Array Bool):Prop:=∀(x:Nat)(o:Oper),listed.getD x false=true->ops[x]?=some o->∀e∈o.after,Region.binds .any e=true->listed.getD e.on false=true
theorem qS1{ops:Array Oper}{listed:Array Bool}(hd:DC ops listed):∀z,listed.getD z false=true->∀y,bef (JM ops) y z=true->listed.getD y false=true:=by
 intro z
 induction z using Nat.strongRecOn with
 | _ z ih=>
  intro hz y hy;obtain⟨o,h1,e,h2,h3,h4⟩:=qS3 ops z y hy;have he:=hd z o hz (by simpa using h1) e h2 h3;rcases h4 with rfl | ⟨h4,h5⟩
  ·exact he
  ·exact ih e.on h4 he y h5
theorem XY{ops:Array Oper}{listed:Array Bool}(hd:DC ops listed){z:Nat}(hz:z∈Region.ready .any ops listed){y:Nat}(hy:bef (JM ops) y z=true):listed.getD y false=true:=by
 obtain⟨_,o,ho,hall⟩:=mem_ready.1 hz;obtain⟨o',h1,e,h2,h3,h4⟩:=qS3 ops z y hy;have:o'=o:=by
  have:ops[z]?=some o':=by simpa using h1
  rw[ho]at this;cases this;rfl
 subst this;have he:=hall e h2 h3;rcases h4 with rfl | ⟨_,h5⟩
 ·exact he
 ·exact qS1 hd _ he y h5
def Ww(f:qA->qA->Bool):List qA->Bool
 |[]=>true
 | y::l=>l.all (f y)&&Ww f l
theorem qAZ{f:qA->qA->Bool}:∀{l:List qA},Ww f l=true->l.Pairwise (fun y c=>f y c=true)
 |[],_=>.nil
 | y::l,h=>by
  simp only[Ww,bAt]at h;exact .cons (fun c hc=>lAt.1 h.1 c hc) (qAZ h.2)
def Xo(ops:Array Oper):Bool:=(List.range ops.size).all fun i=>match ops[i]? with
 | some o=>o.after.toList.all fun e=> !Region.binds .any e || decide (e.on<i)
 | none=>true
def WF(ns:List zp)(ops:Array Oper)(f:Nat->Nat->Bool)(c:qA):Bool:=match ops[c.i]? with
 | some o=>o.op.operands.toList.all fun y=>match y with
  |.tmp d=>ns.all fun e=> !(e.d==d) || f e.i c.i
  | _=>true
 | none=>true
def qAJ:AOp->Bool
 |.call _ _ |.callv _ _ |.panic _=>true
 | _=>false
def er(c:qA):qA:=match c.o with
 |.store2 k p x _=>⟨c.i,c.d,c.g,.store k p x,[]⟩
 | _=>c
def Zn(y c:qA):Bool:=ind y c || (JU c.o&&ind y (er c))
def ZG(B:List Nat)(pan:Bool)(y c:qA):Bool:=
 !(y.i==c.i)&&(bef B y.i c.i || (Zn y c&&QG y c&&(!pan || !qAJ y.o)))&&(!QP y.o || jf c y)
def WD(B:List Nat)(z y c:qA):Bool:= !JU c.o || (bef B z.i c.i || (bef B y.i c.i || (ind y c || ind z (er c))))
def Ym(f:qA->qA->qA->Bool):List qA->Bool
 |[]=>true
 | y::l=>Ww (f y) l&&Ym f l
def qXK(ns:List zp)(pan:Bool)(l:List qA)(ops:Array Oper)(B:List Nat):Bool:=
 Xo ops&&(List.range ops.size).all (fun i=>l.any fun c=>c.i==i)&&l.all (fun c=>decide (c.i<ops.size))&&Ww (ZG B pan) l&&l.all (fun c=> !QP c.o || WA c)&&
 l.all (WF ns ops (bef B))&&l.all (fun c=>ns.all fun e=> !touch c e || e.i==c.i || bef B c.i e.i)&&(!(l.any fun c=>JU c.o) || Ym (WD B) l)
def Q2:List qA->Nat->Bool
 |[],_=>true
 | c::l,k=>c.i==k&&Q2 l (k+1)
def qA5(ns:List zp)(l:List qA)(ops:Array Oper):Bool:=
 l.length==ops.size&&Q2 l 0&&l.all (WF ns ops fun a b=>decide (a<b))&&l.all (fun c=>ns.all fun e=> !touch c e || decide (c.i<=e.i))
def W2(S:qL)(L:List Nat)(n:Nat)(ns:List zp)(pan draw:Bool)(l:List qA)(ops:Array Oper):Bool:=
 l.all (wx S L n ns ops)&&(if draw then qXK ns pan l ops (JM ops)else qA5 ns l ops)
variable {Γ:Nat->Option AFn} {kk:Nat}
def Pans(Γ:Nat->Option AFn)(kk:Nat)(st:St)(o:AOp)(v:AV)(h':AH):Prop:=
 (∃g as,zf st.s o=some (g,as)/\Ex Γ kk (.call g as st.h) (.res (.pan v) h'))\/∃x t y,o=.panic x/\v=.iface t y/\ev st.s x=some v/\h'=st.h
inductive QD(Γ:Nat->Option AFn)(kk:Nat)(pan:Bool)(l:List qA)(st:St):qS->St->Prop
 | nrm {st'} (h:RunL Γ kk l st st'):QD Γ kk pan l st .nrm st'
 | pan {l1 c l2 s1 v h'} (hp:pan=true) (hl:l=l1++c::l2) (h:RunL Γ kk l1 st s1) (hw:zB s1.s c.g=some true) (hc:Pans Γ kk s1 c.o v h'):QD Γ kk pan l st (.pan v) {s1 with h:=h'}
theorem Qj:∀{l1 l2:List qA}{a b:St},RunL Γ kk (l1++l2) a b↔∃c,RunL Γ kk l1 a c/\RunL Γ kk l2 c b
 |[],l2,a,b=>⟨fun h=>⟨a,rfl,h⟩,fun⟨c,h1,h2⟩=>by cases h1;exact h2⟩
 | x::l1,l2,a,b=>by
  constructor
  ·rintro⟨s,h1,h2⟩;obtain⟨c,h3,h4⟩:=Qj.1 h2;exact⟨c,⟨s,h1,h3⟩,h4⟩
  ·rintro⟨c,⟨s,h1,h3⟩,h4⟩;exact⟨s,h1,Qj.2 ⟨c,h3,h4⟩⟩
section
variable {S:qL} {m:Mp} {L:List Nat} {n B:Nat} {ns:List zp} {ops:Array Oper} {st st':St} {a:Act} {w:World}
theorem qWU(hK:Known S Γ)(hcs:CallSim S Γ kk){c:qA}{o:Oper}{v:AV}{h':AH}{Q:Exit->Act->World->Prop}{K:Act->World->Prop}(hf:FR S m L n B st a w)(ho:ops[c.i]?=some o)(hm:wx S L n ns ops c=true)
  (hw:zB st.s c.g=some true) (hpn:Pans Γ kk st c.o v h')
  (hk:∀w' m' u,FR S m' L n B {st with h:=h'} a w'->MarksX S.X S.it B m' h' w' a.defers->HR S.N m' h' w'->Fr B m st.h w m' h' w'->VR S.N m' v u->Q (.panic [{v:=u,recovered:=false}]) a w'):wpOp S.P ops Q c.i K a w:=by
 unfold wx at hm;simp only[ho,bAt]at hm;obtain⟨⟨⟨⟨⟨⟨hd,hg⟩,hgl⟩,hds⟩,hop⟩,hent⟩,huse⟩:=hm;unfold wpOp;simp only[ho];rw[Ys hf hg hw];simp only[if_true];refine .inl ?_;rcases hpn with⟨g,as,hce,hx⟩ | ⟨x,t,y,hco,rfl,hev,rfl⟩
 case inr=>
  unfold J0 at hop;rw[hco]at hop;simp only at hop;split at hop
  ·rename_i z hop';have hv:=qb (a:=a) hop hf.slots hev;have hv0:=hv;simp only[VR]at hv;obtain⟨u,hu,_⟩:=hv;have hrun:(execOp a.eval o).run S.P w=.halt (.panic (a.eval z)) w:=by
    unfold execOp;simp only[hop'];rw[hu];simp only[Instr.panic,goPanic];rfl
   unfold Oper.wp;rw[hrun];exact hk w m _ hf hf.defers hf.heap (Fr.refl _ _ _ _) hv0
  ·cases hop
 have hgk:=hK g (qTR hx);have hrun:=call_run (o:=o) hf (by unfold J0 at hop;exact hop) hce hgk;obtain⟨vs,hrun,hvs⟩:=hrun;unfold Oper.wp;rw[hrun];refine Calls.mono (hcs g as st.h (.pan v) h' hx m w vs hf.heap hvs) ?_;rintro e w' ⟨m',hfr,hH,u,rfl,hu⟩;refine hk w' m' u ?_ (hf.defers.fr hfr) hH (hfr.mono hf.base) hu;exact{
  heap:=hH
  slots:=hf.slots.mono hfr.le
  locs:=fun t c hc=>by
   obtain⟨h1,b,h2,h3,h4,h5⟩:=hf.locs t c hc;exact⟨h1,b,h2,(h3.mono hfr.le).block (hfr.keep b h3.lt h4.still).1,hfr.free b h3.lt h4,h5⟩
  sep:=hf.sep
  defers:=hf.defers.fr hfr
  size:=hf.size
  base:=nLt hf.base hfr.size
  pin:=hf.pin}
where
 call_run {S:qL} {m:Mp} {L:List Nat} {n B:Nat} {ns:List zp} {st:St} {a:Act} {w:World} {c:qA} {o:Oper} {g:Nat} {as:List AV} (hf:FR S m L n B st a w) (hop:J0 S L n ns c o=true) (hce:zf st.s c.o=some (g,as))
   (hgk:∀(args:Array Value)(w:World),(callFunc (S.N.f g) args).run S.P w=.ok (.enter (S.N.f g) args) w):∃vs:Array Value,(execOp a.eval o).run S.P w=.ok (.enter (S.N.f g) vs) w/\VRs S.N m as vs.toList:=by
  unfold J0 at hop;cases hc:c.o<;>rw[hc]at hce hop<;>simp only[zf]at hce<;>try (cases hce;done)
  case call g' args=>
   simp only[oMi,Prod.mk.injEq]at hce;obtain⟨as',hev,rfl,rfl⟩:=hce;simp only at hop;split at hop
   ·rename_i f args' ts hop';simp only[bAt,bIe]at hop;obtain⟨rfl,hma⟩:=hop;refine⟨_,YV hop' rfl hgk, ?_⟩;have:=Zs hma hf.slots hev;simpa using this
   ·cases hop
  case callv x args=>
   split at hce
   ·rename_i g' cs as' he1 he2;simp only[oSi,Prod.mk.injEq]at hce;obtain⟨rfl,rfl⟩:=hce;simp only at hop;split at hop
    ·rename_i y args' ts hop';simp only[bAt]at hop;have hv:=qb (a:=a) hop.1 hf.slots he1;simp only[VR]at hv;obtain⟨vs,hv,hvs⟩:=hv;refine⟨_,YV hop' hv hgk, ?_⟩;have:=(Zs hop.2 hf.slots he2).append hvs;simpa using this
    ·cases hop
   ·cases hce
theorem qYU{f:Nat->Nat->Bool}{c:qA}{o:Oper}(ho:ops[c.i]?=some o)(h:WF ns ops f c=true){dn:Nat->Prop}(hdn:∀i,f i c.i=true->dn i):XC ns o dn:=by
 intro d hd e he hed;unfold WF at h;rw[ho]at h;have h1:=lAt.1 h _ hd;simp only at h1;have h2:=lAt.1 h1 e he;simp only[hed,beq_self_eq_true,nT,Bool.false_or]at h2;exact hdn _ h2
theorem qA6(hG:GOK Γ)(hK:Known S Γ)(hcs:CallSim S Γ kk){pan:Bool}{e:qS}{stF:St}{Q:Exit->Act->World->Prop}{m0:Mp}{h0:AH}{w0:World}
  (hQn:e=.nrm->∀a' w' m',FR S m' L n B stF a' w'->Fr B m0 h0 w0 m' stF.h w'->Q .normal a' w')
  (hQp:∀v,e=.pan v->∀a' w' m' u,FR S m' L n B stF a' w'->MarksX S.X S.it B m' stF.h w' a'.defers->HR S.N m' stF.h w'->Fr B m0 h0 w0 m' stF.h w'->VR S.N m' v u->Q (.panic [{v:=u,recovered:=false}]) a' w'):
  ∀{l:List qA}{k:Nat}{st:St}{a:Act}{w:World}{m:Mp},Q2 l k=true->l.all (wx S L n ns ops)=true->l.all (WF ns ops fun a b=>decide (a<b))=true->l.all (fun c=>ns.all fun e=> !touch c e || decide (c.i<=e.i))=true->
   FR S m L n B st a w->NopInv ns (fun i=>i<k) st a->Fr B m0 h0 w0 m st.h w->QD Γ kk pan l st e stF->wpOps S.P ops Q (l.map (·.i)) a w
 |[],k,st,a,w,m,_,_,_,_,hf,_,hfr,hr=>by
  cases hr with
  | nrm h=>cases h;exact hQn rfl a w m hf hfr
  | pan hp hl=>simp at hl
 | c::l,k,st,a,w,m,hi,hm,hu,ht,hf,hN,hfr,hr=>by
  simp only[Q2,bAt,bIe]at hi;simp only[lAc,bAt]at hm hu ht;obtain⟨hik,hi⟩:=hi;have ho:∃o,ops[c.i]?=some o:=by
   have:=hm.1;unfold wx at this;cases ho:ops[c.i]? with
   | none=>simp[ho]at this
   | some o=>exact⟨o,rfl⟩
  obtain⟨o,ho⟩:=ho;have huse:XC ns o (fun i=>i<k):=qYU ho hu.1 (fun i hi=>by simpa[hik]using hi);have htch:∀e∈ns,e.i<k->touch c e=false:=by
   intro e he hlt;have:=lAt.1 ht.1 e he;simp only[Bool.or_eq_true,bNt,dTe]at this;rcases this with h | h
   ·exact h
   ·omega
  rw[lMc,wpOps_cons];have goOn:∀{s1:St},St0 Γ kk c st s1->QD Γ kk pan l s1 e stF->wpOp S.P ops Q c.i (wpOps S.P ops Q (l.map (·.i))) a w:=by
   intro s1 h1 h2;refine qWT hG hK hcs hf hN ho hm.1 huse htch h1 (fun a' w' m' hf' hN' hfr'=> ?_);refine qA6 hG hK hcs hQn hQp hi hm.2 hu.2 ht.2 hf' ?_ (hfr.trans hfr') h2;intro e he hlt;exact hN' e he (by omega)
  cases hr with
  | nrm h=>
   obtain⟨s1,h1,h2⟩:=h;exact goOn h1.1 (.nrm h2)
  | @pan l1 d l2 s1 v h' hp hl h hw hc=>
   cases l1 with
   | nil=>
    simp only[lNa,List.cons.injEq]at hl;obtain⟨rfl,rfl⟩:=hl;cases h;exact qWU hK hcs hf ho hm.1 hw hc (fun w' m' u q q0 q1 q2 q3=>hQp v rfl a w' m' u q q0 q1 (hfr.trans q2) q3)
   | cons y l1=>
    simp only[lCa,List.cons.injEq]at hl;obtain⟨rfl,rfl⟩:=hl;obtain⟨s2,h1,h2⟩:=h;exact goOn h1.1 (.pan hp rfl h2 hw hc)
end
end Go.Ab
namespace Go.Ab
open Go
variable {Γ:Nat->Option AFn} {kk:Nat}
def Trip(P:qA->qA->qA->Prop):List qA->Prop
 |[]=>True
 | y::l=>l.Pairwise (P y)/\Trip P l
theorem qYO{f:qA->qA->qA->Bool}:∀{l:List qA},Ym f l=true->Trip (fun z y c=>f z y c=true) l
 |[],_=>trivial
 | y::l,h=>by
  simp only[Ym,bAt]at h;exact⟨qAZ h.1,qYO h.2⟩
theorem qYN{B:List Nat}:∀{l:List qA},(l.any fun c=>JU c.o)=false->Trip (fun z y c=>WD B z y c=true) l
 |[],_=>trivial
 | y::l,h=>by
  rw[List.any_cons,Bool.or_eq_false_iff]at h;refine⟨?_,qYN h.2⟩;rw[List.pairwise_iff_forall_sublist];intro a b hs;have hb:=List.any_eq_false.1 h.2 b (hs.subset (by simp));simp only[WD,Bool.eq_false_iff.2 hb,nF,Bool.true_or]
theorem Trip.sub{P:qA->qA->qA->Prop}:∀{l' l:List qA},l'.Sublist l->Trip P l->Trip P l'
 | _,_,.slnil,_=>trivial
 | _,_,.cons _ h,q=>Trip.sub h q.2
 | _,_,.cons_cons _ h,q=>⟨q.1.sublist h,Trip.sub h q.2⟩
theorem Trip.pre{P:qA->qA->qA->Prop}{c:qA}{zs:List qA}:∀{ys:List qA},Trip P (ys++c::zs)->ys.Pairwise fun z y=>P z y c
 |[],_=>.nil
 | y::ys,h=>by
  refine .cons (fun z hz=> ?_) (Trip.pre h.2);exact(List.pairwise_append.1 (show (ys++c::zs).Pairwise (P y)from h.1)).2.2 z hz c lMs
theorem qU5{c:qA}:∀{ys:List qA},(∀y∈ys,ind y c=true\/ind y (er c)=true)->(ys.Pairwise fun z y=>ind y c=true\/ind z (er c)=true)->∃a b,ys=a++b/\(∀y∈a,ind y (er c)=true)/\∀y∈b,ind y c=true
 |[],_,_=>⟨[],[],rfl,by simp,by simp⟩
 | y::ys,h,hp=>by
  rw[List.pairwise_cons]at hp;by_cases hy:ind y (er c)=true
  ·obtain⟨a,b,rfl,q1,q2⟩:=qU5 (fun z hz=>h z (List.mem_cons_of_mem _ hz)) hp.2;refine⟨y::a,b,rfl,fun z hz=> ?_,q2⟩;rcases List.mem_cons.1 hz with rfl | hz
   ·exact hy
   ·exact q1 z hz
  ·refine⟨[],y::ys,rfl,by simp,fun z hz=> ?_⟩;rcases List.mem_cons.1 hz with rfl | hz
   ·exact(h z lMs).resolve_right hy
   ·exact(hp.1 z hz).resolve_right hy
theorem er_i{c:qA}:(er c).i=c.i:=by
 unfold er;split<;>rfl
theorem er_d{c:qA}:(er c).d=c.d:=by
 unfold er;split<;>rfl
theorem qb0{c:qA}{s s':St}(hc:JU c.o=true)(h:St0 Γ kk c s s'):St1 Γ kk (er c) s s':=by
 obtain⟨i,d,g,o,ck⟩:=c;cases o<;>try cases hc
 rename_i k p x q;refine⟨?_,fun _=>trivial⟩;rcases h with h | ⟨hw,h | ⟨_,_,_,_,he,_⟩⟩
 ·exact .inl h
 ·obtain⟨id,i,j,v,w,el,e,e',rb,a1,a2,a3,a4,a5,a6,_,rfl⟩:=h;exact .inr ⟨hw,.inl ⟨id,i,j,v,w,el,e,e',rb,a1,a2,a3,a4,a5,a6,rfl⟩⟩
 ·cases he
theorem qbZ{S:qL}{L:List Nat}{n:Nat}{ns:List zp}{ops:Array Oper}{c:qA}(h:wx S L n ns ops c=true):wx S L n ns ops (er c)=true:=by
 obtain⟨i,d,g,oo,ck⟩:=c;cases oo<;>try exact h
 rename_i k p x q;show wx S L n ns ops ⟨i,d,g,.store k p x,[]⟩=true;unfold wx at h|-;simp only[qA.i,qA.d,qA.g,qA.o]at h|-;cases ho:ops[i]? with
 | none=>rw[ho]at h;exact h
 | some o=>
  rw[ho]at h;simp only[J0,Wj,mUse,Q5,Q4,qA.i,qA.d,qA.g,qA.o]at h|-;have e2:QX S L n (JK ns) (.store k p x) o=QX S L n (JK ns) (.store2 k p x q) o:=by
   unfold QX;cases o.op<;>rfl
  rw[e2];exact h
theorem qb1{c:qA}{e:zp}:touch (er c) e=touch c e:=by
 unfold touch;rw[er_d]
theorem qbY{y c:qA}(h:QG y c=true):QG y (er c)=true:=by
 unfold QG at h|-;have e:∀k,jf (er c) k=jf c k:=fun k=>by unfold jf;rw[er_d]
 simp only[e];exact h
theorem qd6(hG:GOK Γ){c:qA}{ys:List qA}{s s' s'':St}(h:RunL Γ kk ys s s')(hc:St1 Γ kk c s' s'')(hi:∀y∈ys,Zn y c=true)(ht:JU c.o=true->ys.Pairwise fun z y=>ind y c=true\/ind z (er c)=true)
  (hp:ys.Pairwise (fun y y'=>hk y.o=.load->jf y' y=true)) (hs:∀y∈ys,hk y.o=.load->WA y=true) (hck:∀y∈ys,QG y c=true):∃c',(c'=c\/c'=er c)/\∃s1,St0 Γ kk c' s s1/\RunL Γ kk ys s1 s'':=by
 cases h2:JU c.o with
 | false=>
  have hi':∀y∈ys,ind y c=true:=fun y hy=>by
   have:=hi y hy;simpa[Zn,h2]using this
  obtain⟨s1,q1,q2⟩:=move hG h hc hi' hp hs hck;exact⟨c,.inl rfl,s1,q1,q2⟩
 | true=>
  obtain⟨a,b,rfl,q1,q2⟩:=qU5 (fun y hy=>by have:=hi y hy;simpa[Zn,h2]using this) (ht h2);obtain⟨sm,r1,r2⟩:=Qj.1 h;rw[List.pairwise_append]at hp;obtain⟨s1,k1,k2⟩:=move hG r2 hc q2 hp.2.1 (fun y hy=>hs y (List.mem_append_right _ hy)) (fun y hy=>hck y (List.mem_append_right _ hy));obtain⟨s0,j1,j2⟩:=move hG r1 (qb0 h2 k1) q1 hp.1 (fun y hy=>hs y (List.mem_append_left _ hy)) (fun y hy=>qbY (hck y (List.mem_append_left _ hy)));exact⟨er c,.inr rfl,s0,j1,Qj.2 ⟨s1,j2,k2⟩⟩
def left(listed:Array Bool)(l:List qA):List qA:=l.filter fun c=> !listed.getD c.i true
theorem kQ{l:Array Bool}{i j:Nat}{b:Bool}(hi:i<l.size):(l.setIfInBounds i true).getD j b=if j=i then true else l.getD j b:=by
 simp only[Array.getD_eq_getD_getElem?,Array.getElem?_setIfInBounds];by_cases h:i=j
 ·subst h;simp[hi]
 ·rw[if_neg h,if_neg (Ne.symm h)]
theorem Xy{l:Array Bool}{i:Nat}(hi:i<l.size)(b c:Bool):l.getD i b=l.getD i c:=by
 simp[Array.getD,hi]
theorem kO{l:Array Bool}{i:Nat}(h:l.getD i true=false):i<l.size:=by
 rcases Nat.lt_or_ge i l.size with h' | h'
 ·exact h'
 ·simp[Array.getD,Nat.not_lt.2 h']at h
theorem qbQ{ops:Array Oper}(h:Xo ops=true){i:Nat}{o:Oper}(ho:ops[i]?=some o){e:Edge}(he:e∈o.after)(hb:Region.binds .any e=true):e.on<i:=by
 have hi:i<ops.size:=by
  rcases Nat.lt_or_ge i ops.size with h | h
  ·exact h
  ·rw[Array.getElem?_eq_none h]at ho;cases ho
 have:=lAt.1 h i (lMr.2 hi);rw[ho]at this;have:=lAt.1 this e (by simpa using he);simpa[hb]using this
theorem qY9{ops:Array Oper}{listed:Array Bool}(hs:listed.size=ops.size)(he:Xo ops=true)(hr:Region.ready .any ops listed=[]):∀i,i<ops.size->listed.getD i false=true:=by
 intro i
 induction i using Nat.strongRecOn with
 | _ i ih=>
  intro hi;cases hc:listed.getD i false with
  | true=>rfl
  | false=>
   have:i∈Region.ready .any ops listed:=by
    rw[mem_ready];refine⟨by rw[Xy (by omega) true false];exact hc,ops[i],by simp[hi],fun e hem hb=> ?_⟩;have hlt:=qbQ he (aGe hi) hem hb;exact ih e.on hlt (by omega)
   rw[hr]at this;cases this
theorem qdX{listed:Array Bool}{l ys zs:List qA}{c:qA}(hi:c.i<listed.size)(h:left listed l=ys++c::zs)(hp:(ys++c::zs).Pairwise fun y d=>y.i≠d.i):
  left (listed.setIfInBounds c.i true) l=ys++zs:=by
 have e:left (listed.setIfInBounds c.i true) l=(left listed l).filter fun d=> !(d.i==c.i):=by
  unfold left;rw[List.filter_filter];refine List.filter_congr fun d _=> ?_;rw[kQ hi];by_cases hd:d.i=c.i<;>simp[hd]
 rw[e,h,List.filter_append,List.filter_cons];simp only[beq_self_eq_true,nT,bFt,if_false];rw[List.pairwise_append]at hp;obtain⟨_,h2,h3⟩:=hp;rw[List.pairwise_cons]at h2;congr 1
 ·refine List.filter_eq_self.2 fun y hy=> ?_;have:=h3 y hy c lMs;simpa using this
 ·refine List.filter_eq_self.2 fun y hy=> ?_;have:=h2.1 y hy;simpa using Ne.symm this
structure Kd(S:qL)(L:List Nat)(n:Nat)(ns:List zp)(pan:Bool)(l:List qA)(ops:Array Oper):Prop where
 edge:Xo ops=true
 cover:∀i,i<ops.size->∃c∈l,c.i=i
 rng:∀c∈l,c.i<ops.size
 pair:l.Pairwise (fun y c=>ZG (JM ops) pan y c=true)
 self:∀c∈l,QP c.o=true->WA c=true
 use:∀c∈l,WF ns ops (bef (JM ops)) c=true
 touch:∀c∈l,∀e∈ns,touch c e=true->e.i=c.i\/bef (JM ops) c.i e.i=true
 op:∀c∈l,wx S L n ns ops c=true
 trip:Trip (fun z y c=>WD (JM ops) z y c=true) l
theorem qe9{S:qL}{L:List Nat}{n:Nat}{ns:List zp}{pan:Bool}{l:List qA}{ops:Array Oper}(h:W2 S L n ns pan true l ops=true):Kd S L n ns pan l ops:=by
 unfold W2 at h;simp only[if_true,bAt]at h;obtain⟨h0,h⟩:=h;unfold qXK at h;simp only[bAt]at h;obtain⟨⟨⟨⟨⟨⟨⟨h1,h2⟩,h3⟩,h4⟩,h5⟩,h6⟩,h7⟩,h8⟩:=h;refine⟨h1,fun i hi=> ?_,fun c hc=> ?_,qAZ h4,fun c hc hl=> ?_,lAt.1 h6,fun c hc e he ht=> ?_,lAt.1 h0, ?_⟩
 ·have:=lAt.1 h2 i (lMr.2 hi);obtain⟨c,hc,he⟩:=List.any_eq_true.1 this;exact⟨c,hc,by simpa using he⟩
 ·simpa using lAt.1 h3 c hc
 ·have:=lAt.1 h5 c hc;simpa[hl]using this
 ·have:=lAt.1 (lAt.1 h7 c hc) e he;simp only[ht,nT,Bool.false_or,Bool.or_eq_true,bIe]at this;exact this
 ·rw[Bool.or_eq_true,bNt]at h8;rcases h8 with h8 | h8
  ·exact qYN h8
  ·exact qYO h8
theorem qaR{s:Env}{o:AOp}{q:Nat×List AV}(h:zf s o=some q):hk o=.loud:=by
 cases o<;>simp only[zf]at h<;>first | rfl | cases h
theorem qaQ{c:qA}{s:Env}{q:Nat×List AV}(h:zf s c.o=some q):jL c=none:=by
 cases ho:c.o<;>rw[ho]at h<;>simp only[zf]at h<;>first | (cases h;done) | simp[jL,ho]
theorem qeZ{st:St}{o:AOp}{v:AV}{h':AH}(h:Pans Γ kk st o v h'):hk o=.loud:=by
 rcases h with⟨g,as,h,_⟩ | ⟨x,t,y,rfl,_⟩
 ·exact qaR h
 ·rfl
theorem qA0{st:St}{o:AOp}{v:AV}{h':AH}(h:Pans Γ kk st o v h'):qAJ o=true/\JU o=false:=by
 rcases h with⟨g,as,h,_⟩ | ⟨x,t,y,rfl,_⟩
 ·cases o<;>simp only[zf]at h<;>first | exact⟨rfl,rfl⟩ | cases h
 ·exact⟨rfl,rfl⟩
theorem qeY{st:St}{c:qA}{v:AV}{h':AH}(h:Pans Γ kk st c.o v h'):jL c=none:=by
 rcases h with⟨g,as,h,_⟩ | ⟨x,t,y,h,_⟩
 ·exact qaQ h
 ·simp[jL,h]
theorem Pans.congr{st s2:St}{c:qA}{v:AV}{h':AH}(h:Pans Γ kk s2 c.o v h')(ag:zS c st s2)(hh:s2.h=st.h):Pans Γ kk st c.o v h':=by
 rcases h with⟨g,as,h,hx⟩ | ⟨x,t,y,h,hv,he,hq⟩
 ·exact .inl ⟨g,as,by rw[K0 ag.e];exact h,by rw[<-hh];exact hx⟩
 ·refine .inr ⟨x,t,y,h,hv, ?_,by rw[hq,hh]⟩;rw[ag.e x (by simp[zP,h])];exact he
section
variable {S:qL} {L:List Nat} {n B:Nat} {ns:List zp} {ops:Array Oper}
theorem qfA(hG:GOK Γ)(hK:Known S Γ)(hcs:CallSim S Γ kk){pan:Bool}{l:List qA}(hR:Kd S L n ns pan l ops){e:qS}{stF:St}{Q:Exit->Act->World->Prop}{m0:Mp}{h0:AH}{w0:World}
  (hQn:e=.nrm->∀a' w' m',FR S m' L n B stF a' w'->Fr B m0 h0 w0 m' stF.h w'->Q .normal a' w')
  (hQp:∀v,e=.pan v->∀a' w' m' u,MarksX S.X S.it B m' stF.h w' a'.defers->HR S.N m' stF.h w'->Fr B m0 h0 w0 m' stF.h w'->VR S.N m' v u->Q (.panic [{v:=u,recovered:=false}]) a' w'):
  ∀(fuel:Nat){listed:Array Bool}{st:St}{a:Act}{w:World}{m:Mp},listed.size=ops.size->(left listed l).length<=fuel->DC ops listed->
   FR S m L n B st a w->NopInv ns (fun i=>listed.getD i false=true) st a->Fr B m0 h0 w0 m st.h w->QD Γ kk pan (left listed l) st e stF->wpAny S.P .any ops Q fuel listed a w:=by
 --all is done
 have hdone:∀{listed:Array Bool}{st:St}{a:Act}{w:World}{m:Mp},left listed l=[]->FR S m L n B st a w->Fr B m0 h0 w0 m st.h w->QD Γ kk pan (left listed l) st e stF->Q .normal a w:=by
  intro listed st a w m hl hf hfr hr;rw[hl]at hr;cases hr with
  | nrm h=>cases h;exact hQn rfl a w m hf hfr
  | pan hp hl=>simp at hl
 have hnone:∀{listed:Array Bool},listed.size=ops.size->Region.ready .any ops listed=[]->left listed l=[]:=by
  intro listed hs hr;refine List.filter_eq_nil_iff.2 fun c hc=> ?_;have h1:=hR.rng c hc;have:=qY9 hs hR.edge hr c.i h1;rw[Xy (by omega) true false,this];simp
 intro fuel
 induction fuel with
 | zero=>
  intro listed st a w m hs hl hd hf hN hfr hr;have hl0:left listed l=[]:=List.length_eq_zero_iff.1 (by omega);refine⟨List.eq_nil_iff_forall_not_mem.2 fun i hi=> ?_,hdone hl0 hf hfr hr⟩;have h1:=(mem_ready.1 hi).1;obtain⟨c,hc,rfl⟩:=hR.cover i (by have:=kO h1;omega);have:c∈left listed l:=List.mem_filter.2 ⟨hc,by rw[h1];rfl⟩;rw[hl0]at this;cases this
 | succ fuel ih=>
  intro listed st a w m hs hl hd hf hN hfr hr;refine⟨fun h=>hdone (hnone hs h) hf hfr hr,fun i hi=> ?_⟩;have h1:=(mem_ready.1 hi).1;have hlt:i<listed.size:=kO h1;obtain⟨c,hc,rfl⟩:=hR.cover i (by omega);have hcl:c∈left listed l:=List.mem_filter.2 ⟨hc,by rw[h1];rfl⟩;obtain⟨o,ho,hall⟩:=(mem_ready.1 hi).2;obtain⟨ys,zs,hyz⟩:=List.append_of_mem hcl;have hpl:(ys++c::zs).Pairwise (fun y c=>ZG (JM ops) pan y c=true):=by
   rw[<-hyz];exact hR.pair.sublist List.filter_sublist
  have hpi:(ys++c::zs).Pairwise fun y d=>y.i≠d.i:=hpl.imp fun{y d} h=>by
   unfold ZG at h;simp only[bAt,bNt,beq_eq_false_iff_ne]at h;exact h.1.1
  have hlset:=qdX hlt hyz hpi;rw[List.pairwise_append]at hpl;obtain⟨hp1,hp2,hp3⟩:=hpl;have hun:∀y∈ys,listed.getD y.i false=false:=by
   intro y hy;have:y∈left listed l:=by rw[hyz];exact List.mem_append_left _ hy
   have h2:=(List.mem_filter.1 this).2;simp only[bNt]at h2;rw[Xy (kO h2) false true];exact h2
  have hys:∀y∈ys,Zn y c=true/\QG y c=true/\(pan=true->qAJ y.o=false):=by
   intro y hy;have h2:=hp3 y hy c lMs;unfold ZG at h2;simp only[bAt,Bool.or_eq_true]at h2;rcases h2.1.2 with h3 | h3
   ·have:=XY hd hi h3;rw[hun y hy]at this;cases this
   ·refine⟨h3.1.1,h3.1.2,fun hp=> ?_⟩;have:=h3.2;simpa[hp]using this
  have hmemL:∀y∈ys,y∈l:=by
   intro y hy;have:y∈left listed l:=by rw[hyz];exact List.mem_append_left _ hy
   exact(List.mem_filter.1 this).1
  have hmv:∀{s' s'':St},RunL Γ kk ys st s'->St1 Γ kk c s' s''->∃c',(c'=c\/c'=er c)/\∃s1,St0 Γ kk c' st s1/\RunL Γ kk ys s1 s'':=by
   intro s' s'' q1 q2;refine qd6 hG q1 q2 (fun y hy=>(hys y hy).1) (fun h2=> ?_) (hp1.imp fun{y y'} h hk'=> ?_) (fun y hy hk'=>hR.self y (hmemL y hy) (by simp[QP,hk'])) (fun y hy=>(hys y hy).2.1)
   ·have h3:Trip (fun z y c=>WD (JM ops) z y c=true) (ys++c::zs):=by
     rw[<-hyz];exact hR.trip.sub List.filter_sublist
    rw[List.pairwise_iff_forall_sublist];intro z y hzy;have h4:=(List.pairwise_iff_forall_sublist.1 h3.pre) hzy;simp only[WD,h2,nT,Bool.false_or,Bool.or_eq_true]at h4;rcases h4 with h4 | h4 | h4
    ·have:=XY hd hi h4;rw[hun z (hzy.subset (by simp))]at this;cases this
    ·have:=XY hd hi h4;rw[hun y (hzy.subset (by simp))]at this;cases this
    ·exact h4
   ·unfold ZG at h;simp only[bAt,Bool.or_eq_true]at h;have:=h.2;simpa[QP,hk']using this
  have huse:XC ns o (fun i=>listed.getD i false=true):=qYU ho (hR.use c hc) (fun i h=>XY hd hi h);have hcun:listed.getD c.i false=false:=by rw[Xy hlt false true];exact h1
  have htch:∀e∈ns,listed.getD e.i false=true->touch c e=false:=by
   intro e he hle;cases ht:touch c e with
   | false=>rfl
   | true=>
    rcases hR.touch c hc e he ht with h2 | h2
    ·rw[h2,hcun]at hle;cases hle
    ·have:=qS1 hd e.i hle c.i h2;rw[hcun]at this;cases this
  have hd':DC ops (listed.setIfInBounds c.i true):=by
   intro x q hx hq e he hb;rw[kQ hlt]at hx|-;split
   ·rfl
   ·by_cases hxc:x=c.i
    ·subst hxc;rw[ho]at hq;cases hq;exact hall e he hb
    ·rw[if_neg hxc]at hx;exact hd x q hx hq e he hb
  have hop':∀{c':qA},c'=c\/c'=er c->c'.i=c.i/\wx S L n ns ops c'=true/\∀e,touch c' e=touch c e:=by
   rintro c' (rfl | rfl)
   ·exact⟨rfl,hR.op _ hc,fun _=>rfl⟩
   ·exact⟨er_i,qbZ (hR.op _ hc),fun _=>qb1⟩
  have goOn:∀{c':qA}{s1:St},(c'=c\/c'=er c)->St0 Γ kk c' st s1->QD Γ kk pan (ys++zs) s1 e stF->wpOp S.P ops Q c.i (wpAny S.P .any ops Q fuel (listed.setIfInBounds c.i true)) a w:=by
   intro c' s1 hc' q1 q2;obtain⟨e1,e2,e3⟩:=hop' hc';rw[<-e1];refine qWT hG hK hcs hf hN (by rw[e1];exact ho) e2 huse (fun e he hle=>by rw[e3];exact htch e he hle) q1 (fun a' w' m' hf' hN' hfr'=> ?_);rw[e1]at hN'|-;refine ih (by simpa using hs) ?_ hd' hf' ?_ (hfr.trans hfr') (by rw[hlset];exact q2)
   ·rw[hlset];rw[hyz]at hl;simp only[lAp,lCo]at hl|-;omega
   ·intro e he hle;rw[kQ hlt]at hle;refine hN' e he ?_;by_cases hec:e.i=c.i
    ·exact .inr hec
    ·rw[if_neg hec]at hle;exact .inl hle
  rw[hyz]at hr;generalize hw:ys++c::zs=W at hr;cases hr with
  | nrm h=>
   subst hw;obtain⟨s',q1,s'',q2,q3⟩:=Qj.1 h;obtain⟨c',hc',s1,k1,k2⟩:=hmv q1 q2;exact goOn hc' k1 (.nrm (Qj.2 ⟨s'',k2,q3⟩))
  | @pan l1 d l2 sL v h' hp hl' h hwd hcd=>
   subst hw
   --where c stands
   have key:(∃as',l1=ys++c::as'/\zs=as'++d::l2)\/(l1=ys/\c=d)\/(d∈ys):=by
    rcases List.append_eq_append_iff.1 hl' with⟨t,e1,e2⟩ | ⟨t,e1,e2⟩
    ·cases t with
     | nil=>
      simp only[lNa,List.cons.injEq]at e2;exact .inr (.inl ⟨by simpa using e1,e2.1⟩)
     | cons x t=>
      simp only[lCa,List.cons.injEq]at e2;obtain⟨rfl,e2⟩:=e2;exact .inl ⟨t,e1,e2⟩
    ·cases t with
     | nil=>
      simp only[lNa,List.cons.injEq]at e2;exact .inr (.inl ⟨by simpa using e1.symm,e2.1.symm⟩)
     | cons x t=>
      simp only[lCa,List.cons.injEq]at e2;obtain⟨rfl,e2⟩:=e2;exact .inr (.inr (e1▸List.mem_append_right _ lMs))
   rcases key with⟨as',rfl,rfl⟩ | ⟨rfl,rfl⟩ | hdy
   ·obtain⟨s',q1,s'',q2,q3⟩:=Qj.1 h;obtain⟨c',hc',s1,k1,k2⟩:=hmv q1 q2;refine goOn hc' k1 (.pan (l1:=ys++as') (c:=d) (l2:=l2) hp (lAa _ _ _).symm (Qj.2 ⟨s'',k2,q3⟩) hwd hcd)
   ·have hkl:=qeZ hcd;have hin:∀y∈l1,ind y c=true:=fun y hy=>by
     have:=(hys y hy).1;simpa[Zn,(qA0 hcd).2]using this
    have hh:sL.h=st.h:=h.quiet_h hG (fun y hy=>qU4 (hin y hy) hkl (qA0 hcd).2);have hno:∀x∈l1,jf x c=true:=by
     intro x hx';have:=hin x hx';unfold ind at this;simp only[bAt]at this;exact this.1.1.1
    have ag:=(RunL.keeps hG (qeY hcd) h hno).1;rw[<-ag.w]at hwd;refine qWU hK hcs hf ho (hR.op c hc) hwd (hcd.congr ag hh) (fun w' m' u _ q0 q1 q2 q3=>hQp v rfl a w' m' u q0 q1 (hfr.trans q2) q3)
   ·have:=(hys d hdy).2.2 hp;rw[(qA0 hcd).1]at this;cases this
end
end Go.Ab
namespace Go.Ab
open Go
open Classical
section
variable {N:qh} {m m':Mp} {h h':AH} {w w':World} {K:List Nat}
theorem Conv.cellsLen{v v':AV}(hc:Conv h K v v'):v'.cells.length=v.cells.length:=by
 cases hc with
 | refl=>rfl
 | agg hl _=>simpa[AV.cells]using hl.symm
 | _=>rfl
theorem Conv.scalar{v v':AV}(hc:Conv h K v v'):v'.sc=v.sc:=by cases hc<;>rfl
theorem Conv.cell{v v':AV}(hc:Conv h K v v'){j:Nat}{y':AV}(hy:v'.cells[j]?=some y'):∃y,v.cells[j]?=some y/\Conv h K y y':=by
 have one:∀{x x':AV},Conv h K x x'->[x'][j]?=some y'->∃y,[x][j]?=some y/\Conv h K y y':=by
  intro x x' hx hj;cases j with
  | zero=>simp only[List.getElem?_cons_zero,oSi]at hj|-;exact⟨x,rfl,hj▸hx⟩
  | succ j=>simp at hj
 cases hc with
 | refl v=>exact⟨y',hy,.refl _⟩
 | @agg cs ds hl hc=>
  simp only[AV.cells]at hy|-;have hj:=(gSi.1 hy).1;have hj':j<cs.length:=by omega
  refine⟨cs[j],gEg hj', ?_⟩;refine hc (cs[j],y') ?_;have:(cs.zip ds)[j]?=some (cs[j],y'):=by
   rw[List.getElem?_zip_eq_some];exact⟨gEg hj',hy⟩
  exact lMo this
 | nil=>exact one .nil hy
 | nils=>exact one .nils hy
 | fn a b=>exact one (.fn a b) hy
 | tup a b=>simp[AV.cells]at hy
 | sub a b=>exact one (.sub a b) hy
 | slc a b c d e f=>exact one (.slc a b c d e f) hy
 | ptr a b c d e=>exact one (.ptr a b c d e) hy
 | lst a b=>exact one (.lst a b) hy
 | clip=>exact one .clip hy
noncomputable def Mp.frz(m:Mp)(K:List Nat)(w:World):Mp where
 p:=m.p
 z:=fun b=>match m.z b with
  | some c=>some c
  | none=>if ∃id p,K.contains id=true/\m id=some p/\p.b=b then(match w.heap[b]? with
   | some (.cells c _ _)=>some c
   | _=>none)else none
theorem Mp.le_frz:m.le (m.frz K w):=⟨fun _ _ h=>h,fun b c hz=>by simp only[Mp.frz,hz]⟩
theorem Mp.frz_z{b:Nat}{c:Array Value}(hz:(m.frz K w).z b=some c):m.z b=some c\/((∃id p,K.contains id=true/\m id=some p/\p.b=b)/\∃e fz,w.heap[b]?=some (.cells c e fz)):=by
 simp only[Mp.frz]at hz;split at hz
 ·rename_i hq;exact .inl (hq.trans hz)
 ·split at hz
  ·rename_i hk;split at hz
   ·rename_i c' e fz hb;simp only[oSi]at hz;subst hz;exact .inr ⟨hk,e,fz,hb⟩
   ·cases hz
  ·cases hz
theorem Mp.frz_mk{id:Nat}{p:zg}{c:Array Value}{e:TypeId}{fz:Nat×Nat}(hH:HR N m h w)(hK:Rows h K)(hid:K.contains id=true)(hp:m id=some p)(hb:w.heap[p.b]?=some (.cells c e fz)):(m.frz K w).z p.b=some c:=by
 obtain⟨o,ho,how⟩:=hK id hid;simp only[Mp.frz];cases hz:m.z p.b with
 | some c'=>exact absurd rfl ((hH.zz _ _ hz).2 id _ p ho how hp)
 | none=>
  simp only;rw[if_pos ⟨id,p,hid,hp,rfl⟩,hb]
theorem Q6{i:Nat}{o:qC}(ho:(h.kill K) i=some o)(hl:o.live=true):K.contains i=false/\h i=some o:=by
 rw[AH.kill_at]at ho;split at ho
 ·cases ho;cases hl
 ·rename_i hc;exact⟨by simpa using hc,ho⟩
theorem Still.frz{b:Nat}(hs:Still m h b):Still (m.frz K w) (h.kill K) b:=fun i o p ho hw hp=>hs i o p (Q6 ho (qC.live_of_wr hw)).2 hw hp
theorem HR.frz(hH:HR N m h w)(hK:Rows h K):HR N (m.frz K w) (h.kill K) w where
 at':=fun i o ho=>by
  rw[AH.kill_at]at ho;split at ho
  ·rename_i hc;cases ho;obtain⟨o,ho,_⟩:=hK i hc;obtain⟨p,h1,_⟩:=hH.at' i _ ho;exact⟨p,h1,by simp[qC.live],trivial⟩
  ·obtain⟨p,h1,h2,h3⟩:=hH.at' i o ho;exact⟨p,h1,h2,h3.mono Mp.le_frz⟩
 none':=fun i hi=>hH.none' i (AH.fr_kill hi).1
 apart:=fun i j o1 o2 p q h1 h2 hw hl hij hp hq=>hH.apart i j o1 o2 p q (Q6 h1 (qC.live_of_wr hw)).2 (Q6 h2 hl).2 hw hl hij hp hq
 gg:=fun b c h=>Mp.le_frz.2 _ _ (hH.gg b c h)
 zz:=fun b c hz=>by
  rcases Mp.frz_z hz with hz | ⟨⟨id,p,hid,hp,rfl⟩,hb⟩
  ·obtain⟨h1,h2⟩:=hH.zz b c hz;exact⟨h1,h2.frz⟩
  ·refine⟨hb,fun i o q ho hw hq=> ?_⟩;obtain⟨h1,h2⟩:=Q6 ho (qC.live_of_wr hw);obtain⟨o2,ho',how⟩:=hK id hid;have hne:i≠id:=by rintro rfl;rw[hid]at h1;cases h1
   exact hH.apart i id _ _ q p h2 ho' hw (qC.live_of_wr how) hne hq hp
theorem Free.frz(hK:Rows h K){b:Nat}(hf:Free m h b):Free (m.frz K w) (h.kill K) b:=by
 refine⟨fun i o p ho hl hp=>hf.1 i o p (Q6 ho hl).2 hl hp, ?_⟩;cases hz:(m.frz K w).z b with
 | none=>rfl
 | some c=>
  rcases Mp.frz_z hz with hz | ⟨⟨id,p,hid,hp,hb⟩,_⟩
  ·rw[hf.2]at hz;cases hz
  ·obtain⟨o,ho,how⟩:=hK id hid;exact absurd hb (hf.1 id _ p ho (qC.live_of_wr how) hp)
theorem Fr.frz(hK:Rows h K){B:Nat}:Fr B m h w (m.frz K w) (h.kill K) w:=
 ⟨rfl,rfl,rfl,nLr _,Mp.le_frz,fun _ _ hs=>⟨rfl,hs.frz⟩,fun _ _ hf=>hf.frz hK⟩
theorem ZV{α β:Type}{xs:List α}{ys:List β}{i:Nat}{x:α}{y:β}(hx:xs[i]?=some x)(hy:ys[i]?=some y):(x,y)∈xs.zip ys:=by
 have:(xs.zip ys)[i]?=some (x,y):=by rw[List.getElem?_zip_eq_some];exact⟨hx,hy⟩
 exact lMo this
theorem WV(hH:HR N m h w)(hK:Rows h K){v v':AV}(hc:Conv h K v v'):∀{u:Value},VR N m v u->VR N (m.frz K w) v' u:=by
 have hle:m.le (m.frz K w):=Mp.le_frz
 induction hc with
 | refl v=>intro u hv;exact hv.mono hle
 | nil=>
  intro u hv;simp only[VR]at hv|-;obtain⟨p,a,cap,_,_,rfl,h1,_,h2,h9⟩:=hv;exact⟨some a,cap,rfl,by simp,by simpa using h2.1,.inl ⟨trivial,by simp,fun x hx h0=>by cases hx;rw[h9 h0]⟩⟩
 | nils=>
  intro u hv;simp only[VR]at hv|-;subst hv;exact⟨none,0,rfl,by simp,by simp,.inl ⟨trivial,by simp,fun x hx=>by cases hx⟩⟩
 | @slc wd id off len clip el rw' ts hid ho hl hw hs hcs ih=>
  intro u hv;simp only[VR]at hv|-;obtain⟨p,a,cap,hp,hpw,rfl,h1,h2,h3,h4⟩:=hv;obtain⟨p',hp',_,hob⟩:=hH.at' id _ ho;rw[hp]at hp';cases hp';obtain⟨_,_,c,e,fz,hb,_,_,hrow,_⟩:=hob;have hlen:ts.length=len:=by rw[<-hs];simp;omega
  refine⟨some a,cap,by rw[hlen],by omega,by rw[hlen];exact h3.1, ?_⟩;by_cases h0:len=0
  ·left;exact⟨lEz (by omega),by simp,fun x hx hc=>by cases hx;rw[h4 hc]⟩
  ·right;refine⟨p.b,p.o+off*wd,c,by rw[h4 (by omega)],Mp.frz_mk hH hK hid hp hb,VRe.mk fun i t ht=> ?_⟩;have hi:i<len:=by have:=(gSi.1 ht).1;omega
   have hx:((el.drop off).take len)[i]?=some (el[off+i]'(by omega)):=by
    rw[gTk,if_pos hi,gDr];exact gEg (by omega)
   have hz:=ZV hx ht;obtain⟨q1,q2⟩:=hrow (off+i) _ (gEg (by omega));obtain⟨u0,g1,g2⟩:=q2.val q1 hw;refine⟨u0,ih _ hz g1,by rw[(hcs _ hz).cellsLen];exact q1,hw,fun j hj=> ?_⟩;rw[<-g2 j hj];congr 1;rw[Nat.add_mul];omega
 | @ptr id i j wd el rw' x t hid ho h0 he hcs ih=>
  intro u hv;simp only[VR]at hv|-;obtain⟨p,hp,rfl⟩:=hv;obtain⟨p',hp',_,hob⟩:=hH.at' id _ ho;rw[hp]at hp';cases hp';obtain⟨hw,_,c,e,fz,hb,_,_,hrow,_⟩:=hob;subst hw;obtain⟨q1,q2⟩:=hrow i _ he;obtain⟨u0,g1,g2⟩:=q2.val q1 h0;refine⟨p.b,p.o+i*p.w,c,u0,by rw[Nat.add_assoc],Mp.frz_mk hH hK hid hp hb,ih g1,by rw[hcs.cellsLen];omega,fun k hk=>g2 k (by rw[hcs.cellsLen]at hk;omega)⟩
 | @lst wd xs ts clip hl hcs ih=>
  intro u hv;simp only[VR]at hv|-;obtain⟨a,cap,rfl,h1,h2,h3⟩:=hv;refine⟨a,cap,by rw[hl],by omega,by rw[<-hl];exact h2, ?_⟩;rcases h3 with⟨rfl,h3⟩ | ⟨b,o,c,rfl,hz,hr⟩
  ·left;exact⟨lEz (by simpa using hl.symm),h3⟩
  ·right;refine⟨b,o,c,rfl,hle.2 _ _ hz,VRe.mk fun i t ht=> ?_⟩;have hi:i<xs.length:=by have:=(gSi.1 ht).1;omega
   have hx:=gEg hi;obtain⟨u0,g1,g2,g3,g4⟩:=hr.get hx;have hzz:=ZV hx ht;exact⟨u0,ih _ hzz g1,by rw[(hcs _ hzz).cellsLen];exact g2,g3,g4⟩
 | clip=>
  intro u hv;have hv:=hv.mono hle;simp only[VR]at hv|-;obtain⟨a,cap,h1,h2,_,h3⟩:=hv;exact⟨a,cap,h1,h2,by simp,h3⟩
 | @agg cs ds hl hcs ih=>
  intro u hv;simp only[VR]at hv|-;obtain⟨vs,rfl,h1,h2⟩:=hv;refine⟨vs,rfl, ?_, ?_⟩
  ·rw[VRs.iff]at h1|-;refine⟨by omega,fun i d q hd hq=> ?_⟩;have hi:i<cs.length:=by have:=(gSi.1 hd).1;omega
   have hx:=gEg hi;exact ih _ (ZV hx hd) (h1.2 i _ q hx hq)
  ·rw[lAt];intro d hd;obtain⟨i,hi,rfl⟩:=List.getElem_of_mem hd;have hi':i<cs.length:=by omega
   have hx:=gEg hi';have:=(hcs _ (ZV hx (gEg hi))).scalar;simp only at this;rw[this];exact lAt.1 h2 _ (gMm hi')
 | @fn g cs ds hl hcs ih=>
  intro u hv;simp only[VR]at hv|-;obtain⟨vs,rfl,h1⟩:=hv;refine⟨vs,rfl, ?_⟩;rw[VRs.iff]at h1|-;refine⟨by omega,fun i d q hd hq=> ?_⟩;have hi:i<cs.length:=by have:=(gSi.1 hd).1;omega
  have hx:=gEg hi;exact ih _ (ZV hx hd) (h1.2 i _ q hx hq)
 | @tup cs ds hl hcs ih=>
  intro u hv;simp only[VR]at hv|-;obtain⟨vs,rfl,h1⟩:=hv;refine⟨vs,rfl, ?_⟩;rw[VRs.iff]at h1|-;refine⟨by omega,fun i d q hd hq=> ?_⟩;have hi:i<cs.length:=by have:=(gSi.1 hd).1;omega
  have hx:=gEg hi;exact ih _ (ZV hx hd) (h1.2 i _ q hx hq)
 | @sub x y j sh hp hy=>
  intro u hv;have hv:=hv.mono hle;simp only[VR]at hv|-;obtain⟨b,o,c,u0,rfl,hz,hx,h0,hcc⟩:=hv;obtain⟨q1,q2⟩:=hx.cells h0;have hcell:∀(i:Nat)(z:AV),x.cells[i]?=some z->z.sc=true/\∃v,c[o+i]?=some v/\VR N (m.frz K w) z v:=by
   intro i z hz';have hi:=(gSi.1 hz').1;refine⟨lAt.1 q2 _ (lMo hz'), ?_⟩;obtain⟨v,g1,g2⟩:=q1.get hz';exact⟨v,by rw[hcc i hi,<-Array.getElem?_toList];exact g1,g2⟩
  have hycells:CellsAt N (m.frz K w) c (o+j) y.cells:=by
   cases sh with
   | none=>
    simp only[AV.part]at hp;obtain⟨r1,v,r2,r3⟩:=hcell j y hp;have ey:y.cells=[y]:=by cases y<;>first | rfl | (simp[AV.sc]at r1;done)
    rw[ey];intro i z hz';have hi:i=0:=by have:=(gSi.1 hz').1;simp at this;omega
    subst hi;simp only[List.getElem?_cons_zero,oSi]at hz';subst hz';exact⟨r1,v,by rw[nAz];exact r2,r3⟩
   | some k=>
    simp only[AV.part]at hp;split at hp
    ·rename_i hk;simp only[oSi]at hp;subst hp;intro i z hz';simp only[AV.cells]at hz';rw[gTk]at hz';split at hz'
     ·rename_i hik;rw[gDr]at hz';obtain⟨r1,v,r2,r3⟩:=hcell (j+i) z hz';exact⟨r1,v,by rw[<-r2];congr 1;omega,r3⟩
     ·cases hz'
    ·cases hp
  obtain⟨u',g1,g2⟩:=hycells.val rfl hy;exact⟨b,o+j,c,u',by rw[nAz],hz,g1,hy,g2⟩
variable {m2:Mp}
mutual
theorem ZQ(hz:m2.z=m'.z):∀(a:AV)(v:Value),a.tree=true->VR N m' a v->VR N m2 a v
 |.bool _,_,_,h=>by simpa only [VR]using h
 |.int _ _,_,_,h=>by simpa only [VR]using h
 |.str _,_,_,h=>by simpa only [VR]using h
 |.nilp,_,_,h=>by simpa only [VR]using h
 |.nils,_,_,h=>by simpa only [VR]using h
 |.nilm,_,_,h=>by simpa only [VR]using h
 |.nilf,_,_,h=>by simpa only [VR]using h
 |.nili,_,_,h=>by simpa only [VR]using h
 |.any,_,_,_=>by simp only[VR]
 |.ptr _ _ _,_,ht,_=>by simp[AV.tree]at ht
 |.map _,_,ht,_=>by simp[AV.tree]at ht
 |.slice _ _ _ _ _,_,ht,_=>by simp[AV.tree]at ht
 |.lst w xs _,_,ht,h=>by
  simp only[VR]at h|-;simp only[AV.tree]at ht;obtain⟨a,cap,h1,h2,h3,h4⟩:=h;refine⟨a,cap,h1,h2,h3, ?_⟩;rcases h4 with h4 | ⟨b,o,c,h5,h6,h7⟩
  ·exact .inl h4
  ·exact .inr ⟨b,o,c,h5,by rw[hz];exact h6,qYK hz w xs c o ht h7⟩
 |.ept x _,_,ht,h=>by
  simp only[VR]at h|-;simp only[AV.tree]at ht;obtain⟨b,o,c,u,h1,h2,h3,h4⟩:=h;exact⟨b,o,c,u,h1,by rw[hz];exact h2,ZQ hz x u ht h3,h4⟩
 |.fn _ cs,_,ht,h=>by
  simp only[VR]at h|-;simp only[AV.tree]at ht;obtain⟨vs,h1,h2⟩:=h;exact⟨vs,h1,Yj hz cs _ ht h2⟩
 |.iface _ x,_,ht,h=>by
  simp only[VR]at h|-;simp only[AV.tree]at ht;obtain⟨u,h1,h2⟩:=h;exact⟨u,h1,ZQ hz x u ht h2⟩
 |.agg cs,_,ht,h=>by
  simp only[VR]at h|-;simp only[AV.tree]at ht;obtain⟨vs,h1,h2,h3⟩:=h;exact⟨vs,h1,Yj hz cs _ ht h2,h3⟩
 |.tup cs,_,ht,h=>by
  simp only[VR]at h|-;simp only[AV.tree]at ht;obtain⟨vs,h1,h2⟩:=h;exact⟨vs,h1,Yj hz cs _ ht h2⟩
theorem Yj(hz:m2.z=m'.z):∀(as:List AV)(vs:List Value),AV.trees as=true->VRs N m' as vs->VRs N m2 as vs
 |[],_,_,h=>by simpa only [VRs]using h
 | a::as,vs,ht,h=>by
  simp only[VRs]at h|-;simp only[AV.trees,bAt]at ht;obtain⟨u,us,h1,h2,h3⟩:=h;exact⟨u,us,h1,ZQ hz a u ht.1 h2,Yj hz as us ht.2 h3⟩
theorem qYK(hz:m2.z=m'.z)(w:Nat):∀(as:List AV)(c:Array Value)(o:Nat),AV.trees as=true->VRe N m' w as c o->VRe N m2 w as c o
 |[],_,_,_,_=>by simp only[VRe]
 | a::as,c,o,ht,h=>by
  simp only[VRe]at h|-;simp only[AV.trees,bAt]at ht;obtain⟨⟨u,h1,h2⟩,h3⟩:=h;exact⟨⟨u,ZQ hz a u ht.1 h1,h2⟩,qYK hz w as c _ ht.2 h3⟩
end
mutual
theorem VR.back(hm:m.le m')(hz:m2.z=m'.z)(hp:∀id,m2 id=m id):∀(a:AV)(v0 v:Value),VR N m a v0->VR N m' a v->VR N m2 a v
 |.bool _,_,_,_,h=>by simpa only [VR]using h
 |.int _ _,_,_,_,h=>by simpa only [VR]using h
 |.str _,_,_,_,h=>by simpa only [VR]using h
 |.nilp,_,_,_,h=>by simpa only [VR]using h
 |.nils,_,_,_,h=>by simpa only [VR]using h
 |.nilm,_,_,_,h=>by simpa only [VR]using h
 |.nilf,_,_,_,h=>by simpa only [VR]using h
 |.nili,_,_,_,h=>by simpa only [VR]using h
 |.any,_,_,_,_=>by simp only[VR]
 |.ptr id _ _,_,_,h0,h=>by
  simp only[VR]at h h0|-;obtain⟨p0,g0,_⟩:=h0;obtain⟨p,g1,g2⟩:=h;have:=hm.1 _ _ g0;rw[g1]at this;cases this;exact⟨p0,by rw[hp];exact g0,g2⟩
 |.map _,_,_,h0,h=>by
  simp only[VR]at h h0|-;obtain⟨p0,g0,_⟩:=h0;obtain⟨p,g1,g2⟩:=h;have:=hm.1 _ _ g0;rw[g1]at this;cases this;exact⟨p0,by rw[hp];exact g0,g2⟩
 |.slice _ _ _ _ _,_,_,h0,h=>by
  simp only[VR]at h h0|-;obtain⟨p0,_,_,g0,_⟩:=h0;obtain⟨p,a,cap,g1,g2⟩:=h;have:=hm.1 _ _ g0;rw[g1]at this;cases this;exact⟨p0,a,cap,by rw[hp];exact g0,g2⟩
 |.lst w xs _,_,_,h0,h=>by
  simp only[VR]at h h0|-;obtain⟨a0,cap0,_,_,_,k4⟩:=h0;obtain⟨a,cap,h1,h2,h3,h4⟩:=h;refine⟨a,cap,h1,h2,h3, ?_⟩;rcases h4 with h4 | ⟨b,o,c,h5,h6,h7⟩
  ·exact .inl h4
  ·rcases k4 with k4 | ⟨b',o',c',k5,k6,k7⟩
   ·exact .inl ⟨k4.1,by rw[h5];simp,fun x hx _=>by rw[h5]at hx;cases hx;rfl⟩
   ·exact .inr ⟨b,o,c,h5,by rw[hz];exact h6,VRe.back hm hz hp w xs c' o' c o k7 h7⟩
 |.ept x _,_,_,h0,h=>by
  simp only[VR]at h h0|-;obtain⟨_,_,_,u0,_,_,k3,_⟩:=h0;obtain⟨b,o,c,u,h1,h2,h3,h4⟩:=h;exact⟨b,o,c,u,h1,by rw[hz];exact h2,VR.back hm hz hp x u0 u k3 h3,h4⟩
 |.fn _ cs,_,_,h0,h=>by
  simp only[VR]at h h0|-;obtain⟨vs0,_,k2⟩:=h0;obtain⟨vs,h1,h2⟩:=h;exact⟨vs,h1,VRs.back hm hz hp cs _ _ k2 h2⟩
 |.iface _ x,_,_,h0,h=>by
  simp only[VR]at h h0|-;obtain⟨u0,_,k2⟩:=h0;obtain⟨u,h1,h2⟩:=h;exact⟨u,h1,VR.back hm hz hp x u0 u k2 h2⟩
 |.agg cs,_,_,h0,h=>by
  simp only[VR]at h h0|-;obtain⟨vs0,_,k2,_⟩:=h0;obtain⟨vs,h1,h2,h3⟩:=h;exact⟨vs,h1,VRs.back hm hz hp cs _ _ k2 h2,h3⟩
 |.tup cs,_,_,h0,h=>by
  simp only[VR]at h h0|-;obtain⟨vs0,_,k2⟩:=h0;obtain⟨vs,h1,h2⟩:=h;exact⟨vs,h1,VRs.back hm hz hp cs _ _ k2 h2⟩
theorem VRs.back(hm:m.le m')(hz:m2.z=m'.z)(hp:∀id,m2 id=m id):∀(as:List AV)(vs0 vs:List Value),VRs N m as vs0->VRs N m' as vs->VRs N m2 as vs
 |[],_,_,_,h=>by simpa only [VRs]using h
 | a::as,vs0,vs,h0,h=>by
  simp only[VRs]at h h0|-;obtain⟨u0,us0,_,k2,k3⟩:=h0;obtain⟨u,us,h1,h2,h3⟩:=h;exact⟨u,us,h1,VR.back hm hz hp a u0 u k2 h2,VRs.back hm hz hp as us0 us k3 h3⟩
theorem VRe.back(hm:m.le m')(hz:m2.z=m'.z)(hp:∀id,m2 id=m id)(w:Nat):∀(as:List AV)(c0:Array Value)(o0:Nat)(c:Array Value)(o:Nat),VRe N m w as c0 o0->VRe N m' w as c o->VRe N m2 w as c o
 |[],_,_,_,_,_,_=>by simp only[VRe]
 | a::as,c0,o0,c,o,h0,h=>by
  simp only[VRe]at h h0|-;obtain⟨⟨u0,k1,_⟩,k3⟩:=h0;obtain⟨⟨u,h1,h2⟩,h3⟩:=h;exact⟨⟨u,VR.back hm hz hp a u0 u k1 h1,h2⟩,VRe.back hm hz hp w as c0 _ c _ k3 h3⟩
end
theorem CellsAt.back(hm:m.le m')(hz:m2.z=m'.z)(hp:∀id,m2 id=m id){c0 c:Array Value}{o0 o:Nat}{cs:List AV}(h0:CellsAt N m c0 o0 cs)(h:CellsAt N m' c o cs):CellsAt N m2 c o cs:=by
 intro j x hx;obtain⟨_,u0,_,q0⟩:=h0 j x hx;obtain⟨h1,u,h2,h3⟩:=h j x hx;exact⟨h1,u,h2,VR.back hm hz hp x u0 u q0 h3⟩
theorem ObjAt.back(hm:m.le m')(hz:m2.z=m'.z)(hp:∀id,m2 id=m id){p:zg}:∀{o:qC},ObjAt N m w p o->ObjAt N m' w' p o->ObjAt N m2 w' p o
 |.dead,_,_=>trivial
 |.row _ _ _,⟨_,_,_,_,_,_,_,_,k6,_⟩,⟨h1,h2,c,e,fz,h3,h4,h5,h6,h7⟩=>⟨h1,h2,c,e,fz,h3,h4,h5,fun i a ha=>⟨(h6 i a ha).1,(k6 i a ha).2.back hm hz hp (h6 i a ha).2⟩,h7⟩
 |.map _,⟨_,_,_,_,_,k4⟩,⟨xs,cl,h1,h2,h3,h4⟩=>⟨xs,cl,h1,h2,h3,fun i k v hk=>
   let ⟨_,_,_,r3,r4⟩:=k4 i k v hk;let ⟨x,q1,q2,q3,q4⟩:=h4 i k v hk
   ⟨x,q1,q2,VR.back hm hz hp k _ _ r3 q3,VR.back hm hz hp v _ _ r4 q4⟩⟩
theorem HR.drop(hH:HR N m h w)(hH':HR N m' h' w')(hm:m.le m')(hh:∀id o,h id=some o->h' id=some o):HR N ⟨m.p,m'.z⟩ (h.tomb h') w' where
 at':=fun i o ho=>by
  have ho:h i=some o:=ho;obtain⟨p,h1,_,h3⟩:=hH.at' i o ho;obtain⟨p',h1',h2',h3'⟩:=hH'.at' i o (hh i o ho);have:=hm.1 _ _ h1;rw[h1']at this;cases this;exact⟨p,h1,h2',h3.back (m2:=⟨m.p,m'.z⟩) hm rfl (fun _=>rfl) h3'⟩
 none':=fun i hi=>by
  refine hH.none' i ⟨hi.1, ?_⟩;have:(h.tb i || h'.tb i || ((h'.f i).isSome&&(h.f i).isNone))=false:=hi.2;simp only[Bool.or_eq_false_iff]at this;exact this.1.1
 apart:=fun i j o1 o2 p q h1 h2 hw hl hij hp hq=>hH'.apart i j o1 o2 p q (hh i o1 h1) (hh j o2 h2) hw hl hij (hm.1 _ _ hp) (hm.1 _ _ hq)
 gg:=hH'.gg
 zz:=fun b c hz=>by
  obtain⟨h1,h2⟩:=hH'.zz b c hz;exact⟨h1,fun i o p ho hw hp=>h2 i o p (hh i o ho) hw (hm.1 _ _ hp)⟩
theorem Fr.drop{B:Nat}(hF:Fr B m h w m' h' w')(hh:∀id o,h id=some o->h' id=some o):Fr B m h w ⟨m.p,m'.z⟩ (h.tomb h') w' where
 os:=hF.os
 tape:=hF.tape
 output:=hF.output
 size:=hF.size
 le:=⟨fun _ _ q=>q,hF.le.2⟩
 keep:=fun b hb hs=>⟨(hF.keep b hb hs).1,fun i o p ho hw hp=>(hF.keep b hb hs).2 i o p (hh i o ho) hw (hF.le.1 _ _ hp)⟩
 free:=fun b hb hs=>⟨fun i o p ho hl hp=>(hF.free b hb hs).1 i o p (hh i o ho) hl (hF.le.1 _ _ hp),(hF.free b hb hs).2⟩
theorem WE{h':AH}{id wd n:Nat}{el:List AV}{rw':Bool}(ho:h' id=some (.row wd el rw')){i:Nat}{o:qC}(hi:(h'.upd id (.row wd (el.take n) rw')) i=some o):
  ∃o',h' i=some o'/\o'.wr=o.wr/\o'.live=o.live/\(o'=o\/(o'=.row wd el rw'/\o=.row wd (el.take n) rw')):=by
 by_cases e:i=id
 ·subst e;rw[AH.upd_same]at hi;cases hi;exact⟨_,ho,rfl,rfl,.inr ⟨rfl,rfl⟩⟩
 ·rw[AH.upd_ne _ _ e]at hi;exact⟨_,hi,rfl,rfl,.inl rfl⟩
theorem HR.trim{h':AH}{id wd:Nat}{el:List AV}{rw':Bool}(n:Nat)(hH:HR N m' h' w')(ho:h' id=some (.row wd el rw')):HR N m' (h'.upd id (.row wd (el.take n) rw')) w' where
 at':=fun i o hi=>by
  obtain⟨o',h1,_,h3,h4⟩:=WE ho hi;obtain⟨p,q1,q2,q3⟩:=hH.at' i o' h1;refine⟨p,q1,fun hl=>q2 (by rw[h3];exact hl), ?_⟩;rcases h4 with rfl | ⟨rfl,rfl⟩
  ·exact q3
  ·obtain⟨a1,a2,c,e,fz,a3,a4,a5,a6,a7⟩:=q3;refine⟨a1,by simp;omega,c,e,fz,a3,a4,a5,fun j a hj=>a6 j a ?_,a7⟩;rw[gTk]at hj;split at hj
   ·exact hj
   ·cases hj
 none':=fun i hi=>by
  refine hH.none' i ⟨?_,hi.2⟩;have:=hi.1;by_cases e:i=id
  ·subst e;rw[AH.upd_same]at this;cases this
  ·rwa[AH.upd_ne _ _ e]at this
 apart:=fun i j o1 o2 p q h1 h2 hw hl hij hp hq=>by
  obtain⟨o1',a1,a2,_,_⟩:=WE ho h1;obtain⟨o2',b1,_,b2,_⟩:=WE ho h2;exact hH.apart i j o1' o2' p q a1 b1 (by rw[a2];exact hw) (by rw[b2];exact hl) hij hp hq
 gg:=hH.gg
 zz:=fun b c hz=>⟨(hH.zz b c hz).1,fun i o p hi hw hp=>by
  obtain⟨o',a1,a2,_,_⟩:=WE ho hi;exact(hH.zz b c hz).2 i o' p a1 (by rw[a2];exact hw) hp⟩
theorem Fr.trim{B:Nat}{id wd:Nat}{el:List AV}{rw':Bool}(n:Nat)(hF:Fr B m h w m' h' w')(ho:h' id=some (.row wd el rw')):Fr B m h w m' (h'.upd id (.row wd (el.take n) rw')) w' where
 os:=hF.os
 tape:=hF.tape
 output:=hF.output
 size:=hF.size
 le:=hF.le
 keep:=fun b hb hs=>⟨(hF.keep b hb hs).1,fun i o p hi hw hp=>by
  obtain⟨o',a1,a2,_,_⟩:=WE ho hi;exact(hF.keep b hb hs).2 i o' p a1 (by rw[a2];exact hw) hp⟩
 free:=fun b hb hs=>⟨fun i o p hi hl hp=>by
  obtain⟨o',a1,_,a2,_⟩:=WE ho hi;exact(hF.free b hb hs).1 i o' p a1 (by rw[a2];exact hl) hp,(hF.free b hb hs).2⟩
mutual
theorem qAB:∀(a:AV)(v:Value),a.leaf=true->VR N m' a v->VR N m2 a v
 |.bool _,_,_,h=>by simpa only [VR]using h
 |.int _ _,_,_,h=>by simpa only [VR]using h
 |.str _,_,_,h=>by simpa only [VR]using h
 |.nilp,_,_,h=>by simpa only [VR]using h
 |.nils,_,_,h=>by simpa only [VR]using h
 |.nilm,_,_,h=>by simpa only [VR]using h
 |.nilf,_,_,h=>by simpa only [VR]using h
 |.nili,_,_,h=>by simpa only [VR]using h
 |.any,_,ht,_=>by simp[AV.leaf]at ht
 |.ptr _ _ _,_,ht,_=>by simp[AV.leaf]at ht
 |.map _,_,ht,_=>by simp[AV.leaf]at ht
 |.slice _ _ _ _ _,_,ht,_=>by simp[AV.leaf]at ht
 |.lst _ _ _,_,ht,_=>by simp[AV.leaf]at ht
 |.ept _ _,_,ht,_=>by simp[AV.leaf]at ht
 |.fn _ cs,_,ht,h=>by
  simp only[VR]at h|-;simp only[AV.leaf]at ht;obtain⟨vs,h1,h2⟩:=h;exact⟨vs,h1,X6 cs _ ht h2⟩
 |.iface _ x,_,ht,h=>by
  simp only[VR]at h|-;simp only[AV.leaf]at ht;obtain⟨u,h1,h2⟩:=h;exact⟨u,h1,qAB x u ht h2⟩
 |.agg cs,_,ht,h=>by
  simp only[VR]at h|-;simp only[AV.leaf]at ht;obtain⟨vs,h1,h2,h3⟩:=h;exact⟨vs,h1,X6 cs _ ht h2,h3⟩
 |.tup cs,_,ht,h=>by
  simp only[VR]at h|-;simp only[AV.leaf]at ht;obtain⟨vs,h1,h2⟩:=h;exact⟨vs,h1,X6 cs _ ht h2⟩
theorem X6:∀(as:List AV)(vs:List Value),AV.leafs as=true->VRs N m' as vs->VRs N m2 as vs
 |[],_,_,h=>by simpa only [VRs]using h
 | a::as,vs,ht,h=>by
  simp only[VRs]at h|-;simp only[AV.leafs,bAt]at ht;obtain⟨u,us,h1,h2,h3⟩:=h;exact⟨u,us,h1,qAB a u ht.1 h2,X6 as us ht.2 h3⟩
end
mutual
theorem Zw(hp:∀id,m2 id=m' id):∀(a:AV)(v:Value),a.nol=true->VR N m' a v->VR N m2 a v
 |.bool _,_,_,h=>by simpa only [VR]using h
 |.int _ _,_,_,h=>by simpa only [VR]using h
 |.str _,_,_,h=>by simpa only [VR]using h
 |.nilp,_,_,h=>by simpa only [VR]using h
 |.nils,_,_,h=>by simpa only [VR]using h
 |.nilm,_,_,h=>by simpa only [VR]using h
 |.nilf,_,_,h=>by simpa only [VR]using h
 |.nili,_,_,h=>by simpa only [VR]using h
 |.any,_,ht,_=>by simp[AV.nol]at ht
 |.ptr _ _ _,_,_,h=>by
  simp only[VR]at h|-;obtain⟨p,h1,h2⟩:=h;exact⟨p,by rw[hp];exact h1,h2⟩
 |.map _,_,_,h=>by
  simp only[VR]at h|-;obtain⟨p,h1,h2⟩:=h;exact⟨p,by rw[hp];exact h1,h2⟩
 |.slice _ _ _ _ _,_,_,h=>by
  simp only[VR]at h|-;obtain⟨p,a,cap,h1,h2⟩:=h;exact⟨p,a,cap,by rw[hp];exact h1,h2⟩
 |.lst _ [] _,_,_,h=>by
  simp only[VR]at h|-;obtain⟨a,cap,h1,h2,h3,h4⟩:=h;refine⟨a,cap,h1,h2,h3,.inl ?_⟩;rcases h4 with h4 | ⟨b,o,c,rfl,_,_⟩
  ·exact h4
  ·exact⟨trivial,fun q=>(by cases q),fun x hx _=>(by cases hx;rfl)⟩
 |.lst _ (_::_) _,_,ht,_=>by simp[AV.nol]at ht
 |.ept _ _,_,ht,_=>by simp[AV.nol]at ht
 |.fn _ cs,_,ht,h=>by
  simp only[VR]at h|-;simp only[AV.nol]at ht;obtain⟨vs,h1,h2⟩:=h;exact⟨vs,h1,YF hp cs _ ht h2⟩
 |.iface _ x,_,ht,h=>by
  simp only[VR]at h|-;simp only[AV.nol]at ht;obtain⟨u,h1,h2⟩:=h;exact⟨u,h1,Zw hp x u ht h2⟩
 |.agg cs,_,ht,h=>by
  simp only[VR]at h|-;simp only[AV.nol]at ht;obtain⟨vs,h1,h2,h3⟩:=h;exact⟨vs,h1,YF hp cs _ ht h2,h3⟩
 |.tup cs,_,ht,h=>by
  simp only[VR]at h|-;simp only[AV.nol]at ht;obtain⟨vs,h1,h2⟩:=h;exact⟨vs,h1,YF hp cs _ ht h2⟩
theorem YF(hp:∀id,m2 id=m' id):∀(as:List AV)(vs:List Value),AV.nols as=true->VRs N m' as vs->VRs N m2 as vs
 |[],_,_,h=>by simpa only [VRs]using h
 | a::as,vs,ht,h=>by
  simp only[VRs]at h|-;simp only[AV.nols,bAt]at ht;obtain⟨u,us,h1,h2,h3⟩:=h;exact⟨u,us,h1,Zw hp a u ht.1 h2,YF hp as us ht.2 h3⟩
end
theorem YG{as:List AV}(h:AV.nols as=true){i:Nat}{a:AV}(ha:as[i]?=some a):a.nol=true:=by
 induction as generalizing i with
 | nil=>simp at ha
 | cons x as ih=>
  simp only[AV.nols,bAt]at h;cases i with
  | zero=>simp at ha;subst ha;exact h.1
  | succ i=>exact ih h.2 (by simpa using ha)
theorem qeK{a:AV}(h:a.nol=true):AV.nols a.cells=true:=by
 cases a<;>first
  | exact h
  | rfl
  | (simp only[AV.cells,AV.nols,h,Bool.and_self];done)
  | (simp[AV.nol]at h;done)
theorem qeJ(hp:∀id,m2 id=m' id){p:zg}:∀{o:qC},o.nol=true->ObjAt N m' w p o->ObjAt N m2 w p o
 |.dead,_,_=>trivial
 |.row _ _ _,ho,⟨h1,h2,c,e,fz,h3,h4,h5,h6,h7⟩=>by
  simp only[qC.nol,bAt]at ho;refine⟨h1,h2,c,e,fz,h3,h4,h5,fun i a ha=>⟨(h6 i a ha).1,fun j x hx=> ?_⟩,h7⟩;obtain⟨q1,u,q2,q3⟩:=(h6 i a ha).2 j x hx;exact⟨q1,u,q2,Zw hp _ _ (YG (qeK (YG ho.2 ha)) hx) q3⟩
 |.map es,ho,⟨xs,cl,h1,h2,h3,h4⟩=>by
  simp only[qC.nol,bAt]at ho;refine⟨xs,cl,h1,h2,h3,fun i k v hk=> ?_⟩;obtain⟨x,q1,q2,q3,q4⟩:=h4 i k v hk;exact⟨x,q1,q2,Zw hp _ _ (YG (i:=i) ho.1 (by rw[gMp,hk];rfl)) q3,Zw hp _ _ (YG (i:=i) ho.2 (by rw[gMp,hk];rfl)) q4⟩
theorem All.rows(hK:All h K):Rows h K:=fun i hi=>(hK i).1 hi
theorem Fr.lent{B:Nat}(hK:All h K)(hF:Fr B (m.frz K w) (h.kill K) w m' h' w')(hB:w.heap.size<=B):(∀b,b<w.heap.size->w'.heap[b]?=w.heap[b]?):=by
 intro b hb;refine(hF.keep b (by omega) fun i o p ho hw hp=> ?_).1;obtain⟨h1,h2⟩:=Q6 ho (qC.live_of_wr hw);have:=(hK i).2 ⟨o,h2,hw⟩;rw[this]at h1;cases h1
theorem ObjAt.same{p:zg}:∀{o:qC},(o.live=true->w'.heap[p.b]?=w.heap[p.b]?)->ObjAt N m w p o->ObjAt N m w' p o
 |.dead,_,_=>trivial
 |.row _ _ _,hw,⟨h1,h2,c,e,fz,h3,h4⟩=>⟨h1,h2,c,e,fz,by rw[hw rfl];exact h3,h4⟩
 |.map _,hw,⟨xs,cl,h1,h2⟩=>⟨xs,cl,by rw[hw rfl];exact h1,h2⟩
theorem HR.lent(hH:HR N m h w)(hw:∀b,b<w.heap.size->w'.heap[b]?=w.heap[b]?)(hs:w.heap.size<=w'.heap.size):HR N m (h.tomb h') w' where
 at':=fun i o ho=>by
  obtain⟨p,h1,h2,h3⟩:=hH.at' i o ho;exact⟨p,h1,fun hl=>Nat.lt_of_lt_of_le (h2 hl) hs,h3.same fun hl=>hw _ (h2 hl)⟩
 none':=fun i hi=>by
  refine hH.none' i ⟨hi.1, ?_⟩;have:(h.tb i || h'.tb i || ((h'.f i).isSome&&(h.f i).isNone))=false:=hi.2;simp only[Bool.or_eq_false_iff]at this;exact this.1.1
 apart:=fun i j o1 o2 p q h1 h2=>hH.apart i j o1 o2 p q h1 h2
 gg:=hH.gg
 zz:=fun b c hz=>by
  obtain⟨⟨e,fz,h1⟩,h2⟩:=hH.zz b c hz;have hb:b<w.heap.size:=(aSi.1 h1).1;exact⟨⟨e,fz,by rw[hw b hb];exact h1⟩,h2⟩
theorem qeL{o:qC}(h:o.nol=true)(hl:o.live=true):o.wr=true:=by
 cases o with
 | dead=>cases hl
 | row w el rw=>rfl
 | map es=>rfl
theorem HR.joined(hK:All h K)(hH:HR N m h w)(hF:Fr w.heap.size (m.frz K w) (h.kill K) w m' h' w')(hH':HR N m' h' w'){S:List Nat}(hn:∀id o,S.contains id=true->h id=none->h' id=some o->o.nol=true):
  HR N ⟨m'.p,m.z⟩ (h.join h' S) w'/\Fr w.heap.size m h w ⟨m'.p,m.z⟩ (h.join h' S) w':=by
 have hw:=Fr.lent hK hF (nLr _);have hp:∀id p,m id=some p->m' id=some p:=fun id p hq=>hF.le.1 _ _ hq;have hst:∀b,Still (m.frz K w) (h.kill K) b:=fun b i o p ho hwr _=>by
  obtain⟨h1,h2⟩:=Q6 ho (qC.live_of_wr hwr);have:=(hK i).2 ⟨o,h2,hwr⟩;rw[this]at h1;cases h1
 have hnew:∀i o p,S.contains i=true->h i=none->h' i=some o->o.live=true->m' i=some p->w.heap.size<=p.b:=fun i o p h0 h1 h2 h3 h4=>by
  rcases Nat.lt_or_ge p.b w.heap.size with q | q
  ·exact absurd rfl ((hF.keep p.b q (hst _)).2 i o p h2 (qeL (hn i o h0 h1 h2) h3) h4)
  ·exact q
 have hold:∀i o p,h i=some o->o.live=true->m' i=some p->p.b<w.heap.size:=fun i o p h1 h2 h3=>by
  obtain⟨p0,q1,q2,_⟩:=hH.at' i o h1;have:=hp i p0 q1;rw[h3]at this;cases this;exact q2 h2
 have cas:∀i o,(h.join h' S) i=some o->h i=some o\/(S.contains i=true/\h i=none/\h' i=some o):=fun i o ho=>by
  cases hq:h i with
  | none=>
   rw[AH.join_new' hq]at ho;split at ho
   ·rename_i q;exact .inr ⟨q,rfl,ho⟩
   ·cases ho
  | some x=>rw[AH.join_old' hq]at ho;exact .inl ho
 have hmm:m.le ⟨m'.p,m.z⟩:=⟨hp,fun _ _ q=>q⟩;have still:∀b,b<w.heap.size->Still m h b->Still ⟨m'.p,m.z⟩ (h.join h' S) b:=fun b hb hs i o p ho hwr hq=>by
  rcases cas i o ho with h1 | ⟨h0,h1,h2⟩
  ·obtain⟨p0,q1,_⟩:=hH.at' i o h1;have:=hp i p0 q1;rw[show m' i=some p from hq]at this;cases this;exact hs i o p h1 hwr q1
  ·have:=hnew i o p h0 h1 h2 (qC.live_of_wr hwr) hq;omega
 refine⟨⟨fun i o ho=> ?_,fun i hi=> ?_,fun i j o1 o2 p q h1 h2 w1 l2 hne hpi hqj=> ?_,fun b c hz=> ?_,hH.gg⟩,⟨hF.os,hF.tape,hF.output,hF.size,hmm,fun b hb hs=>⟨hw b hb,still b hb hs⟩,fun b hb hs=>⟨fun i o p ho hl hq=> ?_,hs.2⟩⟩⟩
 ·rcases cas i o ho with h1 | ⟨h0,h1,h2⟩
  ·obtain⟨p,q1,q2,q3⟩:=hH.at' i o h1;exact⟨p,hp i p q1,fun hl=>Nat.lt_of_lt_of_le (q2 hl) hF.size,(q3.same fun hl=>hw _ (q2 hl)).mono hmm⟩
  ·obtain⟨p,q1,q2,q3⟩:=hH'.at' i o h2;exact⟨p,q1,q2,qeJ (m':=m') (m2:=⟨m'.p,m.z⟩) (fun _=>rfl) (hn i o h0 h1 h2) q3⟩
 ·obtain⟨_,g2⟩:=AH.fr_join (h:=h) (h':=h') (S:=S) hi;exact hH'.none' i g2
 ·have back:∀i o p,h i=some o->m' i=some p->m i=some p:=fun i o p q1 q2=>by
   obtain⟨p0,q3,_⟩:=hH.at' i o q1;have:=hp i p0 q3;rw[q2]at this;cases this;exact q3
  have hpi:m' i=some p:=hpi;have hqj:m' j=some q:=hqj;rcases cas i o1 h1 with a1 | ⟨a0,a1,a2⟩<;>rcases cas j o2 h2 with b1 | ⟨b0,b1,b2⟩
  ·exact hH.apart i j o1 o2 p q a1 b1 w1 l2 hne (back i o1 p a1 hpi) (back j o2 q b1 hqj)
  ·have:=hold i o1 p a1 (qC.live_of_wr w1) hpi;have:=hnew j o2 q b0 b1 b2 l2 hqj;omega
  ·have:=hnew i o1 p a0 a1 a2 (qC.live_of_wr w1) hpi;have:=hold j o2 q b1 l2 hqj;omega
  ·exact hH'.apart i j o1 o2 p q a2 b2 w1 l2 hne hpi hqj
 ·obtain⟨⟨e,fz,h1⟩,h2⟩:=hH.zz b c hz;have hb:b<w.heap.size:=(aSi.1 h1).1;exact⟨⟨e,fz,by rw[hw b hb];exact h1⟩,still b hb h2⟩
 ·rcases cas i o ho with h1 | ⟨h0,h1,h2⟩
  ·obtain⟨p0,q1,_⟩:=hH.at' i o h1;have:=hp i p0 q1;rw[show m' i=some p from hq]at this;cases this;exact hs.1 i o p h1 hl q1
  ·have:=hnew i o p h0 h1 h2 hl hq;omega
theorem Mp.le.trans'{a b c:Mp}(h:a.le b)(k:b.le c):a.le c:=Mp.le_trans h k
theorem Fr.tomb2{B:Nat}{h1 h2:AH}(hF:Fr B m h w m' (h.tomb h1) w'):Fr B m h w m' ((h.tomb h1).tomb h2) w':=⟨hF.os,hF.tape,hF.output,hF.size,hF.le,hF.keep,hF.free⟩
theorem HR.tomb2{h1 h2:AH}(hH:HR N m' (h.tomb h1) w'):HR N m' ((h.tomb h1).tomb h2) w':=⟨hH.at',fun i hi=>hH.none' i (AH.fr_tomb' hi),hH.apart,hH.zz,hH.gg⟩
theorem Fr.tomb3{B:Nat}{h1 h2:AH}(hF:Fr B m h w m' (h.tomb h2) w'):Fr B m h w m' ((h.tomb h1).tomb h2) w':=⟨hF.os,hF.tape,hF.output,hF.size,hF.le,hF.keep,hF.free⟩
theorem HR.tomb3{h1 h2:AH}(hH:HR N m' (h.tomb h2) w'):HR N m' ((h.tomb h1).tomb h2) w':=⟨hH.at',fun i hi=>hH.none' i ⟨hi.1,by
 have h2':((h.tomb h1).tb i || h2.tb i || ((h2.f i).isSome&&(h.f i).isNone))=false:=hi.2;simp only[Bool.or_eq_false_iff]at h2';have h3:(h.tb i || h1.tb i || ((h1.f i).isSome&&(h.f i).isNone))=false:=h2'.1.1;simp only[Bool.or_eq_false_iff]at h3;show (h.tb i || h2.tb i || ((h2.f i).isSome&&(h.f i).isNone))=false;simp only[Bool.or_eq_false_iff];exact⟨⟨h3.1.1,h2'.1.2⟩,h2'.2⟩⟩,hH.apart,hH.zz,hH.gg⟩
theorem HR.addDead(hH:HR N m h w){id:Nat}(hid:h.fr id)(p:zg):HR N (m.upd id p) (h.upd id .dead) w/\m.le (m.upd id p):=by
 have hle:=Mp.le_upd (p:=p) (hH.none' id hid);refine⟨⟨fun i o ho=> ?_,fun i hi=> ?_,fun i j o1 o2 p1 p2 h1 h2 w1 l2 hne q1 q2=> ?_,fun b c hz=> ?_,hH.gg⟩,hle⟩
 ·by_cases e:i=id
  ·subst e;rw[AH.upd_same]at ho;cases ho;exact⟨p,Mp.upd_same _ _ _,(fun q=>nomatch q),trivial⟩
  ·rw[AH.upd_ne _ _ e]at ho;obtain⟨p',q1,q2,q3⟩:=hH.at' i o ho;exact⟨p',hle.1 _ _ q1,q2,q3.mono hle⟩
 ·have e:i≠id:=by rintro rfl;have:=hi.1;rw[AH.upd_same]at this;cases this
  rw[Mp.upd_ne _ _ e];exact hH.none' i ⟨by have:=hi.1;rwa[AH.upd_ne _ _ e]at this,hi.2⟩
 ·have e1:i≠id:=by rintro rfl;rw[AH.upd_same]at h1;cases h1;cases w1
  have e2:j≠id:=by rintro rfl;rw[AH.upd_same]at h2;cases h2;cases l2
  rw[AH.upd_ne _ _ e1]at h1;rw[AH.upd_ne _ _ e2]at h2;rw[Mp.upd_ne _ _ e1]at q1;rw[Mp.upd_ne _ _ e2]at q2;exact hH.apart i j o1 o2 p1 p2 h1 h2 w1 l2 hne q1 q2
 ·obtain⟨h1,h2⟩:=hH.zz b c hz;refine⟨h1,fun i o q ho hw hq=> ?_⟩;have e:i≠id:=by rintro rfl;rw[AH.upd_same]at ho;cases ho;cases hw
  rw[AH.upd_ne _ _ e]at ho;rw[Mp.upd_ne _ _ e]at hq;exact h2 i o q ho hw hq
theorem Fr.undead{B:Nat}{id:Nat}{p:zg}{h2:AH}(hF:Fr B (m.upd id p) (h.upd id .dead) w m' h2 w')(hid:h.fr id)(hle:m.le m')(hh:∀i o,h i=some o->h2 i=some o):Fr B m h w ⟨m.p,m'.z⟩ (h.tomb h2) w' where
 os:=hF.os
 tape:=hF.tape
 output:=hF.output
 size:=hF.size
 le:=⟨fun _ _ q=>q,hle.2⟩
 keep:=fun b hb hs=>by
  have hs2:Still (m.upd id p) (h.upd id .dead) b:=fun i o q ho hw hq=>by
   have e:i≠id:=by rintro rfl;rw[AH.upd_same]at ho;cases ho;cases hw
   rw[AH.upd_ne _ _ e]at ho;rw[Mp.upd_ne _ _ e]at hq;exact hs i o q ho hw hq
  exact⟨(hF.keep b hb hs2).1,fun i o q ho hw hq=>(hF.keep b hb hs2).2 i o q (hh i o ho) hw (hle.1 _ _ hq)⟩
 free:=fun b hb hs=>by
  have hs2:Free (m.upd id p) (h.upd id .dead) b:=⟨fun i o q ho hl hq=>by
   have e:i≠id:=by rintro rfl;rw[AH.upd_same]at ho;cases ho;cases hl
   rw[AH.upd_ne _ _ e]at ho;rw[Mp.upd_ne _ _ e]at hq;exact hs.1 i o q ho hl hq,hs.2⟩
  exact⟨fun i o q ho hl hq=>(hF.free b hb hs2).1 i o q (hh i o ho) hl (hle.1 _ _ hq),(hF.free b hb hs2).2⟩
theorem Xk(hH:HR N m h w)(hK:Rows h K):∀{as as':List AV}{us:List Value},as.length=as'.length->(∀p∈as.zip as',Conv h K p.1 p.2)->VRs N m as us->VRs N (m.frz K w) as' us
 |[],[],_,_,_,h=>by simpa only [VRs]using h
 | a::as,b::bs,us,hl,hc,h=>by
  simp only[VRs]at h|-;obtain⟨u,us,h1,h2,h3⟩:=h;exact⟨u,us,h1,WV hH hK (hc (a,b) (by simp)) h2,Xk hH hK (by simpa using hl) (fun p hp=>hc p (by simp only[List.zip_cons_cons];exact List.mem_cons_of_mem _ hp)) h3⟩
 |[],_::_,_,hl,_,_=>by simp at hl
 | _::_,[],_,hl,_,_=>by simp at hl
end
section
variable {S:qL} {m:Mp} {L:List Nat} {n B:Nat} {st st':St} {a:Act} {w:World} {K:List Nat}
theorem FR.frz(hf:FR S m L n B st a w)(hz:Frz K st st'):FR S (m.frz K w) L n B st' a w where
 heap:=by rw[hz.h];exact hf.heap.frz hz.rows
 slots:=fun t v ht hL=>by
  obtain⟨v0,h1,h2⟩:=hz.s t v ht;exact WV hf.heap hz.rows h2 (hf.slots t v0 h1 hL)
 locs:=fun t c hc=>by
  obtain⟨c0,h1,h2⟩:=hz.l t c hc;obtain⟨hL,b,g1,⟨cs,e,fz,g2,g3,g4,g5⟩,g6,g7⟩:=hf.locs t c0 h1;refine⟨hL,b,g1,⟨cs,e,fz,g2,by rw[h2.cellsLen];exact g3,g4,fun j y hy=> ?_⟩,by rw[hz.h];exact g6.frz hz.rows,g7⟩;obtain⟨y0,q1,q2⟩:=h2.cell hy;obtain⟨q3,u,q4,q5⟩:=g5 j y0 q1;exact⟨by rw[q2.scalar];exact q3,u,q4,WV hf.heap hz.rows q2 q5⟩
 sep:=fun t t' c c' b hc hc' h1 h2=>by
  obtain⟨_,q1,_⟩:=hz.l t c hc;obtain⟨_,q2,_⟩:=hz.l t' c' hc';exact hf.sep t t' _ _ b q1 q2 h1 h2
 defers:=let ⟨ms,e,hi,hM⟩:=hf.defers;⟨ms,e,hi,hM.1,fun d hd=>by
  obtain⟨D,q1,q2,q3,q4⟩:=hM.2 d hd;exact⟨D,q1,q2,by rw[hz.h];exact q3.frz hz.rows,q4⟩⟩
 size:=hf.size
 base:=hf.base
 pin:=hf.pin
theorem HR.cvh{N:qh}{h:AH}{id wd:Nat}{el el':List AV}{rw':Bool}(hH:HR N m h w)(hK:Rows h K)(hid:K.contains id=false)(ho:h id=some (.row wd el rw'))(hl:el.length=el'.length)(hc:∀p∈el.zip el',Conv h K p.1 p.2):
  HR N (m.frz K w) ((h.kill K).upd id (.row wd el' rw')) w:=by
 have hF:=hH.frz hK;have hk:(h.kill K) id=some (.row wd el rw'):=by rw[AH.kill_at,hid];exact ho
 have old:∀i o,((h.kill K).upd id (.row wd el' rw')) i=some o->∃o0,(h.kill K) i=some o0/\(o.wr=true->o0.wr=true)/\(o.live=true->o0.live=true):=fun i o hi=>by
  by_cases e:i=id
  ·subst e;rw[AH.upd_same]at hi;cases hi;exact⟨_,hk,fun q=>q,fun _=>rfl⟩
  ·rw[AH.upd_ne _ _ e]at hi;exact⟨o,hi,fun q=>q,fun q=>q⟩
 refine⟨fun i o hi=> ?_,fun i hi=>hF.none' i ?_,fun i j o1 o2 p q h1 h2 w1 l2 hij hp hq=> ?_,fun b c hz=> ?_,hF.gg⟩
 ·by_cases e:i=id
  ·subst e;rw[AH.upd_same]at hi;cases hi;obtain⟨p,g1,g2,g3⟩:=hH.at' i _ ho;refine⟨p,g1,fun _=>g2 rfl, ?_⟩;obtain⟨q1,q2,c,e,fz,q3,q4,q5,q6,q7⟩:=g3;refine⟨q1,by rw[<-hl];exact q2,c,e,fz,q3,q4,q5,fun k a ha=> ?_,q7⟩;have hk:k<el.length:=by have:=(gSi.1 ha).1;omega
   have hx:=gEg hk;have hcv:=hc _ (ZV hx ha);obtain⟨r1,r2⟩:=q6 k _ hx;refine⟨hcv.cellsLen.trans r1,fun j y hy=> ?_⟩;obtain⟨y0,s1,s2⟩:=hcv.cell hy;obtain⟨s3,u,s4,s5⟩:=r2 j y0 s1;exact⟨by rw[s2.scalar];exact s3,u,s4,WV hH hK s2 s5⟩
  ·rw[AH.upd_ne _ _ e]at hi;exact hF.at' i o hi
 ·refine⟨?_,hi.2⟩;have h1:=hi.1;by_cases e:i=id
  ·subst e;rw[AH.upd_same]at h1;cases h1
  ·rwa[AH.upd_ne _ _ e]at h1
 ·obtain⟨o1',a1,a2,_⟩:=old i o1 h1;obtain⟨o2',b1,_,b2⟩:=old j o2 h2;exact hF.apart i j o1' o2' p q a1 b1 (a2 w1) (b2 l2) hij hp hq
 ·obtain⟨z1,z2⟩:=hF.zz b c hz;exact⟨z1,fun i o q ho hw hq=>by obtain⟨o',a1,a2,_⟩:=old i o ho;exact z2 i o' q a1 (a2 hw) hq⟩
theorem Free.cvh{h:AH}{id wd:Nat}{el el':List AV}{rw':Bool}(hK:Rows h K)(hid:K.contains id=false)(ho:h id=some (.row wd el rw')){b:Nat}(hf:Free m h b):Free (m.frz K w) ((h.kill K).upd id (.row wd el' rw')) b:=by
 obtain⟨f1,f2⟩:=hf.frz (w:=w) hK;refine⟨fun i o p hi hl hp=> ?_,f2⟩;by_cases e:i=id
 ·subst e;exact f1 i (.row wd el rw') p (by rw[AH.kill_at,hid];exact ho) rfl hp
 ·rw[AH.upd_ne _ _ e]at hi;exact f1 i o p hi hl hp
theorem Still.cvh{h:AH}{id wd:Nat}{el el':List AV}{rw':Bool}(hid:K.contains id=false)(ho:h id=some (.row wd el rw')){b:Nat}(hs:Still m h b):Still (m.frz K w) ((h.kill K).upd id (.row wd el' rw')) b:=fun i o p hi hl hp=>by
 have f1:=hs.frz (K:=K) (w:=w);by_cases e:i=id
 ·subst e;rw[AH.upd_same]at hi;cases hi;exact f1 i (.row wd el rw') p (by rw[AH.kill_at,hid];exact ho) hl hp
 ·rw[AH.upd_ne _ _ e]at hi;exact f1 i o p hi hl hp
theorem Fr.cvh{h:AH}{id wd:Nat}{el el':List AV}{rw':Bool}(hK:Rows h K)(hid:K.contains id=false)(ho:h id=some (.row wd el rw')){B:Nat}:Fr B m h w (m.frz K w) ((h.kill K).upd id (.row wd el' rw')) w:=
 ⟨rfl,rfl,rfl,nLr _,Mp.le_frz,fun _ _ hs=>⟨rfl,hs.cvh hid ho⟩,fun _ _ hf=>hf.cvh hK hid ho⟩
theorem FR.cvh{id wd:Nat}{el el':List AV}{rw':Bool}(hf:FR S m L n B st a w)(hK:Rows st.h K)(hid:K.contains id=false)(ho:st.h id=some (.row wd el rw'))(hl:el.length=el'.length)(hc:∀p∈el.zip el',Conv st.h K p.1 p.2):
  FR S (m.frz K w) L n B {st with h:=(st.h.kill K).upd id (.row wd el' rw')} a w where
 heap:=hf.heap.cvh hK hid ho hl hc
 slots:=fun t v ht hL=>(hf.slots t v ht hL).mono Mp.le_frz
 locs:=fun t c hc'=>by
  obtain⟨hL,b,g1,⟨cs,e,fz,g2,g3,g4,g5⟩,g6,g7⟩:=hf.locs t c hc';refine⟨hL,b,g1,⟨cs,e,fz,g2,g3,g4,fun j y hy=> ?_⟩,g6.cvh hK hid ho,g7⟩;obtain⟨q3,u,q4,q5⟩:=g5 j y hy;exact⟨q3,u,q4,q5.mono Mp.le_frz⟩
 sep:=hf.sep
 defers:=let ⟨ms,e,hi,hM⟩:=hf.defers;⟨ms,e,hi,hM.1,fun d hd=>by
  obtain⟨D,q1,q2,q3,q4⟩:=hM.2 d hd;exact⟨D,q1,q2,q3.cvh hK hid ho,q4⟩⟩
 size:=hf.size
 base:=hf.base
 pin:=hf.pin
end
end Go.Ab
namespace Go.Ab
open Go
def qWI(S:qL)(L:List Nat)(ops:Array Oper):List qA->List zp->List zp
 |[],acc=>acc
 | c::l,acc=>qWI S L ops l (if Q5 c.o then(match ops[c.i]? with
  | some o=>(match Zx S L acc o,o.dst with
   | some (t,off),some d=>acc++[⟨c.i,d,t,off,c.g⟩]
   | _,_=>acc)
  | none=>acc)else acc)
def zX(S:qL)(L:List Nat)(n:Nat):qG->Code->Bool
 |.skip,.skip=>true
 |.skip,.label _=>true
 |.reg pan l,.region _ ops draw=>W2 S L n (qWI S L ops l []) pan draw l ops
 |.seq a b,.seq c d=>zX S L n a c&&zX S L n b d
 |.cond x a b,.cond y c d=>mAo S.N L x y&&zX S L n a c&&zX S L n b d
 |.blk i a,.block id c=>i==id&&zX S L n a c
 |.loop a,.loop c=>zX S L n a c
 |.exit i,.exit id=>i==id
 |.ret,.ret=>true
 | _,_=>false
variable {Γ:Nat->Option AFn} {kk:Nat}
theorem qWY{j:Job}{o:Out}(h:Ex Γ kk j o):∀l st e st',j=.ops l st->o=.st e st'->(pan:Bool)->(pan=true\/e=.nrm)->QD Γ kk pan l st e st':=by
 induction h with
 | nil=>rintro l st e st' ⟨⟩ ⟨⟩ pan hp;exact .nrm rfl
 | @skip k c l0 st0 r hw h ih=>
  rintro l st e st' ⟨⟩ ho pan hp;have hs:St1 Γ k c st0 (st0.put c.d .undef):=⟨.inl ⟨hw,rfl⟩,fun h=>by rw[hw]at h;cases h⟩;cases ih _ _ _ _ rfl ho pan hp with
  | nrm h=>exact .nrm ⟨_,hs,h⟩
  | @pan l1 c' l2 s1 v h' hp' hl h2 hw' hc=>exact .pan (l1:=c::l1) hp' (by rw[hl];rfl) ⟨_,hs,h2⟩ hw' hc
 | @step k c l0 st0 st1 r hw hs' hck h ih=>
  rintro l st e st' ⟨⟩ ho pan hp;have hs:St1 Γ k c st0 st1:=⟨.inr ⟨hw,.inl hs'⟩,fun _=>hck⟩;cases ih _ _ _ _ rfl ho pan hp with
  | nrm h=>exact .nrm ⟨_,hs,h⟩
  | @pan l1 c' l2 s1 v h' hp' hl h2 hw' hc=>exact .pan (l1:=c::l1) hp' (by rw[hl];rfl) ⟨_,hs,h2⟩ hw' hc
 | @call k c l0 st0 g as v h' r hw hce hk hck h ih1 ih=>
  rintro l st e st' ⟨⟩ ho pan hp;have hs:St1 Γ k c st0 (({st0 with h:=h'}:St).put c.d v):=⟨.inr ⟨hw,.inr ⟨g,as,v,h',hce,hk,rfl⟩⟩,fun _=>hck⟩;cases ih _ _ _ _ rfl ho pan hp with
  | nrm h=>exact .nrm ⟨_,hs,h⟩
  | @pan l1 c' l2 s1 v h' hp' hl h2 hw' hc=>exact .pan (l1:=c::l1) hp' (by rw[hl];rfl) ⟨_,hs,h2⟩ hw' hc
 | @callP k c l0 st0 g as v h' hw hce hk=>
  rintro l st e st' ⟨⟩ ⟨⟩ pan hp;exact .pan (l1:=[]) (by simpa using hp) rfl rfl hw (.inl ⟨g,as,hce,hk⟩)
 | @panic k c l0 st0 x t v hw hce hv=>
  rintro l st e st' ⟨⟩ ⟨⟩ pan hp;exact .pan (l1:=[]) (s1:=st0) (h':=st0.h) (by simpa using hp) rfl rfl hw (.inr ⟨x,t,v,hce,rfl,hv,rfl⟩)
 | _=>rintro l st e st' ⟨⟩
theorem qU3:∀{l:List qA},Q2 l 0=true->l.map (·.i)=List.range l.length:=by
  intro l h;have:∀(l:List qA)(k:Nat),Q2 l k=true->l.map (·.i)=List.range' k l.length:=by
   intro l
   induction l with
   | nil=>intro k _;rfl
   | cons c l ih=>
    intro k h;simp only[Q2,bAt,bIe]at h;rw[lMc,lCo,List.range'_succ,ih _ h.2,h.1]
  rw[this l 0 h,List.range_eq_range']
def Qx(S:qL)(L:List Nat)(n B:Nat)(m0:Mp)(h0:AH)(w0:World)(e:qS)(st:St):Exit->Act->World->Prop
 |.normal,a,w=>e=.nrm/\∃m,FR S m L n B st a w/\Fr B m0 h0 w0 m st.h w
 |.exit i,a,w=>e=.exit i/\∃m,FR S m L n B st a w/\Fr B m0 h0 w0 m st.h w
 |.ret,a,w=>e=.ret/\∃m,FR S m L n B st a w/\Fr B m0 h0 w0 m st.h w
 |.panic ch,a,w=>∃v u m,MarksX S.X S.it B m st.h w a.defers/\e=.pan v/\ch=[{v:=u,recovered:=false}]/\HR S.N m st.h w/\Fr B m0 h0 w0 m st.h w/\VR S.N m v u
 | _,_,_=>False
def Qa(S:qL)(L:List Nat)(n B:Nat)(m0:Mp)(h0:AH)(w0:World)(e:qS)(st:St)(Q:Exit->Act->World->Prop):Prop:=
 ∀x a w,Qx S L n B m0 h0 w0 e st x a w->Q x a w
def LoopWp(P:Program)(c:Code)(Q:Exit->Act->World->Prop)(a:Act)(w:World):Prop:=
 ∀(b:Frame)(k:List Item)(cs:List Frame),∃e a' w',Q e a' w'/\Arrives P (lone (b.at a (.code c::.inLoop c::k)) cs w) b k cs e a' w'
def WP'(P:Program)(c:Code)(Q:Exit->Act->World->Prop)(a:Act)(w:World):Prop:=match c with
 |.loop c=>LoopWp P c Q a w
 | c=>c.wp P Q a w
theorem WP'.wp{P:Program}{c:Code}{Q:Exit->Act->World->Prop}{a:Act}{w:World}(h:WP' P c Q a w):c.wp P Q a w:=by
 cases c with
 | loop c=>exact fun b k cs=>let ⟨e,a',w',q,r⟩:=h b k cs;⟨e,a',w',q,.of_steps (.one step_loop) r⟩
 | _=>exact h
theorem LoopWp.step{P:Program}{Q:Exit->Act->World->Prop}{a:Act}{w:World}{c:Code}(h:c.wp P (Exit.then (LoopWp P c Q) Q) a w):LoopWp P c Q a w:=by
 intro b k cs;obtain⟨e,a₁,w₁,hq,harr⟩:=h b (.inLoop c::k) cs;cases e with
 | normal=>
  obtain⟨e₂,a₂,w₂,hq₂,harr₂⟩:=hq b k cs;exact⟨e₂,a₂,w₂,hq₂,.of_steps (Steps.trans harr (.one step_inLoop)) harr₂⟩
 | exit id=>exact⟨_,a₁,w₁,hq,.pass (x:=.inLoop c) rfl (fun _ _=>.inl (by simp)) harr⟩
 | goto l=>exact⟨_,a₁,w₁,hq,.pass (x:=.inLoop c) rfl (fun _ _=>.inl (by simp)) harr⟩
 | ret=>exact⟨_,a₁,w₁,hq,.pass (x:=.inLoop c) rfl (fun _ _=>.inl (by simp)) harr⟩
 | panic ch=>exact⟨_,a₁,w₁,hq,.pass (x:=.inLoop c) rfl (fun _ _=>.inl (by simp)) harr⟩
 | outgrown=>exact⟨_,a₁,w₁,hq,.pass (x:=.inLoop c) rfl (fun _ _=>.inl (by simp)) harr⟩
section
variable {S:qL} {L:List Nat} {n B:Nat}
theorem FR.putObj{m:Mp}{st:St}{a:Act}{w:World}{l:Nat}{o':Obj}(hf:FR S m L n B st a w)(hl:Free m st.h l)(hlB:l<B):FR S m L n B st a (w.putObj l o') where
 heap:=hf.heap.blocks (by simp[World.putObj]) (fun id o p ho hlv hp=>World.putObj_heap_other (hl.1 id o p ho hlv hp)) (fun b c hz=>World.putObj_heap_other (by rintro rfl;rw[hl.2]at hz;cases hz))
 slots:=hf.slots
 locs:=fun t c hc=>by
  obtain⟨h1,b,h2,h3,h4,h5⟩:=hf.locs t c hc;exact⟨h1,b,h2,h3.block (World.putObj_heap_other (by omega)),h4,h5⟩
 sep:=hf.sep
 defers:=hf.defers.next fun b hb _ h=>⟨World.putObj_heap_other (by omega),h⟩
 size:=hf.size
 base:=nLt hf.base (by simp[World.putObj])
 pin:=hf.pin
theorem Fr.putObj{m:Mp}{h:AH}{w:World}{l D:Nat}{o':Obj}(hD:D<=l):Fr D m h w m h (w.putObj l o'):=
 ⟨rfl,rfl,rfl,by simp[World.putObj],m.le_refl,fun b hb k=>⟨World.putObj_heap_other (by omega),k⟩,fun _ _ k=>k⟩
theorem Zh(hG:GOK Γ)(hK:Known S Γ)(hcs:CallSim S Γ kk){m0:Mp}{h0:AH}{w0:World}{j:Job}{o:Out}(h:Ex Γ kk j o):
  ∀c st e st',j=.code c st->o=.st e st'->∀{code:Code}{a:Act}{w:World}{m:Mp}{Q:Exit->Act->World->Prop},zX S L n c code=true->FR S m L n B st a w->Fr B m0 h0 w0 m st.h w->
   Qa S L n B m0 h0 w0 e st' Q->WP' S.P code Q a w:=by
 induction h with
 | cskip=>
  rintro c st e st' ⟨⟩ ⟨⟩ code a w m Q hm hf hfr hQ;cases code<;>simp only[zX,bFt]at hm
  ·exact wp_skip (hQ _ _ _ ⟨rfl,m,hf,hfr⟩)
  ·exact wp_label (hQ _ _ _ ⟨rfl,m,hf,hfr⟩)
 | @reg k pan l st0 e0 st1 h hp ih=>
  rintro c st e st' ⟨⟩ ⟨⟩ code a w m Q hm hf hfr hQ;cases code<;>simp only[zX,bFt]at hm;rename_i id ops draw;have hr:=qWY h _ _ _ _ rfl rfl pan hp;have q1:e0=.nrm->∀a' w' m',FR S m' L n B st1 a' w'->Fr B m0 h0 w0 m' st1.h w'->Q .normal a' w':=fun he a' w' m' q1 q2=>hQ _ _ _ ⟨he,m',q1,q2⟩;have q2:∀v,e0=.pan v->∀a' w' m' u,MarksX S.X S.it B m' st1.h w' a'.defers->HR S.N m' st1.h w'->Fr B m0 h0 w0 m' st1.h w'->VR S.N m' v u->Q (.panic [{v:=u,recovered:=false}]) a' w':=
   fun v he a' w' m' u q0 q1 q2 q3=>hQ _ _ _ ⟨v,u,m',q0,he,rfl,q1,q2,q3⟩
  cases draw with
  | false=>
   have hm0:=hm;unfold W2 at hm;simp only[bFt,if_false,bAt]at hm;obtain⟨h1,h2⟩:=hm;unfold qA5 at h2;simp only[bAt,bIe]at h2;obtain⟨⟨⟨h3,h4⟩,h5⟩,h6⟩:=h2;refine wp_region ?_;have e1:List.range ops.size=l.map (·.i):=by rw[<-h3];exact(qU3 h4).symm
   rw[e1];exact qA6 hG hK hcs q1 (fun v he a' w' m' u _=>q2 v he a' w' m' u) h4 h1 h5 h6 hf (fun e _ hlt=>by omega) hfr hr
  | true=>
   have hR:=qe9 hm;refine wp_region_any S.mixed ?_;have hl:left (Array.replicate ops.size false) l=l:=by
    refine List.filter_eq_self.2 fun c hc=> ?_;have:=hR.rng c hc;simp[Array.getD,this]
   have hlen:l.length<=ops.size:=len_le hR;refine qfA hG hK hcs hR q1 q2 ops.size (by simp) (by rw[hl];exact hlen) ?_ hf.drew (fun e _ hlt=> ?_) (hfr.trans Fr.drew) (by rw[hl];exact hr)
   ·intro x o hx;simp[Array.getD]at hx
   ·simp[Array.getD]at hlt
 | @seqN k a0 b0 st0 st1 r h h' ih1 ih2=>
  rintro c st e st' ⟨⟩ rfl code a w m Q hm hf hfr hQ;cases code<;>simp only[zX,bFt,bAt]at hm;refine wp_seq (ih1 hcs _ _ _ _ rfl rfl hm.1 hf hfr ?_).wp;rintro x a1 w1 hx;cases x<;>simp only[Qx,reduceCtorEq,false_and,and_false,exists_false]at hx
  ·obtain⟨_,m1,q1,q2⟩:=hx;exact(ih2 hcs _ _ _ _ rfl rfl hm.2 q1 q2 hQ).wp
  all_goals try (obtain⟨_,_,_,_,q,_⟩:=hx;cases q)
 | @seqX k a0 b0 st0 e0 st1 h he ih=>
  rintro c st e st' ⟨⟩ ⟨⟩ code a w m Q hm hf hfr hQ;cases code<;>simp only[zX,bFt,bAt]at hm;refine wp_seq (ih hcs _ _ _ _ rfl rfl hm.1 hf hfr ?_).wp;rintro x a1 w1 hx;have:=hQ x a1 w1 hx;cases x with
  | normal=>exact absurd hx.1 he
  | _=>exact this
 | @cond k c0 a0 b0 st0 t r hc h ih=>
  rintro c st e st' ⟨⟩ rfl code a w m Q hm hf hfr hQ;cases code<;>simp only[zX,bFt,bAt]at hm;have hv:=qb (a:=a) hm.1.1 hf.slots hc;simp only[VR]at hv;refine wp_cond hv ?_;cases t with
  | true=>exact(ih hcs _ _ _ _ rfl rfl hm.1.2 hf hfr hQ).wp
  | false=>exact(ih hcs _ _ _ _ rfl rfl hm.2 hf hfr hQ).wp
 | @blk k i a0 st0 e0 st1 h ih=>
  rintro c st e st' ⟨⟩ ⟨⟩ code a w m Q hm hf hfr hQ;cases code<;>simp only[zX,bFt,bAt,bIe]at hm;obtain⟨rfl,hm⟩:=hm;refine wp_block (ih hcs _ _ _ _ rfl rfl hm hf hfr ?_).wp;rintro x a1 w1 hx;cases x with
  | normal=>
   obtain⟨rfl,q⟩:=hx;exact hQ _ _ _ ⟨rfl,q⟩
  | exit i'=>
   obtain⟨rfl,q⟩:=hx;simp only[Exit.inBlock];split
   ·rename_i hi;exact hQ _ _ _ ⟨by simp[Qv,hi],q⟩
   ·rename_i hi;exact hQ _ _ _ ⟨by simp[Qv,hi],q⟩
  | ret=>
   obtain⟨rfl,q⟩:=hx;exact hQ _ _ _ ⟨rfl,q⟩
  | panic ch=>
   obtain⟨v,u,m1,hd,rfl,q⟩:=hx;exact hQ _ _ _ ⟨v,u,m1,hd,rfl,q⟩
  | goto l=>exact hx.elim
  | outgrown=>exact hx.elim
 | @loopN k a0 st0 st1 r h h' ih1 ih2=>
  rintro c st e st' ⟨⟩ rfl code a w m Q hm hf hfr hQ;cases code<;>simp only[zX,bFt]at hm;rename_i body;refine LoopWp.step (ih1 hcs _ _ _ _ rfl rfl hm hf hfr ?_).wp;rintro x a1 w1 hx;cases x<;>simp only[Qx,reduceCtorEq,false_and,and_false,exists_false]at hx
  ·obtain⟨_,m1,q1,q2⟩:=hx;exact ih2 hcs _ _ _ _ rfl rfl (code:=.loop body) (by simpa only [zX]using hm) q1 q2 hQ
  all_goals try (obtain⟨_,_,_,_,q,_⟩:=hx;cases q)
 | @loopX k a0 st0 e0 st1 h he ih=>
  rintro c st e st' ⟨⟩ ⟨⟩ code a w m Q hm hf hfr hQ;cases code<;>simp only[zX,bFt]at hm;refine LoopWp.step (ih hcs _ _ _ _ rfl rfl hm hf hfr ?_).wp;rintro x a1 w1 hx;have:=hQ x a1 w1 hx;cases x with
  | normal=>exact absurd hx.1 he
  | _=>exact this
 | @rng k x ks p1 p2 a0 b0 st0 ns cl st1 hx hn h ih=>
  rintro c st e st' ⟨⟩ ⟨⟩ code a w m Q hm hf hfr hQ;cases code
  all_goals simp only[zX,bFt]at hm
 | exit=>
  rintro c st e st' ⟨⟩ ⟨⟩ code a w m Q hm hf hfr hQ;cases code<;>simp only[zX,bFt,bIe]at hm;subst hm;exact wp_exit (hQ _ _ _ ⟨rfl,m,hf,hfr⟩)
 | ret=>
  rintro c st e st' ⟨⟩ ⟨⟩ code a w m Q hm hf hfr hQ;cases code<;>simp only[zX,bFt]at hm;exact wp_ret (hQ _ _ _ ⟨rfl,m,hf,hfr⟩)
 | @frz k c0 st0 st1 r K hz h ih=>
  rintro c st e st' ⟨⟩ rfl code a w m Q hm hf hfr hQ;have hfr':Fr B m0 h0 w0 (m.frz K w) st1.h w:=by
   rw[hz.h];exact hfr.trans (Fr.frz hz.rows)
  exact ih hcs _ _ _ _ rfl rfl hm (hf.frz hz) hfr' hQ
 | @cvh k c0 st0 r K id wd el el' rw' hK hid ho hl' hc h ih=>
  rintro c st e st' ⟨⟩ rfl code a w m Q hm hf hfr hQ;exact ih hcs _ _ _ _ rfl rfl hm (hf.cvh hK hid ho hl' hc) (hfr.trans (Fr.cvh hK hid ho)) hQ
 | _=>rintro c st e st' ⟨⟩
where
 len_le:∀{S:qL}{L:List Nat}{n:Nat}{ns:List zp}{pan:Bool}{l:List qA}{ops:Array Oper},Kd S L n ns pan l ops->l.length<=ops.size:=by
  intro S L n ns pan l ops hR;have hnd:(l.map (·.i)).Nodup:=by
   rw[List.nodup_iff_pairwise_ne,List.pairwise_map];refine hR.pair.imp fun{y d} h=> ?_;unfold ZG at h;simp only[bAt,bNt,beq_eq_false_iff_ne]at h;exact h.1.1
  have hsub:(l.map (·.i))⊆List.range ops.size:=by
   intro i hi;obtain⟨c,hc,rfl⟩:=List.mem_map.1 hi;exact lMr.2 (hR.rng c hc)
  have:=nodup_len hnd hsub;simpa using this
 nodup_len:∀{xs ys:List Nat},xs.Nodup->xs⊆ys->xs.length<=ys.length:=by
  intro xs
  induction xs with
  | nil=>intro ys _ _;simp
  | cons x xs ih=>
   intro ys hn hs;rw[List.nodup_cons]at hn;have hx:x∈ys:=hs lMs;have h1:xs⊆ys.erase x:=by
    intro y hy;have:y≠x:=by rintro rfl;exact hn.1 hy
    exact(List.mem_erase_of_ne this).2 (hs (List.mem_cons_of_mem _ hy))
   have:=ih hn.2 h1;rw[List.length_erase_of_mem hx]at this;have hpos:0<ys.length:=List.length_pos_of_mem hx;simp only[lCo];omega
end
end Go.Ab
namespace Go.Ab
open Go
def mRes(S:qL)(L:List Nat):zb->ResultVar->Bool
 |.t n,.tmp t=>n==t&& !mem L t
 |.l n sh,.cell t T=>n==t&&wy S T sh
 |.h n sh,.cell t T=>n==t&& !mem L t&&wy S T sh
 | _,_=>false
def J2(S:qL)(L:List Nat):List zb->List ResultVar->Bool
 |[],[]=>true
 | x::xs,y::ys=>mRes S L x y&&J2 S L xs ys
 | _,_=>false
def JE:qG->List Nat
 |.reg _ l=>l.filterMap fun c=>if Q4 c.o then c.d else none
 |.seq a b=>JE a++JE b
 |.cond _ a b=>JE a++JE b
 |.blk _ a=>JE a
 |.loop a=>JE a
 | _=>[]
def ZA(S:qL)(F:qI)(fn:Func):Bool:=match fn.body with
 | some c=>decide (F.np<=fn.ntmps)&&J2 S (JE F.body) F.res fn.results.toList&&zX S (JE F.body) fn.ntmps F.body c
 | none=>false
section
variable {S:qL} {m:Mp} {L:List Nat} {n B:Nat} {st:St} {a:Act} {w:World}
theorem qd3(hf:FR S m L n B st a w){x:zb}{y:ResultVar}{v:AV}(h:mRes S L x y=true)(hv:jp st x=some v):
  ∃u,(match y with
   |.tmp t=>pure (a.tmps.getD t undef)
   |.cell b t=>do loadVar t (<-asAddr (a.tmps.getD b undef)):Sem Value).run S.P w=.ok u w/\VR S.N m v u:=by
 cases x<;>cases y<;>simp only[mRes,bFt,bAt,bIe,bNt]at h
 case t.tmp t t'=>
  obtain⟨rfl,h2⟩:=h;simp only[jp]at hv;exact⟨_,rfl,hf.slots _ _ hv (Zt.1 h2)⟩
 case l.cell t sh t' T=>
  obtain⟨rfl,h2⟩:=h;simp only[jp]at hv;cases hlk:lk st.l t with
  | none=>simp[hlk]at hv
  | some c=>
   simp only[hlk,oBs]at hv;obtain⟨_,b,h1,⟨cs,e,fz,hb,_,_,hcs⟩,_⟩:=hf.locs t c hlk;obtain⟨u,hu,hr⟩:=YW (S:=S) (t:=T) (sh:=sh) (o:=0) (j:=0) hb hcs hv h2;refine⟨u, ?_,hr⟩;have:a.tmps.getD t undef=.pointer (some ⟨b,0,none⟩):=by simp[Array.getD_eq_getD_getElem?,h1]
   simp[this,asAddr,hu]
 case h.cell t sh t' T=>
  obtain⟨⟨rfl,h1⟩,h2⟩:=h;simp only[jp]at hv;split at hv
  ·rename_i id i j hp;split at hv
   ·rename_i w' el rw' ho;cases hel:el[i]? with
    | none=>simp[hel]at hv
    | some e=>
     simp only[hel,oBs]at hv;have hp':=hf.slots _ _ hp (Zt.1 h1);obtain⟨u,hu,hr⟩:=qX4 (t:=T) hf.heap h2 hp' ho hel hv;obtain⟨p,_,hq⟩:=hp'.ptr_inv;refine⟨u, ?_,hr⟩;rw[hq]at hu;simp only[hq];simpa[asAddr,Instr.loadAt,Instr.sureAddr,Sem.run_bind]using hu
   ·cases hv
  ·cases hv
theorem qVX(hf:FR S m L n B st a w):∀{xs:List zb}{ys:List ResultVar}{vs:List AV},J2 S L xs ys=true->zC st xs=some vs->
  ∃us,(ys.mapM (fun |.tmp t=>pure (a.tmps.getD t undef) |.cell b t=>do loadVar t (<-asAddr (a.tmps.getD b undef)):ResultVar->Sem Value)).run S.P w=.ok us w/\VRs S.N m vs us
 |[],[],vs,_,h=>by
  simp only[zC,oSi]at h;subst h;exact⟨[],by simp,by simp only[VRs]⟩
 |[],_::_,_,h,_=>by simp[J2]at h
 | _::_,[],_,h,_=>by simp[J2]at h
 | x::xs,y::ys,vs,h,hv=>by
  simp only[J2,bAt]at h;simp only[zC]at hv;split at hv
  ·rename_i v vs' h1 h2;simp only[oSi]at hv;subst hv;obtain⟨u,hu,hr⟩:=qd3 hf h.1 h1;obtain⟨us,hus,hrs⟩:=qVX hf h.2 h2;refine⟨u::us, ?_,by simp only[VRs];exact⟨u,us,rfl,hr,hrs⟩⟩;rw[List.mapM_cons];simp only[Sem.run_bind];cases y with
   | tmp t=>
    simp only at hu|-;rw[hu];simp only[Result.andThen_ok];rw[hus];rfl
   | cell b t=>
    simp only at hu|-;rw[hu];simp only[Result.andThen_ok];rw[hus];rfl
  ·cases hv
theorem YU(hf:FR S m L n B st a w){fn:Func}{xs:List zb}{vs:List AV}(h:J2 S L xs fn.results.toList=true)(hv:zC st xs=some vs):
  ∃u,(results fn a.tmps).run S.P w=.ok u w/\VR S.N m (zQ vs) u:=by
 obtain⟨us,hus,hr⟩:=qVX hf h hv;have hlen:=hr.length;unfold results;rw[Array.mapM_eq_mapM_toList];simp only[Sem.run_bind,map_eq_pure_bind]
 erw [hus]
 simp only[Result.andThen_ok,Sem.run_pure];cases vs with
 | nil=>
  have:us=[]:=List.length_eq_zero_iff.1 (by simpa using hlen.symm);subst this;exact⟨_,rfl,by simp only[zQ,VR,VRs];exact⟨#[],by simp,rfl⟩⟩
 | cons v vs=>
  simp only[VRs]at hr;obtain⟨u,us',rfl,h1,h2⟩:=hr;cases vs with
  | nil=>
   simp only[VRs]at h2;subst h2;exact⟨_,rfl,by simpa[zQ]using h1⟩
  | cons v2 vs=>
   simp only[VRs]at h2;obtain⟨u2,us2,rfl,h3,h4⟩:=h2;refine⟨_,rfl, ?_⟩;simp only[zQ,VR];refine⟨(u::u2::us2).toArray,by simp, ?_⟩;simp only[VRs];exact⟨u,_,rfl,h1,u2,us2,rfl,h3,h4⟩
theorem FR.enter{h:AH}{as:List AV}{vs:Array Value}(hX:S.X=[])(hY:S.Yk=[])(hH:HR S.N m h w)(hvs:VRs S.N m as vs.toList)(hn:as.length<=n)(L:List Nat):
  FR S m L n w.heap.size {s:=params 0 as,l:=Env.empty,h:=h} {tmps:=vs++Array.replicate (n-vs.size) undef,defers:=[]} w where
 heap:=hH
 slots:=by
  intro t v ht _;have hp:∀(as:List AV)(us:List Value)(k:Nat),VRs S.N m as us->lk (params k as) t=some v->k<=t/\∃u,us[t-k]?=some u/\VR S.N m v u:=by
   intro as
   induction as with
   | nil=>intro us k _ h;cases h
   | cons a as ih=>
    intro us k h hl;simp only[VRs]at h;obtain⟨u,us',rfl,h1,h2⟩:=h;simp only[params,jD]at hl;split at hl
    ·rename_i hk;subst hk;cases hl;exact⟨nLr _,u,by simp,h1⟩
    ·obtain⟨q1,u',q2,q3⟩:=ih us' (k+1) h2 hl;refine⟨by omega,u', ?_,q3⟩;have:t-k=(t-(k+1))+1:=by omega
     rw[this,List.getElem?_cons_succ];exact q2
  obtain⟨_,u,h1,h2⟩:=hp as vs.toList 0 hvs ht;have h3:vs[t]?=some u:=by simpa using h1
  have hlt:t<vs.size:=by
   rcases Nat.lt_or_ge t vs.size with h | h
   ·exact h
   ·rw[Array.getElem?_eq_none h]at h3;cases h3
  have h4:(vs++Array.replicate (n-vs.size) undef)[t]?=some u:=by rw[Array.getElem?_append_left hlt];exact h3
  simp only[Array.getD_eq_getD_getElem?];rw[h4];exact h2
 locs:=fun t c h=>by cases h
 sep:=fun t t' c c' b h=>by cases h
 defers:=⟨[],by rw[hX];rfl,fun _=>rfl,by rw[hX];exact⟨List.nodup_nil,fun d h=>by cases h⟩⟩
 size:=by
  have:=hvs.length;simp only[Array.size_append,Array.size_replicate];simp only[Array.length_toList]at this;omega
 base:=nLr _
 pin:=fun t ht=>by rw[hY]at ht;cases ht
end
abbrev qL.lay(S:qL)(X:List Deferred)(Yk:List Nat)(Yv:Nat->Value):qL:={S with X:=X,Yk:=Yk,Yv:=Yv,it:=false,itX:=fun h=>(by cases h),itr:=fun h=>(by cases h)}
variable {S:qL}
theorem ZU{P:Program}{ops:Array Oper}{Q:Exit->Act->World->Prop}{i:Nat}{rest:List Nat}{a:Act}{w:World}{o:Oper}{v:Value}(ho:ops[i]?=some o)(hg:o.guard=none)
  (hr:(execOp a.eval o).run P w=.ok (.value v) w) (hk:wpOps P ops Q rest (a.put o.dst v) w):wpOps P ops Q (i::rest) a w:=by
 unfold wpOps;simp only[ho];have:Region.wanted o (yielded ops a.tmps)=true:=by unfold Region.wanted;rw[hg]
 rw[if_pos this];refine .inl ?_;unfold Oper.wp;rw[hr];exact hk
theorem qWX{m:Mp}{h:AH}{w:World}{s:Env}{a:Act}{c:AOp}{o:Oper}{av:AV}(hm:jM S [] [] c o.op=true)(hs:SlotR S.N m [] s a)(hH:HR S.N m h w)(hv:val c s Env.empty h=some av):
  ∃v,(execOp a.eval o).run S.P w=.ok (.value v) w/\VR S.N m av v:=
 qYV (l:=Env.empty) o c hm hs hH (fun y t off _ _ c hc=>by cases hc) hv
structure WL(S:qL)(t:jA)(cl:Func)(L:List Nat):Prop where
 ex:∃(i0 i1 i2 i3 n r y tup ok:Nat)(o0 o1 o2 o3 o4 o5:Oper)(hc Z:Code)(ts:Array TypeId)(Tx Ta:TypeId)(x2:Operand)(d:TypeDesc),
  cl.body=some (.seq (.region i0 #[o0] false) (.block n (.seq (.region i1 #[o1] false) (.cond (.tmp y) (.region i2 #[o2] false) (.seq (.region i3 #[o3,o4,o5] false) (.cond (.tmp ok) hc Z))))))/\
  (o0.op=.call ⟨.builtin .recover, #[],ts⟩/\o0.dst=some r/\o0.guard=none)/\(jM S [] [] (.isnil 4 false (.t r)) o1.op=true/\o1.dst=some y/\o1.guard=none)/\(o2.op=.assign x2/\o2.guard=none)/\
  (o3.op=.typeAssert (.tmp r) Tx Ta true/\o3.dst=some tup/\o3.guard=none)/\(o4.op=.extract (.tmp tup) 1/\o4.dst=some ok/\o4.guard=none)/\(o5.op=.extract (.tmp tup) 0/\o5.dst=some t.nh/\o5.guard=none)/\
  (S.N.t t.T=Ta/\S.P.underlying Ta=some d/\(∀ms,d≠.interface ms))/\
  (r<cl.ntmps/\y<cl.ntmps/\tup<cl.ntmps/\ok<cl.ntmps/\t.nh<cl.ntmps)/\(r∉L/\y∉L/\tup∉L/\ok∉L/\t.nh∉L)/\(tup≠r/\ok≠tup/\t.nh≠ok/\y≠r)/\
  (∀Yv,zX (S.lay [] (List.range t.cap.length) Yv) L cl.ntmps t.hnd hc=true)
 res:cl.results= #[]
 np:t.cap.length<=cl.ntmps
 L:∀i,i<t.cap.length->i∈L
def Js(cap:List Nat)(l:Env):Env:=fun i=>if i∈cap then lk l (cap.idxOf i)else none
theorem kR{l:List Nat}{i:Nat}(h:i∈l):l[l.idxOf i]?=some i:=by
 rw[gEg (List.idxOf_lt_length_of_mem h)];simp
theorem qb3{a:Act}{t:Nat}:a.eval (.tmp t)=a.tmps.getD t undef:=rfl
theorem FR.put1{m:Mp}{L:List Nat}{n B:Nat}{st:St}{a:Act}{w:World}(hf:FR S m L n B st a w){d:Nat}{av:AV}{v:Value}(hv:VR S.N m av v)(h1:d<n)(h2:d∉L):
  FR S m L n B {st with s:=st.s.set d av} (a.put (some d) v) w:=
 hf.next (d:=some d) hf.heap m.le_refl (nLr _) (fun b _ _ hF=>⟨rfl,hF⟩) hv (fun x hx=>by cases hx;exact⟨h1,h2⟩)
theorem FR.less{m:Mp}{L:List Nat}{n B:Nat}{st:St}{a:Act}{w:World}(hf:FR S m L n B st a w){s:Env}(hs:∀t v,lk s t=some v->lk st.s t=some v):FR S m L n B {st with s:=s} a w:=
 {heap:=hf.heap,slots:=fun t v ht=>hf.slots t v (hs t v ht),locs:=hf.locs,sep:=hf.sep,defers:=hf.defers,size:=hf.size,base:=hf.base,pin:=hf.pin}
section
variable {Γ:Nat->Option AFn} {kk:Nat} {t:jA} {cl:Func} {cf:FuncId} {L':List Nat} {X:List Deferred} {Yv:Nat->Value} {m:Mp} {L:List Nat} {n B:Nat} {st:St} {a:Act} {w:World} {caps:Array Value}
theorem qTX(hn:t.cap.length<=cl.ntmps)(hL:∀i,i<t.cap.length->i∈L')(hf:FR (S.lay X t.cap Yv) m L n B st a w)(hc:caps.toList=t.cap.map Yv)(hnd:t.cap.Nodup):
  FR (S.lay [] (List.range t.cap.length) (fun i=>caps.getD i undef)) m L' cl.ntmps B {s:=Env.empty,l:=wS t.cap st.l,h:=st.h} {tmps:=caps++Array.replicate (cl.ntmps-caps.size) undef,defers:=[]} w:=by
 have hsz:caps.size=t.cap.length:=by have:=congrArg List.length hc;simpa using this
 have hget:∀{i k:Nat},t.cap[i]?=some k->(caps++Array.replicate (cl.ntmps-caps.size) undef)[i]?=some (Yv k):=by
  intro i k hi;have h1:caps[i]?=some (Yv k):=by rw[<-Array.getElem?_toList,hc,gMp,hi];rfl
  rw[Array.getElem?_append_left (by rw[hsz];exact(gSi.1 hi).1)];exact h1
 have hat:∀{i:Nat}{c:AV},lk (wS t.cap st.l) i=some c->∃k,t.cap[i]?=some k/\lk st.l k=some c:=by
  intro i c h;unfold lk wS at h;cases hk:t.cap[i]? with
  | none=>rw[hk]at h;cases h
  | some k=>rw[hk]at h;exact⟨k,rfl,h⟩
 have hp:∀{i k:Nat}{b:Nat},t.cap[i]?=some k->a.tmps[k]?=some (.pointer (some ⟨b,0,none⟩))->(caps++Array.replicate (cl.ntmps-caps.size) undef)[i]?=some (.pointer (some ⟨b,0,none⟩)):=by
  intro i k b h1 h3;have:=(hf.pin k (lMo h1)).2;rw[h3]at this;rw[hget h1];exact this.symm
 exact{
  heap:=hf.heap
  slots:=fun i v h=>by cases h
  locs:=fun i c h=>by
   obtain⟨k,h1,h2⟩:=hat h;obtain⟨_,b,h3,h4,h5,h6⟩:=hf.locs k c h2;exact⟨hL i (gSi.1 h1).1,b,hp h1 h3,h4,h5,h6⟩
  sep:=fun i j c c' b h h' h1 h2=>by
   obtain⟨k,q1,q2⟩:=hat h;obtain⟨k',q1',q2'⟩:=hat h';obtain⟨_,b1,h3,_⟩:=hf.locs k c q2;obtain⟨_,b2,h3',_⟩:=hf.locs k' c' q2';have e1:=hp q1 h3;have e2:=hp q1' h3';simp only[h1,oSi,Value.pointer.injEq,Addr.mk.injEq,and_true]at e1;simp only[h2,oSi,Value.pointer.injEq,Addr.mk.injEq,and_true]at e2;subst e1;subst e2;have:=hf.sep k k' c c' b q2 q2' h3 h3';subst this;exact(List.getElem?_inj (gSi.1 q1).1 hnd).1 (q1.trans q1'.symm)
  defers:=⟨[],rfl,fun _=>rfl,List.nodup_nil,fun d h=>by cases h⟩
  size:=by simp only[Array.size_append,Array.size_replicate];omega
  base:=hf.base
  pin:=fun i hi=>by
   have hlt:=lMr.1 hi;refine⟨hL i hlt, ?_⟩;rw[Array.getElem?_append_left (by rw[hsz];exact hlt)];simp[Array.getD,hsz,hlt]}
theorem qaU{m':Mp}{s7:St}{a7:Act}{w7:World}(hf:FR (S.lay X t.cap Yv) m L n B st a w)(hc:caps.toList=t.cap.map Yv)(h7:FR (S.lay [] (List.range t.cap.length) (fun i=>caps.getD i undef)) m' L' cl.ntmps B s7 a7 w7)
  (hw:w.heap.size<=w7.heap.size):FR (S.lay [] [] Yv) m' L n B {s:=Env.empty,l:=Js t.cap s7.l,h:=s7.h} {a with defers:=[]} w7:=by
 have hsz:caps.size=t.cap.length:=by have:=congrArg List.length hc;simpa using this
 have hat:∀{i:Nat}{c:AV},lk (Js t.cap s7.l) i=some c->i∈t.cap/\lk s7.l (t.cap.idxOf i)=some c:=by
  intro i c h;unfold lk Js at h;split at h
  ·rename_i hi;exact⟨hi,h⟩
  ·cases h
 have hp:∀{i:Nat},i∈t.cap->a7.tmps[t.cap.idxOf i]?=a.tmps[i]?:=by
  intro i hi;have hlt:=List.idxOf_lt_length_of_mem hi;rw[(h7.pin _ (lMr.2 hlt)).2,(hf.pin i hi).2];have h1:caps[t.cap.idxOf i]?=some (Yv i):=by
   rw[<-Array.getElem?_toList,hc,gMp];rw[kR hi];rfl
  simp[Array.getD_eq_getD_getElem?,h1]
 exact{
  heap:=h7.heap
  slots:=fun i v h=>by cases h
  locs:=fun i c h=>by
   obtain⟨hi,h1⟩:=hat h;obtain⟨_,b,h3,h4⟩:=h7.locs _ c h1;rw[hp hi]at h3;exact⟨(hf.pin i hi).1,b,h3,h4⟩
  sep:=fun i j c c' b h h' h1 h2=>by
   obtain⟨hi,q1⟩:=hat h;obtain⟨hj,q2⟩:=hat h';have e:=h7.sep _ _ c c' b q1 q2 ((hp hi).trans h1) ((hp hj).trans h2);have e1:=kR hi;have e2:=kR hj;rw[e,e2]at e1;exact(Option.some.inj e1).symm
  defers:=⟨[],rfl,fun _=>rfl,List.nodup_nil,fun d h=>by cases h⟩
  size:=hf.size
  base:=nLt hf.base hw
  pin:=fun i hi=>by cases hi}
theorem qXS{ρ:Operand->Value}{o:Oper}{ts:Array TypeId}{P:Program}{w:World}(h:o.op=.call ⟨.builtin .recover, #[],ts⟩):(execOp ρ o).run P w=.ok .recover w:=by
 unfold execOp;simp only[h];simp[resolve,invoke,builtin]
theorem qfI{ρ:Operand->Value}{o:Oper}{x:Operand}{Tx Ta:TypeId}{P:Program}{w:World}{d:TypeDesc}{u:Value}(h:o.op=.typeAssert x Tx Ta true)(hx:ρ x=.iface Ta u)(hd:P.underlying Ta=some d)(hn:∀ms,d≠.interface ms):
  (execOp ρ o).run P w=.ok (.value (.tuple #[u,.bool true])) w:=by
 unfold execOp;simp only[h,hx];refine YX ?_;unfold Instr.typeAssert;simp only[Sem.run_bind,run_underlying hd w,Result.andThen_ok];cases d<;>first | exact absurd rfl (hn _) | simp
theorem qXQ{ρ:Operand->Value}{o:Oper}{x:Operand}{P:Program}{w:World}{vs:Array Value}{i:Nat}{v:Value}(h:o.op=.extract x i)(hx:ρ x=.tuple vs)(hv:vs[i]?=some v):
  (execOp ρ o).run P w=.ok (.value v) w:=by
 unfold execOp;simp only[h,hx];refine YX ?_;unfold Instr.extract;simp[hv]
theorem CallSim.lay{X:List Deferred}{Yk:List Nat}{Yv:Nat->Value}(h:CallSim S Γ kk):CallSim (S.lay X Yk Yv) Γ kk:=fun g as h' r h2 hx m w vs hH hvs=>h g as h' r h2 hx m w vs hH hvs
theorem Known.lay{X:List Deferred}{Yk:List Nat}{Yv:Nat->Value}(h:Known S Γ):Known (S.lay X Yk Yv) Γ:=fun g hg args w=>h g hg args w
theorem Q1{a:Act}{d:Nat}{v:Value}(h:d<a.tmps.size):(a.put (some d) v).tmps.getD d undef=v:=by rw[W0,if_pos ⟨rfl,h⟩]
theorem kP{a:Act}{d t:Nat}{v:Value}(h:t≠d):(a.put (some d) v).tmps.getD t undef=a.tmps.getD t undef:=by rw[W0,if_neg (fun q=>h q.1)]
theorem qXT{fn:Func}{P:Program}{w:World}{tmps:Array Value}(h:fn.results= #[]):∃v,(results fn tmps).run P w=.ok v w:=by
 unfold results;rw[h];simp
theorem qcL(hG:GOK Γ)(hK:Known S Γ)(hcs:CallSim S Γ kk)(hfn:S.P.funcs[cf]?=some cl)(hF:WL S t cl L')(hf:FR (S.lay X t.cap Yv) m L n B st a w)(hc:caps.toList=t.cap.map Yv)(hnd:t.cap.Nodup){u:Value}{v:AV}(hu:VR S.N m (.iface t.T v) u)
  {s7:St} (hx:Ex Γ kk (.code t.hnd {s:=Env.empty.set t.nh v,l:=wS t.cap st.l,h:=st.h}) (.st .nrm s7)):
  CallsDIn Fence.wide 4 S.P cf caps (.panicking [{v:=u,recovered:=false}]) w fun e u' w'=>(∃ve,e=.returned ve)/\u'=.panicking [{v:=u,recovered:=true}]/\
   ∃m',Fr B m st.h w m' s7.h w'/\FR (S.lay [] [] Yv) m' L n B {s:=Env.empty,l:=Js t.cap s7.l,h:=s7.h} {a with defers:=[]} w':=by
 obtain⟨⟨i0,i1,i2,i3,nb,r,y,tup,ok,o0,o1,o2,o3,o4,o5,hcd,Z,ts,Tx,Ta,x2,d,hb,⟨p0,p0d,p0g⟩,⟨p1,p1d,p1g⟩,⟨p2,p2g⟩,⟨p3,p3d,p3g⟩,⟨p4,p4d,p4g⟩,⟨p5,p5d,p5g⟩,⟨pT,pd,pni⟩,⟨z1,z2,z3,z4,z5⟩,⟨l1,l2,l3,l4,l5⟩,⟨n1,n2,n3,n4⟩,hm⟩,hres,hnp,hL⟩:=hF;have h0:=qTX (cl:=cl) hnp hL hf hc hnd;simp only[VR]at hu;obtain⟨u',rfl,hu⟩:=hu;subst pT;refine callsDIn_of_wpSIn hfn hb trivial ?_;intro c₀ cs hmode;refine wpSIn_seq (wpSIn_region ?_);show wpOpsSIn _ _ _ _ _ [0] _ _ _;unfold wpOpsSIn;simp only[List.getElem?_toArray,List.getElem?_cons_zero];refine⟨fun _ _=>trivial, ?_⟩;have hwt:∀a,Region.wanted o0 (yielded #[o0] a)=true:=fun a=>by unfold Region.wanted;rw[p0g]
 rw[if_pos (hwt _),qXS p0];have hrec:recoverD (c₀::cs)=some (.iface (S.N.t t.T) u',{c₀ with mode:=.panicking [{v:=.iface (S.N.t t.T) u',recovered:=true}]}::cs):=by simp[recoverD,hmode]
 simp only[hrec,p0d];show Code.wpSIn _ _ _ _ _ _ _ _;refine wpSIn_of_wpIn rfl (wpIn_wide.2 ?_)
 --the panic's value in its slot
 have f1:=h0.put1 (d:=r) (av:=.iface t.T v) (v:=.iface (S.N.t t.T) u') (by simp only[VR];exact⟨u',rfl,hu⟩) z1 l1;generalize ha1:Act.put _ (some r) (Value.iface (S.N.t t.T) u')=a1 at f1|-;have e1:a1.tmps.getD r undef=.iface (S.N.t t.T) u':=by rw[<-ha1];exact Q1 (by rw[h0.size];exact z1)
 clear ha1;refine wp_block (wp_seq (wp_region ?_));show wpOps _ _ _ [0] _ _;obtain⟨b1,hb1,hv1⟩:=qWX (S:=S) (m:=m) (h:=st.h) (w:=w) (s:=Env.empty.set r (.iface t.T v)) (a:=a1) (av:=.bool false) p1 (fun i x hi _=>by
  rw[jD]at hi;split at hi
  ·rename_i e;subst e;cases hi;rw[e1];simp only[VR];exact⟨u',rfl,hu⟩
  ·cases hi) hf.heap (by simp[val,ev,jD,AV.isNil])
 simp only[VR]at hv1;subst hv1;refine ZU (o:=o1) rfl p1g hb1 ?_;rw[p1d];have f2:=f1.put1 (d:=y) (av:=.bool false) (v:=.bool false) (by simp only[VR]) z2 l2;have e2:(a1.put (some y) (.bool false)).tmps.getD y undef=.bool false:=Q1 (by rw[f1.size];exact z2);have e2':(a1.put (some y) (.bool false)).tmps.getD r undef=.iface (S.N.t t.T) u':=by rw[kP (Ne.symm n4)];exact e1
 generalize Act.put a1 (some y) (Value.bool false)=a2 at f2 e2 e2'|-;show Exit.then _ _ .normal _ _;refine wp_cond_false e2 ?_;refine wp_seq (wp_region ?_);show wpOps _ _ _ [0,1,2] _ _;refine ZU (o:=o3) rfl p3g (qfI p3 e2' pd pni) ?_;rw[p3d];have f3:=f2.put1 (d:=tup) (av:=.any) (v:=.tuple #[u',.bool true]) (by simp only[VR]) z3 l3;have e3:(a2.put (some tup) (.tuple #[u',.bool true])).tmps.getD tup undef=.tuple #[u',.bool true]:=Q1 (by rw[f2.size];exact z3);generalize Act.put a2 (some tup) _=a3 at f3 e3|-;refine ZU (o:=o4) rfl p4g (qXQ p4 e3 (v:=.bool true) rfl) ?_;rw[p4d];have f4:=f3.put1 (d:=ok) (av:=.any) (v:=.bool true) (by simp only[VR]) z4 l4;have e4:(a3.put (some ok) (.bool true)).tmps.getD ok undef=.bool true:=Q1 (by rw[f3.size];exact z4);have e4':(a3.put (some ok) (.bool true)).tmps.getD tup undef=.tuple #[u',.bool true]:=by rw[kP (Ne.symm n2)];exact e3
 generalize Act.put a3 (some ok) _=a4 at f4 e4 e4'|-;refine ZU (o:=o5) rfl p5g (qXQ p5 e4' (v:=u') rfl) ?_;rw[p5d];have f5:=f4.put1 (d:=t.nh) (av:=v) (v:=u') hu z5 l5;have e5:(a4.put (some t.nh) u').tmps.getD ok undef=.bool true:=by rw[kP (Ne.symm n3)];exact e4
 generalize Act.put a4 (some t.nh) _=a5 at f5 e5|-;have f6:=f5.less (s:=Env.empty.set t.nh v) (fun i x hi=>by
  rw[jD]at hi;split at hi
  ·rename_i e;subst e;cases hi;simp only[jD,if_pos]
  ·cases hi)
 show Exit.then _ _ .normal _ _;refine wp_cond_true e5 ?_;refine(Zh hG hK.lay hcs.lay hx _ _ _ _ rfl rfl (hm _) f6 (Fr.refl _ _ _ _) ?_).wp;intro e a' w' hq;cases e with
 | normal=>
  obtain⟨-,m',q1,q2⟩:=hq;obtain⟨ve,hve⟩:=qXT (fn:=cl) (P:=S.P) (w:=w') (tmps:=a'.tmps) hres;obtain⟨ms,em,hem,_⟩:=q1.defers;have:=hem rfl;subst this;exact⟨em,_,rfl,ve,hve,⟨ve,rfl⟩,rfl,m',q2,qaU hf hc q1 q2.size⟩
 | _=>first | exact hq.elim | cases hq.1 | (obtain⟨_,_,_,_,q,_⟩:=hq;cases q)
theorem qcK(hfn:S.P.funcs[cf]?=some cl)(hF:WL S t cl L')(hf:FR (S.lay X t.cap Yv) m L n B st a w)(hc:caps.toList=t.cap.map Yv)(hnd:t.cap.Nodup):
  CallsDIn Fence.wide 4 S.P cf caps .returning w fun e u' w'=>(∃ve,e=.returned ve)/\u'=.returning/\w'=w:=by
 obtain⟨⟨i0,i1,i2,i3,nb,r,y,tup,ok,o0,o1,o2,o3,o4,o5,hcd,Z,ts,Tx,Ta,x2,d,hb,⟨p0,p0d,p0g⟩,⟨p1,p1d,p1g⟩,⟨p2,p2g⟩,⟨p3,p3d,p3g⟩,⟨p4,p4d,p4g⟩,⟨p5,p5d,p5g⟩,⟨pT,pd,pni⟩,⟨z1,z2,z3,z4,z5⟩,⟨l1,l2,l3,l4,l5⟩,⟨n1,n2,n3,n4⟩,hm⟩,hres,hnp,hL⟩:=hF;have h0:=qTX (cl:=cl) hnp hL hf hc hnd;refine callsDIn_of_wpSIn hfn hb trivial ?_;intro c₀ cs hmode;refine wpSIn_seq (wpSIn_region ?_);show wpOpsSIn _ _ _ _ _ [0] _ _ _;unfold wpOpsSIn;simp only[List.getElem?_toArray,List.getElem?_cons_zero];refine⟨fun _ _=>trivial, ?_⟩;have hwt:∀a,Region.wanted o0 (yielded #[o0] a)=true:=fun a=>by unfold Region.wanted;rw[p0g]
 rw[if_pos (hwt _),qXS p0];have hrec:recoverD (c₀::cs)=none:=by simp[recoverD,hmode]
 simp only[hrec,p0d];show Code.wpSIn _ _ _ _ _ _ _ _;refine wpSIn_of_wpIn rfl (wpIn_wide.2 ?_);have f1:=h0.put1 (d:=r) (av:=.nili) (v:=.nilIface) (by simp only[VR]) z1 l1;have g1:∀(a:Act)(v:Value),(a.put (some r) v).defers=a.defers:=fun a v=>Wz;generalize hd1:Act.put _ (some r) Value.nilIface=a1 at f1|-;have e1:a1.tmps.getD r undef=.nilIface:=by rw[<-hd1];exact Q1 (by rw[h0.size];exact z1)
 have e0:a1.defers=[]:=by rw[<-hd1,g1]
 clear hd1;refine wp_block (wp_seq (wp_region ?_));show wpOps _ _ _ [0] _ _;obtain⟨b1,hb1,hv1⟩:=qWX (S:=S) (m:=m) (h:=st.h) (w:=w) (s:=Env.empty.set r .nili) (a:=a1) (av:=.bool true) p1 (fun i x hi _=>by
  rw[jD]at hi;split at hi
  ·rename_i e;subst e;cases hi;rw[e1];simp only[VR]
  ·cases hi) hf.heap (by simp[val,ev,jD,AV.isNil])
 simp only[VR]at hv1;subst hv1;refine ZU (o:=o1) rfl p1g hb1 ?_;rw[p1d];have e2:(a1.put (some y) (.bool true)).tmps.getD y undef=.bool true:=Q1 (by rw[f1.size];exact z2);have e20:(a1.put (some y) (.bool true)).defers=[]:=by rw[Wz];exact e0
 generalize Act.put a1 (some y) (Value.bool true)=a2 at e2 e20|-;show Exit.then _ _ .normal _ _;refine wp_cond_true e2 ?_;refine wp_region ?_;show wpOps _ _ _ [0] _ _;refine ZU (o:=o2) (v:=a2.eval x2) rfl p2g (by unfold execOp;simp only[p2];rfl) ?_;obtain⟨ve,hve⟩:=qXT (fn:=cl) (P:=S.P) (w:=w) (tmps:=(a2.put o2.dst (a2.eval x2)).tmps) hres;have hc0:({c₀ with mode:=.returning}:Frame)=c₀:=by rw[<-hmode]
 exact⟨by rw[Wz];exact e20,.returning,by rw[hc0],ve,hve,⟨ve,rfl⟩,rfl,rfl⟩
end
end Go.Ab
namespace Go.Ab
open Go
section
variable {S:qL} {Γ:Nat->Option AFn} {kk:Nat} {m:Mp} {L:List Nat} {n B:Nat} {st st':St} {a:Act} {w:World}
theorem J6(hG:GOK Γ)(hK:Known S Γ)(hcs:CallSim S Γ kk){c0:qG}{code rest:Code}{Q:Exit->Act->World->Prop}(h:Ex Γ kk (.code c0 st) (.st .nrm st'))(hm:zX S L n c0 code=true)(hf:FR S m L n B st a w)
  (hk:∀a' w' m',FR S m' L n B st' a' w'->Fr B m st.h w m' st'.h w'->rest.wp S.P Q a' w'):(Code.seq code rest).wp S.P Q a w:=by
 refine wp_seq (Zh hG hK hcs h _ _ _ _ rfl rfl hm hf (Fr.refl _ _ _ _) ?_).wp;intro e a' w' hq;cases e with
 | normal=>obtain⟨-,m',q1,q2⟩:=hq;exact hk a' w' m' q1 q2
 | _=>first | exact hq.elim | cases hq.1 | (obtain⟨_,_,_,_,q,_⟩:=hq;cases q)
theorem qXL(hG:GOK Γ)(hK:Known S Γ)(hcs:CallSim S Γ kk){l:List qA}{id:Nat}{ops:Array Oper}{Q:Exit->Act->World->Prop}{v:AV}(h:Ex Γ kk (.ops l st) (.st (.pan v) st'))(hm:zX S L n (.reg true l) (.region id ops false)=true)(hf:FR S m L n B st a w)
  (hk:∀a' w' m' u,FR S m' L n B st' a' w'->Fr B m st.h w m' st'.h w'->VR S.N m' v u->Q (.panic [{v:=u,recovered:=false}]) a' w'):(Code.region id ops false).wp S.P Q a w:=by
 have hr:=qWY h _ _ _ _ rfl rfl true (.inl rfl);simp only[zX]at hm;unfold W2 at hm;simp only[bFt,if_false,bAt]at hm;obtain⟨h1,h2⟩:=hm;unfold qA5 at h2;simp only[bAt,bIe]at h2;obtain⟨⟨⟨h3,h4⟩,h5⟩,h6⟩:=h2;refine wp_region ?_;have e1:List.range ops.size=l.map (·.i):=by rw[<-h3];exact(qU3 h4).symm
 rw[e1];exact qA6 hG hK hcs (fun e=>by cases e) (fun v' he a' w' m' u q1 _ _ q2 q3=>by cases he;exact hk a' w' m' u q1 q2 q3) h4 h1 h5 h6 hf (fun e _ hlt=>by omega) (Fr.refl _ _ _ _) hr
def resP(cap:List Nat):zb->Option zb
 |.l i sh=>if i∈cap then some (.l (cap.idxOf i) sh)else none
 | _=>none
def Z4(cap:List Nat):List zb->Option (List zb)
 |[]=>some []
 | x::xs=>match resP cap x,Z4 cap xs with
  | some y,some ys=>some (y::ys)
  | _,_=>none
theorem qXN{cap:List Nat}{s7:St}:∀{xs ys:List zb}{vs:List AV},Z4 cap xs=some ys->zC s7 ys=some vs->zC {s:=Env.empty,l:=Js cap s7.l,h:=s7.h} xs=some vs
 |[],ys,vs,h,h2=>by
  simp only[Z4,oSi]at h;subst h;exact h2
 | x::xs,ys,vs,h,h2=>by
  simp only[Z4]at h;split at h
  ·rename_i y ys' e1 e2;simp only[oSi]at h;subst h;simp only[zC]at h2|-;split at h2
   ·rename_i v vs' g1 g2;rw[qXN e2 g2];have:jp {s:=Env.empty,l:=Js cap s7.l,h:=s7.h} x=some v:=by
     unfold resP at e1;split at e1
     ·rename_i i sh;split at e1
      ·rename_i hi;simp only[oSi]at e1;subst e1;simp only[jp]at g1|-;have:lk (Js cap s7.l) i=lk s7.l (cap.idxOf i):=by
        show Js cap s7.l i=_;unfold Js;rw[if_pos hi]
       rw[this];exact g1
      ·cases e1
     ·cases e1
    rw[this];exact h2
   ·cases h2
  ·cases h
theorem FR.laid(hf:FR (S.lay [] [] (fun _=>undef)) m L n B st a w){d5:Nat}{cap:List Nat}{d:Deferred}{v:Value}(h1:d5<n)(h2:d5∉L)(hc:∀i∈cap,∃c,lk st.l i=some c)(hd:Zo d=false):
  FR (S.lay [d] cap (fun i=>a.tmps.getD i undef)) m L n B {st with s:=st.s.set d5 .any} {a.put (some d5) v with defers:=d::(a.put (some d5) v).defers} w:=by
 have f1:=hf.put1 (d:=d5) (av:=.any) (v:=v) (by simp only[VR]) h1 h2;obtain⟨ms,em,hem,_⟩:=f1.defers;have:=hem rfl;subst this;have e0:(a.put (some d5) v).defers=[]:=em;exact{
  heap:=f1.heap
  slots:=f1.slots
  locs:=f1.locs
  sep:=f1.sep
  defers:=by
   rw[e0];refine⟨[],rfl,fun _=>rfl, ?_⟩;show Marks B m st.h w ([].append (List.filter Zo [d]));rw[List.filter_cons_of_neg (by rw[hd];simp)];exact⟨List.nodup_nil,fun d h=>by cases h⟩
  size:=f1.size
  base:=f1.base
  pin:=fun i hi=>by
   obtain⟨c,hl⟩:=hc i hi;obtain⟨hL,b,h3,_⟩:=hf.locs i c hl;refine⟨hL, ?_⟩;show (a.put (some d5) v).tmps[i]?=_;rw[JZ (by rintro rfl;exact h2 hL),h3];simp[Array.getD_eq_getD_getElem?,h3]}
end
structure Kg(S:qL)(g:Nat)(t:jA):Prop where
 ex:∃(fn cl:Func)(cf:FuncId)(c0 c1 c2 c3 c6 c8 ct:Code)(iD i7 i9:Nat)(oA oB:Oper)(ops7 ops9:Array Oper)(y:Operand)(L L':List Nat)(ts:Array TypeId),
  S.P.funcs[S.N.f g]?=some fn/\S.P.funcs[cf]?=some cl/\(∀(args:Array Value)(w:World),(callFunc cf args).run S.P w=.ok (.enter cf args) w)/\
  fn.body=some (.seq c0 (.seq c1 (.seq c2 (.seq c3 (.seq (.region iD #[oA,oB] false) (.seq c6 (.seq (.region i7 ops7 false) (.seq (.seq c8 (.cond y (.region i9 ops9 false) .skip)) ct))))))))/\
  (oA.op=.makeFunc (.func cf) #[] (t.cap.map Operand.tmp).toArray/\oA.dst=some t.d5/\oA.guard=none)/\(oB.op=.defer ⟨.value (.tmp t.d5), #[],ts⟩/\oB.dst=none/\oB.guard=none)/\
  WL S t cl L'/\t.np<=fn.ntmps/\(t.d5<fn.ntmps/\t.d5∉L)/\t.cap.Nodup/\Z4 t.cap t.res=some t.resH/\(∀X Yk Yv,J2 (S.lay X Yk Yv) L t.res fn.results.toList=true)/\
  (zX (S.lay [] [] (fun _=>undef)) L fn.ntmps t.p0 c0=true/\zX (S.lay [] [] (fun _=>undef)) L fn.ntmps t.p1 c1=true/\zX (S.lay [] [] (fun _=>undef)) L fn.ntmps t.p2 c2=true/\zX (S.lay [] [] (fun _=>undef)) L fn.ntmps t.p3 c3=true)/\
  ∀X Yv,zX (S.lay X t.cap Yv) L fn.ntmps t.mid c6=true/\zX (S.lay X t.cap Yv) L fn.ntmps (.reg true t.l7) (.region i7 ops7 false)=true/\zX (S.lay X t.cap Yv) L fn.ntmps t.r8 c8=true/\mAo S.N L t.x y=true/\
   zX (S.lay X t.cap Yv) L fn.ntmps (.reg true t.l9) (.region i9 ops9 false)=true/\zX (S.lay X t.cap Yv) L fn.ntmps t.tail ct=true
def qY6(Γ:Nat->Option AFn)(k:Nat)(t:jA)(s4:St)(vs:List AV)(h':AH):Prop:=
  ∃s5,Ex Γ k (.code t.mid {s4 with s:=s4.s.set t.d5 .any}) (.st .nrm s5)/\
    ((∃s6 s7 e s8,Ex Γ k (.ops t.l7 s5) (.st .nrm s6)/\Ex Γ k (.code t.r8 s6) (.st .nrm s7)/\ev s7.s t.x=some (.bool false)/\Ex Γ k (.code t.tail s7) (.st e s8)/\(e=.nrm\/e=.ret)/\zC s8 t.res=some vs/\h'=s8.h)\/
     (∃s6 v s7,Ex Γ k (.ops t.l7 s5) (.st (.pan (.iface t.T v)) s6)/\Ex Γ k (.code t.hnd {s:=Env.empty.set t.nh v,l:=wS t.cap s6.l,h:=s6.h}) (.st .nrm s7)/\zC s7 t.resH=some vs/\h'=s7.h)\/
     (∃s6 s7 v s8 s9,Ex Γ k (.ops t.l7 s5) (.st .nrm s6)/\Ex Γ k (.code t.r8 s6) (.st .nrm s7)/\ev s7.s t.x=some (.bool true)/\Ex Γ k (.ops t.l9 s7) (.st (.pan (.iface t.T v)) s8)/\
       Ex Γ k (.code t.hnd {s:=Env.empty.set t.nh v,l:=wS t.cap s8.l,h:=s8.h}) (.st .nrm s9)/\zC s9 t.resH=some vs/\h'=s9.h))
section
variable {S:qL} {Γ:Nat->Option AFn} {kk:Nat} {m:Mp} {L L':List Nat} {n B:Nat} {st:St} {a:Act} {w:World} {t:jA} {fn cl:Func} {cf:FuncId} {caps:Array Value} {Yv:Nat->Value}
theorem qUB{d:Deferred}{Yk:List Nat}(hf:FR (S.lay [d] Yk Yv) m L n B st a w):a.defers=[d]:=by
 obtain⟨ms,em,hem,_⟩:=hf.defers;have:=hem rfl;subst this;exact em
theorem qdW(hfn:S.P.funcs[cf]?=some cl)(hkc:∀(args:Array Value)(w:World),(callFunc cf args).run S.P w=.ok (.enter cf args) w)(hF:WL S t cl L')(hnd:t.cap.Nodup)(hc:caps.toList=t.cap.map Yv)
  (hf:FR (S.lay [{target:=.fn (.func cf) caps,args:= #[]}] t.cap Yv) m L fn.ntmps B st a w) {R:Ending->World->Prop} (hR:∃v,(results fn a.tmps).run S.P w=.ok v w/\R (.returned v) w):
  LeavesIn Fence.wide 5 S.P fn a.tmps R a.defers .returning w:=by
 rw[qUB hf];refine leavesIn_cons (by simp) (fun h=>by cases h) (f:=cf) (args:=caps) ?_ (fun _ _=>trivial) ?_
 ·unfold invoke;simp[hkc]
 ·refine CallsDIn.mono (qcK hfn hF hf hc hnd) ?_;rintro e u' w' ⟨⟨ve,rfl⟩,rfl,rfl⟩;exact hR
theorem qVQ(hG:GOK Γ)(hK:Known S Γ)(hcs:CallSim S Γ kk)(hfn:S.P.funcs[cf]?=some cl)(hkc:∀(args:Array Value)(w:World),(callFunc cf args).run S.P w=.ok (.enter cf args) w)(hF:WL S t cl L')(hnd:t.cap.Nodup)(hc:caps.toList=t.cap.map Yv)
  (hf:FR (S.lay [{target:=.fn (.func cf) caps,args:= #[]}] t.cap Yv) m L fn.ntmps B st a w) {u:Value} {v:AV} (hu:VR S.N m (.iface t.T v) u)
  {s7:St} (hx:Ex Γ kk (.code t.hnd {s:=Env.empty.set t.nh v,l:=wS t.cap st.l,h:=st.h}) (.st .nrm s7)) {us:List AV} (hr:zC s7 t.resH=some us) (hres:Z4 t.cap t.res=some t.resH) (hms:J2 (S.lay [] [] Yv) L t.res fn.results.toList=true)
  {R:Ending->World->Prop} (hR:∀m' w' u,Fr B m st.h w m' s7.h w'->HR S.N m' s7.h w'->VR S.N m' (zQ us) u->R (.returned u) w'):
  LeavesIn Fence.wide 5 S.P fn a.tmps R a.defers (.panicking [{v:=u,recovered:=false}]) w:=by
 rw[qUB hf];refine leavesIn_cons (by simp) (fun h=>by cases h) (f:=cf) (args:=caps) ?_ (fun _ _=>trivial) ?_
 ·unfold invoke;simp[hkc]
 ·refine CallsDIn.mono (qcL hG hK hcs hfn hF hf hc hnd hu hx) ?_;rintro e u' w' ⟨⟨ve,rfl⟩,rfl,m',q1,q2⟩;obtain⟨x,h1,h2⟩:=YU q2 hms (qXN hres hr);exact⟨x,h1,hR m' w' x q1 q2.heap h2⟩
theorem Yp(hG:GOK Γ)(hK:Known S Γ)(hcs:CallSim S Γ kk){g:Nat}(hF:Kg S g t){h h':AH}{as:List AV}{vs:Array Value}{us:List AV}(hH:HR S.N m h w)(hvs:VRs S.N m as vs.toList)(hn:as.length=t.np){s1 s2 s3:St}
  (h0:Ex Γ kk (.code t.p0 {s:=params 0 as,l:=Env.empty,h:=h}) (.st .nrm s1)) (h1:Ex Γ kk (.code t.p1 s1) (.st .nrm s2)) (h2:Ex Γ kk (.code t.p2 s2) (.st .nrm s3))
  (hend:(∃s4,Ex Γ kk (.code t.p3 s3) (.st .ret s4)/\zC s4 t.res=some us/\h'=s4.h)\/∃s4,Ex Γ kk (.code t.p3 s3) (.st .nrm s4)/\(∀i∈t.cap,∃c,lk s4.l i=some c)/\qY6 Γ kk t s4 us h'):
  Calls S.P (S.N.f g) vs w fun e w'=>∃m',Fr w.heap.size m h w m' h' w'/\HR S.N m' h' w'/\∃u,e=.returned u/\VR S.N m' (zQ us) u:=by
 obtain⟨fn,cl,cf,c0,c1,c2,c3,c6,c8,ct,iD,i7,i9,oA,oB,ops7,ops9,y,L,L',ts,hfn,hcl,hkc,hbody,⟨a1,a2,a3⟩,⟨b1,b2,b3⟩,hhnd,hnp,⟨hd5,hdL⟩,hnd,hres,hms,⟨k0,k1,k2,k3⟩,hk⟩:=hF.ex;refine callsIn_wide.1 (callsIn_of_wp_defers (n:=5) hfn hbody trivial (wpIn_wide.2 ?_) rfl);have f0:=FR.enter (S:=S.lay [] [] (fun _=>undef)) rfl rfl hH hvs (show as.length<=fn.ntmps by omega) L;refine J6 hG hK.lay hcs.lay h0 k0 f0 (fun x1 w1 m1 f1 g1=> ?_);refine J6 hG hK.lay hcs.lay h1 k1 f1 (fun x2 w2 m2 f2 g2=> ?_);refine J6 hG hK.lay hcs.lay h2 k2 f2 (fun x3 w3 m3 f3 g3=> ?_);have g03:=(g1.trans g2).trans g3;rcases hend with⟨s4,h3,hr,rfl⟩ | ⟨s4,h3,hcap,s5,hmid,hrest⟩
 ·refine wp_seq (Zh hG hK.lay hcs.lay h3 _ _ _ _ rfl rfl k3 f3 (Fr.refl _ _ _ _) ?_).wp;intro e a' w' hq;cases e with
  | ret=>
   obtain⟨-,m4,f4,g4⟩:=hq;obtain⟨x,q1,q2⟩:=YU f4 (hms _ _ _) hr;obtain⟨ms,em,hem,_⟩:=f4.defers;have:=hem rfl;subst this;show LeavesIn _ _ _ _ _ _ a'.defers _ _;rw[em];exact⟨x,q1,m4,g03.trans g4,f4.heap,x,rfl,q2⟩
  | _=>first | exact hq.elim | cases hq.1 | (obtain⟨_,_,_,_,q,_⟩:=hq;cases q)
 refine J6 hG hK.lay hcs.lay h3 k3 f3 (fun x4 w4 m4 f4 g4=> ?_)
 --the closure is laid by
 refine wp_seq (wp_region ?_);show wpOps _ _ _ [0,1] _ _;refine ZU (o:=oA) (v:=.func (.func cf) #[] ((t.cap.map fun i=>x4.tmps.getD i undef).toArray)) rfl a3 ?_ ?_
 ·unfold execOp;simp only[a1];refine YX ?_;unfold Instr.makeFunc;simp[qb3,Function.comp_def]
 rw[a2];have e5:∀v:Value,(x4.put (some t.d5) v).tmps.getD t.d5 undef=v:=fun v=>Q1 (by rw[f4.size];exact hd5);generalize hcaps:(t.cap.map fun i=>x4.tmps.getD i undef).toArray=caps;have hc:caps.toList=t.cap.map fun i=>x4.tmps.getD i undef:=by rw[<-hcaps]
 have f5:=f4.laid (d5:=t.d5) (cap:=t.cap) (d:={target:=.fn (.func cf) caps,args:= #[]}) (v:=.func (.func cf) #[] caps) hd5 hdL hcap rfl;have e5:=e5 (.func (.func cf) #[] caps);generalize x4.put (some t.d5) (.func (.func cf) #[] caps)=x5 at f5 e5|-;obtain⟨k6,k7,k8,ky,k9,kt⟩:=hk [{target:=.fn (.func cf) caps,args:= #[]}] (fun i=>x4.tmps.getD i undef);unfold wpOps;show (if Region.wanted oB (yielded #[oA,oB] x5.tmps)=true then _ else _);have hwt:Region.wanted oB (yielded #[oA,oB] x5.tmps)=true:=by unfold Region.wanted;rw[b3]
 rw[if_pos hwt];refine .inl ?_;unfold Oper.wp;have hrun:(execOp x5.eval oB).run S.P w4=.ok (.defer {target:=.fn (.func cf) caps,args:= #[]}) w4:=by
  unfold execOp;simp only[b1];have:x5.eval (.tmp t.d5)=.func (.func cf) #[] caps:=e5;simp[resolve,Deferred.ofValue,this]
 show Oper.upon S.P oB x5 _ _ ((execOp x5.eval oB).run S.P w4);rw[hrun,Oper.upon_defer,b2];show Exit.then _ _ .normal _ _;show Code.wp S.P _ _ {x5 with defers:=_::x5.defers} _;refine J6 (S:=S.lay [{target:=.fn (.func cf) caps,args:= #[]}] t.cap (fun i=>x4.tmps.getD i undef)) hG hK.lay hcs.lay hmid k6 f5 (fun x6 w6 m6 f6 g6=> ?_);have g06:=(g03.trans g4).trans g6;rcases hrest with⟨s6,s7,e,s8,h7,h8,hx,h9,he,hr,rfl⟩ | ⟨s6,v,s7,h7,h8,hr,rfl⟩ | ⟨s6,s7,v,s8,s9,h7,h8,hx,h9,h10,hr,rfl⟩
 ·refine J6 (S:=S.lay [{target:=.fn (.func cf) caps,args:= #[]}] t.cap (fun i=>x4.tmps.getD i undef)) hG hK.lay hcs.lay (.reg h7 (.inr rfl)) k7 f6 (fun x7 w7 m7 f7 g7=> ?_);refine wp_seq (J6 (S:=S.lay [{target:=.fn (.func cf) caps,args:= #[]}] t.cap (fun i=>x4.tmps.getD i undef)) hG hK.lay hcs.lay h8 k8 f7 (fun x8 w8 m8 f8 g8=> ?_));have hy:x8.eval y=.bool false:=by
   have:=qb ky f8.slots hx;simpa only [VR]using this
  refine wp_cond_false hy (wp_skip ?_);show Code.wp _ _ _ _ _;refine(Zh (S:=S.lay [{target:=.fn (.func cf) caps,args:= #[]}] t.cap (fun i=>x4.tmps.getD i undef)) hG hK.lay hcs.lay h9 _ _ _ _ rfl rfl kt f8 (Fr.refl _ _ _ _) ?_).wp;have key:∀a' w' m',FR (S.lay [{target:=.fn (.func cf) caps,args:= #[]}] t.cap (fun i=>x4.tmps.getD i undef)) m' L fn.ntmps w.heap.size s8 a' w'->Fr w.heap.size m8 s7.h w8 m' s8.h w'->
    LeavesIn Fence.wide 5 S.P fn a'.tmps (fun e w'=>∃m',Fr w.heap.size m h w m' s8.h w'/\HR S.N m' s8.h w'/\∃u,e=.returned u/\VR S.N m' (zQ us) u) a'.defers .returning w':=by
   intro a' w' m' f9 g9;obtain⟨x,q1,q2⟩:=YU f9 (hms _ _ _) hr;exact qdW hcl hkc hhnd hnd hc f9 ⟨x,q1,m',((g06.trans g7).trans g8).trans g9,f9.heap,x,rfl,q2⟩
  intro e' a' w' hq;cases e' with
  | normal=>obtain⟨-,m',q1,q2⟩:=hq;exact key a' w' m' q1 q2
  | ret=>obtain⟨-,m',q1,q2⟩:=hq;exact key a' w' m' q1 q2
  | exit i=>rcases he with rfl | rfl<;>cases hq.1
  | goto l=>exact hq.elim
  | panic ch=>obtain⟨_,_,_,_,q,_⟩:=hq;rcases he with rfl | rfl<;>cases q
  | outgrown=>exact hq.elim
 ·refine wp_seq (qXL (S:=S.lay [{target:=.fn (.func cf) caps,args:= #[]}] t.cap (fun i=>x4.tmps.getD i undef)) hG hK.lay hcs.lay h7 k7 f6 (fun a' w' m' u q1 q2 q3=> ?_));show LeavesIn _ _ _ _ _ _ _ _ _;exact qVQ hG hK hcs hcl hkc hhnd hnd hc q1 q3 h8 hr hres (hms _ _ _) (fun m8 w8 x g8 hh hv=>⟨m8,(g06.trans q2).trans g8,hh,x,rfl,hv⟩)
 ·refine J6 (S:=S.lay [{target:=.fn (.func cf) caps,args:= #[]}] t.cap (fun i=>x4.tmps.getD i undef)) hG hK.lay hcs.lay (.reg h7 (.inr rfl)) k7 f6 (fun x7 w7 m7 f7 g7=> ?_);refine wp_seq (J6 (S:=S.lay [{target:=.fn (.func cf) caps,args:= #[]}] t.cap (fun i=>x4.tmps.getD i undef)) hG hK.lay hcs.lay h8 k8 f7 (fun x8 w8 m8 f8 g8=> ?_));have hy:x8.eval y=.bool true:=by
   have:=qb ky f8.slots hx;simpa only [VR]using this
  refine wp_cond_true hy (qXL (S:=S.lay [{target:=.fn (.func cf) caps,args:= #[]}] t.cap (fun i=>x4.tmps.getD i undef)) hG hK.lay hcs.lay h9 k9 f8 (fun a' w' m' u q1 q2 q3=> ?_));show LeavesIn _ _ _ _ _ _ _ _ _;exact qVQ hG hK hcs hcl hkc hhnd hnd hc q1 q3 h10 hr hres (hms _ _ _) (fun m9 w9 x g9 hh hv=>⟨m9,(((g06.trans g7).trans g8).trans q2).trans g9,hh,x,rfl,hv⟩)
end
structure XJ(S:qL)(Γ:Nat->Option AFn):Prop where
 X:S.X=[]
 Y:S.Yk=[]
 tr:∀g t,Γ g=some (.try t)->Kg S g t
 fn:∀g F,Γ g=some (.fn F)->∃fn,S.P.funcs[S.N.f g]?=some fn/\ZA S F fn=true
 ext:∀g R,Γ g=some (.ext R)->∀as h r h',R as h r h'->∀m w (vs:Array Value),HR S.N m h w->VRs S.N m as vs.toList->
  Calls S.P (S.N.f g) vs w fun e w'=>∃m',Fr w.heap.size m h w m' h' w'/\HR S.N m' h' w'/\(match r with
   |.ok v=>∃u,e=.returned u/\VR S.N m' v u
   |.pan v=>∃u,e=.panicked [{v:=u,recovered:=false}]/\VR S.N m' v u)
theorem qAD{P:Program}{B:Nat}{m:Mp}{h:AH}{fn:Func}{tmps:Array Value}{R:Ending->World->Prop}{u:FrameMode}{X:List Deferred}(hu:u≠.run)(I:World->Prop)
  (hI:∀w D,I w->w.heap[D]?=some (.deferred (some []))->Free m h D->B<=D->I (w.putObj D (.deferred none))):∀(ds:List Deferred){w:World},Marks B m h w (ds++X.filter Zo)->I w->
  (∀w',Marks B m h w' (X.filter Zo)->I w'->LeavesInM Fence.wide 5 P fn tmps R X u w')->LeavesInM Fence.wide 5 P fn tmps R (ds++X) u w
 |[],w,hM,hH,hk=>hk w hM hH
 | d::ds,w,hM,hH,hk=>by
  obtain⟨hnd,hM2⟩:=(show Marks B m h w (d::(ds++X.filter Zo))from hM);obtain⟨D,rfl,h2,h3,h4⟩:=hM2 d lMs;refine⟨hu,.inl ⟨D,_,rfl,run_takeDeferred h2,qAD hu I hI ds ⟨(List.nodup_cons.1 hnd).2,fun e he=> ?_⟩ (hI _ _ hH h2 h3 h4) hk⟩⟩;obtain⟨D',q1,q2,q3,q4⟩:=hM2 e (List.mem_cons_of_mem _ he);refine⟨D',q1,(World.putObj_heap_other ?_).trans q2,q3,q4⟩;rintro rfl;exact(List.nodup_cons.1 hnd).1 (q1▸he)
theorem HR.mark{S:qL}{m:Mp}{h:AH}{w:World}{D:Nat}{o':Obj}(hH:HR S.N m h w)(hl:Free m h D):HR S.N m h (w.putObj D o'):=
 hH.blocks (by simp) (fun id o p ho hlv hp=>World.putObj_heap_other (hl.1 id o p ho hlv hp)) (fun b c hz=>World.putObj_heap_other (by rintro rfl;rw[hl.2]at hz;cases hz))
theorem FR.mark{S:qL}{m:Mp}{L:List Nat}{n B:Nat}{st:St}{a:Act}{w:World}{D:Nat}{o':Obj}(hf:FR S m L n B st a w)(hX:S.X=[])(hd:a.defers=[])(h2:w.heap[D]?=some (.deferred (some [])))(hl:Free m st.h D):FR S m L n B st a (w.putObj D o') where
 heap:=hf.heap.mark hl
 slots:=hf.slots
 locs:=fun t c hc=>by
  obtain⟨h1,b,h2',h3,h4,h5⟩:=hf.locs t c hc;refine⟨h1,b,h2',h3.block (World.putObj_heap_other ?_),h4,h5⟩;rintro rfl;obtain⟨_,_,_,h6,_⟩:=h3;rw[h2]at h6;cases h6
 sep:=hf.sep
 defers:=by rw[hd,hX];exact⟨[],rfl,fun _=>rfl,List.nodup_nil,fun d h=>by cases h⟩
 size:=hf.size
 base:=by simpa using hf.base
 pin:=hf.pin
theorem FR.noDefers{S:qL}{m:Mp}{L:List Nat}{n B:Nat}{st:St}{a:Act}{w:World}(hX:S.X=[])(hf:FR S m L n B st a w):FR S m L n B st {a with defers:=[]} w:=
 ⟨hf.heap,hf.slots,hf.locs,hf.sep,by rw[hX];exact⟨[],rfl,fun _=>rfl,List.nodup_nil,fun d h=>by cases h⟩,hf.size,hf.base,hf.pin⟩
theorem qaO{S:qL}{Γ:Nat->Option AFn}(hG:GOK Γ)(hK:Known S Γ)(hF:XJ S Γ){kk:Nat}(ih:∀k,k<kk->CallSim S Γ k){j:Job}{o:Out}(hx:Ex Γ kk j o):
  ∀g as h r h',j=.call g as h->o=.res r h'->∀m w (vs:Array Value),HR S.N m h w->VRs S.N m as vs.toList->
  Calls S.P (S.N.f g) vs w fun e w'=>∃m',Fr w.heap.size m h w m' h' w'/\HR S.N m' h' w'/\(match r with
   |.ok v=>∃u,e=.returned u/\VR S.N m' v u
   |.pan v=>∃u,e=.panicked [{v:=u,recovered:=false}]/\VR S.N m' v u):=by
 induction hx with
 | ext hg hr=>
  rintro g as h r h' ⟨⟩ ⟨⟩ m w vs hH hvs;exact hF.ext _ _ hg _ _ _ _ hr m w vs hH hvs
 | @fn k g F as h st e us hg hn hb he hr=>
  rintro g as h r h' ⟨⟩ ⟨⟩ m w vs hH hvs;obtain⟨fn,hfn,hm⟩:=hF.fn g F hg;unfold ZA at hm;cases hbody:fn.body with
  | none=>simp[hbody]at hm
  | some c=>
   simp only[hbody,bAt,dTe]at hm;obtain⟨⟨h1,h2⟩,h3⟩:=hm;refine callsIn_wide.1 (callsIn_of_wp_marks (n:=5) hfn hbody trivial (wpIn_wide.2 ?_) rfl);refine(Zh hG hK (ih k (Nat.lt_succ_self k)) hb _ _ _ _ rfl rfl h3 (FR.enter hF.X hF.Y hH hvs (by omega) (JE F.body)) (Fr.refl _ _ _ _) ?_).wp;have key:∀a' w',(∃m',FR S m' (JE F.body) fn.ntmps w.heap.size st a' w'/\Fr w.heap.size m h w m' st.h w')->LeavesInM Fence.wide 5 S.P fn a'.tmps (fun e w'=>∃m',Fr w.heap.size m h w m' st.h w'/\HR S.N m' st.h w'/\∃u,e=.returned u/\VR S.N m' (zQ us) u) a'.defers .returning w':=by
    rintro a' w' ⟨m',q1,q2⟩;obtain⟨ms,em,_,hM⟩:=q1.defers;rw[hF.X]at em hM;rw[em];refine qAD (B:=w.heap.size) (m:=m') (h:=st.h) (by simp) (fun w'=>FR S m' (JE F.body) fn.ntmps w.heap.size st {a' with defers:=[]} w'/\Fr w.heap.size m h w m' st.h w') ?_ _ hM ⟨q1.noDefers hF.X,q2⟩ ?_
    ·have hX:=hF.X;rintro w' D ⟨f1,f2⟩ hD hF hB;exact⟨f1.mark hX rfl hD hF,f2.trans (Fr.putObj hB)⟩
    ·rintro w' _ ⟨f1,f2⟩;obtain⟨u,hu,hv⟩:=YU f1 h2 hr;exact⟨u,hu,m',f2,f1.heap,u,rfl,hv⟩
   intro x a' w' hq;cases x with
   | normal=>exact key a' w' hq.2
   | ret=>exact key a' w' hq.2
   | exit i=>obtain⟨q,_⟩:=hq;rcases he with rfl | rfl<;>cases q
   | goto l=>exact hq.elim
   | panic ch=>obtain⟨v,u,m',_,q,_⟩:=hq;rcases he with rfl | rfl<;>cases q
   | outgrown=>exact hq.elim
 | @fnP k g F as h st v hg hn hb=>
  rintro g as h r h' ⟨⟩ ⟨⟩ m w vs hH hvs;obtain⟨fn,hfn,hm⟩:=hF.fn g F hg;unfold ZA at hm;cases hbody:fn.body with
  | none=>simp[hbody]at hm
  | some c=>
   simp only[hbody,bAt,dTe]at hm;obtain⟨⟨h1,h2⟩,h3⟩:=hm;refine callsIn_wide.1 (callsIn_of_wp_marks (n:=5) hfn hbody trivial (wpIn_wide.2 ?_) rfl);refine(Zh hG hK (ih k (Nat.lt_succ_self k)) hb _ _ _ _ rfl rfl h3 (FR.enter hF.X hF.Y hH hvs (by omega) (JE F.body)) (Fr.refl _ _ _ _) ?_).wp;intro x a' w' hq;cases x with
   | panic ch=>
    obtain⟨v',u,m',⟨ms,em,_,q0⟩,q,rfl,q1,q2,q3⟩:=hq;cases q;rw[hF.X]at em q0;show LeavesInM _ _ _ _ _ _ a'.defers _ _;rw[em];refine qAD (B:=w.heap.size) (m:=m') (h:=st.h) (by simp) (fun w'=>HR S.N m' st.h w'/\Fr w.heap.size m h w m' st.h w') ?_ _ q0 ⟨q1,q2⟩ ?_
    ·rintro w' D ⟨f1,f2⟩ hD hF hB;exact⟨f1.mark hF,f2.trans (Fr.putObj hB)⟩
    ·rintro w' _ ⟨f1,f2⟩;exact⟨m',f2,f1,u,rfl,q3⟩
   | normal=>cases hq.1
   | ret=>cases hq.1
   | exit i=>cases hq.1
   | goto l=>exact hq.elim
   | outgrown=>exact hq.elim
 | @tryX k g t as h s1 s2 s3 s4 us hg hn h0 h1 h2 h3 hr=>
  rintro g as h r h' ⟨⟩ ⟨⟩ m w vs hH hvs;exact Yp hG hK (ih k (Nat.lt_succ_self k)) (hF.tr g t hg) hH hvs hn h0 h1 h2 (.inl ⟨s4,h3,hr,rfl⟩)
 | @tryV k g t as h s1 s2 s3 s4 s5 s6 s7 e s8 us hg hn h0 h1 h2 h3 hc h4 h5 h6 hx h7 he hr=>
  rintro g as h r h' ⟨⟩ ⟨⟩ m w vs hH hvs;exact Yp hG hK (ih k (Nat.lt_succ_self k)) (hF.tr g t hg) hH hvs hn h0 h1 h2 (.inr ⟨s4,h3,hc,s5,h4,.inl ⟨s6,s7,e,s8,h5,h6,hx,h7,he,hr,rfl⟩⟩)
 | @tryP k g t as h s1 s2 s3 s4 s5 s6 v s7 us hg hn h0 h1 h2 h3 hc h4 h5 h6 hr=>
  rintro g as h r h' ⟨⟩ ⟨⟩ m w vs hH hvs;exact Yp hG hK (ih k (Nat.lt_succ_self k)) (hF.tr g t hg) hH hvs hn h0 h1 h2 (.inr ⟨s4,h3,hc,s5,h4,.inr (.inl ⟨s6,v,s7,h5,h6,hr,rfl⟩)⟩)
 | @tryF k g t as h s1 s2 s3 s4 s5 s6 s7 v s8 s9 us hg hn h0 h1 h2 h3 hc h4 h5 h6 hx h7 h8 hr=>
  rintro g as h r h' ⟨⟩ ⟨⟩ m w vs hH hvs;exact Yp hG hK (ih k (Nat.lt_succ_self k)) (hF.tr g t hg) hH hvs hn h0 h1 h2 (.inr ⟨s4,h3,hc,s5,h4,.inr (.inr ⟨s6,s7,v,s8,s9,h5,h6,hx,h7,h8,hr,rfl⟩)⟩)
 | @frzA k g as as' h r K hR hl hc hx ihx=>
  rintro g as h r h' ⟨⟩ rfl m w vs hH hvs;refine Calls.mono (ihx ih _ _ _ _ _ rfl rfl (m.frz K w) w vs (hH.frz hR) (Xk hH hR hl hc hvs)) ?_;rintro e w' ⟨m',h1,h2,h3⟩;exact⟨m',(Fr.frz hR).trans h1,h2,h3⟩
 | @frzR k g as h v v' h' K hR hc hx ihx=>
  rintro g as h r h' ⟨⟩ ⟨⟩ m w vs hH hvs;refine Calls.mono (ihx ih _ _ _ _ _ rfl rfl m w vs hH hvs) ?_;rintro e w' ⟨m',h1,h2,u,rfl,h3⟩;exact⟨m'.frz K w',h1.trans (Fr.frz hR),h2.frz hR,u,rfl,WV h2 hR hc h3⟩
 | @brw k g as as' h v h' K hK hl hc ht hx ihx=>
  rintro g as h r h' ⟨⟩ ⟨⟩ m w vs hH hvs;refine Calls.mono (ihx ih _ _ _ _ _ rfl rfl (m.frz K w) w vs (hH.frz hK.rows) (Xk hH hK.rows hl hc hvs)) ?_;rintro e w' ⟨m',h1,h2,u,rfl,h3⟩;have hw:=Fr.lent hK h1 (nLr _);refine⟨m,⟨h1.os,h1.tape,h1.output,h1.size,m.le_refl,fun b hb hs=>⟨hw b hb,fun i o p=>hs i o p⟩,fun b hb hf=>⟨fun i o p=>hf.1 i o p,hf.2⟩⟩,hH.lent hw h1.size,u,rfl,qAB _ _ ht h3⟩
 | @nilc k g w' c h v h1 h2 id hid hh1 hh2 ht hx1 hx2 ihx1 ihx2=>
  rintro g as h r h' ⟨⟩ ⟨⟩ m w vs hH hvs;simp only[VRs]at hvs;obtain⟨v0,us,hvs,hv0,rfl⟩:=hvs;have hv1:=hv0;simp only[VR]at hv0;obtain⟨a,cap,rfl,_,_,hd⟩:=hv0;simp only[lNi]at hvs;have hz:(a=none->cap=0)/\∀x,a=some x->0<cap->x.spot=none:=by
   rcases hd with⟨_,q1,q2⟩ | ⟨b,o,c,q1,_,_⟩
   ·exact⟨q1,q2⟩
   ·subst q1;exact⟨(fun q=>nomatch q),(fun x hx _=>by cases hx;rfl)⟩
  cases a with
  | none=>
   have hc:=hz.1 rfl;subst hc;refine Calls.mono (ihx1 ih _ _ _ _ _ rfl rfl m w vs hH (by rw[hvs];simp only[VRs,VR];exact⟨_,_,rfl,rfl,rfl⟩)) ?_;rintro e w2 ⟨m',q1,q2,u,rfl,q3⟩;exact⟨⟨m.p,m'.z⟩,(q1.drop hh1).tomb2,(hH.drop q2 q1.le hh1).tomb2,u,rfl,ZQ (m':=m') (m2:=⟨m.p,m'.z⟩) rfl _ _ ht q3⟩
  | some x=>
   obtain⟨g1,g2⟩:=hH.addDead hid ⟨x.block,x.off,w',cap⟩;refine Calls.mono (ihx2 ih _ _ _ _ _ rfl rfl _ w vs g1 (by
    rw[hvs];simp only[VRs,VR];refine⟨_,_,rfl,⟨⟨x.block,x.off,w',cap⟩,x,cap,Mp.upd_same _ _ _,rfl,rfl,nZl _,by simp,by simp,fun h0=> ?_⟩,rfl⟩;have:=hz.2 x rfl h0;obtain⟨b,o,s⟩:=x;simp only at this;simp[this])) ?_
   rintro e w2 ⟨m',q1,q2,u,rfl,q3⟩;have hle:m.le m':=g2.trans' q1.le;have hh:∀i o,h i=some o->h2 i=some o:=fun i o hi=>hh2 i o (by rw[AH.upd_ne _ _ (by rintro rfl;rw[hid.1]at hi;cases hi)];exact hi);exact⟨⟨m.p,m'.z⟩,(q1.undead hid hle hh).tomb3,(hH.drop q2 hle hh).tomb3,u,rfl,ZQ (m':=m') (m2:=⟨m.p,m'.z⟩) rfl _ _ ht q3⟩
 | @brn k g as as' h v h' K S hK hl hc hv hn hx ihx=>
  rintro g as h r h' ⟨⟩ ⟨⟩ m w vs hH hvs;refine Calls.mono (ihx ih _ _ _ _ _ rfl rfl (m.frz K w) w vs (hH.frz hK.rows) (Xk hH hK.rows hl hc hvs)) ?_;rintro e w' ⟨m',h1,h2,u,rfl,h3⟩;obtain⟨q1,q2⟩:=HR.joined hK hH h1 h2 hn;exact⟨_,q2,q1,u,rfl,Zw (m':=m') (m2:=⟨m'.p,m.z⟩) (fun _=>rfl) _ _ hv h3⟩
 | @trim k g as h r h' id wd el rw' n ho hx ihx=>
  rintro g as h r h2 ⟨⟩ ⟨⟩ m w vs hH hvs;refine Calls.mono (ihx ih _ _ _ _ _ rfl rfl m w vs hH hvs) ?_;rintro e w' ⟨m',h1,h2,h3⟩;exact⟨m',h1.trim n ho,h2.trim n ho,h3⟩
 | @drop k g as h v h' hh ht hx ihx=>
  rintro g as h r h' ⟨⟩ ⟨⟩ m w vs hH hvs;refine Calls.mono (ihx ih _ _ _ _ _ rfl rfl m w vs hH hvs) ?_;rintro e w' ⟨m',h1,h2,u,rfl,h3⟩;exact⟨⟨m.p,m'.z⟩,h1.drop hh,hH.drop h2 h1.le hh,u,rfl,ZQ (m':=m') (m2:=⟨m.p,m'.z⟩) rfl _ _ ht h3⟩
 | _=>rintro g as h r h' ⟨⟩
theorem qaP{S:qL}{Γ:Nat->Option AFn}(hG:GOK Γ)(hK:Known S Γ)(hF:XJ S Γ):∀k,CallSim S Γ k:=by
 intro k
 induction k using Nat.strongRecOn with
 | _ k ih=>exact fun g as h r h' hx m w vs hH hvs=>qaO hG hK hF ih hx _ _ _ _ _ rfl rfl m w vs hH hvs
def qVF:TypeDesc->TyK
 |.int k=>.int k
 |.string=>.str
 |.bool=>.bool
 |.pointer _=>.ptr
 |.slice e=>.slice e
 |.array n e=>.arr n e
 |.struct fs=>.struct (fs.toList.map fun f=>(f.offset,f.type))
 |.map k e=>.map k e
 |.func _ _ _=>.func
 |.interface _=>.iface
 | _=>.other
def XV:Value->Option AV
 |.bool b=>some (.bool b)
 |.int k n=>some (.int k n)
 |.string b=>some (.str b.data.toList)
 |.pointer none=>some .nilp
 |.slice none 0 0=>some .nils
 |.map none=>some .nilm
 |.nilFunc=>some .nilf
 |.nilIface=>some .nili
 | _=>none
def WQ:List Value->Option (List AV)
 |[]=>some []
 | v::vs=>match XV v,WQ vs with
  | some a,some as=>some (a::as)
  | _,_=>none
def Km:Value->Option AV
 |.agg vs=>(WQ vs.toList).map .agg
 | v=>XV v
theorem qVE(k:IntKind):Q7 k k=true:=by cases k<;>rfl
theorem qUM:∀fs:List Field,wY (fs.map fun f=>(f.offset,f.type)) fs=true
 |[]=>rfl
 | f::fs=>by simp[wY,qUM fs]
theorem qSW{v:Value}{a:AV}(h:XV v=some a):zG a v=true/\a.sc=true:=by
 unfold XV at h;split at h<;>first
  | (cases h;done)
  | (simp only[oSi]at h;subst h;simp[zG,qVE,AV.sc])
theorem qSX:∀{vs:List Value}{as:List AV},WQ vs=some as->JP as vs=true/\as.all AV.sc=true
 |[],as,h=>by simp only[WQ,oSi]at h;subst h;exact⟨rfl,rfl⟩
 | v::vs,as,h=>by
  simp only[WQ]at h;split at h
  ·rename_i a as' h1 h2;simp only[oSi]at h;subst h;obtain⟨q1,q2⟩:=qSW h1;obtain⟨q3,q4⟩:=qSX h2;simp[JP,q1,q2,q3,q4]
  ·cases h
theorem qZI{v:Value}{a:AV}(h:Km v=some a):zG a v=true:=by
 unfold Km at h;split at h
 ·rename_i vs;simp only[oMi]at h;obtain⟨as,h1,rfl⟩:=h;obtain⟨q1,q2⟩:=qSX h1;simp[zG,q1,q2]
 ·exact(qSW h).1
def tyOf(P:Program)(t:TypeId):Option TyI:=match P.info? t,P.underlying t with
 | some ti,some d=>some ⟨qVF d,ti.size,ti.bytes,ti.zero.bind Km⟩
 | _,_=>none
theorem qg2{P:Program}{t:TypeId}{i:TyI}(h:tyOf P t=some i):TyOK P t i:=by
 unfold tyOf at h;split at h
 ·rename_i ti d h1 h2;simp only[oSi]at h;subst h;refine⟨⟨d,h2, ?_⟩,ti,h1,rfl,rfl,fun z hz=> ?_⟩
  ·cases d<;>simp[qVF,zK,qVE,qUM]
  ·simp only[Option.bind_eq_some_iff]at hz;obtain⟨v,q1,q2⟩:=hz;exact⟨v,q1,qZI q2⟩
 ·cases h
def qL.of(P:Program)(N:qh)(h:P.follows .mixedOrders=true):qL where
 P:=P
 N:=N
 T:=tyOf P
 hT:=fun _ _ h=>qg2 h
 mixed:=h
 X:=[]
 Yk:=[]
 Yv:=fun _=>undef
 it:=false
 itX:=nofun
 itr:=nofun
end Go.Ab
