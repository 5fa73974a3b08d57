/- Texts Ab19 .. Ab23: the abstract machine, its laws and contracts of functions: lemmas for the statement. No condition. -/
import Derived.KernelRfl
import Derived.Laws.Sem
import Derived.Test.YtifmaamaodjfjaaGreatP1
set_option linter.unusedSimpArgs false
set_option linter.unusedVariables false
namespace Go.Ab
open Go
def WE(acc:List Nat):List Edge->Nat
 |[]=>0
 | e::r=>if Region.binds .any e then 2^e.on ||| (acc.getD e.on 0 ||| WE acc r)else WE acc r
def YV:List Oper->List Nat->List Nat
 |[],acc=>acc
 | o::r,acc=>YV r (acc++[WE acc o.after.toList])
def QP(ops:Array Oper):List Nat:=YV ops.toList []
def j7(B:List Nat)(y z:Nat):Bool:=(B.getD z 0).testBit y
def qAA(ops:List Oper)(B:List Nat):Prop:=
 ∀z y,j7 B y z=true->∃o,ops[z]?=some o/\∃e∈o.after,Region.binds .any e=true/\(e.on=y\/(e.on<z/\j7 B y e.on=true))
theorem qAH{acc:List Nat}{y:Nat}:∀{l:List Edge},(WE acc l).testBit y=true->∃e∈l,Region.binds .any e=true/\(e.on=y\/j7 acc y e.on=true)
 |[],h=>by simp[WE]at h
 | e::r,h=>by
  simp only[WE]at h;split at h
  ·rename_i hb;simp only[Nat.testBit_or,Nat.testBit_two_pow,Bool.or_eq_true,dTe]at h;rcases h with h | h | h
   ·exact⟨e,by simp,hb,.inl h⟩
   ·exact⟨e,by simp,hb,.inr h⟩
   ·obtain⟨e',h1,h2⟩:=qAH h;exact⟨e',by simp[h1],h2⟩
  ·obtain⟨e',h1,h2⟩:=qAH h;exact⟨e',by simp[h1],h2⟩
theorem qAI{acc b:List Nat}{y z:Nat}(h:z<acc.length):j7 (acc++b) y z=j7 acc y z:=by
 simp only[j7,lGd];rw[gAl h]
theorem qEO{acc:List Nat}{y z:Nat}(h:acc.length<=z):j7 acc y z=false:=by
 simp only[j7,lGd];rw[gEn h];simp
theorem qEM:∀(r pre:List Oper)(acc:List Nat),acc.length=pre.length->qAA (pre++r) acc->qAA (pre++r) (YV r acc)
 |[],_,_,_,h=>h
 | o::r,pre,acc,hl,h=>by
  rw[YV];have hp:pre++o::r=(pre++[o])++r:=by simp
  rw[hp]at h|-;refine qEM r (pre++[o]) _ (by simp[hl]) ?_;intro z y hy;by_cases hz:z<acc.length
  ·rw[qAI hz]at hy;obtain⟨q,h1,e,h2,h3,h4⟩:=h z y hy;refine⟨q,h1,e,h2,h3, ?_⟩;rcases h4 with h4 | ⟨h4,h5⟩
   ·exact .inl h4
   ·exact .inr ⟨h4,by rw[qAI (by omega)];exact h5⟩
  ·by_cases hz':z=acc.length
   ·subst hz';simp only[j7,lGd]at hy;rw[gAr (nLr _)]at hy;simp only[nSs,List.getElem?_cons_zero,Option.getD_some]at hy;obtain⟨e,he,hb,hy⟩:=qAH hy;refine⟨o,by simp[hl],e,by simpa using he,hb, ?_⟩;rcases hy with h1 | h1
    ·exact .inl h1
    ·have hlt:e.on<acc.length:=by
      rcases Nat.lt_or_ge e.on acc.length with h2 | h2
      ·exact h2
      ·rw[qEO h2]at h1;cases h1
     exact .inr ⟨hlt,by rw[qAI hlt];exact h1⟩
   ·rw[qEO (by simp;omega)]at hy;cases hy
theorem qEQ(ops:Array Oper):qAA ops.toList (QP ops):=by
 have:=qEM ops.toList [] [] rfl (λz y hy=>by simp[j7]at hy);simpa[QP]using this
def DC(ops:Array Oper)(listed:Array Bool):Prop:=∀(x:Nat)(o:Oper),listed.getD x false=true->ops[x]?=some o->∀e∈o.after,Region.binds .any e=true->listed.getD e.on false=true
theorem qEN{ops:Array Oper}{listed:Array Bool}(hd:DC ops listed):∀z,listed.getD z false=true->∀y,j7 (QP ops) y z=true->listed.getD y false=true:=by
 intro z
 induction z using Nat.strongRecOn with
 | _ z ih=>
  intro hz y hy;obtain⟨o,h1,e,h2,h3,h4⟩:=qEQ ops z y hy;have he:=hd z o hz (by simpa using h1) e h2 h3;rcases h4 with rfl | ⟨h4,h5⟩
  ·exact he
  ·exact ih e.on h4 he y h5
theorem qEP{ops:Array Oper}{listed:Array Bool}(hd:DC ops listed){z:Nat}(hz:z∈Region.ready .any ops listed){y:Nat}(hy:j7 (QP ops) y z=true):listed.getD y false=true:=by
 obtain⟨_,o,ho,hall⟩:=mem_ready.1 hz;obtain⟨o',h1,e,h2,h3,h4⟩:=qEQ ops z y hy;have:o'=o:=by
  have:ops[z]?=some o':=by simpa using h1
  rw[ho]at this;cases this;rfl
 subst this;have he:=hall e h2 h3;rcases h4 with rfl | ⟨_,h5⟩
 ·exact he
 ·exact qEN hd _ he y h5
def Vc(f:qC->qC->Bool):List qC->Bool
 |[]=>true
 | y::l=>l.all (f y)&&Vc f l
theorem qJE{f:qC->qC->Bool}:∀{l:List qC},Vc f l=true->l.Pairwise (λy c=>f y c=true)
 |[],_=>.nil
 | y::l,h=>by
  simp only[Vc,bAt]at h;exact .cons (λc hc=>lAt.1 h.1 c hc) (qJE h.2)
def Yn(ops:Array Oper):Bool:=(List.range ops.size).all λi=>match ops[i]? with
 | some o=>o.after.toList.all λe=> !Region.binds .any e || decide (e.on<i)
 | none=>true
def W0(ns:List jP)(ops:Array Oper)(f:Nat->Nat->Bool)(c:qC):Bool:=match ops[c.i]? with
 | some o=>o.op.operands.toList.all λy=>match y with
  |.tmp d=>ns.all λe=> !(e.d==d) || f e.i c.i
  | _=>true
 | none=>true
def Zp(B:List Nat)(pan:Bool)(y c:qC):Bool:=
 !(y.i==c.i)&&(j7 B y.i c.i || (ind y c&&Ye y c&&(!pan || !WV y.o)))&&(!Q3 y.o || wz c y)
def qJ0(ns:List jP)(pan:Bool)(l:List qC)(ops:Array Oper)(B:List Nat):Bool:=
 Yn ops&&(List.range ops.size).all (λi=>l.any λc=>c.i==i)&&l.all (λc=>decide (c.i<ops.size))&&Vc (Zp B pan) l&&l.all (λc=> !Q3 c.o || X3 c)&&
 l.all (W0 ns ops (j7 B))&&l.all (λc=>ns.all λe=> !touch c e || e.i==c.i || j7 B c.i e.i)
def Zh:List qC->Nat->Bool
 |[],_=>true
 | c::l,k=>c.i==k&&Zh l (k+1)
def qJ1(ns:List jP)(l:List qC)(ops:Array Oper):Bool:=
 l.length==ops.size&&Zh l 0&&l.all (W0 ns ops λa b=>decide (a<b))&&l.all (λc=>ns.all λe=> !touch c e || decide (c.i<=e.i))
def Vk(S:qV)(L:List Nat)(n:Nat)(ns:List jP)(pan draw:Bool)(l:List qC)(ops:Array Oper):Bool:=
 l.all (ZC S L n ns ops)&&(if draw then qJ0 ns pan l ops (QP ops)else qJ1 ns l ops)
variable {Γ:Nat->Option AFn} {kk:Nat}
def Pans(Γ:Nat->Option AFn)(kk:Nat)(st:St)(o:AOp)(v:AV)(h':AH):Prop:=
 (∃g as,jD st.s o=some (g,as)/\Ex Γ kk (.call g as st.h) (.res (.pan v) h'))\/∃x t y,o=.panic x/\v=.iface t y/\ev st.s x=some v/\h'=st.h
inductive Qq(Γ:Nat->Option AFn)(kk:Nat)(pan:Bool)(l:List qC)(st:St):qi->St->Prop
 | nrm {st'} (h:RunL Γ kk l st st'):Qq Γ kk pan l st .nrm st'
 | pan {l1 c l2 s1 v h'} (hp:pan=true) (hl:l=l1++c::l2) (h:RunL Γ kk l1 st s1) (hw:zM s1.s c.g=some true) (hc:Pans Γ kk s1 c.o v h'):Qq Γ kk pan l st (.pan v) {s1 with h:=h'}
theorem Wq:∀{l1 l2:List qC}{a b:St},RunL Γ kk (l1++l2) a b↔∃c,RunL Γ kk l1 a c/\RunL Γ kk l2 c b
 |[],l2,a,b=>⟨λh=>⟨a,rfl,h⟩,λ⟨c,h1,h2⟩=>by cases h1;exact h2⟩
 | x::l1,l2,a,b=>by
  constructor
  ·rintro⟨s,h1,h2⟩;obtain⟨c,h3,h4⟩:=Wq.1 h2;exact⟨c,⟨s,h1,h3⟩,h4⟩
  ·rintro⟨c,⟨s,h1,h3⟩,h4⟩;exact⟨s,h1,Wq.2 ⟨c,h3,h4⟩⟩
section
variable {S:qV} {m:Mp} {L:List Nat} {n B:Nat} {ns:List jP} {ops:Array Oper} {st st':St} {a:Act} {w:World}
theorem qI8(hK:QL S Γ)(hcs:ZW S Γ kk){c:qC}{o:Oper}{v:AV}{h':AH}{Q:Exit->Act->World->Prop}{K:Act->World->Prop}(hf:FR S m L n B st a w)(ho:ops[c.i]?=some o)(hm:ZC S L n ns ops c=true)
  (hw:zM st.s c.g=some true) (hpn:Pans Γ kk st c.o v h')
  (hk:∀w' m' u,HR S.N m' h' w'->Fr B m st.h w m' h' w'->VR S.N m' v u->Q (.panic [{v:=u,recovered:=false}]) a w'):wpOp S.P ops Q c.i K a w:=by
 unfold ZC at hm;simp only[ho,bAt]at hm;obtain⟨⟨⟨⟨⟨⟨hd,hg⟩,hgl⟩,hds⟩,hop⟩,hent⟩,huse⟩:=hm;unfold wpOp;simp only[ho];rw[V6 hf hg hw];simp only[if_true];refine .inl ?_;rcases hpn with⟨g,as,hce,hx⟩ | ⟨x,t,y,hco,rfl,hev,rfl⟩
 case inr=>
  unfold ZA at hop;rw[hco]at hop;simp only at hop;split at hop
  ·rename_i z hop';have hv:=qw (a:=a) hop hf.slots hev;have hv0:=hv;simp only[VR]at hv;obtain⟨u,hu,_⟩:=hv;have hrun:(execOp a.eval o).run S.P w=.halt (.panic (a.eval z)) w:=by
    unfold execOp;simp only[hop'];rw[hu];simp only[Instr.panic,goPanic];rfl
   unfold Oper.wp;rw[hrun];exact hk w m _ hf.heap (Fr.refl _ _ _ _) hv0
  ·cases hop
 have hgk:=hK g (qFB hx);have hrun:=call_run (o:=o) hf (by unfold ZA at hop;exact hop) hce hgk;obtain⟨vs,hrun,hvs⟩:=hrun;unfold Oper.wp;rw[hrun];refine Calls.mono (hcs g as st.h (.pan v) h' hx m w vs hf.heap hvs) ?_;rintro e w' ⟨m',hfr,hH,u,rfl,hu⟩;exact hk w' m' u hH (hfr.mono hf.base) hu
where
 call_run {S:qV} {m:Mp} {L:List Nat} {n B:Nat} {ns:List jP} {st:St} {a:Act} {w:World} {c:qC} {o:Oper} {g:Nat} {as:List AV} (hf:FR S m L n B st a w) (hop:ZA S L n ns c o=true) (hce:jD st.s c.o=some (g,as))
   (hgk:∀(args:Array Value)(w:World),(callFunc (S.N.f g) args).run S.P w=.ok (.enter (S.N.f g) args) w):∃vs:Array Value,(execOp a.eval o).run S.P w=.ok (.enter (S.N.f g) vs) w/\VRs S.N m as vs.toList:=by
  unfold ZA at hop;cases hc:c.o<;>rw[hc]at hce hop<;>simp only[jD]at hce<;>try (cases hce;done)
  case call g' args=>
   simp only[oMi,Prod.mk.injEq]at hce;obtain⟨as',hev,rfl,rfl⟩:=hce;simp only at hop;split at hop
   ·rename_i f args' ts hop';simp only[bAt,bIe]at hop;obtain⟨rfl,hma⟩:=hop;refine⟨_,Vm hop' rfl hgk, ?_⟩;have:=Wb hma hf.slots hev;simpa using this
   ·cases hop
  case callv x args=>
   split at hce
   ·rename_i g' cs as' he1 he2;simp only[oSi,Prod.mk.injEq]at hce;obtain⟨rfl,rfl⟩:=hce;simp only at hop;split at hop
    ·rename_i y args' ts hop';simp only[bAt]at hop;have hv:=qw (a:=a) hop.1 hf.slots he1;simp only[VR]at hv;obtain⟨vs,hv,hvs⟩:=hv;refine⟨_,Vm hop' hv hgk, ?_⟩;have:=(Wb hop.2 hf.slots he2).append hvs;simpa using this
    ·cases hop
   ·cases hce
theorem qLM{f:Nat->Nat->Bool}{c:qC}{o:Oper}(ho:ops[c.i]?=some o)(h:W0 ns ops f c=true){dn:Nat->Prop}(hdn:∀i,f i c.i=true->dn i):YF ns o dn:=by
 intro d hd e he hed;unfold W0 at h;rw[ho]at h;have h1:=lAt.1 h _ hd;simp only at h1;have h2:=lAt.1 h1 e he;simp only[hed,beq_self_eq_true,Bool.not_true,Bool.false_or]at h2;exact hdn _ h2
theorem qJ2(hG:GOK Γ)(hK:QL S Γ)(hcs:ZW S Γ kk){pan:Bool}{e:qi}{stF:St}{Q:Exit->Act->World->Prop}{m0:Mp}{h0:AH}{w0:World}
  (hQn:e=.nrm->∀a' w' m',FR S m' L n B stF a' w'->Fr B m0 h0 w0 m' stF.h w'->Q .normal a' w')
  (hQp:∀v,e=.pan v->∀a' w' m' u,a'.defers=[]->HR S.N m' stF.h w'->Fr B m0 h0 w0 m' stF.h w'->VR S.N m' v u->Q (.panic [{v:=u,recovered:=false}]) a' w'):
  ∀{l:List qC}{k:Nat}{st:St}{a:Act}{w:World}{m:Mp},Zh l k=true->l.all (ZC S L n ns ops)=true->l.all (W0 ns ops λa b=>decide (a<b))=true->l.all (λc=>ns.all λe=> !touch c e || decide (c.i<=e.i))=true->
   FR S m L n B st a w->NopInv ns (λi=>i<k) st a->Fr B m0 h0 w0 m st.h w->Qq Γ kk pan l st e stF->wpOps S.P ops Q (l.map (·.i)) a w
 |[],k,st,a,w,m,_,_,_,_,hf,_,hfr,hr=>by
  cases hr with
  | nrm h=>cases h;exact hQn rfl a w m hf hfr
  | pan hp hl=>simp at hl
 | c::l,k,st,a,w,m,hi,hm,hu,ht,hf,hN,hfr,hr=>by
  simp only[Zh,bAt,bIe]at hi;simp only[lAc,bAt]at hm hu ht;obtain⟨hik,hi⟩:=hi;have ho:∃o,ops[c.i]?=some o:=by
   have:=hm.1;unfold ZC at this;cases ho:ops[c.i]? with
   | none=>simp[ho]at this
   | some o=>exact⟨o,rfl⟩
  obtain⟨o,ho⟩:=ho;have huse:YF ns o (λi=>i<k):=qLM ho hu.1 (λi hi=>by simpa[hik]using hi);have htch:∀e∈ns,e.i<k->touch c e=false:=by
   intro e he hlt;have:=lAt.1 ht.1 e he;simp only[Bool.or_eq_true,bNt,dTe]at this;rcases this with h | h
   ·exact h
   ·omega
  rw[lMc,wpOps_cons];have goOn:∀{s1:St},St0 Γ kk c st s1->Qq Γ kk pan l s1 e stF->wpOp S.P ops Q c.i (wpOps S.P ops Q (l.map (·.i))) a w:=by
   intro s1 h1 h2;refine qI7 hG hK hcs hf hN ho hm.1 huse htch h1 (λa' w' m' hf' hN' hfr'=>?_);refine qJ2 hG hK hcs hQn hQp hi hm.2 hu.2 ht.2 hf' ?_ (hfr.trans hfr') h2;intro e he hlt;exact hN' e he (by omega)
  cases hr with
  | nrm h=>
   obtain⟨s1,h1,h2⟩:=h;exact goOn h1.1 (.nrm h2)
  | @pan l1 d l2 s1 v h' hp hl h hw hc=>
   cases l1 with
   | nil=>
    simp only[lNa,List.cons.injEq]at hl;obtain⟨rfl,rfl⟩:=hl;cases h;exact qI8 hK hcs hf ho hm.1 hw hc (λw' m' u q1 q2 q3=>hQp v rfl a w' m' u hf.defers q1 (hfr.trans q2) q3)
   | cons y l1=>
    simp only[lCa,List.cons.injEq]at hl;obtain⟨rfl,rfl⟩:=hl;obtain⟨s2,h1,h2⟩:=h;exact goOn h1.1 (.pan hp rfl h2 hw hc)
end
end Go.Ab
namespace Go.Ab
open Go
variable {Γ:Nat->Option AFn} {kk:Nat}
def left(listed:Array Bool)(l:List qC):List qC:=l.filter λc=> !listed.getD c.i true
theorem qBO{l:Array Bool}{i j:Nat}{b:Bool}(hi:i<l.size):(l.setIfInBounds i true).getD j b=if j=i then true else l.getD j b:=by
 simp only[Array.getD_eq_getD_getElem?,Array.getElem?_setIfInBounds];by_cases h:i=j
 ·subst h;simp[hi]
 ·rw[iN h,iN (Ne.symm h)]
theorem Yw{l:Array Bool}{i:Nat}(hi:i<l.size)(b c:Bool):l.getD i b=l.getD i c:=by
 simp[Array.getD,hi]
theorem qBN{l:Array Bool}{i:Nat}(h:l.getD i true=false):i<l.size:=by
 rcases Nat.lt_or_ge i l.size with h' | h'
 ·exact h'
 ·simp[Array.getD,Nat.not_lt.2 h']at h
theorem qk8{ops:Array Oper}(h:Yn ops=true){i:Nat}{o:Oper}(ho:ops[i]?=some o){e:Edge}(he:e∈o.after)(hb:Region.binds .any e=true):e.on<i:=by
 have hi:i<ops.size:=by
  rcases Nat.lt_or_ge i ops.size with h | h
  ·exact h
  ·rw[Array.getElem?_eq_none h]at ho;cases ho
 have:=lAt.1 h i (lMr.2 hi);rw[ho]at this;have:=lAt.1 this e (by simpa using he);simpa[hb]using this
theorem qh0{ops:Array Oper}{listed:Array Bool}(hs:listed.size=ops.size)(he:Yn ops=true)(hr:Region.ready .any ops listed=[]):∀i,i<ops.size->listed.getD i false=true:=by
 intro i
 induction i using Nat.strongRecOn with
 | _ i ih=>
  intro hi;cases hc:listed.getD i false with
  | true=>rfl
  | false=>
   have:i∈Region.ready .any ops listed:=by
    rw[mem_ready];refine⟨by rw[Yw (by omega) true false];exact hc,ops[i],by simp[hi],λe hem hb=>?_⟩;have hlt:=qk8 he (aGe hi) hem hb;exact ih e.on hlt (by omega)
   rw[hr]at this;cases this
theorem qm9{listed:Array Bool}{l ys zs:List qC}{c:qC}(hi:c.i<listed.size)(h:left listed l=ys++c::zs)(hp:(ys++c::zs).Pairwise λy d=>y.i≠d.i):
  left (listed.setIfInBounds c.i true) l=ys++zs:=by
 have e:left (listed.setIfInBounds c.i true) l=(left listed l).filter λd=> !(d.i==c.i):=by
  unfold left;rw[List.filter_filter];refine List.filter_congr λd _=>?_;rw[qBO hi];by_cases hd:d.i=c.i<;>simp[hd]
 rw[e,h,List.filter_append,List.filter_cons];simp only[beq_self_eq_true,Bool.not_true,bFt,if_false];rw[List.pairwise_append]at hp;obtain⟨_,h2,h3⟩:=hp;rw[List.pairwise_cons]at h2;congr 1
 ·refine List.filter_eq_self.2 λy hy=>?_;have:=h3 y hy c lMs;simpa using this
 ·refine List.filter_eq_self.2 λy hy=>?_;have:=h2.1 y hy;simpa using Ne.symm this
structure RegD(S:qV)(L:List Nat)(n:Nat)(ns:List jP)(pan:Bool)(l:List qC)(ops:Array Oper):Prop where
 edge:Yn ops=true
 cover:∀i,i<ops.size->∃c∈l,c.i=i
 rng:∀c∈l,c.i<ops.size
 pair:l.Pairwise (λy c=>Zp (QP ops) pan y c=true)
 self:∀c∈l,Q3 c.o=true->X3 c=true
 use:∀c∈l,W0 ns ops (j7 (QP ops)) c=true
 touch:∀c∈l,∀e∈ns,touch c e=true->e.i=c.i\/j7 (QP ops) c.i e.i=true
 op:∀c∈l,ZC S L n ns ops c=true
theorem qpJ{S:qV}{L:List Nat}{n:Nat}{ns:List jP}{pan:Bool}{l:List qC}{ops:Array Oper}(h:Vk S L n ns pan true l ops=true):RegD S L n ns pan l ops:=by
 unfold Vk at h;simp only[if_true,bAt]at h;obtain⟨h0,h⟩:=h;unfold qJ0 at h;simp only[bAt]at h;obtain⟨⟨⟨⟨⟨⟨h1,h2⟩,h3⟩,h4⟩,h5⟩,h6⟩,h7⟩:=h;refine⟨h1,λi hi=>?_,λc hc=>?_,qJE h4,λc hc hl=>?_,lAt.1 h6,λc hc e he ht=>?_,lAt.1 h0⟩
 ·have:=lAt.1 h2 i (lMr.2 hi);obtain⟨c,hc,he⟩:=List.any_eq_true.1 this;exact⟨c,hc,by simpa using he⟩
 ·simpa using lAt.1 h3 c hc
 ·have:=lAt.1 h5 c hc;simpa[hl]using this
 ·have:=lAt.1 (lAt.1 h7 c hc) e he;simp only[ht,Bool.not_true,Bool.false_or,Bool.or_eq_true,bIe]at this;exact this
theorem qjQ{s:Env}{o:AOp}{q:Nat×List AV}(h:jD s o=some q):hk o=.loud:=by
 cases o<;>simp only[jD]at h<;>first | rfl | cases h
theorem qjP{c:qC}{s:Env}{q:Nat×List AV}(h:jD s c.o=some q):jd c=none:=by
 cases ho:c.o<;>rw[ho]at h<;>simp only[jD]at h<;>first | (cases h;done) | simp[jd,ho]
theorem qJF{st:St}{o:AOp}{v:AV}{h':AH}(h:Pans Γ kk st o v h'):hk o=.loud:=by
 rcases h with⟨g,as,h,_⟩ | ⟨x,t,y,rfl,_⟩
 ·exact qjQ h
 ·rfl
theorem qo0{st:St}{c:qC}{v:AV}{h':AH}(h:Pans Γ kk st c.o v h'):jd c=none:=by
 rcases h with⟨g,as,h,_⟩ | ⟨x,t,y,h,_⟩
 ·exact qjP h
 ·simp[jd,h]
theorem Pans.congr{st s2:St}{c:qC}{v:AV}{h':AH}(h:Pans Γ kk s2 c.o v h')(ag:zj c st s2)(hh:s2.h=st.h):Pans Γ kk st c.o v h':=by
 rcases h with⟨g,as,h,hx⟩ | ⟨x,t,y,h,hv,he,hq⟩
 ·exact .inl ⟨g,as,by rw[qAQ ag.e];exact h,by rw[<-hh];exact hx⟩
 ·refine .inr ⟨x,t,y,h,hv, ?_,by rw[hq,hh]⟩;rw[ag.e x (by simp[zd,h])];exact he
section
variable {S:qV} {L:List Nat} {n B:Nat} {ns:List jP} {ops:Array Oper}
theorem qpK(hG:GOK Γ)(hK:QL S Γ)(hcs:ZW S Γ kk){pan:Bool}{l:List qC}(hR:RegD S L n ns pan l ops){e:qi}{stF:St}{Q:Exit->Act->World->Prop}{m0:Mp}{h0:AH}{w0:World}
  (hQn:e=.nrm->∀a' w' m',FR S m' L n B stF a' w'->Fr B m0 h0 w0 m' stF.h w'->Q .normal a' w')
  (hQp:∀v,e=.pan v->∀a' w' m' u,a'.defers=[]->HR S.N m' stF.h w'->Fr B m0 h0 w0 m' stF.h w'->VR S.N m' v u->Q (.panic [{v:=u,recovered:=false}]) a' w'):
  ∀(fuel:Nat){listed:Array Bool}{st:St}{a:Act}{w:World}{m:Mp},listed.size=ops.size->(left listed l).length<=fuel->DC ops listed->
   FR S m L n B st a w->NopInv ns (λi=>listed.getD i false=true) st a->Fr B m0 h0 w0 m st.h w->Qq Γ kk pan (left listed l) st e stF->wpAny S.P .any ops Q fuel listed a w:=by
 --all is done
 have hdone:∀{listed:Array Bool}{st:St}{a:Act}{w:World}{m:Mp},left listed l=[]->FR S m L n B st a w->Fr B m0 h0 w0 m st.h w->Qq Γ kk pan (left listed l) st e stF->Q .normal a w:=by
  intro listed st a w m hl hf hfr hr;rw[hl]at hr;cases hr with
  | nrm h=>cases h;exact hQn rfl a w m hf hfr
  | pan hp hl=>simp at hl
 have hnone:∀{listed:Array Bool},listed.size=ops.size->Region.ready .any ops listed=[]->left listed l=[]:=by
  intro listed hs hr;refine List.filter_eq_nil_iff.2 λc hc=>?_;have h1:=hR.rng c hc;have:=qh0 hs hR.edge hr c.i h1;rw[Yw (by omega) true false,this];simp
 intro fuel
 induction fuel with
 | zero=>
  intro listed st a w m hs hl hd hf hN hfr hr;have hl0:left listed l=[]:=List.length_eq_zero_iff.1 (by omega);refine⟨List.eq_nil_iff_forall_not_mem.2 λi hi=>?_,hdone hl0 hf hfr hr⟩;have h1:=(mem_ready.1 hi).1;obtain⟨c,hc,rfl⟩:=hR.cover i (by have:=qBN h1;omega);have:c∈left listed l:=mFi.2 ⟨hc,by rw[h1];rfl⟩;rw[hl0]at this;cases this
 | succ fuel ih=>
  intro listed st a w m hs hl hd hf hN hfr hr;refine⟨λh=>hdone (hnone hs h) hf hfr hr,λi hi=>?_⟩;have h1:=(mem_ready.1 hi).1;have hlt:i<listed.size:=qBN h1;obtain⟨c,hc,rfl⟩:=hR.cover i (by omega);have hcl:c∈left listed l:=mFi.2 ⟨hc,by rw[h1];rfl⟩;obtain⟨o,ho,hall⟩:=(mem_ready.1 hi).2;obtain⟨ys,zs,hyz⟩:=List.append_of_mem hcl;have hpl:(ys++c::zs).Pairwise (λy c=>Zp (QP ops) pan y c=true):=by
   rw[<-hyz];exact hR.pair.sublist List.filter_sublist
  have hpi:(ys++c::zs).Pairwise λy d=>y.i≠d.i:=hpl.imp λ{y d} h=>by
   unfold Zp at h;simp only[bAt,bNt,beq_eq_false_iff_ne]at h;exact h.1.1
  have hlset:=qm9 hlt hyz hpi;rw[List.pairwise_append]at hpl;obtain⟨hp1,hp2,hp3⟩:=hpl;have hun:∀y∈ys,listed.getD y.i false=false:=by
   intro y hy;have:y∈left listed l:=by rw[hyz];exact List.mem_append_left _ hy
   have h2:=(mFi.1 this).2;simp only[bNt]at h2;rw[Yw (qBN h2) false true];exact h2
  have hys:∀y∈ys,ind y c=true/\Ye y c=true/\(pan=true->WV y.o=false):=by
   intro y hy;have h2:=hp3 y hy c lMs;unfold Zp at h2;simp only[bAt,Bool.or_eq_true]at h2;rcases h2.1.2 with h3 | h3
   ·have:=qEP hd hi h3;rw[hun y hy]at this;cases this
   ·refine⟨h3.1.1,h3.1.2,λhp=>?_⟩;have:=h3.2;simpa[hp]using this
  have hmemL:∀y∈ys,y∈l:=by
   intro y hy;have:y∈left listed l:=by rw[hyz];exact List.mem_append_left _ hy
   exact(mFi.1 this).1
  have hmv:∀{s' s'':St},RunL Γ kk ys st s'->St1 Γ kk c s' s''->∃s1,St0 Γ kk c st s1/\RunL Γ kk ys s1 s'':=by
   intro s' s'' q1 q2;refine move hG q1 q2 (λy hy=>(hys y hy).1) (hp1.imp λ{y y'} h hk'=>?_) (λy hy hk'=>hR.self y (hmemL y hy) (by simp[Q3,hk'])) (λy hy=>(hys y hy).2.1);unfold Zp at h;simp only[bAt,Bool.or_eq_true]at h;have:=h.2;simpa[Q3,hk']using this
  have huse:YF ns o (λi=>listed.getD i false=true):=qLM ho (hR.use c hc) (λi h=>qEP hd hi h);have hcun:listed.getD c.i false=false:=by rw[Yw hlt false true];exact h1
  have htch:∀e∈ns,listed.getD e.i false=true->touch c e=false:=by
   intro e he hle;cases ht:touch c e with
   | false=>rfl
   | true=>
    rcases hR.touch c hc e he ht with h2 | h2
    ·rw[h2,hcun]at hle;cases hle
    ·have:=qEN hd e.i hle c.i h2;rw[hcun]at this;cases this
  have hd':DC ops (listed.setIfInBounds c.i true):=by
   intro x q hx hq e he hb;rw[qBO hlt]at hx|-;split
   ·rfl
   ·by_cases hxc:x=c.i
    ·subst hxc;rw[ho]at hq;cases hq;exact hall e he hb
    ·rw[iN hxc]at hx;exact hd x q hx hq e he hb
  have goOn:∀{s1:St},St0 Γ kk c st s1->Qq Γ kk pan (ys++zs) s1 e stF->wpOp S.P ops Q c.i (wpAny S.P .any ops Q fuel (listed.setIfInBounds c.i true)) a w:=by
   intro s1 q1 q2;refine qI7 hG hK hcs hf hN ho (hR.op c hc) huse htch q1 (λa' w' m' hf' hN' hfr'=>?_);refine ih (by simpa using hs) ?_ hd' hf' ?_ (hfr.trans hfr') (by rw[hlset];exact q2)
   ·rw[hlset];rw[hyz]at hl;simp only[lAp,lCo]at hl|-;omega
   ·intro e he hle;rw[qBO hlt]at hle;refine hN' e he ?_;by_cases hec:e.i=c.i
    ·exact .inr hec
    ·rw[iN hec]at hle;exact .inl hle
  rw[hyz]at hr;generalize hw:ys++c::zs=W at hr;cases hr with
  | nrm h=>
   subst hw;obtain⟨s',q1,s'',q2,q3⟩:=Wq.1 h;obtain⟨s1,k1,k2⟩:=hmv q1 q2;exact goOn k1 (.nrm (Wq.2 ⟨s'',k2,q3⟩))
  | @pan l1 d l2 sL v h' hp hl' h hwd hcd=>
   subst hw
   --where c stands
   have key:(∃as',l1=ys++c::as'/\zs=as'++d::l2)\/(l1=ys/\c=d)\/(d∈ys):=by
    rcases List.append_eq_append_iff.1 hl' with⟨t,e1,e2⟩ | ⟨t,e1,e2⟩
    ·cases t with
     | nil=>
      simp only[lNa,List.cons.injEq]at e2;exact .inr (.inl ⟨by simpa using e1,e2.1⟩)
     | cons x t=>
      simp only[lCa,List.cons.injEq]at e2;obtain⟨rfl,e2⟩:=e2;exact .inl ⟨t,e1,e2⟩
    ·cases t with
     | nil=>
      simp only[lNa,List.cons.injEq]at e2;exact .inr (.inl ⟨by simpa using e1.symm,e2.1.symm⟩)
     | cons x t=>
      simp only[lCa,List.cons.injEq]at e2;obtain⟨rfl,e2⟩:=e2;exact .inr (.inr (e1▸List.mem_append_right _ lMs))
   rcases key with⟨as',rfl,rfl⟩ | ⟨rfl,rfl⟩ | hdy
   ·obtain⟨s',q1,s'',q2,q3⟩:=Wq.1 h;obtain⟨s1,k1,k2⟩:=hmv q1 q2;refine goOn k1 (.pan (l1:=ys++as') (c:=d) (l2:=l2) hp (lAa _ _ _).symm (Wq.2 ⟨s'',k2,q3⟩) hwd hcd)
   ·have hkl:=qJF hcd;have hh:sL.h=st.h:=h.quiet_h hG (λy hy=>qHI (hys y hy).1 hkl);have hno:∀x∈l1,wz x c=true:=by
     intro x hx';have:=(hys x hx').1;unfold ind at this;simp only[bAt]at this;exact this.1.1.1
    have ag:=(RunL.keeps hG (qo0 hcd) h hno).1;rw[<-ag.w]at hwd;refine qI8 hK hcs hf ho (hR.op c hc) hwd (hcd.congr ag hh) (λw' m' u q1 q2 q3=>hQp v rfl a w' m' u hf.defers q1 (hfr.trans q2) q3)
   ·have:=(hys d hdy).2.2 hp;simp[WV,qJF hcd]at this
end
end Go.Ab
namespace Go.Ab
open Go
open Classical
section
variable {N:zB} {m m':Mp} {h h':AH} {w w':World} {K:List Nat}
theorem zC.cellsLen{v v':AV}(hc:zC h K v v'):v'.cells.length=v.cells.length:=by
 cases hc with
 | refl=>rfl
 | agg hl _=>simpa[AV.cells]using hl.symm
 | _=>rfl
theorem zC.scalar{v v':AV}(hc:zC h K v v'):v'.sc=v.sc:=by cases hc<;>rfl
theorem zC.cell{v v':AV}(hc:zC h K v v'){j:Nat}{y':AV}(hy:v'.cells[j]?=some y'):∃y,v.cells[j]?=some y/\zC h K y y':=by
 have one:∀{x x':AV},zC h K x x'->[x'][j]?=some y'->∃y,[x][j]?=some y/\zC h K y y':=by
  intro x x' hx hj;cases j with
  | zero=>simp only[List.getElem?_cons_zero,oSi]at hj|-;exact⟨x,rfl,hj▸hx⟩
  | succ j=>simp at hj
 cases hc with
 | refl v=>exact⟨y',hy,.refl _⟩
 | @agg cs ds hl hc=>
  simp only[AV.cells]at hy|-;have hj:=(gSi.1 hy).1;have hj':j<cs.length:=by omega
  refine⟨cs[j],gEg hj', ?_⟩;refine hc (cs[j],y') ?_;have:(cs.zip ds)[j]?=some (cs[j],y'):=by
   rw[List.getElem?_zip_eq_some];exact⟨gEg hj',hy⟩
  exact lMo this
 | nil=>exact one .nil hy
 | nils=>exact one .nils hy
 | fn a b=>exact one (.fn a b) hy
 | tup a b=>simp[AV.cells]at hy
 | sub a b=>exact one (.sub a b) hy
 | slc a b c d e f=>exact one (.slc a b c d e f) hy
 | ptr a b c d e=>exact one (.ptr a b c d e) hy
 | lst a b=>exact one (.lst a b) hy
 | clip=>exact one .clip hy
noncomputable def Mp.frz(m:Mp)(K:List Nat)(w:World):Mp where
 p:=m.p
 z:=λb=>match m.z b with
  | some c=>some c
  | none=>if ∃id p,K.contains id=true/\m id=some p/\p.b=b then(match w.heap[b]? with
   | some (.cells c _ _)=>some c
   | _=>none)else none
theorem Mp.le_frz:m.le (m.frz K w):=⟨λ_ _ h=>h,λb c hz=>by simp only[Mp.frz,hz]⟩
theorem Mp.frz_z{b:Nat}{c:Array Value}(hz:(m.frz K w).z b=some c):m.z b=some c\/((∃id p,K.contains id=true/\m id=some p/\p.b=b)/\∃e fz,w.heap[b]?=some (.cells c e fz)):=by
 simp only[Mp.frz]at hz;split at hz
 ·rename_i hq;exact .inl (hq.trans hz)
 ·split at hz
  ·rename_i hk;split at hz
   ·rename_i c' e fz hb;simp only[oSi]at hz;subst hz;exact .inr ⟨hk,e,fz,hb⟩
   ·cases hz
  ·cases hz
theorem Mp.frz_mk{id:Nat}{p:jA}{c:Array Value}{e:TypeId}{fz:Nat×Nat}(hH:HR N m h w)(hK:Rows h K)(hid:K.contains id=true)(hp:m id=some p)(hb:w.heap[p.b]?=some (.cells c e fz)):(m.frz K w).z p.b=some c:=by
 obtain⟨o,ho,how⟩:=hK id hid;simp only[Mp.frz];cases hz:m.z p.b with
 | some c'=>exact absurd rfl ((hH.zz _ _ hz).2 id _ p ho how hp)
 | none=>
  simp only;rw[iP ⟨id,p,hid,hp,rfl⟩,hb]
theorem Zj{i:Nat}{o:qA}(ho:(h.kill K) i=some o)(hl:o.live=true):K.contains i=false/\h i=some o:=by
 rw[AH.kill_at]at ho;split at ho
 ·cases ho;cases hl
 ·rename_i hc;exact⟨by simpa using hc,ho⟩
theorem Still.frz{b:Nat}(hs:Still m h b):Still (m.frz K w) (h.kill K) b:=λi o p ho hw hp=>hs i o p (Zj ho (qA.live_of_wr hw)).2 hw hp
theorem HR.frz(hH:HR N m h w)(hK:Rows h K):HR N (m.frz K w) (h.kill K) w where
 at':=λi o ho=>by
  rw[AH.kill_at]at ho;split at ho
  ·rename_i hc;cases ho;obtain⟨o,ho,_⟩:=hK i hc;obtain⟨p,h1,_⟩:=hH.at' i _ ho;exact⟨p,h1,by simp[qA.live],trivial⟩
  ·obtain⟨p,h1,h2,h3⟩:=hH.at' i o ho;exact⟨p,h1,h2,h3.mono Mp.le_frz⟩
 none':=λi hi=>hH.none' i (AH.fr_kill hi).1
 apart:=λi j o1 o2 p q h1 h2 hw hl hij hp hq=>hH.apart i j o1 o2 p q (Zj h1 (qA.live_of_wr hw)).2 (Zj h2 hl).2 hw hl hij hp hq
 zz:=λb c hz=>by
  rcases Mp.frz_z hz with hz | ⟨⟨id,p,hid,hp,rfl⟩,hb⟩
  ·obtain⟨h1,h2⟩:=hH.zz b c hz;exact⟨h1,h2.frz⟩
  ·refine⟨hb,λi o q ho hw hq=>?_⟩;obtain⟨h1,h2⟩:=Zj ho (qA.live_of_wr hw);obtain⟨o2,ho',how⟩:=hK id hid;have hne:i≠id:=by rintro rfl;rw[hid]at h1;cases h1
   exact hH.apart i id _ _ q p h2 ho' hw (qA.live_of_wr how) hne hq hp
theorem Free.frz(hK:Rows h K){b:Nat}(hf:Free m h b):Free (m.frz K w) (h.kill K) b:=by
 refine⟨λi o p ho hl hp=>hf.1 i o p (Zj ho hl).2 hl hp, ?_⟩;cases hz:(m.frz K w).z b with
 | none=>rfl
 | some c=>
  rcases Mp.frz_z hz with hz | ⟨⟨id,p,hid,hp,hb⟩,_⟩
  ·rw[hf.2]at hz;cases hz
  ·obtain⟨o,ho,how⟩:=hK id hid;exact absurd hb (hf.1 id _ p ho (qA.live_of_wr how) hp)
theorem Fr.frz(hK:Rows h K){B:Nat}:Fr B m h w (m.frz K w) (h.kill K) w:=
 ⟨rfl,rfl,rfl,nLr _,Mp.le_frz,λ_ _ hs=>⟨rfl,hs.frz⟩,λ_ _ hf=>hf.frz hK⟩
theorem CellsAt.val{c:Array Value}{o k:Nat}{x:AV}(hc:CellsAt N m c o x.cells)(hl:x.cells.length=k)(hk:0<k):∃u,VR N m x u/\∀j,j<k->c[o+j]?=u.cells[j]?:=by
 by_cases hag:∃cs,x=.agg cs
 ·obtain⟨cs,rfl⟩:=hag;simp only[AV.cells]at hc hl;have hin:∀j,j<k->∃u,c[o+j]?=some u:=λj hj=>by
   obtain⟨_,u,q,_⟩:=hc j _ (gEg (by omega));exact⟨u,q⟩
  have hsz:o+k<=c.size:=by
   obtain⟨u,q⟩:=hin (k-1) (by omega);have:=(aSi.1 q).1;omega
  have hget:∀j,j<k->(c.extract o (o+k))[j]?=c[o+j]?:=λj hj=>by
   rw[Array.getElem?_extract,iP (by omega)]
  refine⟨.agg (c.extract o (o+k)), ?_,λj hj=>?_⟩
  ·simp only[VR];refine⟨_,rfl, ?_, ?_⟩
   ·rw[VRs.iff];refine⟨by simp;omega,λi a v ha hv=>?_⟩;obtain⟨_,u,q1,q2⟩:=hc i a ha;have hi:=(gSi.1 ha).1;rw[Array.getElem?_toList,hget i (by omega),q1]at hv;cases hv;exact q2
   ·rw[lAt];intro y hy;obtain⟨i,hi,rfl⟩:=List.getElem_of_mem hy;exact(hc i _ (gEg hi)).1
  ·show c[o+j]?=(c.extract o (o+k))[j]?;rw[hget j hj]
 ·have hcc:x.cells=[x]:=by
   cases x<;>first
    | rfl
    | exact absurd ⟨_,rfl⟩ hag
    | (simp[AV.cells]at hl;omega)
  rw[hcc]at hc hl;obtain⟨h1,u,h2,h3⟩:=hc 0 x rfl;refine⟨u,h3,λj hj=>?_⟩;have:j=0:=by simp at hl;omega
  subst this;rw[h2,h3.sc_cells h1];rfl
theorem Z6{α β:Type}{xs:List α}{ys:List β}{i:Nat}{x:α}{y:β}(hx:xs[i]?=some x)(hy:ys[i]?=some y):(x,y)∈xs.zip ys:=by
 have:(xs.zip ys)[i]?=some (x,y):=by rw[List.getElem?_zip_eq_some];exact⟨hx,hy⟩
 exact lMo this
theorem XK(hH:HR N m h w)(hK:Rows h K){v v':AV}(hc:zC h K v v'):∀{u:Value},VR N m v u->VR N (m.frz K w) v' u:=by
 have hle:m.le (m.frz K w):=Mp.le_frz
 induction hc with
 | refl v=>intro u hv;exact hv.mono hle
 | nil=>
  intro u hv;simp only[VR]at hv|-;obtain⟨p,a,cap,_,_,rfl,h1,_,h2,h9⟩:=hv;exact⟨some a,cap,rfl,by simp,by simpa using h2.1,.inl ⟨trivial,by simp,λx hx h0=>by cases hx;rw[h9 h0]⟩⟩
 | nils=>
  intro u hv;simp only[VR]at hv|-;subst hv;exact⟨none,0,rfl,by simp,by simp,.inl ⟨trivial,by simp,λx hx=>by cases hx⟩⟩
 | @slc wd id off len clip el rw' ts hid ho hl hw hs hcs ih=>
  intro u hv;simp only[VR]at hv|-;obtain⟨p,a,cap,hp,hpw,rfl,h1,h2,h3,h4⟩:=hv;obtain⟨p',hp',_,hob⟩:=hH.at' id _ ho;rw[hp]at hp';cases hp';obtain⟨_,_,c,e,fz,hb,_,_,hrow⟩:=hob;have hlen:ts.length=len:=by rw[<-hs];simp;omega
  refine⟨some a,cap,by rw[hlen],by omega,by rw[hlen];exact h3.1, ?_⟩;by_cases h0:len=0
  ·left;exact⟨lEz (by omega),by simp,λx hx hc=>by cases hx;rw[h4 hc]⟩
  ·right;refine⟨p.b,p.o+off*wd,c,by rw[h4 (by omega)],Mp.frz_mk hH hK hid hp hb,VRe.mk λi t ht=>?_⟩;have hi:i<len:=by have:=(gSi.1 ht).1;omega
   have hx:((el.drop off).take len)[i]?=some (el[off+i]'(by omega)):=by
    rw[gTk,iP hi,gDr];exact gEg (by omega)
   have hz:=Z6 hx ht;obtain⟨q1,q2⟩:=hrow (off+i) _ (gEg (by omega));obtain⟨u0,g1,g2⟩:=q2.val q1 hw;refine⟨u0,ih _ hz g1,by rw[(hcs _ hz).cellsLen];exact q1,hw,λj hj=>?_⟩;rw[<-g2 j hj];congr 1;rw[Nat.add_mul];omega
 | @ptr id i j wd el rw' x t hid ho h0 he hcs ih=>
  intro u hv;simp only[VR]at hv|-;obtain⟨p,hp,rfl⟩:=hv;obtain⟨p',hp',_,hob⟩:=hH.at' id _ ho;rw[hp]at hp';cases hp';obtain⟨hw,_,c,e,fz,hb,_,_,hrow⟩:=hob;subst hw;obtain⟨q1,q2⟩:=hrow i _ he;obtain⟨u0,g1,g2⟩:=q2.val q1 h0;refine⟨p.b,p.o+i*p.w,c,u0,by rw[Nat.add_assoc],Mp.frz_mk hH hK hid hp hb,ih g1,by rw[hcs.cellsLen];omega,λk hk=>g2 k (by rw[hcs.cellsLen]at hk;omega)⟩
 | @lst wd xs ts clip hl hcs ih=>
  intro u hv;simp only[VR]at hv|-;obtain⟨a,cap,rfl,h1,h2,h3⟩:=hv;refine⟨a,cap,by rw[hl],by omega,by rw[<-hl];exact h2, ?_⟩;rcases h3 with⟨rfl,h3⟩ | ⟨b,o,c,rfl,hz,hr⟩
  ·left;exact⟨lEz (by simpa using hl.symm),h3⟩
  ·right;refine⟨b,o,c,rfl,hle.2 _ _ hz,VRe.mk λi t ht=>?_⟩;have hi:i<xs.length:=by have:=(gSi.1 ht).1;omega
   have hx:=gEg hi;obtain⟨u0,g1,g2,g3,g4⟩:=hr.get hx;have hzz:=Z6 hx ht;exact⟨u0,ih _ hzz g1,by rw[(hcs _ hzz).cellsLen];exact g2,g3,g4⟩
 | clip=>
  intro u hv;have hv:=hv.mono hle;simp only[VR]at hv|-;obtain⟨a,cap,h1,h2,_,h3⟩:=hv;exact⟨a,cap,h1,h2,by simp,h3⟩
 | @agg cs ds hl hcs ih=>
  intro u hv;simp only[VR]at hv|-;obtain⟨vs,rfl,h1,h2⟩:=hv;refine⟨vs,rfl, ?_, ?_⟩
  ·rw[VRs.iff]at h1|-;refine⟨by omega,λi d q hd hq=>?_⟩;have hi:i<cs.length:=by have:=(gSi.1 hd).1;omega
   have hx:=gEg hi;exact ih _ (Z6 hx hd) (h1.2 i _ q hx hq)
  ·rw[lAt];intro d hd;obtain⟨i,hi,rfl⟩:=List.getElem_of_mem hd;have hi':i<cs.length:=by omega
   have hx:=gEg hi';have:=(hcs _ (Z6 hx (gEg hi))).scalar;simp only at this;rw[this];exact lAt.1 h2 _ (gMm hi')
 | @fn g cs ds hl hcs ih=>
  intro u hv;simp only[VR]at hv|-;obtain⟨vs,rfl,h1⟩:=hv;refine⟨vs,rfl, ?_⟩;rw[VRs.iff]at h1|-;refine⟨by omega,λi d q hd hq=>?_⟩;have hi:i<cs.length:=by have:=(gSi.1 hd).1;omega
  have hx:=gEg hi;exact ih _ (Z6 hx hd) (h1.2 i _ q hx hq)
 | @tup cs ds hl hcs ih=>
  intro u hv;simp only[VR]at hv|-;obtain⟨vs,rfl,h1⟩:=hv;refine⟨vs,rfl, ?_⟩;rw[VRs.iff]at h1|-;refine⟨by omega,λi d q hd hq=>?_⟩;have hi:i<cs.length:=by have:=(gSi.1 hd).1;omega
  have hx:=gEg hi;exact ih _ (Z6 hx hd) (h1.2 i _ q hx hq)
 | @sub x y j sh hp hy=>
  intro u hv;have hv:=hv.mono hle;simp only[VR]at hv|-;obtain⟨b,o,c,u0,rfl,hz,hx,h0,hcc⟩:=hv;obtain⟨q1,q2⟩:=hx.cells h0;have hcell:∀(i:Nat)(z:AV),x.cells[i]?=some z->z.sc=true/\∃v,c[o+i]?=some v/\VR N (m.frz K w) z v:=by
   intro i z hz';have hi:=(gSi.1 hz').1;refine⟨lAt.1 q2 _ (lMo hz'), ?_⟩;obtain⟨v,g1,g2⟩:=q1.get hz';exact⟨v,by rw[hcc i hi,<-Array.getElem?_toList];exact g1,g2⟩
  have hycells:CellsAt N (m.frz K w) c (o+j) y.cells:=by
   cases sh with
   | none=>
    simp only[AV.part]at hp;obtain⟨r1,v,r2,r3⟩:=hcell j y hp;have ey:y.cells=[y]:=by cases y<;>first | rfl | (simp[AV.sc]at r1;done)
    rw[ey];intro i z hz';have hi:i=0:=by have:=(gSi.1 hz').1;simp at this;omega
    subst hi;simp only[List.getElem?_cons_zero,oSi]at hz';subst hz';exact⟨r1,v,by rw[nAz];exact r2,r3⟩
   | some k=>
    simp only[AV.part]at hp;split at hp
    ·rename_i hk;simp only[oSi]at hp;subst hp;intro i z hz';simp only[AV.cells]at hz';rw[gTk]at hz';split at hz'
     ·rename_i hik;rw[gDr]at hz';obtain⟨r1,v,r2,r3⟩:=hcell (j+i) z hz';exact⟨r1,v,by rw[<-r2];congr 1;omega,r3⟩
     ·cases hz'
    ·cases hp
  obtain⟨u',g1,g2⟩:=hycells.val rfl hy;exact⟨b,o+j,c,u',by rw[nAz],hz,g1,hy,g2⟩
variable {m2:Mp}
mutual
theorem Z0(hz:m2.z=m'.z):∀(a:AV)(v:Value),a.tree=true->VR N m' a v->VR N m2 a v
 |.bool _,_,_,h=>by simpa only [VR]using h
 |.int _ _,_,_,h=>by simpa only [VR]using h
 |.str _,_,_,h=>by simpa only [VR]using h
 |.nilp,_,_,h=>by simpa only [VR]using h
 |.nils,_,_,h=>by simpa only [VR]using h
 |.nilm,_,_,h=>by simpa only [VR]using h
 |.nilf,_,_,h=>by simpa only [VR]using h
 |.nili,_,_,h=>by simpa only [VR]using h
 |.any,_,_,_=>by simp only[VR]
 |.ptr _ _ _,_,ht,_=>by simp[AV.tree]at ht
 |.map _,_,ht,_=>by simp[AV.tree]at ht
 |.slice _ _ _ _ _,_,ht,_=>by simp[AV.tree]at ht
 |.lst w xs _,_,ht,h=>by
  simp only[VR]at h|-;simp only[AV.tree]at ht;obtain⟨a,cap,h1,h2,h3,h4⟩:=h;refine⟨a,cap,h1,h2,h3, ?_⟩;rcases h4 with h4 | ⟨b,o,c,h5,h6,h7⟩
  ·exact .inl h4
  ·exact .inr ⟨b,o,c,h5,by rw[hz];exact h6,qLC hz w xs c o ht h7⟩
 |.ept x _,_,ht,h=>by
  simp only[VR]at h|-;simp only[AV.tree]at ht;obtain⟨b,o,c,u,h1,h2,h3,h4⟩:=h;exact⟨b,o,c,u,h1,by rw[hz];exact h2,Z0 hz x u ht h3,h4⟩
 |.fn _ cs,_,ht,h=>by
  simp only[VR]at h|-;simp only[AV.tree]at ht;obtain⟨vs,h1,h2⟩:=h;exact⟨vs,h1,V3 hz cs _ ht h2⟩
 |.iface _ x,_,ht,h=>by
  simp only[VR]at h|-;simp only[AV.tree]at ht;obtain⟨u,h1,h2⟩:=h;exact⟨u,h1,Z0 hz x u ht h2⟩
 |.agg cs,_,ht,h=>by
  simp only[VR]at h|-;simp only[AV.tree]at ht;obtain⟨vs,h1,h2,h3⟩:=h;exact⟨vs,h1,V3 hz cs _ ht h2,h3⟩
 |.tup cs,_,ht,h=>by
  simp only[VR]at h|-;simp only[AV.tree]at ht;obtain⟨vs,h1,h2⟩:=h;exact⟨vs,h1,V3 hz cs _ ht h2⟩
theorem V3(hz:m2.z=m'.z):∀(as:List AV)(vs:List Value),AV.trees as=true->VRs N m' as vs->VRs N m2 as vs
 |[],_,_,h=>by simpa only [VRs]using h
 | a::as,vs,ht,h=>by
  simp only[VRs]at h|-;simp only[AV.trees,bAt]at ht;obtain⟨u,us,h1,h2,h3⟩:=h;exact⟨u,us,h1,Z0 hz a u ht.1 h2,V3 hz as us ht.2 h3⟩
theorem qLC(hz:m2.z=m'.z)(w:Nat):∀(as:List AV)(c:Array Value)(o:Nat),AV.trees as=true->VRe N m' w as c o->VRe N m2 w as c o
 |[],_,_,_,_=>by simp only[VRe]
 | a::as,c,o,ht,h=>by
  simp only[VRe]at h|-;simp only[AV.trees,bAt]at ht;obtain⟨⟨u,h1,h2⟩,h3⟩:=h;exact⟨⟨u,Z0 hz a u ht.1 h1,h2⟩,qLC hz w as c _ ht.2 h3⟩
end
mutual
theorem VR.back(hm:m.le m')(hz:m2.z=m'.z)(hp:∀id,m2 id=m id):∀(a:AV)(v0 v:Value),VR N m a v0->VR N m' a v->VR N m2 a v
 |.bool _,_,_,_,h=>by simpa only [VR]using h
 |.int _ _,_,_,_,h=>by simpa only [VR]using h
 |.str _,_,_,_,h=>by simpa only [VR]using h
 |.nilp,_,_,_,h=>by simpa only [VR]using h
 |.nils,_,_,_,h=>by simpa only [VR]using h
 |.nilm,_,_,_,h=>by simpa only [VR]using h
 |.nilf,_,_,_,h=>by simpa only [VR]using h
 |.nili,_,_,_,h=>by simpa only [VR]using h
 |.any,_,_,_,_=>by simp only[VR]
 |.ptr id _ _,_,_,h0,h=>by
  simp only[VR]at h h0|-;obtain⟨p0,g0,_⟩:=h0;obtain⟨p,g1,g2⟩:=h;have:=hm.1 _ _ g0;rw[g1]at this;cases this;exact⟨p0,by rw[hp];exact g0,g2⟩
 |.map _,_,_,h0,h=>by
  simp only[VR]at h h0|-;obtain⟨p0,g0,_⟩:=h0;obtain⟨p,g1,g2⟩:=h;have:=hm.1 _ _ g0;rw[g1]at this;cases this;exact⟨p0,by rw[hp];exact g0,g2⟩
 |.slice _ _ _ _ _,_,_,h0,h=>by
  simp only[VR]at h h0|-;obtain⟨p0,_,_,g0,_⟩:=h0;obtain⟨p,a,cap,g1,g2⟩:=h;have:=hm.1 _ _ g0;rw[g1]at this;cases this;exact⟨p0,a,cap,by rw[hp];exact g0,g2⟩
 |.lst w xs _,_,_,h0,h=>by
  simp only[VR]at h h0|-;obtain⟨a0,cap0,_,_,_,k4⟩:=h0;obtain⟨a,cap,h1,h2,h3,h4⟩:=h;refine⟨a,cap,h1,h2,h3, ?_⟩;rcases h4 with h4 | ⟨b,o,c,h5,h6,h7⟩
  ·exact .inl h4
  ·rcases k4 with k4 | ⟨b',o',c',k5,k6,k7⟩
   ·exact .inl ⟨k4.1,by rw[h5];simp,λx hx _=>by rw[h5]at hx;cases hx;rfl⟩
   ·exact .inr ⟨b,o,c,h5,by rw[hz];exact h6,VRe.back hm hz hp w xs c' o' c o k7 h7⟩
 |.ept x _,_,_,h0,h=>by
  simp only[VR]at h h0|-;obtain⟨_,_,_,u0,_,_,k3,_⟩:=h0;obtain⟨b,o,c,u,h1,h2,h3,h4⟩:=h;exact⟨b,o,c,u,h1,by rw[hz];exact h2,VR.back hm hz hp x u0 u k3 h3,h4⟩
 |.fn _ cs,_,_,h0,h=>by
  simp only[VR]at h h0|-;obtain⟨vs0,_,k2⟩:=h0;obtain⟨vs,h1,h2⟩:=h;exact⟨vs,h1,VRs.back hm hz hp cs _ _ k2 h2⟩
 |.iface _ x,_,_,h0,h=>by
  simp only[VR]at h h0|-;obtain⟨u0,_,k2⟩:=h0;obtain⟨u,h1,h2⟩:=h;exact⟨u,h1,VR.back hm hz hp x u0 u k2 h2⟩
 |.agg cs,_,_,h0,h=>by
  simp only[VR]at h h0|-;obtain⟨vs0,_,k2,_⟩:=h0;obtain⟨vs,h1,h2,h3⟩:=h;exact⟨vs,h1,VRs.back hm hz hp cs _ _ k2 h2,h3⟩
 |.tup cs,_,_,h0,h=>by
  simp only[VR]at h h0|-;obtain⟨vs0,_,k2⟩:=h0;obtain⟨vs,h1,h2⟩:=h;exact⟨vs,h1,VRs.back hm hz hp cs _ _ k2 h2⟩
theorem VRs.back(hm:m.le m')(hz:m2.z=m'.z)(hp:∀id,m2 id=m id):∀(as:List AV)(vs0 vs:List Value),VRs N m as vs0->VRs N m' as vs->VRs N m2 as vs
 |[],_,_,_,h=>by simpa only [VRs]using h
 | a::as,vs0,vs,h0,h=>by
  simp only[VRs]at h h0|-;obtain⟨u0,us0,_,k2,k3⟩:=h0;obtain⟨u,us,h1,h2,h3⟩:=h;exact⟨u,us,h1,VR.back hm hz hp a u0 u k2 h2,VRs.back hm hz hp as us0 us k3 h3⟩
theorem VRe.back(hm:m.le m')(hz:m2.z=m'.z)(hp:∀id,m2 id=m id)(w:Nat):∀(as:List AV)(c0:Array Value)(o0:Nat)(c:Array Value)(o:Nat),VRe N m w as c0 o0->VRe N m' w as c o->VRe N m2 w as c o
 |[],_,_,_,_,_,_=>by simp only[VRe]
 | a::as,c0,o0,c,o,h0,h=>by
  simp only[VRe]at h h0|-;obtain⟨⟨u0,k1,_⟩,k3⟩:=h0;obtain⟨⟨u,h1,h2⟩,h3⟩:=h;exact⟨⟨u,VR.back hm hz hp a u0 u k1 h1,h2⟩,VRe.back hm hz hp w as c0 _ c _ k3 h3⟩
end
theorem CellsAt.back(hm:m.le m')(hz:m2.z=m'.z)(hp:∀id,m2 id=m id){c0 c:Array Value}{o0 o:Nat}{cs:List AV}(h0:CellsAt N m c0 o0 cs)(h:CellsAt N m' c o cs):CellsAt N m2 c o cs:=by
 intro j x hx;obtain⟨_,u0,_,q0⟩:=h0 j x hx;obtain⟨h1,u,h2,h3⟩:=h j x hx;exact⟨h1,u,h2,VR.back hm hz hp x u0 u q0 h3⟩
theorem ObjAt.back(hm:m.le m')(hz:m2.z=m'.z)(hp:∀id,m2 id=m id){p:jA}:∀{o:qA},ObjAt N m w p o->ObjAt N m' w' p o->ObjAt N m2 w' p o
 |.dead,_,_=>trivial
 |.row _ _ _,⟨_,_,_,_,_,_,_,_,k6⟩,⟨h1,h2,c,e,fz,h3,h4,h5,h6⟩=>⟨h1,h2,c,e,fz,h3,h4,h5,λi a ha=>⟨(h6 i a ha).1,(k6 i a ha).2.back hm hz hp (h6 i a ha).2⟩⟩
 |.map _,⟨_,_,_,_,_,k4⟩,⟨xs,cl,h1,h2,h3,h4⟩=>⟨xs,cl,h1,h2,h3,λi k v hk=>
   let ⟨_,_,_,r3,r4⟩:=k4 i k v hk;let ⟨x,q1,q2,q3,q4⟩:=h4 i k v hk
   ⟨x,q1,q2,VR.back hm hz hp k _ _ r3 q3,VR.back hm hz hp v _ _ r4 q4⟩⟩
theorem HR.drop(hH:HR N m h w)(hH':HR N m' h' w')(hm:m.le m')(hh:∀id o,h id=some o->h' id=some o):HR N ⟨m.p,m'.z⟩ (h.tomb h') w' where
 at':=λi o ho=>by
  have ho:h i=some o:=ho;obtain⟨p,h1,_,h3⟩:=hH.at' i o ho;obtain⟨p',h1',h2',h3'⟩:=hH'.at' i o (hh i o ho);have:=hm.1 _ _ h1;rw[h1']at this;cases this;exact⟨p,h1,h2',h3.back (m2:=⟨m.p,m'.z⟩) hm rfl (λ_=>rfl) h3'⟩
 none':=λi hi=>by
  refine hH.none' i ⟨hi.1, ?_⟩;have:(h.tb i || h'.tb i || ((h'.f i).isSome&&(h.f i).isNone))=false:=hi.2;simp only[Bool.or_eq_false_iff]at this;exact this.1.1
 apart:=λi j o1 o2 p q h1 h2 hw hl hij hp hq=>hH'.apart i j o1 o2 p q (hh i o1 h1) (hh j o2 h2) hw hl hij (hm.1 _ _ hp) (hm.1 _ _ hq)
 zz:=λb c hz=>by
  obtain⟨h1,h2⟩:=hH'.zz b c hz;exact⟨h1,λi o p ho hw hp=>h2 i o p (hh i o ho) hw (hm.1 _ _ hp)⟩
theorem Fr.drop{B:Nat}(hF:Fr B m h w m' h' w')(hh:∀id o,h id=some o->h' id=some o):Fr B m h w ⟨m.p,m'.z⟩ (h.tomb h') w' where
 os:=hF.os
 tape:=hF.tape
 output:=hF.output
 size:=hF.size
 le:=⟨λ_ _ q=>q,hF.le.2⟩
 keep:=λb hb hs=>⟨(hF.keep b hb hs).1,λi o p ho hw hp=>(hF.keep b hb hs).2 i o p (hh i o ho) hw (hF.le.1 _ _ hp)⟩
 free:=λb hb hs=>⟨λi o p ho hl hp=>(hF.free b hb hs).1 i o p (hh i o ho) hl (hF.le.1 _ _ hp),(hF.free b hb hs).2⟩
theorem Wy{h':AH}{id wd n:Nat}{el:List AV}{rw':Bool}(ho:h' id=some (.row wd el rw')){i:Nat}{o:qA}(hi:(h'.upd id (.row wd (el.take n) rw')) i=some o):
  ∃o',h' i=some o'/\o'.wr=o.wr/\o'.live=o.live/\(o'=o\/(o'=.row wd el rw'/\o=.row wd (el.take n) rw')):=by
 by_cases e:i=id
 ·subst e;rw[AH.upd_same]at hi;cases hi;exact⟨_,ho,rfl,rfl,.inr ⟨rfl,rfl⟩⟩
 ·rw[AH.upd_ne _ _ e]at hi;exact⟨_,hi,rfl,rfl,.inl rfl⟩
theorem HR.trim{h':AH}{id wd:Nat}{el:List AV}{rw':Bool}(n:Nat)(hH:HR N m' h' w')(ho:h' id=some (.row wd el rw')):HR N m' (h'.upd id (.row wd (el.take n) rw')) w' where
 at':=λi o hi=>by
  obtain⟨o',h1,_,h3,h4⟩:=Wy ho hi;obtain⟨p,q1,q2,q3⟩:=hH.at' i o' h1;refine⟨p,q1,λhl=>q2 (by rw[h3];exact hl), ?_⟩;rcases h4 with rfl | ⟨rfl,rfl⟩
  ·exact q3
  ·obtain⟨a1,a2,c,e,fz,a3,a4,a5,a6⟩:=q3;refine⟨a1,by simp;omega,c,e,fz,a3,a4,a5,λj a hj=>a6 j a ?_⟩;rw[gTk]at hj;split at hj
   ·exact hj
   ·cases hj
 none':=λi hi=>by
  refine hH.none' i ⟨?_,hi.2⟩;have:=hi.1;by_cases e:i=id
  ·subst e;rw[AH.upd_same]at this;cases this
  ·rwa[AH.upd_ne _ _ e]at this
 apart:=λi j o1 o2 p q h1 h2 hw hl hij hp hq=>by
  obtain⟨o1',a1,a2,_,_⟩:=Wy ho h1;obtain⟨o2',b1,_,b2,_⟩:=Wy ho h2;exact hH.apart i j o1' o2' p q a1 b1 (by rw[a2];exact hw) (by rw[b2];exact hl) hij hp hq
 zz:=λb c hz=>⟨(hH.zz b c hz).1,λi o p hi hw hp=>by
  obtain⟨o',a1,a2,_,_⟩:=Wy ho hi;exact(hH.zz b c hz).2 i o' p a1 (by rw[a2];exact hw) hp⟩
theorem Fr.trim{B:Nat}{id wd:Nat}{el:List AV}{rw':Bool}(n:Nat)(hF:Fr B m h w m' h' w')(ho:h' id=some (.row wd el rw')):Fr B m h w m' (h'.upd id (.row wd (el.take n) rw')) w' where
 os:=hF.os
 tape:=hF.tape
 output:=hF.output
 size:=hF.size
 le:=hF.le
 keep:=λb hb hs=>⟨(hF.keep b hb hs).1,λi o p hi hw hp=>by
  obtain⟨o',a1,a2,_,_⟩:=Wy ho hi;exact(hF.keep b hb hs).2 i o' p a1 (by rw[a2];exact hw) hp⟩
 free:=λb hb hs=>⟨λi o p hi hl hp=>by
  obtain⟨o',a1,_,a2,_⟩:=Wy ho hi;exact(hF.free b hb hs).1 i o' p a1 (by rw[a2];exact hl) hp,(hF.free b hb hs).2⟩
mutual
theorem qBZ:∀(a:AV)(v:Value),a.leaf=true->VR N m' a v->VR N m2 a v
 |.bool _,_,_,h=>by simpa only [VR]using h
 |.int _ _,_,_,h=>by simpa only [VR]using h
 |.str _,_,_,h=>by simpa only [VR]using h
 |.nilp,_,_,h=>by simpa only [VR]using h
 |.nils,_,_,h=>by simpa only [VR]using h
 |.nilm,_,_,h=>by simpa only [VR]using h
 |.nilf,_,_,h=>by simpa only [VR]using h
 |.nili,_,_,h=>by simpa only [VR]using h
 |.any,_,ht,_=>by simp[AV.leaf]at ht
 |.ptr _ _ _,_,ht,_=>by simp[AV.leaf]at ht
 |.map _,_,ht,_=>by simp[AV.leaf]at ht
 |.slice _ _ _ _ _,_,ht,_=>by simp[AV.leaf]at ht
 |.lst _ _ _,_,ht,_=>by simp[AV.leaf]at ht
 |.ept _ _,_,ht,_=>by simp[AV.leaf]at ht
 |.fn _ cs,_,ht,h=>by
  simp only[VR]at h|-;simp only[AV.leaf]at ht;obtain⟨vs,h1,h2⟩:=h;exact⟨vs,h1,Y7 cs _ ht h2⟩
 |.iface _ x,_,ht,h=>by
  simp only[VR]at h|-;simp only[AV.leaf]at ht;obtain⟨u,h1,h2⟩:=h;exact⟨u,h1,qBZ x u ht h2⟩
 |.agg cs,_,ht,h=>by
  simp only[VR]at h|-;simp only[AV.leaf]at ht;obtain⟨vs,h1,h2,h3⟩:=h;exact⟨vs,h1,Y7 cs _ ht h2,h3⟩
 |.tup cs,_,ht,h=>by
  simp only[VR]at h|-;simp only[AV.leaf]at ht;obtain⟨vs,h1,h2⟩:=h;exact⟨vs,h1,Y7 cs _ ht h2⟩
theorem Y7:∀(as:List AV)(vs:List Value),AV.leafs as=true->VRs N m' as vs->VRs N m2 as vs
 |[],_,_,h=>by simpa only [VRs]using h
 | a::as,vs,ht,h=>by
  simp only[VRs]at h|-;simp only[AV.leafs,bAt]at ht;obtain⟨u,us,h1,h2,h3⟩:=h;exact⟨u,us,h1,qBZ a u ht.1 h2,Y7 as us ht.2 h3⟩
end
mutual
theorem Wg(hp:∀id,m2 id=m' id):∀(a:AV)(v:Value),a.nol=true->VR N m' a v->VR N m2 a v
 |.bool _,_,_,h=>by simpa only [VR]using h
 |.int _ _,_,_,h=>by simpa only [VR]using h
 |.str _,_,_,h=>by simpa only [VR]using h
 |.nilp,_,_,h=>by simpa only [VR]using h
 |.nils,_,_,h=>by simpa only [VR]using h
 |.nilm,_,_,h=>by simpa only [VR]using h
 |.nilf,_,_,h=>by simpa only [VR]using h
 |.nili,_,_,h=>by simpa only [VR]using h
 |.any,_,ht,_=>by simp[AV.nol]at ht
 |.ptr _ _ _,_,_,h=>by
  simp only[VR]at h|-;obtain⟨p,h1,h2⟩:=h;exact⟨p,by rw[hp];exact h1,h2⟩
 |.map _,_,_,h=>by
  simp only[VR]at h|-;obtain⟨p,h1,h2⟩:=h;exact⟨p,by rw[hp];exact h1,h2⟩
 |.slice _ _ _ _ _,_,_,h=>by
  simp only[VR]at h|-;obtain⟨p,a,cap,h1,h2⟩:=h;exact⟨p,a,cap,by rw[hp];exact h1,h2⟩
 |.lst _ [] _,_,_,h=>by
  simp only[VR]at h|-;obtain⟨a,cap,h1,h2,h3,h4⟩:=h;refine⟨a,cap,h1,h2,h3,.inl ?_⟩;rcases h4 with h4 | ⟨b,o,c,rfl,_,_⟩
  ·exact h4
  ·exact⟨trivial,λq=>(by cases q),λx hx _=>(by cases hx;rfl)⟩
 |.lst _ (_::_) _,_,ht,_=>by simp[AV.nol]at ht
 |.ept _ _,_,ht,_=>by simp[AV.nol]at ht
 |.fn _ cs,_,ht,h=>by
  simp only[VR]at h|-;simp only[AV.nol]at ht;obtain⟨vs,h1,h2⟩:=h;exact⟨vs,h1,VP hp cs _ ht h2⟩
 |.iface _ x,_,ht,h=>by
  simp only[VR]at h|-;simp only[AV.nol]at ht;obtain⟨u,h1,h2⟩:=h;exact⟨u,h1,Wg hp x u ht h2⟩
 |.agg cs,_,ht,h=>by
  simp only[VR]at h|-;simp only[AV.nol]at ht;obtain⟨vs,h1,h2,h3⟩:=h;exact⟨vs,h1,VP hp cs _ ht h2,h3⟩
 |.tup cs,_,ht,h=>by
  simp only[VR]at h|-;simp only[AV.nol]at ht;obtain⟨vs,h1,h2⟩:=h;exact⟨vs,h1,VP hp cs _ ht h2⟩
theorem VP(hp:∀id,m2 id=m' id):∀(as:List AV)(vs:List Value),AV.nols as=true->VRs N m' as vs->VRs N m2 as vs
 |[],_,_,h=>by simpa only [VRs]using h
 | a::as,vs,ht,h=>by
  simp only[VRs]at h|-;simp only[AV.nols,bAt]at ht;obtain⟨u,us,h1,h2,h3⟩:=h;exact⟨u,us,h1,Wg hp a u ht.1 h2,VP hp as us ht.2 h3⟩
end
theorem VQ{as:List AV}(h:AV.nols as=true){i:Nat}{a:AV}(ha:as[i]?=some a):a.nol=true:=by
 induction as generalizing i with
 | nil=>simp at ha
 | cons x as ih=>
  simp only[AV.nols,bAt]at h;cases i with
  | zero=>simp at ha;subst ha;exact h.1
  | succ i=>exact ih h.2 (by simpa using ha)
theorem qn8{a:AV}(h:a.nol=true):AV.nols a.cells=true:=by
 cases a<;>first
  | exact h
  | rfl
  | (simp only[AV.cells,AV.nols,h,Bool.and_self];done)
  | (simp[AV.nol]at h;done)
theorem qn7(hp:∀id,m2 id=m' id){p:jA}:∀{o:qA},o.nol=true->ObjAt N m' w p o->ObjAt N m2 w p o
 |.dead,_,_=>trivial
 |.row _ _ _,ho,⟨h1,h2,c,e,fz,h3,h4,h5,h6⟩=>by
  simp only[qA.nol,bAt]at ho;refine⟨h1,h2,c,e,fz,h3,h4,h5,λi a ha=>⟨(h6 i a ha).1,λj x hx=>?_⟩⟩;obtain⟨q1,u,q2,q3⟩:=(h6 i a ha).2 j x hx;exact⟨q1,u,q2,Wg hp _ _ (VQ (qn8 (VQ ho.2 ha)) hx) q3⟩
 |.map es,ho,⟨xs,cl,h1,h2,h3,h4⟩=>by
  simp only[qA.nol,bAt]at ho;refine⟨xs,cl,h1,h2,h3,λi k v hk=>?_⟩;obtain⟨x,q1,q2,q3,q4⟩:=h4 i k v hk;exact⟨x,q1,q2,Wg hp _ _ (VQ (i:=i) ho.1 (by rw[gMp,hk];rfl)) q3,Wg hp _ _ (VQ (i:=i) ho.2 (by rw[gMp,hk];rfl)) q4⟩
theorem All.rows(hK:All h K):Rows h K:=λi hi=>(hK i).1 hi
theorem Fr.lent{B:Nat}(hK:All h K)(hF:Fr B (m.frz K w) (h.kill K) w m' h' w')(hB:w.heap.size<=B):(∀b,b<w.heap.size->w'.heap[b]?=w.heap[b]?):=by
 intro b hb;refine(hF.keep b (by omega) λi o p ho hw hp=>?_).1;obtain⟨h1,h2⟩:=Zj ho (qA.live_of_wr hw);have:=(hK i).2 ⟨o,h2,hw⟩;rw[this]at h1;cases h1
theorem ObjAt.same{p:jA}:∀{o:qA},(o.live=true->w'.heap[p.b]?=w.heap[p.b]?)->ObjAt N m w p o->ObjAt N m w' p o
 |.dead,_,_=>trivial
 |.row _ _ _,hw,⟨h1,h2,c,e,fz,h3,h4⟩=>⟨h1,h2,c,e,fz,by rw[hw rfl];exact h3,h4⟩
 |.map _,hw,⟨xs,cl,h1,h2⟩=>⟨xs,cl,by rw[hw rfl];exact h1,h2⟩
theorem HR.lent(hH:HR N m h w)(hw:∀b,b<w.heap.size->w'.heap[b]?=w.heap[b]?)(hs:w.heap.size<=w'.heap.size):HR N m (h.tomb h') w' where
 at':=λi o ho=>by
  obtain⟨p,h1,h2,h3⟩:=hH.at' i o ho;exact⟨p,h1,λhl=>nLl (h2 hl) hs,h3.same λhl=>hw _ (h2 hl)⟩
 none':=λi hi=>by
  refine hH.none' i ⟨hi.1, ?_⟩;have:(h.tb i || h'.tb i || ((h'.f i).isSome&&(h.f i).isNone))=false:=hi.2;simp only[Bool.or_eq_false_iff]at this;exact this.1.1
 apart:=λi j o1 o2 p q h1 h2=>hH.apart i j o1 o2 p q h1 h2
 zz:=λb c hz=>by
  obtain⟨⟨e,fz,h1⟩,h2⟩:=hH.zz b c hz;have hb:b<w.heap.size:=(aSi.1 h1).1;exact⟨⟨e,fz,by rw[hw b hb];exact h1⟩,h2⟩
theorem qn9{o:qA}(h:o.nol=true)(hl:o.live=true):o.wr=true:=by
 cases o with
 | dead=>cases hl
 | row w el rw=>simp only[qA.nol,bAt]at h;exact h.1
 | map es=>rfl
theorem HR.joined(hK:All h K)(hH:HR N m h w)(hF:Fr w.heap.size (m.frz K w) (h.kill K) w m' h' w')(hH':HR N m' h' w'){S:List Nat}(hn:∀id o,S.contains id=true->h id=none->h' id=some o->o.nol=true):
  HR N ⟨m'.p,m.z⟩ (h.join h' S) w'/\Fr w.heap.size m h w ⟨m'.p,m.z⟩ (h.join h' S) w':=by
 have hw:=Fr.lent hK hF (nLr _);have hp:∀id p,m id=some p->m' id=some p:=λid p hq=>hF.le.1 _ _ hq;have hst:∀b,Still (m.frz K w) (h.kill K) b:=λb i o p ho hwr _=>by
  obtain⟨h1,h2⟩:=Zj ho (qA.live_of_wr hwr);have:=(hK i).2 ⟨o,h2,hwr⟩;rw[this]at h1;cases h1
 have hnew:∀i o p,S.contains i=true->h i=none->h' i=some o->o.live=true->m' i=some p->w.heap.size<=p.b:=λi o p h0 h1 h2 h3 h4=>by
  rcases Nat.lt_or_ge p.b w.heap.size with q | q
  ·exact absurd rfl ((hF.keep p.b q (hst _)).2 i o p h2 (qn9 (hn i o h0 h1 h2) h3) h4)
  ·exact q
 have hold:∀i o p,h i=some o->o.live=true->m' i=some p->p.b<w.heap.size:=λi o p h1 h2 h3=>by
  obtain⟨p0,q1,q2,_⟩:=hH.at' i o h1;have:=hp i p0 q1;rw[h3]at this;cases this;exact q2 h2
 have cas:∀i o,(h.join h' S) i=some o->h i=some o\/(S.contains i=true/\h i=none/\h' i=some o):=λi o ho=>by
  cases hq:h i with
  | none=>
   rw[AH.join_new' hq]at ho;split at ho
   ·rename_i q;exact .inr ⟨q,rfl,ho⟩
   ·cases ho
  | some x=>rw[AH.join_old' hq]at ho;exact .inl ho
 have hmm:m.le ⟨m'.p,m.z⟩:=⟨hp,λ_ _ q=>q⟩;have still:∀b,b<w.heap.size->Still m h b->Still ⟨m'.p,m.z⟩ (h.join h' S) b:=λb hb hs i o p ho hwr hq=>by
  rcases cas i o ho with h1 | ⟨h0,h1,h2⟩
  ·obtain⟨p0,q1,_⟩:=hH.at' i o h1;have:=hp i p0 q1;rw[show m' i=some p from hq]at this;cases this;exact hs i o p h1 hwr q1
  ·have:=hnew i o p h0 h1 h2 (qA.live_of_wr hwr) hq;omega
 refine⟨⟨λi o ho=>?_,λi hi=>?_,λi j o1 o2 p q h1 h2 w1 l2 hne hpi hqj=>?_,λb c hz=>?_⟩,⟨hF.os,hF.tape,hF.output,hF.size,hmm,λb hb hs=>⟨hw b hb,still b hb hs⟩,λb hb hs=>⟨λi o p ho hl hq=>?_,hs.2⟩⟩⟩
 ·rcases cas i o ho with h1 | ⟨h0,h1,h2⟩
  ·obtain⟨p,q1,q2,q3⟩:=hH.at' i o h1;exact⟨p,hp i p q1,λhl=>nLl (q2 hl) hF.size,(q3.same λhl=>hw _ (q2 hl)).mono hmm⟩
  ·obtain⟨p,q1,q2,q3⟩:=hH'.at' i o h2;exact⟨p,q1,q2,qn7 (m':=m') (m2:=⟨m'.p,m.z⟩) (λ_=>rfl) (hn i o h0 h1 h2) q3⟩
 ·obtain⟨_,g2⟩:=AH.fr_join (h:=h) (h':=h') (S:=S) hi;exact hH'.none' i g2
 ·have back:∀i o p,h i=some o->m' i=some p->m i=some p:=λi o p q1 q2=>by
   obtain⟨p0,q3,_⟩:=hH.at' i o q1;have:=hp i p0 q3;rw[q2]at this;cases this;exact q3
  have hpi:m' i=some p:=hpi;have hqj:m' j=some q:=hqj;rcases cas i o1 h1 with a1 | ⟨a0,a1,a2⟩<;>rcases cas j o2 h2 with b1 | ⟨b0,b1,b2⟩
  ·exact hH.apart i j o1 o2 p q a1 b1 w1 l2 hne (back i o1 p a1 hpi) (back j o2 q b1 hqj)
  ·have:=hold i o1 p a1 (qA.live_of_wr w1) hpi;have:=hnew j o2 q b0 b1 b2 l2 hqj;omega
  ·have:=hnew i o1 p a0 a1 a2 (qA.live_of_wr w1) hpi;have:=hold j o2 q b1 l2 hqj;omega
  ·exact hH'.apart i j o1 o2 p q a2 b2 w1 l2 hne hpi hqj
 ·obtain⟨⟨e,fz,h1⟩,h2⟩:=hH.zz b c hz;have hb:b<w.heap.size:=(aSi.1 h1).1;exact⟨⟨e,fz,by rw[hw b hb];exact h1⟩,still b hb h2⟩
 ·rcases cas i o ho with h1 | ⟨h0,h1,h2⟩
  ·obtain⟨p0,q1,_⟩:=hH.at' i o h1;have:=hp i p0 q1;rw[show m' i=some p from hq]at this;cases this;exact hs.1 i o p h1 hl q1
  ·have:=hnew i o p h0 h1 h2 hl hq;omega
theorem Mp.le.trans'{a b c:Mp}(h:a.le b)(k:b.le c):a.le c:=Mp.le_trans h k
theorem Fr.tomb2{B:Nat}{h1 h2:AH}(hF:Fr B m h w m' (h.tomb h1) w'):Fr B m h w m' ((h.tomb h1).tomb h2) w':=⟨hF.os,hF.tape,hF.output,hF.size,hF.le,hF.keep,hF.free⟩
theorem HR.tomb2{h1 h2:AH}(hH:HR N m' (h.tomb h1) w'):HR N m' ((h.tomb h1).tomb h2) w':=⟨hH.at',λi hi=>hH.none' i (AH.fr_tomb' hi),hH.apart,hH.zz⟩
theorem Fr.tomb3{B:Nat}{h1 h2:AH}(hF:Fr B m h w m' (h.tomb h2) w'):Fr B m h w m' ((h.tomb h1).tomb h2) w':=⟨hF.os,hF.tape,hF.output,hF.size,hF.le,hF.keep,hF.free⟩
theorem HR.tomb3{h1 h2:AH}(hH:HR N m' (h.tomb h2) w'):HR N m' ((h.tomb h1).tomb h2) w':=⟨hH.at',λi hi=>hH.none' i ⟨hi.1,by
 have h2':((h.tomb h1).tb i || h2.tb i || ((h2.f i).isSome&&(h.f i).isNone))=false:=hi.2;simp only[Bool.or_eq_false_iff]at h2';have h3:(h.tb i || h1.tb i || ((h1.f i).isSome&&(h.f i).isNone))=false:=h2'.1.1;simp only[Bool.or_eq_false_iff]at h3;show (h.tb i || h2.tb i || ((h2.f i).isSome&&(h.f i).isNone))=false;simp only[Bool.or_eq_false_iff];exact⟨⟨h3.1.1,h2'.1.2⟩,h2'.2⟩⟩,hH.apart,hH.zz⟩
theorem HR.addDead(hH:HR N m h w){id:Nat}(hid:h.fr id)(p:jA):HR N (m.upd id p) (h.upd id .dead) w/\m.le (m.upd id p):=by
 have hle:=Mp.le_upd (p:=p) (hH.none' id hid);refine⟨⟨λi o ho=>?_,λi hi=>?_,λi j o1 o2 p1 p2 h1 h2 w1 l2 hne q1 q2=>?_,λb c hz=>?_⟩,hle⟩
 ·by_cases e:i=id
  ·subst e;rw[AH.upd_same]at ho;cases ho;exact⟨p,Mp.upd_same _ _ _,(λq=>nomatch q),trivial⟩
  ·rw[AH.upd_ne _ _ e]at ho;obtain⟨p',q1,q2,q3⟩:=hH.at' i o ho;exact⟨p',hle.1 _ _ q1,q2,q3.mono hle⟩
 ·have e:i≠id:=by rintro rfl;have:=hi.1;rw[AH.upd_same]at this;cases this
  rw[Mp.upd_ne _ _ e];exact hH.none' i ⟨by have:=hi.1;rwa[AH.upd_ne _ _ e]at this,hi.2⟩
 ·have e1:i≠id:=by rintro rfl;rw[AH.upd_same]at h1;cases h1;cases w1
  have e2:j≠id:=by rintro rfl;rw[AH.upd_same]at h2;cases h2;cases l2
  rw[AH.upd_ne _ _ e1]at h1;rw[AH.upd_ne _ _ e2]at h2;rw[Mp.upd_ne _ _ e1]at q1;rw[Mp.upd_ne _ _ e2]at q2;exact hH.apart i j o1 o2 p1 p2 h1 h2 w1 l2 hne q1 q2
 ·obtain⟨h1,h2⟩:=hH.zz b c hz;refine⟨h1,λi o q ho hw hq=>?_⟩;have e:i≠id:=by rintro rfl;rw[AH.upd_same]at ho;cases ho;cases hw
  rw[AH.upd_ne _ _ e]at ho;rw[Mp.upd_ne _ _ e]at hq;exact h2 i o q ho hw hq
theorem Fr.undead{B:Nat}{id:Nat}{p:jA}{h2:AH}(hF:Fr B (m.upd id p) (h.upd id .dead) w m' h2 w')(hid:h.fr id)(hle:m.le m')(hh:∀i o,h i=some o->h2 i=some o):Fr B m h w ⟨m.p,m'.z⟩ (h.tomb h2) w' where
 os:=hF.os
 tape:=hF.tape
 output:=hF.output
 size:=hF.size
 le:=⟨λ_ _ q=>q,hle.2⟩
 keep:=λb hb hs=>by
  have hs2:Still (m.upd id p) (h.upd id .dead) b:=λi o q ho hw hq=>by
   have e:i≠id:=by rintro rfl;rw[AH.upd_same]at ho;cases ho;cases hw
   rw[AH.upd_ne _ _ e]at ho;rw[Mp.upd_ne _ _ e]at hq;exact hs i o q ho hw hq
  exact⟨(hF.keep b hb hs2).1,λi o q ho hw hq=>(hF.keep b hb hs2).2 i o q (hh i o ho) hw (hle.1 _ _ hq)⟩
 free:=λb hb hs=>by
  have hs2:Free (m.upd id p) (h.upd id .dead) b:=⟨λi o q ho hl hq=>by
   have e:i≠id:=by rintro rfl;rw[AH.upd_same]at ho;cases ho;cases hl
   rw[AH.upd_ne _ _ e]at ho;rw[Mp.upd_ne _ _ e]at hq;exact hs.1 i o q ho hl hq,hs.2⟩
  exact⟨λi o q ho hl hq=>(hF.free b hb hs2).1 i o q (hh i o ho) hl (hle.1 _ _ hq),(hF.free b hb hs2).2⟩
theorem Yi(hH:HR N m h w)(hK:Rows h K):∀{as as':List AV}{us:List Value},as.length=as'.length->(∀p∈as.zip as',zC h K p.1 p.2)->VRs N m as us->VRs N (m.frz K w) as' us
 |[],[],_,_,_,h=>by simpa only [VRs]using h
 | a::as,b::bs,us,hl,hc,h=>by
  simp only[VRs]at h|-;obtain⟨u,us,h1,h2,h3⟩:=h;exact⟨u,us,h1,XK hH hK (hc (a,b) (by simp)) h2,Yi hH hK (by simpa using hl) (λp hp=>hc p (by simp only[List.zip_cons_cons];exact mCm _ hp)) h3⟩
 |[],_::_,_,hl,_,_=>by simp at hl
 | _::_,[],_,hl,_,_=>by simp at hl
end
section
variable {S:qV} {m:Mp} {L:List Nat} {n B:Nat} {st st':St} {a:Act} {w:World} {K:List Nat}
theorem FR.frz(hf:FR S m L n B st a w)(hz:Frz K st st'):FR S (m.frz K w) L n B st' a w where
 heap:=by rw[hz.h];exact hf.heap.frz hz.rows
 slots:=λt v ht hL=>by
  obtain⟨v0,h1,h2⟩:=hz.s t v ht;exact XK hf.heap hz.rows h2 (hf.slots t v0 h1 hL)
 locs:=λt c hc=>by
  obtain⟨c0,h1,h2⟩:=hz.l t c hc;obtain⟨hL,b,g1,⟨cs,e,fz,g2,g3,g4,g5⟩,g6,g7⟩:=hf.locs t c0 h1;refine⟨hL,b,g1,⟨cs,e,fz,g2,by rw[h2.cellsLen];exact g3,g4,λj y hy=>?_⟩,by rw[hz.h];exact g6.frz hz.rows,g7⟩;obtain⟨y0,q1,q2⟩:=h2.cell hy;obtain⟨q3,u,q4,q5⟩:=g5 j y0 q1;exact⟨by rw[q2.scalar];exact q3,u,q4,XK hf.heap hz.rows q2 q5⟩
 sep:=λt t' c c' b hc hc' h1 h2=>by
  obtain⟨_,q1,_⟩:=hz.l t c hc;obtain⟨_,q2,_⟩:=hz.l t' c' hc';exact hf.sep t t' _ _ b q1 q2 h1 h2
 defers:=hf.defers
 size:=hf.size
 base:=hf.base
theorem HR.cvh{N:zB}{h:AH}{id wd:Nat}{el el':List AV}{rw':Bool}(hH:HR N m h w)(hK:Rows h K)(hid:K.contains id=false)(ho:h id=some (.row wd el rw'))(hl:el.length=el'.length)(hc:∀p∈el.zip el',zC h K p.1 p.2):
  HR N (m.frz K w) ((h.kill K).upd id (.row wd el' rw')) w:=by
 have hF:=hH.frz hK;have hk:(h.kill K) id=some (.row wd el rw'):=by rw[AH.kill_at,hid];exact ho
 have old:∀i o,((h.kill K).upd id (.row wd el' rw')) i=some o->∃o0,(h.kill K) i=some o0/\(o.wr=true->o0.wr=true)/\(o.live=true->o0.live=true):=λi o hi=>by
  by_cases e:i=id
  ·subst e;rw[AH.upd_same]at hi;cases hi;exact⟨_,hk,λq=>q,λ_=>rfl⟩
  ·rw[AH.upd_ne _ _ e]at hi;exact⟨o,hi,λq=>q,λq=>q⟩
 refine⟨λi o hi=>?_,λi hi=>hF.none' i ?_,λi j o1 o2 p q h1 h2 w1 l2 hij hp hq=>?_,λb c hz=>?_⟩
 ·by_cases e:i=id
  ·subst e;rw[AH.upd_same]at hi;cases hi;obtain⟨p,g1,g2,g3⟩:=hH.at' i _ ho;refine⟨p,g1,λ_=>g2 rfl, ?_⟩;obtain⟨q1,q2,c,e,fz,q3,q4,q5,q6⟩:=g3;refine⟨q1,by rw[<-hl];exact q2,c,e,fz,q3,q4,q5,λk a ha=>?_⟩;have hk:k<el.length:=by have:=(gSi.1 ha).1;omega
   have hx:=gEg hk;have hcv:=hc _ (Z6 hx ha);obtain⟨r1,r2⟩:=q6 k _ hx;refine⟨hcv.cellsLen.trans r1,λj y hy=>?_⟩;obtain⟨y0,s1,s2⟩:=hcv.cell hy;obtain⟨s3,u,s4,s5⟩:=r2 j y0 s1;exact⟨by rw[s2.scalar];exact s3,u,s4,XK hH hK s2 s5⟩
  ·rw[AH.upd_ne _ _ e]at hi;exact hF.at' i o hi
 ·refine⟨?_,hi.2⟩;have h1:=hi.1;by_cases e:i=id
  ·subst e;rw[AH.upd_same]at h1;cases h1
  ·rwa[AH.upd_ne _ _ e]at h1
 ·obtain⟨o1',a1,a2,_⟩:=old i o1 h1;obtain⟨o2',b1,_,b2⟩:=old j o2 h2;exact hF.apart i j o1' o2' p q a1 b1 (a2 w1) (b2 l2) hij hp hq
 ·obtain⟨z1,z2⟩:=hF.zz b c hz;exact⟨z1,λi o q ho hw hq=>by obtain⟨o',a1,a2,_⟩:=old i o ho;exact z2 i o' q a1 (a2 hw) hq⟩
theorem Free.cvh{h:AH}{id wd:Nat}{el el':List AV}{rw':Bool}(hK:Rows h K)(hid:K.contains id=false)(ho:h id=some (.row wd el rw')){b:Nat}(hf:Free m h b):Free (m.frz K w) ((h.kill K).upd id (.row wd el' rw')) b:=by
 obtain⟨f1,f2⟩:=hf.frz (w:=w) hK;refine⟨λi o p hi hl hp=>?_,f2⟩;by_cases e:i=id
 ·subst e;exact f1 i (.row wd el rw') p (by rw[AH.kill_at,hid];exact ho) rfl hp
 ·rw[AH.upd_ne _ _ e]at hi;exact f1 i o p hi hl hp
theorem Still.cvh{h:AH}{id wd:Nat}{el el':List AV}{rw':Bool}(hid:K.contains id=false)(ho:h id=some (.row wd el rw')){b:Nat}(hs:Still m h b):Still (m.frz K w) ((h.kill K).upd id (.row wd el' rw')) b:=λi o p hi hl hp=>by
 have f1:=hs.frz (K:=K) (w:=w);by_cases e:i=id
 ·subst e;rw[AH.upd_same]at hi;cases hi;exact f1 i (.row wd el rw') p (by rw[AH.kill_at,hid];exact ho) hl hp
 ·rw[AH.upd_ne _ _ e]at hi;exact f1 i o p hi hl hp
theorem Fr.cvh{h:AH}{id wd:Nat}{el el':List AV}{rw':Bool}(hK:Rows h K)(hid:K.contains id=false)(ho:h id=some (.row wd el rw')){B:Nat}:Fr B m h w (m.frz K w) ((h.kill K).upd id (.row wd el' rw')) w:=
 ⟨rfl,rfl,rfl,nLr _,Mp.le_frz,λ_ _ hs=>⟨rfl,hs.cvh hid ho⟩,λ_ _ hf=>hf.cvh hK hid ho⟩
theorem FR.cvh{id wd:Nat}{el el':List AV}{rw':Bool}(hf:FR S m L n B st a w)(hK:Rows st.h K)(hid:K.contains id=false)(ho:st.h id=some (.row wd el rw'))(hl:el.length=el'.length)(hc:∀p∈el.zip el',zC st.h K p.1 p.2):
  FR S (m.frz K w) L n B {st with h:=(st.h.kill K).upd id (.row wd el' rw')} a w where
 heap:=hf.heap.cvh hK hid ho hl hc
 slots:=λt v ht hL=>(hf.slots t v ht hL).mono Mp.le_frz
 locs:=λt c hc'=>by
  obtain⟨hL,b,g1,⟨cs,e,fz,g2,g3,g4,g5⟩,g6,g7⟩:=hf.locs t c hc';refine⟨hL,b,g1,⟨cs,e,fz,g2,g3,g4,λj y hy=>?_⟩,g6.cvh hK hid ho,g7⟩;obtain⟨q3,u,q4,q5⟩:=g5 j y hy;exact⟨q3,u,q4,q5.mono Mp.le_frz⟩
 sep:=hf.sep
 defers:=hf.defers
 size:=hf.size
 base:=hf.base
end
end Go.Ab
namespace Go.Ab
open Go
def qIV(S:qV)(L:List Nat)(ops:Array Oper):List qC->List jP->List jP
 |[],acc=>acc
 | c::l,acc=>qIV S L ops l (if WW c.o then(match ops[c.i]? with
  | some o=>(match Wh S L acc o,o.dst with
   | some (t,off),some d=>acc++[⟨c.i,d,t,off,c.g⟩]
   | _,_=>acc)
  | none=>acc)else acc)
def js(S:qV)(L:List Nat)(n:Nat):qP->Code->Bool
 |.skip,.skip=>true
 |.skip,.label _=>true
 |.reg pan l,.region _ ops draw=>Vk S L n (qIV S L ops l []) pan draw l ops
 |.seq a b,.seq c d=>js S L n a c&&js S L n b d
 |.cond x a b,.cond y c d=>mAo S.N L x y&&js S L n a c&&js S L n b d
 |.blk i a,.block id c=>i==id&&js S L n a c
 |.loop a,.loop c=>js S L n a c
 |.exit i,.exit id=>i==id
 |.ret,.ret=>true
 | _,_=>false
variable {Γ:Nat->Option AFn} {kk:Nat}
theorem qoP{j:Job}{o:Out}(h:Ex Γ kk j o):∀l st e st',j=.ops l st->o=.st e st'->(pan:Bool)->(pan=true\/e=.nrm)->Qq Γ kk pan l st e st':=by
 induction h with
 | nil=>rintro l st e st' ⟨⟩ ⟨⟩ pan hp;exact .nrm rfl
 | @skip k c l0 st0 r hw h ih=>
  rintro l st e st' ⟨⟩ ho pan hp;have hs:St1 Γ k c st0 (st0.put c.d .undef):=⟨.inl ⟨hw,rfl⟩,λh=>by rw[hw]at h;cases h⟩;cases ih _ _ _ _ rfl ho pan hp with
  | nrm h=>exact .nrm ⟨_,hs,h⟩
  | @pan l1 c' l2 s1 v h' hp' hl h2 hw' hc=>exact .pan (l1:=c::l1) hp' (by rw[hl];rfl) ⟨_,hs,h2⟩ hw' hc
 | @step k c l0 st0 st1 r hw hs' hck h ih=>
  rintro l st e st' ⟨⟩ ho pan hp;have hs:St1 Γ k c st0 st1:=⟨.inr ⟨hw,.inl hs'⟩,λ_=>hck⟩;cases ih _ _ _ _ rfl ho pan hp with
  | nrm h=>exact .nrm ⟨_,hs,h⟩
  | @pan l1 c' l2 s1 v h' hp' hl h2 hw' hc=>exact .pan (l1:=c::l1) hp' (by rw[hl];rfl) ⟨_,hs,h2⟩ hw' hc
 | @call k c l0 st0 g as v h' r hw hce hk hck h ih1 ih=>
  rintro l st e st' ⟨⟩ ho pan hp;have hs:St1 Γ k c st0 (({st0 with h:=h'}:St).put c.d v):=⟨.inr ⟨hw,.inr ⟨g,as,v,h',hce,hk,rfl⟩⟩,λ_=>hck⟩;cases ih _ _ _ _ rfl ho pan hp with
  | nrm h=>exact .nrm ⟨_,hs,h⟩
  | @pan l1 c' l2 s1 v h' hp' hl h2 hw' hc=>exact .pan (l1:=c::l1) hp' (by rw[hl];rfl) ⟨_,hs,h2⟩ hw' hc
 | @callP k c l0 st0 g as v h' hw hce hk=>
  rintro l st e st' ⟨⟩ ⟨⟩ pan hp;exact .pan (l1:=[]) (by simpa using hp) rfl rfl hw (.inl ⟨g,as,hce,hk⟩)
 | @panic k c l0 st0 x t v hw hce hv=>
  rintro l st e st' ⟨⟩ ⟨⟩ pan hp;exact .pan (l1:=[]) (s1:=st0) (h':=st0.h) (by simpa using hp) rfl rfl hw (.inr ⟨x,t,v,hce,rfl,hv,rfl⟩)
 | _=>rintro l st e st' ⟨⟩
def Qx(S:qV)(L:List Nat)(n B:Nat)(m0:Mp)(h0:AH)(w0:World)(e:qi)(st:St):Exit->Act->World->Prop
 |.normal,a,w=>e=.nrm/\∃m,FR S m L n B st a w/\Fr B m0 h0 w0 m st.h w
 |.exit i,a,w=>e=.exit i/\∃m,FR S m L n B st a w/\Fr B m0 h0 w0 m st.h w
 |.ret,a,w=>e=.ret/\∃m,FR S m L n B st a w/\Fr B m0 h0 w0 m st.h w
 |.panic ch,a,w=>a.defers=[]/\∃v u m,e=.pan v/\ch=[{v:=u,recovered:=false}]/\HR S.N m st.h w/\Fr B m0 h0 w0 m st.h w/\VR S.N m v u
 | _,_,_=>False
def Qa(S:qV)(L:List Nat)(n B:Nat)(m0:Mp)(h0:AH)(w0:World)(e:qi)(st:St)(Q:Exit->Act->World->Prop):Prop:=
 ∀x a w,Qx S L n B m0 h0 w0 e st x a w->Q x a w
def LoopWp(P:Program)(c:Code)(Q:Exit->Act->World->Prop)(a:Act)(w:World):Prop:=
 ∀(b:Frame)(k:List Item)(cs:List Frame),∃e a' w',Q e a' w'/\Arrives P (lone (b.at a (.code c::.inLoop c::k)) cs w) b k cs e a' w'
def WP'(P:Program)(c:Code)(Q:Exit->Act->World->Prop)(a:Act)(w:World):Prop:=match c with
 |.loop c=>LoopWp P c Q a w
 | c=>c.wp P Q a w
theorem WP'.wp{P:Program}{c:Code}{Q:Exit->Act->World->Prop}{a:Act}{w:World}(h:WP' P c Q a w):c.wp P Q a w:=by
 cases c with
 | loop c=>exact λb k cs=>let ⟨e,a',w',q,r⟩:=h b k cs;⟨e,a',w',q,.of_steps (.one step_loop) r⟩
 | _=>exact h
theorem LoopWp.step{P:Program}{Q:Exit->Act->World->Prop}{a:Act}{w:World}{c:Code}(h:c.wp P (Exit.then (LoopWp P c Q) Q) a w):LoopWp P c Q a w:=by
 intro b k cs;obtain⟨e,a₁,w₁,hq,harr⟩:=h b (.inLoop c::k) cs;cases e with
 | normal=>
  obtain⟨e₂,a₂,w₂,hq₂,harr₂⟩:=hq b k cs;exact⟨e₂,a₂,w₂,hq₂,.of_steps (Steps.trans harr (.one step_inLoop)) harr₂⟩
 | exit id=>exact⟨_,a₁,w₁,hq,.pass (x:=.inLoop c) rfl (λ_ _=>.inl (by simp)) harr⟩
 | goto l=>exact⟨_,a₁,w₁,hq,.pass (x:=.inLoop c) rfl (λ_ _=>.inl (by simp)) harr⟩
 | ret=>exact⟨_,a₁,w₁,hq,.pass (x:=.inLoop c) rfl (λ_ _=>.inl (by simp)) harr⟩
 | panic ch=>exact⟨_,a₁,w₁,hq,.pass (x:=.inLoop c) rfl (λ_ _=>.inl (by simp)) harr⟩
 | outgrown=>exact⟨_,a₁,w₁,hq,.pass (x:=.inLoop c) rfl (λ_ _=>.inl (by simp)) harr⟩
section
variable {S:qV} {L:List Nat} {n B:Nat}
theorem qFW(hG:GOK Γ)(hK:QL S Γ)(hcs:ZW S Γ kk){m0:Mp}{h0:AH}{w0:World}{j:Job}{o:Out}(h:Ex Γ kk j o):
  ∀c st e st',j=.code c st->o=.st e st'->∀{code:Code}{a:Act}{w:World}{m:Mp}{Q:Exit->Act->World->Prop},js S L n c code=true->FR S m L n B st a w->Fr B m0 h0 w0 m st.h w->
   Qa S L n B m0 h0 w0 e st' Q->WP' S.P code Q a w:=by
 induction h with
 | cskip=>
  rintro c st e st' ⟨⟩ ⟨⟩ code a w m Q hm hf hfr hQ;cases code<;>simp only[js,bFt]at hm
  ·exact wp_skip (hQ _ _ _ ⟨rfl,m,hf,hfr⟩)
  ·exact wp_label (hQ _ _ _ ⟨rfl,m,hf,hfr⟩)
 | @reg k pan l st0 e0 st1 h hp ih=>
  rintro c st e st' ⟨⟩ ⟨⟩ code a w m Q hm hf hfr hQ;cases code<;>simp only[js,bFt]at hm;rename_i id ops draw;have hr:=qoP h _ _ _ _ rfl rfl pan hp;have q1:e0=.nrm->∀a' w' m',FR S m' L n B st1 a' w'->Fr B m0 h0 w0 m' st1.h w'->Q .normal a' w':=λhe a' w' m' q1 q2=>hQ _ _ _ ⟨he,m',q1,q2⟩;have q2:∀v,e0=.pan v->∀a' w' m' u,a'.defers=[]->HR S.N m' st1.h w'->Fr B m0 h0 w0 m' st1.h w'->VR S.N m' v u->Q (.panic [{v:=u,recovered:=false}]) a' w':=
   λv he a' w' m' u q0 q1 q2 q3=>hQ _ _ _ ⟨q0,v,u,m',he,rfl,q1,q2,q3⟩
  cases draw with
  | false=>
   have hm0:=hm;unfold Vk at hm;simp only[bFt,if_false,bAt]at hm;obtain⟨h1,h2⟩:=hm;unfold qJ1 at h2;simp only[bAt,bIe]at h2;obtain⟨⟨⟨h3,h4⟩,h5⟩,h6⟩:=h2;refine wp_region ?_;have e1:List.range ops.size=l.map (·.i):=by rw[<-h3];exact(idxs_range h4).symm
   rw[e1];exact qJ2 hG hK hcs q1 q2 h4 h1 h5 h6 hf (λe _ hlt=>by omega) hfr hr
  | true=>
   have hR:=qpJ hm;refine wp_region_any S.mixed ?_;have hl:left (Array.replicate ops.size false) l=l:=by
    refine List.filter_eq_self.2 λc hc=>?_;have:=hR.rng c hc;simp[Array.getD,this]
   have hlen:l.length<=ops.size:=len_le hR;refine qpK hG hK hcs hR q1 q2 ops.size (by simp) (by rw[hl];exact hlen) ?_ hf.drew (λe _ hlt=>?_) (hfr.trans Fr.drew) (by rw[hl];exact hr)
   ·intro x o hx;simp[Array.getD]at hx
   ·simp[Array.getD]at hlt
 | @seqN k a0 b0 st0 st1 r h h' ih1 ih2=>
  rintro c st e st' ⟨⟩ rfl code a w m Q hm hf hfr hQ;cases code<;>simp only[js,bFt,bAt]at hm;refine wp_seq (ih1 hcs _ _ _ _ rfl rfl hm.1 hf hfr ?_).wp;rintro x a1 w1 hx;cases x<;>simp only[Qx,reduceCtorEq,false_and,and_false,exists_false]at hx
  ·obtain⟨_,m1,q1,q2⟩:=hx;exact(ih2 hcs _ _ _ _ rfl rfl hm.2 q1 q2 hQ).wp
  all_goals try (obtain⟨_,_,_,_,q,_⟩:=hx;cases q)
 | @seqX k a0 b0 st0 e0 st1 h he ih=>
  rintro c st e st' ⟨⟩ ⟨⟩ code a w m Q hm hf hfr hQ;cases code<;>simp only[js,bFt,bAt]at hm;refine wp_seq (ih hcs _ _ _ _ rfl rfl hm.1 hf hfr ?_).wp;rintro x a1 w1 hx;have:=hQ x a1 w1 hx;cases x with
  | normal=>exact absurd hx.1 he
  | _=>exact this
 | @cond k c0 a0 b0 st0 t r hc h ih=>
  rintro c st e st' ⟨⟩ rfl code a w m Q hm hf hfr hQ;cases code<;>simp only[js,bFt,bAt]at hm;have hv:=qw (a:=a) hm.1.1 hf.slots hc;simp only[VR]at hv;refine wp_cond hv ?_;cases t with
  | true=>exact(ih hcs _ _ _ _ rfl rfl hm.1.2 hf hfr hQ).wp
  | false=>exact(ih hcs _ _ _ _ rfl rfl hm.2 hf hfr hQ).wp
 | @blk k i a0 st0 e0 st1 h ih=>
  rintro c st e st' ⟨⟩ ⟨⟩ code a w m Q hm hf hfr hQ;cases code<;>simp only[js,bFt,bAt,bIe]at hm;obtain⟨rfl,hm⟩:=hm;refine wp_block (ih hcs _ _ _ _ rfl rfl hm hf hfr ?_).wp;rintro x a1 w1 hx;cases x with
  | normal=>
   obtain⟨rfl,q⟩:=hx;exact hQ _ _ _ ⟨rfl,q⟩
  | exit i'=>
   obtain⟨rfl,q⟩:=hx;simp only[Exit.inBlock];split
   ·rename_i hi;exact hQ _ _ _ ⟨by simp[Zc,hi],q⟩
   ·rename_i hi;exact hQ _ _ _ ⟨by simp[Zc,hi],q⟩
  | ret=>
   obtain⟨rfl,q⟩:=hx;exact hQ _ _ _ ⟨rfl,q⟩
  | panic ch=>
   obtain⟨hd,v,u,m1,rfl,q⟩:=hx;exact hQ _ _ _ ⟨hd,v,u,m1,rfl,q⟩
  | goto l=>exact hx.elim
  | outgrown=>exact hx.elim
 | @loopN k a0 st0 st1 r h h' ih1 ih2=>
  rintro c st e st' ⟨⟩ rfl code a w m Q hm hf hfr hQ;cases code<;>simp only[js,bFt]at hm;rename_i body;refine LoopWp.step (ih1 hcs _ _ _ _ rfl rfl hm hf hfr ?_).wp;rintro x a1 w1 hx;cases x<;>simp only[Qx,reduceCtorEq,false_and,and_false,exists_false]at hx
  ·obtain⟨_,m1,q1,q2⟩:=hx;exact ih2 hcs _ _ _ _ rfl rfl (code:=.loop body) (by simpa only [js]using hm) q1 q2 hQ
  all_goals try (obtain⟨_,_,_,_,q,_⟩:=hx;cases q)
 | @loopX k a0 st0 e0 st1 h he ih=>
  rintro c st e st' ⟨⟩ ⟨⟩ code a w m Q hm hf hfr hQ;cases code<;>simp only[js,bFt]at hm;refine LoopWp.step (ih hcs _ _ _ _ rfl rfl hm hf hfr ?_).wp;rintro x a1 w1 hx;have:=hQ x a1 w1 hx;cases x with
  | normal=>exact absurd hx.1 he
  | _=>exact this
 | exit=>
  rintro c st e st' ⟨⟩ ⟨⟩ code a w m Q hm hf hfr hQ;cases code<;>simp only[js,bFt,bIe]at hm;subst hm;exact wp_exit (hQ _ _ _ ⟨rfl,m,hf,hfr⟩)
 | ret=>
  rintro c st e st' ⟨⟩ ⟨⟩ code a w m Q hm hf hfr hQ;cases code<;>simp only[js,bFt]at hm;exact wp_ret (hQ _ _ _ ⟨rfl,m,hf,hfr⟩)
 | @frz k c0 st0 st1 r K hz h ih=>
  rintro c st e st' ⟨⟩ rfl code a w m Q hm hf hfr hQ;have hfr':Fr B m0 h0 w0 (m.frz K w) st1.h w:=by
   rw[hz.h];exact hfr.trans (Fr.frz hz.rows)
  exact ih hcs _ _ _ _ rfl rfl hm (hf.frz hz) hfr' hQ
 | @cvh k c0 st0 r K id wd el el' rw' hK hid ho hl' hc h ih=>
  rintro c st e st' ⟨⟩ rfl code a w m Q hm hf hfr hQ;exact ih hcs _ _ _ _ rfl rfl hm (hf.cvh hK hid ho hl' hc) (hfr.trans (Fr.cvh hK hid ho)) hQ
 | _=>rintro c st e st' ⟨⟩
where
 idxs_range:∀{l:List qC},Zh l 0=true->l.map (·.i)=List.range l.length:=by
  intro l h;have:∀(l:List qC)(k:Nat),Zh l k=true->l.map (·.i)=List.range' k l.length:=by
   intro l
   induction l with
   | nil=>intro k _;rfl
   | cons c l ih=>
    intro k h;simp only[Zh,bAt,bIe]at h;rw[lMc,lCo,List.range'_succ,ih _ h.2,h.1]
  rw[this l 0 h,List.range_eq_range']
 len_le:∀{S:qV}{L:List Nat}{n:Nat}{ns:List jP}{pan:Bool}{l:List qC}{ops:Array Oper},RegD S L n ns pan l ops->l.length<=ops.size:=by
  intro S L n ns pan l ops hR;have hnd:(l.map (·.i)).Nodup:=by
   rw[List.nodup_iff_pairwise_ne,List.pairwise_map];refine hR.pair.imp λ{y d} h=>?_;unfold Zp at h;simp only[bAt,bNt,beq_eq_false_iff_ne]at h;exact h.1.1
  have hsub:(l.map (·.i))⊆List.range ops.size:=by
   intro i hi;obtain⟨c,hc,rfl⟩:=List.mem_map.1 hi;exact lMr.2 (hR.rng c hc)
  have:=nodup_len hnd hsub;simpa using this
 nodup_len:∀{xs ys:List Nat},xs.Nodup->xs⊆ys->xs.length<=ys.length:=by
  intro xs
  induction xs with
  | nil=>intro ys _ _;simp
  | cons x xs ih=>
   intro ys hn hs;rw[List.nodup_cons]at hn;have hx:x∈ys:=hs lMs;have h1:xs⊆ys.erase x:=by
    intro y hy;have:y≠x:=by rintro rfl;exact hn.1 hy
    exact(List.mem_erase_of_ne this).2 (hs (mCm _ hy))
   have:=ih hn.2 h1;rw[List.length_erase_of_mem hx]at this;have hpos:0<ys.length:=List.length_pos_of_mem hx;simp only[lCo];omega
end
end Go.Ab
namespace Go.Ab
open Go
def mRes(S:qV)(L:List Nat):jh->ResultVar->Bool
 |.t n,.tmp t=>n==t&& !mem L t
 |.l n sh,.cell t T=>n==t&&Jt S T sh
 |.h n sh,.cell t T=>n==t&& !mem L t&&Jt S T sh
 | _,_=>false
def Zm(S:qV)(L:List Nat):List jh->List ResultVar->Bool
 |[],[]=>true
 | x::xs,y::ys=>mRes S L x y&&Zm S L xs ys
 | _,_=>false
def Js:qP->List Nat
 |.reg _ l=>l.filterMap λc=>if WU c.o then c.d else none
 |.seq a b=>Js a++Js b
 |.cond _ a b=>Js a++Js b
 |.blk _ a=>Js a
 |.loop a=>Js a
 | _=>[]
def Zl(S:qV)(F:qJ)(fn:Func):Bool:=match fn.body with
 | some c=>decide (F.np<=fn.ntmps)&&Zm S (Js F.body) F.res fn.results.toList&&js S (Js F.body) fn.ntmps F.body c
 | none=>false
section
variable {S:qV} {m:Mp} {L:List Nat} {n B:Nat} {st:St} {a:Act} {w:World}
theorem qnL(hf:FR S m L n B st a w){x:jh}{y:ResultVar}{v:AV}(h:mRes S L x y=true)(hv:wm st x=some v):
  ∃u,(match y with
   |.tmp t=>pure (a.tmps.getD t undef)
   |.cell b t=>do loadVar t (<-asAddr (a.tmps.getD b undef)):Sem Value).run S.P w=.ok u w/\VR S.N m v u:=by
 cases x<;>cases y<;>simp only[mRes,bFt,bAt,bIe,bNt]at h
 case t.tmp t t'=>
  obtain⟨rfl,h2⟩:=h;simp only[wm]at hv;exact⟨_,rfl,hf.slots _ _ hv (Wd.1 h2)⟩
 case l.cell t sh t' T=>
  obtain⟨rfl,h2⟩:=h;simp only[wm]at hv;cases hlk:lk st.l t with
  | none=>simp[hlk]at hv
  | some c=>
   simp only[hlk,oBs]at hv;obtain⟨_,b,h1,⟨cs,e,fz,hb,_,_,hcs⟩,_⟩:=hf.locs t c hlk;obtain⟨u,hu,hr⟩:=Vn (S:=S) (t:=T) (sh:=sh) (o:=0) (j:=0) hb hcs hv h2;refine⟨u, ?_,hr⟩;have:a.tmps.getD t undef=.pointer (some ⟨b,0,none⟩):=by simp[Array.getD_eq_getD_getElem?,h1]
   simp[this,asAddr,hu]
 case h.cell t sh t' T=>
  obtain⟨⟨rfl,h1⟩,h2⟩:=h;simp only[wm]at hv;split at hv
  ·rename_i id i j hp;split at hv
   ·rename_i w' el rw' ho;cases hel:el[i]? with
    | none=>simp[hel]at hv
    | some e=>
     simp only[hel,oBs]at hv;have hp':=hf.slots _ _ hp (Wd.1 h1);obtain⟨u,hu,hr⟩:=qKV (t:=T) hf.heap h2 hp' ho hel hv;obtain⟨p,_,hq⟩:=hp'.ptr_inv;refine⟨u, ?_,hr⟩;rw[hq]at hu;simp only[hq];simpa[asAddr,Instr.loadAt,Instr.sureAddr,Sem.run_bind]using hu
   ·cases hv
  ·cases hv
theorem qIG(hf:FR S m L n B st a w):∀{xs:List jh}{ys:List ResultVar}{vs:List AV},Zm S L xs ys=true->jM st xs=some vs->
  ∃us,(ys.mapM (λ|.tmp t=>pure (a.tmps.getD t undef) |.cell b t=>do loadVar t (<-asAddr (a.tmps.getD b undef)):ResultVar->Sem Value)).run S.P w=.ok us w/\VRs S.N m vs us
 |[],[],vs,_,h=>by
  simp only[jM,oSi]at h;subst h;exact⟨[],by simp,by simp only[VRs]⟩
 |[],_::_,_,h,_=>by simp[Zm]at h
 | _::_,[],_,h,_=>by simp[Zm]at h
 | x::xs,y::ys,vs,h,hv=>by
  simp only[Zm,bAt]at h;simp only[jM]at hv;split at hv
  ·rename_i v vs' h1 h2;simp only[oSi]at hv;subst hv;obtain⟨u,hu,hr⟩:=qnL hf h.1 h1;obtain⟨us,hus,hrs⟩:=qIG hf h.2 h2;refine⟨u::us, ?_,by simp only[VRs];exact⟨u,us,rfl,hr,hrs⟩⟩;rw[List.mapM_cons];simp only[Sem.run_bind];cases y with
   | tmp t=>
    simp only at hu|-;rw[hu];simp only[Result.andThen_ok];rw[hus];rfl
   | cell b t=>
    simp only at hu|-;rw[hu];simp only[Result.andThen_ok];rw[hus];rfl
  ·cases hv
theorem qpP(hf:FR S m L n B st a w){fn:Func}{xs:List jh}{vs:List AV}(h:Zm S L xs fn.results.toList=true)(hv:jM st xs=some vs):
  ∃u,(results fn a.tmps).run S.P w=.ok u w/\VR S.N m (jS vs) u:=by
 obtain⟨us,hus,hr⟩:=qIG hf h hv;have hlen:=hr.length;unfold results;rw[Array.mapM_eq_mapM_toList];simp only[Sem.run_bind,map_eq_pure_bind]
 erw [hus]
 simp only[Result.andThen_ok,Sem.run_pure];cases vs with
 | nil=>
  have:us=[]:=List.length_eq_zero_iff.1 (by simpa using hlen.symm);subst this;exact⟨_,rfl,by simp only[jS,VR,VRs];exact⟨#[],by simp,rfl⟩⟩
 | cons v vs=>
  simp only[VRs]at hr;obtain⟨u,us',rfl,h1,h2⟩:=hr;cases vs with
  | nil=>
   simp only[VRs]at h2;subst h2;exact⟨_,rfl,by simpa[jS]using h1⟩
  | cons v2 vs=>
   simp only[VRs]at h2;obtain⟨u2,us2,rfl,h3,h4⟩:=h2;refine⟨_,rfl, ?_⟩;simp only[jS,VR];refine⟨(u::u2::us2).toArray,by simp, ?_⟩;simp only[VRs];exact⟨u,_,rfl,h1,u2,us2,rfl,h3,h4⟩
theorem FR.enter{h:AH}{as:List AV}{vs:Array Value}(hH:HR S.N m h w)(hvs:VRs S.N m as vs.toList)(hn:as.length<=n)(L:List Nat):
  FR S m L n w.heap.size {s:=params 0 as,l:=Env.empty,h:=h} {tmps:=vs++Array.replicate (n-vs.size) undef,defers:=[]} w where
 heap:=hH
 slots:=by
  intro t v ht _;have hp:∀(as:List AV)(us:List Value)(k:Nat),VRs S.N m as us->lk (params k as) t=some v->k<=t/\∃u,us[t-k]?=some u/\VR S.N m v u:=by
   intro as
   induction as with
   | nil=>intro us k _ h;cases h
   | cons a as ih=>
    intro us k h hl;simp only[VRs]at h;obtain⟨u,us',rfl,h1,h2⟩:=h;simp only[params,wQ]at hl;split at hl
    ·rename_i hk;subst hk;cases hl;exact⟨nLr _,u,by simp,h1⟩
    ·obtain⟨q1,u',q2,q3⟩:=ih us' (k+1) h2 hl;refine⟨by omega,u', ?_,q3⟩;have:t-k=(t-(k+1))+1:=by omega
     rw[this,List.getElem?_cons_succ];exact q2
  obtain⟨_,u,h1,h2⟩:=hp as vs.toList 0 hvs ht;have h3:vs[t]?=some u:=by simpa using h1
  have hlt:t<vs.size:=by
   rcases Nat.lt_or_ge t vs.size with h | h
   ·exact h
   ·rw[Array.getElem?_eq_none h]at h3;cases h3
  have h4:(vs++Array.replicate (n-vs.size) undef)[t]?=some u:=by rw[Array.getElem?_append_left hlt];exact h3
  simp only[Array.getD_eq_getD_getElem?];rw[h4];exact h2
 locs:=λt c h=>by cases h
 sep:=λt t' c c' b h=>by cases h
 defers:=rfl
 size:=by
  have:=hvs.length;simp only[Array.size_append,Array.size_replicate];simp only[Array.length_toList]at this;omega
 base:=nLr _
end
structure YM(S:qV)(Γ:Nat->Option AFn):Prop where
 fn:∀g F,Γ g=some (.fn F)->∃fn,S.P.funcs[S.N.f g]?=some fn/\Zl S F fn=true
 ext:∀g R,Γ g=some (.ext R)->∀as h r h',R as h r h'->∀m w (vs:Array Value),HR S.N m h w->VRs S.N m as vs.toList->
  Calls S.P (S.N.f g) vs w λe w'=>∃m',Fr w.heap.size m h w m' h' w'/\HR S.N m' h' w'/\(match r with
   |.ok v=>∃u,e=.returned u/\VR S.N m' v u
   |.pan v=>∃u,e=.panicked [{v:=u,recovered:=false}]/\VR S.N m' v u)
theorem qjN{S:qV}{Γ:Nat->Option AFn}(hG:GOK Γ)(hK:QL S Γ)(hF:YM S Γ){kk:Nat}(ih:∀k,k<kk->ZW S Γ k){j:Job}{o:Out}(hx:Ex Γ kk j o):
  ∀g as h r h',j=.call g as h->o=.res r h'->∀m w (vs:Array Value),HR S.N m h w->VRs S.N m as vs.toList->
  Calls S.P (S.N.f g) vs w λe w'=>∃m',Fr w.heap.size m h w m' h' w'/\HR S.N m' h' w'/\(match r with
   |.ok v=>∃u,e=.returned u/\VR S.N m' v u
   |.pan v=>∃u,e=.panicked [{v:=u,recovered:=false}]/\VR S.N m' v u):=by
 induction hx with
 | ext hg hr=>
  rintro g as h r h' ⟨⟩ ⟨⟩ m w vs hH hvs;exact hF.ext _ _ hg _ _ _ _ hr m w vs hH hvs
 | @fn k g F as h st e us hg hn hb he hr=>
  rintro g as h r h' ⟨⟩ ⟨⟩ m w vs hH hvs;obtain⟨fn,hfn,hm⟩:=hF.fn g F hg;unfold Zl at hm;cases hbody:fn.body with
  | none=>simp[hbody]at hm
  | some c=>
   simp only[hbody,bAt,dTe]at hm;obtain⟨⟨h1,h2⟩,h3⟩:=hm;refine calls_of_wp hfn hbody ?_;refine(qFW hG hK (ih k (Nat.lt_succ_self k)) hb _ _ _ _ rfl rfl h3 (FR.enter hH hvs (by omega) (Js F.body)) (Fr.refl _ _ _ _) ?_).wp;have key:∀x a' w',(x=.normal\/x=.ret)->(∃m',FR S m' (Js F.body) fn.ntmps w.heap.size st a' w'/\Fr w.heap.size m h w m' st.h w')->bodyPost S.P fn (λe w'=>∃m',Fr w.heap.size m h w m' st.h w'/\HR S.N m' st.h w'/\∃u,e=.returned u/\VR S.N m' (jS us) u) x a' w':=by
    rintro x a' w' hxx ⟨m',q1,q2⟩;obtain⟨u,hu,hv⟩:=qpP q1 h2 hr;rcases hxx with rfl | rfl
    ·exact⟨q1.defers,u,hu,m',q2,q1.heap,u,rfl,hv⟩
    ·exact⟨q1.defers,u,hu,m',q2,q1.heap,u,rfl,hv⟩
   intro x a' w' hq;cases x with
   | normal=>exact key _ a' w' (.inl rfl) hq.2
   | ret=>exact key _ a' w' (.inr rfl) hq.2
   | exit i=>obtain⟨q,_⟩:=hq;rcases he with rfl | rfl<;>cases q
   | goto l=>exact hq.elim
   | panic ch=>obtain⟨_,v,u,m',q,_⟩:=hq;rcases he with rfl | rfl<;>cases q
   | outgrown=>exact hq.elim
 | @fnP k g F as h st v hg hn hb=>
  rintro g as h r h' ⟨⟩ ⟨⟩ m w vs hH hvs;obtain⟨fn,hfn,hm⟩:=hF.fn g F hg;unfold Zl at hm;cases hbody:fn.body with
  | none=>simp[hbody]at hm
  | some c=>
   simp only[hbody,bAt,dTe]at hm;obtain⟨⟨h1,h2⟩,h3⟩:=hm;refine calls_of_wp hfn hbody ?_;refine(qFW hG hK (ih k (Nat.lt_succ_self k)) hb _ _ _ _ rfl rfl h3 (FR.enter hH hvs (by omega) (Js F.body)) (Fr.refl _ _ _ _) ?_).wp;intro x a' w' hq;cases x with
   | panic ch=>
    obtain⟨q0,v',u,m',q,rfl,q1,q2,q3⟩:=hq;cases q;exact⟨q0,m',q2,q1,u,rfl,q3⟩
   | normal=>cases hq.1
   | ret=>cases hq.1
   | exit i=>cases hq.1
   | goto l=>exact hq.elim
   | outgrown=>exact hq.elim
 | @frzA k g as as' h r K hR hl hc hx ihx=>
  rintro g as h r h' ⟨⟩ rfl m w vs hH hvs;refine Calls.mono (ihx ih _ _ _ _ _ rfl rfl (m.frz K w) w vs (hH.frz hR) (Yi hH hR hl hc hvs)) ?_;rintro e w' ⟨m',h1,h2,h3⟩;exact⟨m',(Fr.frz hR).trans h1,h2,h3⟩
 | @frzR k g as h v v' h' K hR hc hx ihx=>
  rintro g as h r h' ⟨⟩ ⟨⟩ m w vs hH hvs;refine Calls.mono (ihx ih _ _ _ _ _ rfl rfl m w vs hH hvs) ?_;rintro e w' ⟨m',h1,h2,u,rfl,h3⟩;exact⟨m'.frz K w',h1.trans (Fr.frz hR),h2.frz hR,u,rfl,XK h2 hR hc h3⟩
 | @brw k g as as' h v h' K hK hl hc ht hx ihx=>
  rintro g as h r h' ⟨⟩ ⟨⟩ m w vs hH hvs;refine Calls.mono (ihx ih _ _ _ _ _ rfl rfl (m.frz K w) w vs (hH.frz hK.rows) (Yi hH hK.rows hl hc hvs)) ?_;rintro e w' ⟨m',h1,h2,u,rfl,h3⟩;have hw:=Fr.lent hK h1 (nLr _);refine⟨m,⟨h1.os,h1.tape,h1.output,h1.size,m.le_refl,λb hb hs=>⟨hw b hb,λi o p=>hs i o p⟩,λb hb hf=>⟨λi o p=>hf.1 i o p,hf.2⟩⟩,hH.lent hw h1.size,u,rfl,qBZ _ _ ht h3⟩
 | @nilc k g w' c h v h1 h2 id hid hh1 hh2 ht hx1 hx2 ihx1 ihx2=>
  rintro g as h r h' ⟨⟩ ⟨⟩ m w vs hH hvs;simp only[VRs]at hvs;obtain⟨v0,us,hvs,hv0,rfl⟩:=hvs;have hv1:=hv0;simp only[VR]at hv0;obtain⟨a,cap,rfl,_,_,hd⟩:=hv0;simp only[lNi]at hvs;have hz:(a=none->cap=0)/\∀x,a=some x->0<cap->x.spot=none:=by
   rcases hd with⟨_,q1,q2⟩ | ⟨b,o,c,q1,_,_⟩
   ·exact⟨q1,q2⟩
   ·subst q1;exact⟨(λq=>nomatch q),(λx hx _=>by cases hx;rfl)⟩
  cases a with
  | none=>
   have hc:=hz.1 rfl;subst hc;refine Calls.mono (ihx1 ih _ _ _ _ _ rfl rfl m w vs hH (by rw[hvs];simp only[VRs,VR];exact⟨_,_,rfl,rfl,rfl⟩)) ?_;rintro e w2 ⟨m',q1,q2,u,rfl,q3⟩;exact⟨⟨m.p,m'.z⟩,(q1.drop hh1).tomb2,(hH.drop q2 q1.le hh1).tomb2,u,rfl,Z0 (m':=m') (m2:=⟨m.p,m'.z⟩) rfl _ _ ht q3⟩
  | some x=>
   obtain⟨g1,g2⟩:=hH.addDead hid ⟨x.block,x.off,w',cap⟩;refine Calls.mono (ihx2 ih _ _ _ _ _ rfl rfl _ w vs g1 (by
    rw[hvs];simp only[VRs,VR];refine⟨_,_,rfl,⟨⟨x.block,x.off,w',cap⟩,x,cap,Mp.upd_same _ _ _,rfl,rfl,nZl _,by simp,by simp,λh0=>?_⟩,rfl⟩;have:=hz.2 x rfl h0;obtain⟨b,o,s⟩:=x;simp only at this;simp[this])) ?_
   rintro e w2 ⟨m',q1,q2,u,rfl,q3⟩;have hle:m.le m':=g2.trans' q1.le;have hh:∀i o,h i=some o->h2 i=some o:=λi o hi=>hh2 i o (by rw[AH.upd_ne _ _ (by rintro rfl;rw[hid.1]at hi;cases hi)];exact hi);exact⟨⟨m.p,m'.z⟩,(q1.undead hid hle hh).tomb3,(hH.drop q2 hle hh).tomb3,u,rfl,Z0 (m':=m') (m2:=⟨m.p,m'.z⟩) rfl _ _ ht q3⟩
 | @brn k g as as' h v h' K S hK hl hc hv hn hx ihx=>
  rintro g as h r h' ⟨⟩ ⟨⟩ m w vs hH hvs;refine Calls.mono (ihx ih _ _ _ _ _ rfl rfl (m.frz K w) w vs (hH.frz hK.rows) (Yi hH hK.rows hl hc hvs)) ?_;rintro e w' ⟨m',h1,h2,u,rfl,h3⟩;obtain⟨q1,q2⟩:=HR.joined hK hH h1 h2 hn;exact⟨_,q2,q1,u,rfl,Wg (m':=m') (m2:=⟨m'.p,m.z⟩) (λ_=>rfl) _ _ hv h3⟩
 | @trim k g as h r h' id wd el rw' n ho hx ihx=>
  rintro g as h r h2 ⟨⟩ ⟨⟩ m w vs hH hvs;refine Calls.mono (ihx ih _ _ _ _ _ rfl rfl m w vs hH hvs) ?_;rintro e w' ⟨m',h1,h2,h3⟩;exact⟨m',h1.trim n ho,h2.trim n ho,h3⟩
 | @drop k g as h v h' hh ht hx ihx=>
  rintro g as h r h' ⟨⟩ ⟨⟩ m w vs hH hvs;refine Calls.mono (ihx ih _ _ _ _ _ rfl rfl m w vs hH hvs) ?_;rintro e w' ⟨m',h1,h2,u,rfl,h3⟩;exact⟨⟨m.p,m'.z⟩,h1.drop hh,hH.drop h2 h1.le hh,u,rfl,Z0 (m':=m') (m2:=⟨m.p,m'.z⟩) rfl _ _ ht h3⟩
 | _=>rintro g as h r h' ⟨⟩
theorem qjO{S:qV}{Γ:Nat->Option AFn}(hG:GOK Γ)(hK:QL S Γ)(hF:YM S Γ):∀k,ZW S Γ k:=by
 intro k
 induction k using Nat.strongRecOn with
 | _ k ih=>exact λg as h r h' hx m w vs hH hvs=>qjN hG hK hF ih hx _ _ _ _ _ rfl rfl m w vs hH hvs
def qHN:TypeDesc->TyK
 |.int k=>.int k
 |.string=>.str
 |.bool=>.bool
 |.pointer _=>.ptr
 |.slice e=>.slice e
 |.array n e=>.arr n e
 |.struct fs=>.struct (fs.toList.map λf=>(f.offset,f.type))
 |.map k e=>.map k e
 |.func _ _ _=>.func
 |.interface _=>.iface
 | _=>.other
def YU:Value->Option AV
 |.bool b=>some (.bool b)
 |.int k n=>some (.int k n)
 |.string b=>some (.str b.data.toList)
 |.pointer none=>some .nilp
 |.slice none 0 0=>some .nils
 |.map none=>some .nilm
 |.nilFunc=>some .nilf
 |.nilIface=>some .nili
 | _=>none
def XB:List Value->Option (List AV)
 |[]=>some []
 | v::vs=>match YU v,XB vs with
  | some a,some as=>some (a::as)
  | _,_=>none
def avOf:Value->Option AV
 |.agg vs=>(XB vs.toList).map .agg
 | v=>YU v
theorem qHM(k:IntKind):WX k k=true:=by cases k<;>rfl
theorem qGK:∀fs:List Field,Jp (fs.map λf=>(f.offset,f.type)) fs=true
 |[]=>rfl
 | f::fs=>by simp[Jp,qGK fs]
theorem qEJ{v:Value}{a:AV}(h:YU v=some a):zU a v=true/\a.sc=true:=by
 unfold YU at h;split at h<;>first
  | (cases h;done)
  | (simp only[oSi]at h;subst h;simp[zU,qHM,AV.sc])
theorem qEK:∀{vs:List Value}{as:List AV},XB vs=some as->Jn as vs=true/\as.all AV.sc=true
 |[],as,h=>by simp only[XB,oSi]at h;subst h;exact⟨rfl,rfl⟩
 | v::vs,as,h=>by
  simp only[XB]at h;split at h
  ·rename_i a as' h1 h2;simp only[oSi]at h;subst h;obtain⟨q1,q2⟩:=qEJ h1;obtain⟨q3,q4⟩:=qEK h2;simp[Jn,q1,q2,q3,q4]
  ·cases h
theorem qiB{v:Value}{a:AV}(h:avOf v=some a):zU a v=true:=by
 unfold avOf at h;split at h
 ·rename_i vs;simp only[oMi]at h;obtain⟨as,h1,rfl⟩:=h;obtain⟨q1,q2⟩:=qEK h1;simp[zU,q1,q2]
 ·exact(qEJ h).1
def tyOf(P:Program)(t:TypeId):Option TyI:=match P.info? t,P.underlying t with
 | some ti,some d=>some ⟨qHN d,ti.size,ti.bytes,ti.zero.bind avOf⟩
 | _,_=>none
theorem qq1{P:Program}{t:TypeId}{i:TyI}(h:tyOf P t=some i):TyOK P t i:=by
 unfold tyOf at h;split at h
 ·rename_i ti d h1 h2;simp only[oSi]at h;subst h;refine⟨⟨d,h2, ?_⟩,ti,h1,rfl,rfl,λz hz=>?_⟩
  ·cases d<;>simp[qHN,zn,qHM,qGK]
  ·simp only[Option.bind_eq_some_iff]at hz;obtain⟨v,q1,q2⟩:=hz;exact⟨v,q1,qiB q2⟩
 ·cases h
def qV.of(P:Program)(N:zB)(h:P.follows .mixedOrders=true):qV where
 P:=P
 N:=N
 T:=tyOf P
 hT:=λ_ _ h=>qq1 h
 mixed:=h
end Go.Ab
