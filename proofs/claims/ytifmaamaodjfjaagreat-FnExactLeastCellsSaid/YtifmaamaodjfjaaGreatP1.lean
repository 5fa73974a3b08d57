/- Texts Ab15 .. Ab18: the abstract machine, its laws and contracts of functions: lemmas for the statement. No condition. -/
import Derived.Below
import Derived.ChangeKeysEq
import Derived.Great.BuildSlice
import Derived.Laws.Cells
import Derived.Laws.Entries
import Derived.Laws.MakeOwn
import Derived.Laws.Sem
import Derived.Laws.StructEq
import Derived.Laws.Tables
import Derived.MapKept
import Derived.Orders
import Derived.Test.YtifmaamaodjfjaaGreatP0
set_option linter.unusedSimpArgs false
set_option linter.unusedVariables false
namespace Go.Ab
open Go
inductive Hk where
 | pure
 | load
 | alloc
 | loud
def hk:AOp->Hk
 |.load _ _ |.mlen _ |.look _ _ _ _ |.slcx _ _ _ _=>.load
 |.halloc _ _ |.hbox _ _ |.bslice _ _ _ _ |.mksl _ _ _ _ |.mkmap=>.alloc
 |.store _ _ _ |.app _ _ _ |.appx _ _ _ |.clear _ _ _ |.mupd _ _ _ |.call _ _ |.callv _ _ |.panic _=>.loud
 | _=>.pure
def zd:AOp->List Ao
 |.mov x |.lbox _ x |.hbox _ x |.lstore _ _ _ x |.load _ x |.nilchk x |.isnil _ _ x |.not x |.conv _ x |.faddr _ x |.ext x _ |.len x |.mlen x |.clear _ _ x |.panic x=>[x]
 |.pick a b c=>[a,b,c]
 |.store _ a b |.bin _ a b |.beq _ a b |.seq _ _ a b |.mksl _ _ a b |.iaddr _ a b |.aidx _ _ _ a b |.app _ a b |.appx _ a b |.max a b |.min a b |.look _ a b _=>[a,b]
 |.mupd a b c=>[a,b,c]
 |.build _ ps=>ps.map (·.2.2)
 |.bslice _ _ _ ps=>ps.map (·.2)
 |.slc _ x lo hi mx=>x::(lo.toList++(hi.toList++mx.toList))
 |.slcx _ x lo hi=>x::(lo.toList++hi.toList)
 |.slcm _ x lo hi mx=>[x,lo,hi,mx]
 |.mkfn _ xs |.call _ xs=>xs
 |.callv x xs=>x::xs
 |.lalloc _ |.halloc _ _ |.lload _ _ _ |.mkmap |.nop _=>[]
def jd(c:qC):Option (Nat×Bool):=match c.o with
 |.lalloc _ |.lbox _ _=>c.d.map λt=>(t,true)
 |.lstore t _ _ _=>some (t,true)
 |.lload t _ _=>some (t,false)
 |.nop t=>some (t,false)
 | _=>none
theorem Yq{s s':Env}:∀{xs:List Ao},(∀x∈xs,ev s x=ev s' x)->evs s xs=evs s' xs
 |[],_=>rfl
 | x::xs,h=>by
  simp only[evs];rw[h x lMs,Yq (λy hy=>h y (mCm _ hy))]
theorem qES{s s':Env}:∀{ps:List (Nat×Nat×Ao)}{z:AV},(∀x∈ps.map (·.2.2),ev s x=ev s' x)->jZ s z ps=jZ s' z ps
 |[],_,_=>rfl
 | (o,k,x)::ps,z,h=>by
  simp only[jZ];rw[h x (by simp)];have ih:∀z,jZ s z ps=jZ s' z ps:=λz=>qES (λy hy=>h y (by simp only[lMc,mCo];exact .inr hy));simp only[ih]
theorem qGN{s s':Env}{w:Nat}:∀{ps:List (Nat×Ao)}{el:List AV},(∀x∈ps.map (·.2),ev s x=ev s' x)->jE s w el ps=jE s' w el ps
 |[],_,_=>rfl
 | (i,x)::ps,el,h=>by
  simp only[jE];rw[h x (by simp)];have ih:∀el,jE s w el ps=jE s' w el ps:=λz=>qGN (λy hy=>h y (by simp only[lMc,mCo];exact .inr hy));simp only[ih]
theorem Qu{s s':Env}{x:Option Ao}{d lo hi:Nat}(h:∀y∈x.toList,ev s y=ev s' y):bnd s x d lo hi=bnd s' x d lo hi:=by
 cases x with
 | none=>rfl
 | some y=>simp only[bnd];rw[h y (by simp)]
theorem V5{c:AOp}{s s' l l':Env}{h h':AH}(he:∀x∈zd c,ev s x=ev s' x)(hl:∀t,(c=.nop t\/∃off sh,c=.lload t off sh)->lk l t=lk l' t)(hh:(match hk c with |.load=>h=h' | _=>True)):
  val c s l h=val c s' l' h':=by
 cases c<;>first
  | rfl
  | skip
 case build z ps=>exact qES he
 case lload t off sh=>simp only[val];rw[hl t (.inr ⟨off,sh,rfl⟩)]
 case nop t=>simp only[val];rw[hl t (.inl rfl)]
 case mkfn g xs=>simp only[val];rw[Yq (xs:=xs) he]
 case slc w x lo hi mx=>
  have h0:=he x (by simp[zd]);have h1:∀d a b,bnd s lo d a b=bnd s' lo d a b:=λd a b=>Qu (λy hy=>he y (by simp only[zd,mCo,jL];exact .inr (.inl hy)));have h2:∀d a b,bnd s hi d a b=bnd s' hi d a b:=λd a b=>Qu (λy hy=>he y (by simp only[zd,mCo,jL];exact .inr (.inr (.inl hy))));have h3:∀m d a b,mx=some m->bnd s (some m) d a b=bnd s' (some m) d a b:=λm d a b hm=>Qu (λy hy=>he y (by simp only[zd,mCo,jL,hm];exact .inr (.inr (.inr hy))));cases mx with
  | none=>simp only[val,h0,h1,h2]
  | some m=>simp only[val,h0,h1,h2,h3 m _ _ _ rfl]
 case slcm w x lo hi mx=>
  have h0:=he x (by simp[zd]);have h1:∀d a b,bnd s (some lo) d a b=bnd s' (some lo) d a b:=λd a b=>Qu (λy hy=>he y (by simp at hy;simp[zd,hy]));have h2:∀d a b,bnd s (some hi) d a b=bnd s' (some hi) d a b:=λd a b=>Qu (λy hy=>he y (by simp at hy;simp[zd,hy]));have h3:∀d a b,bnd s (some mx) d a b=bnd s' (some mx) d a b:=λd a b=>Qu (λy hy=>he y (by simp at hy;simp[zd,hy]));simp only[val,h0,h1,h2,h3]
 case slcx w x lo hi=>
  simp only[hk]at hh;subst hh;have h0:=he x (by simp[zd]);have h1:∀d a b,bnd s lo d a b=bnd s' lo d a b:=λd a b=>Qu (λy hy=>he y (by simp only[zd,mCo,jL];exact .inr (.inl hy)));have h2:∀d a b,bnd s hi d a b=bnd s' hi d a b:=λd a b=>Qu (λy hy=>he y (by simp only[zd,mCo,jL];exact .inr (.inr hy)));simp only[val,h0,h1,h2]
 case load sh p=>
  simp only[hk]at hh;subst hh;simp only[val,he p (by simp[zd])]
 case mlen x=>
  simp only[hk]at hh;subst hh;simp only[val,he x (by simp[zd])]
 case look z m k ok=>
  simp only[hk]at hh;subst hh;simp only[val,he m (by simp[zd]),he k (by simp[zd])]
 all_goals
  simp only[zd,List.forall_mem_cons,List.not_mem_nil,false_imp_iff,implies_true,and_true]at he;simp only[val,he]
def qy(d:Option Nat)(vw:Option AV)(lw:Option (Nat×AV))(st:St)(h:AH):St where
 s:=match vw with
  | some v=>je st.s d v
  | none=>st.s
 l:=match lw with
  | some (t,x)=>st.l.set t x
  | none=>st.l
 h:=h
variable (Γ:Nat->Option AFn) (kk:Nat)
def St0(c:qC)(st st':St):Prop:=
 (zM st.s c.g=some false/\st'=st.put c.d .undef)\/
 (zM st.s c.g=some true/\(Step c.o c.d st st'\/∃g as v h',jD st.s c.o=some (g,as)/\Ex Γ kk (.call g as st.h) (.res (.ok v) h')/\st'=({st with h:=h'}:St).put c.d v))
def St1(c:qC)(st st':St):Prop:=St0 Γ kk c st st'/\(zM st.s c.g=some true->Checks st' c.ck)
def RunL:List qC->St->St->Prop
 |[],st,st'=>st'=st
 | c::l,st,st'=>∃s1,St1 Γ kk c st s1/\RunL l s1 st'
structure zj(c:qC)(a b:St):Prop where
 e:∀x∈zd c.o,ev a.s x=ev b.s x
 w:zM a.s c.g=zM b.s c.g
 l:∀t k,jd c=some (t,k)->lk a.l t=lk b.l t
theorem qnC{c:qC}{t:Nat}(h:c.o=.nop t\/∃off sh,c.o=.lload t off sh):jd c=some (t,false):=by
 rcases h with h | ⟨off,sh,h⟩<;>simp[jd,h]
theorem App.eff{w:Nat}{a b:AV}{st st':St}{d:Option Nat}(h:App w a b st d st'):∃vw,st'=qy d vw none st st'.h/\∀s2:St,s2.h=st.h->App w a b s2 d (qy d vw none s2 st'.h):=by
 obtain⟨ys,h1,h2,h3⟩:=h;cases a<;>try (exact h3.elim)
 case nils=>
  simp only at h3;split at h3
  ·rename_i h0;subst h3;refine⟨some .nils,rfl,λs2 hh=>⟨ys,by rw[hh];exact h1,h2, ?_⟩⟩;simp only;rw[iP h0];simp only[qy,St.put,<-hh]
  ·rename_i h0;obtain⟨hl,id,hn,rfl⟩:=h3;refine⟨some (.slice w id 0 ys.length false),rfl,λs2 hh=>⟨ys,by rw[hh];exact h1,h2, ?_⟩⟩;simp only;rw[iN h0];exact⟨hl,id,by rw[hh];exact hn,by simp only[qy,hh]⟩
 case slice w' k off len clip=>
  obtain⟨rfl,h3⟩:=h3;split at h3
  ·rename_i h0;subst h3;refine⟨some (.slice w' k off len clip),rfl,λs2 hh=>⟨ys,by rw[hh];exact h1,h2,rfl, ?_⟩⟩;rw[iP h0];simp only[qy,St.put,<-hh]
  ·rename_i h0;obtain⟨hl,xs,h4,h5⟩:=h3;split at h5
   ·rename_i hc;obtain⟨id,hn,rfl⟩:=h5;refine⟨some (.slice w' id 0 (len+ys.length) false),rfl,λs2 hh=>⟨ys,by rw[hh];exact h1,h2,rfl, ?_⟩⟩;rw[iN h0];refine⟨hl,xs,by rw[hh];exact h4, ?_⟩;rw[iP hc];exact⟨id,by rw[hh];exact hn,by simp only[qy,hh]⟩
   ·rename_i hc;obtain⟨hel,id,hn,rfl⟩:=h5;refine⟨some (.slice w' id 0 (len+ys.length) false),rfl,λs2 hh=>⟨ys,by rw[hh];exact h1,h2,rfl, ?_⟩⟩;rw[iN h0];refine⟨hl,xs,by rw[hh];exact h4, ?_⟩;rw[iN hc];exact⟨by rw[hh];exact hel,id,by simp only[hh];exact hn,by simp only[qy,hh]⟩
 case lst w' xs clip=>
  obtain⟨rfl,h3⟩:=h3;split at h3
  ·rename_i h0;subst h3;refine⟨some (.lst w' xs clip),rfl,λs2 hh=>⟨ys,by rw[hh];exact h1,h2,rfl, ?_⟩⟩;rw[iP h0];simp only[qy,St.put,<-hh]
  ·rename_i h0;obtain⟨hl,hc,id,hn,rfl⟩:=h3;refine⟨some (.slice w' id 0 (xs.length+ys.length) false),rfl,λs2 hh=>⟨ys,by rw[hh];exact h1,h2,rfl, ?_⟩⟩;rw[iN h0];exact⟨hl,hc,id,by rw[hh];exact hn,by simp only[qy,hh]⟩
theorem qKZ{c:qC}{st st':St}(h:Step c.o c.d st st'):
  ∃vw lw,st'=qy c.d vw lw st st'.h/\(∀t x,lw=some (t,x)->jd c=some (t,true))/\
   match hk c.o with
   |.pure=>st'.h=st.h/\∀s2,zj c st s2->Step c.o c.d s2 (qy c.d vw lw s2 s2.h)
   |.load=>st'.h=st.h/\∀s2,zj c st s2->val c.o st.s st.l s2.h=val c.o st.s st.l st.h->Step c.o c.d s2 (qy c.d vw lw s2 s2.h)
   |.alloc=>∃id o,st.h.fr id/\st'.h=st.h.upd id o/\∀s2,zj c st s2->s2.h.fr id->Step c.o c.d s2 (qy c.d vw lw s2 (s2.h.upd id o))
   |.loud=>∀s2,zj c st s2->s2.h=st.h->Step c.o c.d s2 (qy c.d vw lw s2 st'.h):=by
 obtain⟨i,d,g,o,ck⟩:=c;simp only[qC.o,qC.d]at h|-;cases o
 case lalloc z=>
  obtain⟨t,rfl,rfl⟩:=h;exact⟨none,some (t,z),rfl,(λ_ _ e=>by cases e;rfl),rfl,λs2 ha=>⟨t,rfl,rfl⟩⟩
 case lbox k x=>
  obtain⟨t,v,rfl,h2,h3,rfl⟩:=h;exact⟨none,some (t,v),rfl,(λ_ _ e=>by cases e;rfl),rfl,λs2 ha=>⟨t,v,rfl,by rw[<-ha.e x (by simp[zd,qC.o])];exact h2,h3,rfl⟩⟩
 case lstore t off k x=>
  obtain⟨a,v,c',h1,h2,h3,h4,rfl⟩:=h;refine⟨none,some (t,c'),rfl,(λ_ _ e=>by cases e;rfl),rfl,λs2 ha=>⟨a,v,c', ?_, ?_,h3,h4,rfl⟩⟩
  ·rw[<-ha.l t true rfl];exact h1
  ·rw[<-ha.e x (by simp[zd,qC.o])];exact h2
 case halloc w z=>
  obtain⟨id,hn,rfl⟩:=h;exact⟨some (.ptr id 0 0),none,rfl,nofun,id,_,hn,rfl,λs2 ha h2=>⟨id,h2,rfl⟩⟩
 case hbox w x=>
  obtain⟨v,h1,h2,id,hn,rfl⟩:=h;exact⟨some (.ptr id 0 0),none,rfl,nofun,id,_,hn,rfl,λs2 ha h3=>⟨v,by rw[<-ha.e x (by simp[zd,qC.o])];exact h1,h2,id,h3,rfl⟩⟩
 case bslice w z n ps=>
  obtain⟨el,h1,id,hn,rfl⟩:=h;exact⟨some (.slice w id 0 n false),none,rfl,nofun,id,_,hn,rfl,λs2 ha h3=>⟨el,by rw[<-qGN ha.e];exact h1,id,h3,rfl⟩⟩
 case mksl w z l c=>
  obtain⟨k,k',x,y,h1,h2,h3,h4,h5,id,hn,rfl⟩:=h;exact⟨some (.slice w id 0 x.toNat false),none,rfl,nofun,id,_,hn,rfl,λs2 ha h6=>⟨k,k',x,y,by rw[<-ha.e l (by simp[zd,qC.o])];exact h1,by rw[<-ha.e c (by simp[zd,qC.o])];exact h2,h3,h4,h5,id,h6,rfl⟩⟩
 case mkmap=>
  obtain⟨id,hn,rfl⟩:=h;exact⟨some (.map id),none,rfl,nofun,id,_,hn,rfl,λs2 ha h2=>⟨id,h2,rfl⟩⟩
 case call=>exact h.elim
 case callv=>exact h.elim
 case panic=>exact h.elim
 case store k p x=>
  obtain⟨j,i',q,v,w,el,e,e',h1,h2,h3,h4,h5,h6,rfl⟩:=h;exact⟨none,none,rfl,nofun,λs2 ha hh=>⟨j,i',q,v,w,el,e,e',by rw[<-ha.e p (by simp[zd,qC.o])];exact h1,by rw[<-ha.e x (by simp[zd,qC.o])];exact h2,h3,by rw[hh];exact h4,h5,h6,by rw[hh];rfl⟩⟩
 case appx w x y=>
  obtain⟨a,b,h1,h2,ys,id,off,len,el,g1,g2,g3,g4,g5,id',g6,rfl⟩:=h;exact⟨some (.slice w id' 0 (len+ys.length) false),none,rfl,nofun,λs2 ha hh=>⟨a,b,by rw[<-ha.e x (by simp[zd,qC.o])];exact h1,by rw[<-ha.e y (by simp[zd,qC.o])];exact h2,ys,id,off,len,el,by rw[hh];exact g1,g2,g3,by rw[hh];exact g4,g5,id',by simp only[hh];exact g6,by simp only[qy,hh]⟩⟩
 case app w x y=>
  obtain⟨a,b,h1,h2,h3⟩:=h;obtain⟨vw,e1,e2⟩:=h3.eff;exact⟨vw,none,e1,nofun,λs2 ha hh=>⟨a,b,by rw[<-ha.e x (by simp[zd,qC.o])];exact h1,by rw[<-ha.e y (by simp[zd,qC.o])];exact h2,e2 s2 hh⟩⟩
 case clear w z x=>
  obtain⟨a,xs,h1,h3,h6⟩:=h;cases a<;>try (exact h6.elim)
  case nils=>
   subst h6;exact⟨none,none,rfl,nofun,λs2 ha hh=>⟨.nils,xs,by rw[<-ha.e x (by simp[zd,qC.o])];exact h1,by rw[hh];exact h3,by simp only[qy,<-hh]⟩⟩
  case slice w' k off len clip=>
   obtain⟨rfl,el,h7,rfl⟩:=h6;exact⟨none,none,rfl,nofun,λs2 ha hh=>⟨.slice w' k off len clip,xs,by rw[<-ha.e x (by simp[zd,qC.o])];exact h1,by rw[hh];exact h3,rfl,el,by rw[hh];exact h7,by simp only[qy,hh]⟩⟩
 case mupd m k v=>
  obtain⟨j,k',v',es,h1,h2,h3,h4,h5⟩:=h;have hg:∀s2,zj (.mk i d g (.mupd m k v) ck) st s2->ev s2.s m=some (.map j)/\ev s2.s k=some k'/\ev s2.s v=some v':=λs2 ha=>
   ⟨by rw[<-ha.e m (by simp[zd,qC.o])];exact h1,by rw[<-ha.e k (by simp[zd,qC.o])];exact h2,by rw[<-ha.e v (by simp[zd,qC.o])];exact h3⟩
  split at h5
  ·rename_i hf;subst h5;refine⟨none,none,rfl,nofun,λs2 ha hh=>⟨j,k',v',es,(hg s2 ha).1,(hg s2 ha).2.1,(hg s2 ha).2.2,by rw[hh];exact h4, ?_⟩⟩;rw[hf];simp only[qy,hh]
  ·rename_i hf;subst h5;refine⟨none,none,rfl,nofun,λs2 ha hh=>⟨j,k',v',es,(hg s2 ha).1,(hg s2 ha).2.1,(hg s2 ha).2.2,by rw[hh];exact h4, ?_⟩⟩;rw[hf];simp only[qy,hh]
  ·exact h5.elim
 all_goals
  obtain⟨v,h1,rfl⟩:=h;refine⟨some v,none,rfl,nofun,rfl,λs2 ha=>?_⟩;have hl:∀t,((_:AOp)=.nop t\/∃off sh,(_:AOp)=.lload t off sh)->lk st.l t=lk s2.l t:=λt e=>ha.l t false (qnC e)
  first
   | exact⟨v,(V5 (s:=st.s) (s':=s2.s) (l:=st.l) (l':=s2.l) (h:=st.h) (h':=s2.h) ha.e hl trivial).symm.trans h1,rfl⟩
   | exact λhv=>⟨v,(V5 (s:=st.s) (s':=s2.s) (l:=st.l) (l':=s2.l) (h:=s2.h) (h':=s2.h) ha.e hl rfl).symm.trans (hv.trans h1),rfl⟩
end Go.Ab
namespace Go.Ab
open Go
def aoS:Ao->List Nat
 |.t n=>[n]
 | _=>[]
def has(l:List Nat)(n:Nat):Bool:=l.any (· ==n)
theorem qHD{l:List Nat}{n:Nat}:has l n=true↔n∈l:=by simp[has]
def ZQ(c:qC):List Nat:=(zd c.o).flatMap aoS++(match c.g with
 | some (d,_)=>[d]
 | none=>[])
def wz(x c:qC):Bool:=match x.d with
 | some d=> !has (ZQ c) d&& !(match c.d with
  | some e=>e==d
  | none=>false)
 | none=>true
def ZY(y c:qC):Bool:=match jd y,jd c with
 | some (t,k),some (t',k')=> !(t==t') || (!k&& !k')
 | _,_=>true
def Vv:Option Nat->Option Nat->Bool
 | none,none=>true
 | some a,some b=>a==b
 | _,_=>false
theorem qKU{a b:Option Nat}(h:Vv a b=true):a=b:=by
 cases a<;>cases b<;>simp_all[Vv]
def gEq:Option (Nat×Bool)->Option (Nat×Bool)->Bool
 | none,none=>true
 | some (a,b),some (c,d)=>a==c&&b==d
 | _,_=>false
theorem qBM{a b:Option (Nat×Bool)}(h:gEq a b=true):a=b:=by
 cases a<;>cases b<;>simp_all[gEq];rename_i x y;obtain⟨a,b⟩:=x;obtain⟨c,d⟩:=y;simp_all[]
def qB2:AOp->AOp->Bool
 |.load sh (.t n),.load sh' (.t n')=>Vv sh sh'&&n==n'
 | _,_=>false
theorem qnB{a b:AOp}(h:qB2 a b=true):a=b:=by
 unfold qB2 at h;split at h
 ·simp only[bAt,bIe]at h;rw[qKU h.1,h.2]
 ·cases h
def qFP(c y:qC):Bool:=c.ck.any λk=>qB2 k.o y.o&&Vv k.d y.d&&gEq k.g y.g
def ind(y c:qC):Bool:=wz y c&&wz c y&&ZY y c&&(match hk y.o,hk c.o with
 |.pure,_=>true
 |.load,.loud=>qFP c y
 |.load,_=>true
 |.alloc,.pure=>true
 |.alloc,.alloc=>true
 |.loud,.alloc=>true
 | _,_=>false)
variable {Γ:Nat->Option AFn} {kk:Nat}
theorem qlE{s:Env}{d:Option Nat}{v:AV}{x:Ao}(h:∀e,d=some e->e∉aoS x):ev (je s d v) x=ev s x:=by
 cases x with
 | t n=>
  cases d with
  | none=>rfl
  | some e=>
   simp only[ev,je,wQ];rw[iN (by intro he;exact h e rfl (by simp[aoS,he]))]
 | c v=>rfl
 | f g=>rfl
theorem zj.apply{c:qC}{d:Option Nat}{vw:Option AV}{lw:Option (Nat×AV)}{st:St}{h:AH}(h1:∀e,d=some e->e∉ZQ c)(h2:∀t x,lw=some (t,x)->∀t' k,jd c=some (t',k)->t≠t'):
  zj c st (qy d vw lw st h) where
 e:=λx hx=>by
  unfold qy;cases vw with
  | none=>rfl
  | some v=>
   refine(qlE (λe he hx'=>h1 e he ?_)).symm;simp only[ZQ,jL,List.mem_flatMap];exact .inl ⟨x,hx,hx'⟩
 w:=by
  unfold qy;cases vw with
  | none=>rfl
  | some v=>
   cases hg:c.g with
   | none=>rfl
   | some q=>
    obtain⟨g,b⟩:=q;cases d with
    | none=>rfl
    | some e=>
     simp only[zM,je,wQ];rw[iN (by intro he;exact h1 e rfl (by simp[ZQ,hg,he]))]
 l:=λt k ht=>by
  unfold qy;cases lw with
  | none=>rfl
  | some q=>
   obtain⟨t',x⟩:=q;simp only[wQ];rw[iN (h2 t' x rfl t k ht)]
theorem zj.symm{c:qC}{a b:St}(h:zj c a b):zj c b a:=⟨λx hx=>(h.e x hx).symm,h.w.symm,λt k ht=>(h.l t k ht).symm⟩
theorem qAQ{c:qC}{s s':Env}(he:∀x∈zd c.o,ev s x=ev s' x):jD s c.o=jD s' c.o:=by
 cases hc:c.o<;>rw[hc]at he<;>simp only[jD]
 ·rename_i g xs;rw[Yq (xs:=xs) he]
 ·rename_i x xs;rw[he x (by simp[zd]),Yq (xs:=xs) (λy hy=>he y (by simp only[zd,mCo];exact .inr hy))]
theorem St0.eff(hG:GOK Γ){c:qC}{st st':St}(h:St0 Γ kk c st st'):
  ∃vw lw,st'=qy c.d vw lw st st'.h/\(∀t x,lw=some (t,x)->jd c=some (t,true))/\(∀id,st'.h.fr id->st.h.fr id)/\
   match hk c.o with
   |.pure=>st'.h=st.h/\∀s2,zj c st s2->St0 Γ kk c s2 (qy c.d vw lw s2 s2.h)
   |.load=>st'.h=st.h/\∀s2,zj c st s2->(zM st.s c.g=some true->val c.o st.s st.l s2.h=val c.o st.s st.l st.h)->St0 Γ kk c s2 (qy c.d vw lw s2 s2.h)
   |.alloc=>(st'.h=st.h/\∀s2,zj c st s2->St0 Γ kk c s2 (qy c.d vw lw s2 s2.h))\/
     ∃id o,st.h.fr id/\st'.h=st.h.upd id o/\∀s2,zj c st s2->s2.h.fr id->St0 Γ kk c s2 (qy c.d vw lw s2 (s2.h.upd id o))
   |.loud=>(∀s2,zj c st s2->s2.h=st.h->St0 Γ kk c s2 (qy c.d vw lw s2 st'.h))/\
     ∀s2 id o,zj c st s2->st'.h.fr id->s2.h=st.h.upd id o->St0 Γ kk c s2 (qy c.d vw lw s2 (st'.h.upd id o)):=by
 rcases h with⟨hw,rfl⟩ | ⟨hw,h | ⟨g,as,v,h',he,hx,rfl⟩⟩
 ·refine⟨some .undef,none,rfl,nofun,λ_ h=>h, ?_⟩;have key:∀s2:St,zj c st s2->St0 Γ kk c s2 (qy c.d (some .undef) none s2 s2.h):=λs2 ha=>.inl ⟨by rw[<-ha.w];exact hw,rfl⟩;cases hk c.o with
  | pure=>exact⟨rfl,key⟩
  | load=>exact⟨rfl,λs2 ha _=>key s2 ha⟩
  | alloc=>exact .inl ⟨rfl,key⟩
  | loud=>
   refine⟨λs2 ha hh=>?_,λs2 id o ha _ hh=>?_⟩
   ·have:=key s2 ha;rw[hh]at this;exact this
   ·have:=key s2 ha;rw[hh]at this;exact this
 ·obtain⟨vw,lw,e1,e2,e3⟩:=qKZ h;refine⟨vw,lw,e1,e2,λid hn=>(Step.up (o:=.dead) h hn).1, ?_⟩;cases hc:hk c.o with
  | pure=>
   simp only[hc]at e3;exact⟨e3.1,λs2 ha=>.inr ⟨by rw[<-ha.w];exact hw,.inl (e3.2 s2 ha)⟩⟩
  | load=>
   simp only[hc]at e3;exact⟨e3.1,λs2 ha hv=>.inr ⟨by rw[<-ha.w];exact hw,.inl (e3.2 s2 ha (hv hw))⟩⟩
  | alloc=>
   simp only[hc]at e3;obtain⟨id,o,h1,h2,h3⟩:=e3;exact .inr ⟨id,o,h1,h2,λs2 ha hn=>.inr ⟨by rw[<-ha.w];exact hw,.inl (h3 s2 ha hn)⟩⟩
  | loud=>
   simp only[hc]at e3;refine⟨λs2 ha hh=>.inr ⟨by rw[<-ha.w];exact hw,.inl (e3 s2 ha hh)⟩,λs2 id o ha hn hh=>?_⟩;have h1:=e3 {s2 with h:=st.h} ⟨ha.e,ha.w,ha.l⟩ rfl;have hu:=(Step.up (o:=o) h1 hn).2;have e4:({s2 with h:=st.h}:St).up id o=s2:=by
    obtain⟨ss,sl,sh⟩:=s2;simp only[St.up]at hh|-;rw[<-hh]
   rw[e4]at hu;exact .inr ⟨by rw[<-ha.w];exact hw,.inl hu⟩
 ·refine⟨some v,none,rfl,nofun,λid hn=>(hx.up hG id .dead hn).1, ?_⟩;have hl:hk c.o=.loud:=by
   cases hc:c.o<;>simp only[hc,jD]at he<;>first | rfl | cases he
  rw[hl];refine⟨λs2 ha hh=>.inr ⟨by rw[<-ha.w];exact hw,.inr ⟨g,as,v,h',by rw[<-qAQ ha.e];exact he,by rw[hh];exact hx,rfl⟩⟩,λs2 id o ha hn hh=>?_⟩;refine .inr ⟨by rw[<-ha.w];exact hw,.inr ⟨g,as,v,h'.upd id o,by rw[<-qAQ ha.e];exact he, ?_,rfl⟩⟩;rw[hh];exact(hx.up hG id o hn).2
theorem qh4{d e:Option Nat}{v v':Option AV}{q q':Option (Nat×AV)}{s:St}{h1 h2 h3:AH}(h:∀x,d=some x->e≠some x)(hl:∀t x t' x',q=some (t,x)->q'=some (t',x')->t≠t'):
  qy e v' q' (qy d v q s h1) h2=qy d v q (qy e v' q' s h3) h2:=by
 unfold qy;simp only[St.mk.injEq,and_true];constructor
 ·cases v with
  | none=>rfl
  | some v=>
   cases v' with
   | none=>rfl
   | some v'=>
    cases d with
    | none=>rfl
    | some d=>
     cases e with
     | none=>rfl
     | some e=>
      have hne:=h d rfl;have hne':e≠d:=λhq=>hne (by rw[hq]);funext n;show (if e=n then some v' else if d=n then some v else s.s n)=(if d=n then some v else if e=n then some v' else s.s n);by_cases h1:e=n<;>by_cases h2:d=n<;>simp[h1,h2];omega
 ·cases q with
  | none=>rfl
  | some q=>
   cases q' with
   | none=>rfl
   | some q'=>
    obtain⟨t,x⟩:=q;obtain⟨t',x'⟩:=q';have hne:=hl t x t' x' rfl rfl;funext n;show (if t'=n then some x' else if t=n then some x else s.l n)=(if t=n then some x else if t'=n then some x' else s.l n);by_cases h1:t'=n<;>by_cases h2:t=n<;>simp[h1,h2];omega
theorem Wf{x c:qC}(h:wz x c=true):∀e,x.d=some e->e∉ZQ c:=by
 intro e he;unfold wz at h;rw[he]at h;simp only[bAt,bNt]at h;intro hm;rw[qHD.2 hm]at h;cases h.1
theorem VO{x c:qC}(h:wz x c=true):∀e,x.d=some e->c.d≠some e:=by
 intro e he hc;unfold wz at h;rw[he,hc]at h;simp at h
theorem qAF{y c:qC}(h:ZY y c=true):(∀t,jd y=some (t,true)->∀t' k,jd c=some (t',k)->t≠t')/\(∀t,jd c=some (t,true)->∀t' k,jd y=some (t',k)->t≠t'):=by
 unfold ZY at h;constructor
 ·intro t hy t' k hc he;rw[hy,hc]at h;subst he;simp at h
 ·intro t hc t' k hy he;rw[hy,hc]at h;subst he;simp at h
theorem qID{y:qC}{s sa:St}(hy:St0 Γ kk y s sa)(hl:hk y.o=.load)(hw:zM s.s y.g=some true):∃v,val y.o s.s s.l s.h=some v/\sa=s.put y.d v:=by
 rcases hy with⟨h,_⟩ | ⟨_,h | ⟨g,as,v,h',he,_,_⟩⟩
 ·rw[hw]at h;cases h
 ·cases ho:y.o<;>rw[ho]at h hl<;>simp only[hk]at hl<;>first
   | (cases hl;done)
   | (obtain⟨v,h1,h2⟩:=h;exact⟨v,h1,h2⟩)
 ·cases ho:y.o<;>rw[ho]at he hl<;>simp only[hk,jD]at hl he<;>first
   | (cases hl;done)
   | (cases he;done)
theorem swap(hG:GOK Γ){y c:qC}{s sa sb:St}(hy:St0 Γ kk y s sa)(hc:St0 Γ kk c sa sb)(hi:ind y c=true)
  (hck:hk y.o=.load->hk c.o=.loud->zM s.s y.g=some true->val y.o s.s s.l sb.h=val y.o s.s s.l s.h):∃s1,St0 Γ kk c s s1/\St0 Γ kk y s1 sb:=by
 unfold ind at hi;simp only[bAt]at hi;obtain⟨⟨⟨n1,n2⟩,n3⟩,hi⟩:=hi;obtain⟨p1,p2⟩:=qAF n3;obtain⟨vy,ly,ey,fly,my,fy⟩:=hy.eff hG;obtain⟨vc,lc,ec,flc,mc,fc⟩:=hc.eff hG;have ac:zj c sa s:=by
  rw[ey];exact(zj.apply (Wf n1) (λt x hx t' k hk=>p1 t (fly t x hx) t' k hk)).symm
 have ay:∀h,zj y s (qy c.d vc lc s h):=λh=>zj.apply (Wf n2) (λt x hx t' k hk=>p2 t (flc t x hx) t' k hk);have fin:∀h,qy y.d vy ly (qy c.d vc lc s h) sb.h=sb:=λh=>by
  have q:sb=qy c.d vc lc (qy y.d vy ly s sa.h) sb.h:=by rw[<-ey];exact ec
  conv=>rhs;rw[q]
  refine(qh4 (λx hx=>VO n1 x hx) (λt x t' x' h1 h2=>?_)).symm;exact p1 t (fly t x h1) t' true (flc t' x' h2)
 --the heap of each
 cases ky:hk y.o<;>cases kc:hk c.o<;>simp only[ky,kc]at hi fy fc hck<;>try (cases hi;done)
 ·--pure,pure
  refine⟨_,fc.2 s ac, ?_⟩;have:=fy.2 _ (ay s.h);rw[show (qy c.d vc lc s s.h).h=sb.h by rw[fc.1,fy.1];rfl,fin]at this;exact this
 ·--pure,load
  refine⟨_,fc.2 s ac (λ_=>by rw[fy.1]), ?_⟩;have:=fy.2 _ (ay s.h);rw[show (qy c.d vc lc s s.h).h=sb.h by rw[fc.1,fy.1];rfl,fin]at this;exact this
 ·--pure,alloc
  rcases fc with fc | ⟨id,o,g1,g2,g3⟩
  ·refine⟨_,fc.2 s ac, ?_⟩;have:=fy.2 _ (ay s.h);rw[show (qy c.d vc lc s s.h).h=sb.h by rw[fc.1,fy.1];rfl,fin]at this;exact this
  ·refine⟨_,g3 s ac (by rw[<-fy.1];exact g1), ?_⟩;have:=fy.2 _ (ay (s.h.upd id o));rw[show (qy c.d vc lc s (s.h.upd id o)).h=sb.h by rw[g2,fy.1];rfl,fin]at this;exact this
 ·--pure,loud
  refine⟨_,fc.1 s ac fy.1.symm, ?_⟩;have:=fy.2 _ (ay sb.h);rw[show (qy c.d vc lc s sb.h).h=sb.h from rfl,fin]at this;exact this
 ·--load,pure
  refine⟨_,fc.2 s ac, ?_⟩;have:=fy.2 _ (ay s.h) (λ_=>rfl);rw[show (qy c.d vc lc s s.h).h=sb.h by rw[fc.1,fy.1];rfl,fin]at this;exact this
 ·--load,load
  refine⟨_,fc.2 s ac (λ_=>by rw[fy.1]), ?_⟩;have:=fy.2 _ (ay s.h) (λ_=>rfl);rw[show (qy c.d vc lc s s.h).h=sb.h by rw[fc.1,fy.1];rfl,fin]at this;exact this
 ·--load,alloc
  rcases fc with fc | ⟨id,o,g1,g2,g3⟩
  ·refine⟨_,fc.2 s ac, ?_⟩;have:=fy.2 _ (ay s.h) (λ_=>rfl);rw[show (qy c.d vc lc s s.h).h=sb.h by rw[fc.1,fy.1];rfl,fin]at this;exact this
  ·have hn:s.h.fr id:=by rw[<-fy.1];exact g1
   refine⟨_,g3 s ac hn, ?_⟩;have:=fy.2 _ (ay (s.h.upd id o)) (λhw=>by
    obtain⟨v,hv,_⟩:=qID hy ky hw;rw[hv];exact YG hn.1 hv)
   rw[show (qy c.d vc lc s (s.h.upd id o)).h=sb.h by rw[g2,fy.1];rfl,fin]at this;exact this
 ·--load,loud
  refine⟨_,fc.1 s ac fy.1.symm, ?_⟩;have:=fy.2 _ (ay sb.h) (λhw=>hck trivial trivial hw);rw[show (qy c.d vc lc s sb.h).h=sb.h from rfl,fin]at this;exact this
 ·--alloc,pure
  refine⟨_,fc.2 s (by exact ac), ?_⟩;rcases fy with fy | ⟨id,o,g1,g2,g3⟩
  ·have:=fy.2 _ (ay s.h);rw[show (qy c.d vc lc s s.h).h=sb.h by rw[fc.1,fy.1];rfl,fin]at this;exact this
  ·have:=g3 _ (ay s.h) g1;rw[show (qy c.d vc lc s s.h).h.upd id o=sb.h by rw[fc.1,g2];rfl,fin]at this;exact this
 ·--alloc,alloc
  rcases fc with fc | ⟨id,o,g1,g2,g3⟩
  ·refine⟨_,fc.2 s ac, ?_⟩;rcases fy with fy | ⟨id',o',k1,k2,k3⟩
   ·have:=fy.2 _ (ay s.h);rw[show (qy c.d vc lc s s.h).h=sb.h by rw[fc.1,fy.1];rfl,fin]at this;exact this
   ·have:=k3 _ (ay s.h) k1;rw[show (qy c.d vc lc s s.h).h.upd id' o'=sb.h by rw[fc.1,k2];rfl,fin]at this;exact this
  ·rcases fy with fy | ⟨id',o',k1,k2,k3⟩
   ·refine⟨_,g3 s ac (by rw[<-fy.1];exact g1), ?_⟩;have:=fy.2 _ (ay (s.h.upd id o));rw[show (qy c.d vc lc s (s.h.upd id o)).h=sb.h by rw[g2,fy.1];rfl,fin]at this;exact this
   ·have hne:id≠id':=by rintro rfl;rw[k2]at g1;exact AH.fr_ne g1 rfl
    have hn:s.h.fr id:=my id g1;refine⟨_,g3 s ac hn, ?_⟩;have:=k3 _ (ay (s.h.upd id o)) (AH.fresh_upd k1 (Ne.symm hne));rw[show (qy c.d vc lc s (s.h.upd id o)).h.upd id' o'=sb.h by rw[g2,k2];exact AH.upd_comm _ _ _ hne,fin]at this;exact this
 ·--loud,alloc
  rcases fc with fc | ⟨id,o,g1,g2,g3⟩
  ·refine⟨_,fc.2 s ac, ?_⟩;have:=fy.1 _ (ay s.h) rfl;rw[<-fc.1,fin]at this;exact this
  ·have hn:s.h.fr id:=my id g1;refine⟨_,g3 s ac hn, ?_⟩;have:=fy.2 _ id o (ay (s.h.upd id o)) g1 rfl;rw[<-g2,fin]at this;exact this
end Go.Ab
namespace Go.Ab
open Go
variable {Γ:Nat->Option AFn} {kk:Nat}
def X3(y:qC):Bool:=match y.d with
 | some d=> !has (ZQ y) d
 | none=>true
theorem qqD{y:qC}(h:X3 y=true):∀e,y.d=some e->e∉ZQ y:=by
 intro e he hm;unfold X3 at h;rw[he]at h;simp only[bNt]at h;rw[qHD.2 hm]at h;cases h
def Vi:Hk->Bool
 |.pure=>true
 |.load=>true
 | _=>false
theorem St0.quiet_h(hG:GOK Γ){y:qC}{s sa:St}(hy:St0 Γ kk y s sa)(hq:Vi (hk y.o)=true):sa.h=s.h:=by
 obtain⟨vy,ly,ey,fly,my,fy⟩:=hy.eff hG;cases ky:hk y.o<;>simp only[ky]at fy hq
 ·exact fy.1
 ·exact fy.1
 ·cases hq
 ·cases hq
theorem RunL.quiet_h(hG:GOK Γ):∀{ys:List qC}{s s':St},RunL Γ kk ys s s'->(∀y∈ys,Vi (hk y.o)=true)->s'.h=s.h
 |[],s,s',h,_=>by cases h;rfl
 | y::ys,s,s',⟨s1,h1,h2⟩,hq=>by
  rw[RunL.quiet_h hG h2 (λz hz=>hq z (mCm _ hz)),h1.1.quiet_h hG (hq y lMs)]
theorem St0.keeps(hG:GOK Γ){x y:qC}{s s':St}(h:St0 Γ kk x s s')(hn:∀e,x.d=some e->e∉ZQ y)(hl:ZY x y=true):zj y s s':=by
 obtain⟨v,l,e,fl,_,_⟩:=h.eff hG;rw[e];exact zj.apply hn (λt z hz=>(qAF hl).1 t (fl t z hz))
theorem St0.slot(hG:GOK Γ){x:qC}{s s':St}(h:St0 Γ kk x s s'){d:Nat}(hd:x.d≠some d):lk s'.s d=lk s.s d:=by
 obtain⟨v,l,e,_,_,_⟩:=h.eff hG;rw[e];unfold qy;cases v with
 | none=>rfl
 | some v=>
  cases hx:x.d with
  | none=>rfl
  | some q=>
   simp only[je,wQ];rw[iN (by rintro rfl;exact hd hx)]
theorem zj.trans{y:qC}{a b c:St}(h:zj y a b)(k:zj y b c):zj y a c:=
 ⟨λx hx=>(h.e x hx).trans (k.e x hx),h.w.trans k.w,λt q hq=>(h.l t q hq).trans (k.l t q hq)⟩
theorem qIB{y:qC}(h:hk y.o=.load):jd y=none:=by
 cases ho:y.o<;>rw[ho]at h<;>simp only[hk]at h<;>first
  | (cases h;done)
  | simp[jd,ho]
theorem YT{x y:qC}(h:jd y=none):ZY x y=true:=by
 unfold ZY;rw[h];cases jd x<;>rfl
theorem RunL.keeps(hG:GOK Γ){y:qC}(hy:jd y=none):∀{ys:List qC}{s s':St},RunL Γ kk ys s s'->(∀x∈ys,wz x y=true)->zj y s s'/\∀d,y.d=some d->lk s'.s d=lk s.s d
 |[],s,s',h,_=>by cases h;exact⟨⟨λ_ _=>rfl,rfl,λ_ _ _=>rfl⟩,λ_ _=>rfl⟩
 | x::ys,s,s',⟨s1,h1,h2⟩,hn=>by
  obtain⟨q1,q2⟩:=RunL.keeps hG hy h2 (λz hz=>hn z (mCm _ hz));have hx:=hn x lMs;refine⟨(h1.1.keeps hG (Wf hx) (YT hy)).trans q1,λd hd=>?_⟩;rw[q2 d hd];exact h1.1.slot hG (λhq=>VO hx d hq hd)
theorem qFI{st:St}:∀{l:List qC}{k:qC},Checks st l->k∈l->Again st k
 | _::_,_,h,.head _=>h.1
 | _::_,_,h,.tail _ hm=>qFI h.2 hm
theorem qHI{y c:qC}(h:ind y c=true)(hc:hk c.o=.loud):Vi (hk y.o)=true:=by
 unfold ind at h;simp only[bAt]at h;have:=h.2;cases ky:hk y.o<;>simp only[ky,hc]at this<;>first | rfl | cases this
def Q3(o:AOp):Bool:=match hk o with
 |.load=>true
 | _=>false
def WV(o:AOp):Bool:=match hk o with
 |.loud=>true
 | _=>false
theorem qmH{o:AOp}(h:Q3 o=true):hk o=.load:=by
 unfold Q3 at h;cases ho:hk o<;>simp only[ho]at h<;>first | rfl | cases h
theorem qmI{o:AOp}(h:WV o=true):hk o=.loud:=by
 unfold WV at h;cases ho:hk o<;>simp only[ho]at h<;>first | rfl | cases h
def Ye(y c:qC):Bool:=y.ck.isEmpty || (WV y.o&&y.ck.all λk=>Q3 k.o&&wz c k)
theorem qhX(hG:GOK Γ){c k:qC}{sa sb:St}(hc:St0 Γ kk c sa sb)(ha:hk c.o=.alloc)(hk':hk k.o=.load)(hn:wz c k=true)(h:Again sa k):Again sb k:=by
 have hloc:=qIB hk';have ag:zj k sa sb:=hc.keeps hG (Wf hn) (YT hloc);unfold Again at h|-;rw[<-ag.w];cases hw:zM sa.s k.g with
 | none=>rw[hw]at h;exact h
 | some t=>
  cases t with
  | false=>trivial
  | true=>
   rw[hw]at h;obtain⟨d,v,q1,q2,q3⟩:=h;refine⟨d,v,q1, ?_, ?_⟩
   ·rw[hc.slot hG (λhq=>VO hn d hq q1)];exact q2
   ·have e3:=V5 (c:=k.o) (s:=sa.s) (s':=sb.s) (l:=sa.l) (l':=sb.l) (h:=sb.h) (h':=sb.h) ag.e (λt e=>by rcases e with e | ⟨_,_,e⟩<;>rw[e]at hk'<;>cases hk') (by rw[hk']);rw[<-e3];obtain⟨vc,lc,ec,flc,mc,fc⟩:=hc.eff hG;simp only[ha]at fc;rcases fc with fc | ⟨id,o,g1,g2,_⟩
    ·rw[fc.1];exact q3
    ·rw[g2];exact YG g1.1 q3
theorem move(hG:GOK Γ){c:qC}:∀{ys:List qC}{s s' s'':St},RunL Γ kk ys s s'->St1 Γ kk c s' s''->(∀y∈ys,ind y c=true)->
  ys.Pairwise (λy y'=>hk y.o=.load->wz y' y=true)->(∀y∈ys,hk y.o=.load->X3 y=true)->(∀y∈ys,Ye y c=true)->∃s1,St0 Γ kk c s s1/\RunL Γ kk ys s1 s''
 |[],s,s',s'',h,hc,_,_,_,_=>by cases h;exact⟨s'',hc.1,rfl⟩
 | y::ys,s,s',s'',⟨sa,h1,h2⟩,hc,hi,hp,hs,hcks=>by
  rw[List.pairwise_cons]at hp;obtain⟨sb,g1,g2⟩:=move hG h2 hc (λz hz=>hi z (mCm _ hz)) hp.2 (λz hz=>hs z (mCm _ hz)) (λz hz=>hcks z (mCm _ hz));have hiy:=hi y lMs;have hswap:=swap hG h1.1 g1 hiy (λkl kc hw=>by
   --the look once more
   have hq:∀z∈ys,Vi (hk z.o)=true:=λz hz=>qHI (hi z (mCm _ hz)) kc;obtain⟨v,hv,hsa⟩:=qID h1.1 kl hw;have hha:sa.h=s.h:=h1.1.quiet_h hG (by rw[kl];rfl);have hb:s''.h=sb.h:=g2.quiet_h hG hq;have hloc:=qIB kl;have hself:=hs y lMs kl;have hcy:wz c y=true:=by
    unfold ind at hiy;simp only[bAt]at hiy;exact hiy.1.1.2
   have a1:zj y s sa:=h1.1.keeps hG (qqD hself) (YT hloc);have a2:zj y sa sb:=g1.keeps hG (Wf hcy) (YT hloc);obtain⟨a3,a4⟩:=g2.keeps hG hloc (λz hz=>hp.1 z hz kl);have ag:=(a1.trans a2).trans a3;cases hwc:zM s'.s c.g with
   | none=>
    rcases hc.1 with⟨q,_⟩ | ⟨q,_⟩<;>rw[hwc]at q<;>cases q
   | some t=>
    cases t with
    | false=>
     --the loud one is passed over
     have e1:s''.h=s'.h:=by
      rcases hc.1 with⟨_,q⟩ | ⟨q,_⟩
      ·rw[q];rfl
      ·rw[hwc]at q;cases q
     have e2:s'.h=sa.h:=h2.quiet_h hG hq;rw[<-hb,e1,e2,hha]
    | true=>
     have hck:=hc.2 hwc;have hmem:∃k∈c.ck,k.o=y.o/\k.d=y.d/\k.g=y.g:=by
      unfold ind at hiy;simp only[bAt,kl,kc]at hiy;have:=hiy.2;unfold qFP at this;rw[List.any_eq_true]at this;obtain⟨k,hk1,hk2⟩:=this;simp only[bAt]at hk2;exact⟨k,hk1,qnB hk2.1.1,qKU hk2.1.2,qBM hk2.2⟩
     obtain⟨k,hk1,ko,kd,kg⟩:=hmem;have hag:=qFI hck hk1;unfold Again at hag;rw[kg,<-ag.w,hw]at hag;obtain⟨d,v',q1,q2,q3⟩:=hag;rw[ko]at q3;rw[kd]at q1;have hd1:lk sa.s d=some v:=by
      rw[hsa,q1];simp[St.put,je,wQ]
     have hd2:lk sb.s d=lk sa.s d:=g1.slot hG (λhq=>VO hcy d hq q1);rw[a4 d q1,hd2,hd1]at q2;cases q2;have e3:=V5 (c:=y.o) (s:=s.s) (s':=s''.s) (l:=s.l) (l':=s''.l) (h:=sb.h) (h':=sb.h) ag.e (λt e=>by rcases e with e | ⟨_,_,e⟩<;>rw[e]at kl<;>cases kl) (by rw[kl]);rw[e3,<-hb,q3,hv])
  obtain⟨s1,k1,k2⟩:=hswap;refine⟨s1,k1,sb,⟨k2,λhw=>?_⟩,g2⟩;have hck:=hcks y lMs;unfold Ye at hck;rw[Bool.or_eq_true]at hck;rcases hck with hck | hck
  ·rw[List.isEmpty_iff.1 hck];trivial
  ·rw[bAt]at hck;have kl:=qmI hck.1;have hcy:wz c y=true/\ZY y c=true:=by
    unfold ind at hiy;simp only[bAt]at hiy;exact⟨hiy.1.1.2,hiy.1.2⟩
   have kc:hk c.o=.alloc:=by
    unfold ind at hiy;simp only[bAt]at hiy;have:=hiy.2;cases kc:hk c.o<;>simp only[kl,kc]at this<;>first | rfl | cases this
   have hw':zM s.s y.g=some true:=by
    have ag:zj y s s1:=by
     obtain⟨v,l,e,fl,_,_⟩:=k1.eff hG;rw[e];exact zj.apply (Wf hcy.1) (λt z hz=>(qAF hcy.2).2 t (fl t z hz))
    rw[ag.w];exact hw
   have hch:=h1.2 hw';have hall:=lAt.1 hck.2;have:∀l:List qC,(∀k∈l,k∈y.ck)->Checks sa l->Checks sb l:=by
    intro l
    induction l with
    | nil=>exact λ_ _=>trivial
    | cons k l ih=>
     intro hm hq;have hk:=hall k (hm k lMs);rw[bAt]at hk;exact⟨qhX hG g1 kc (qmH hk.1) hk.2 hq.1,ih (λz hz=>hm z (mCm _ hz)) hq.2⟩
   exact this y.ck (λ_ h=>h) hch
end Go.Ab
namespace Go.Ab
open Go
structure jA where
 b:Nat
 o:Nat
 w:Nat
 rc:Nat
structure Mp where
 p:Nat->Option jA
 z:Nat->Option (Array Value)
instance:CoeFun Mp λ_=>Nat->Option jA:=⟨Mp.p⟩
def AV.sc:AV->Bool
 |.agg _=>false
 |.tup _=>false
 |.any=>false
 | _=>true
structure zB where
 f:Nat->FuncId
 t:Nat->TypeId
mutual
def VR(N:zB)(m:Mp):AV->Value->Prop
 |.bool b,v=>v=.bool b
 |.int k n,v=>v=.int k n
 |.str s,v=>v=.string ⟨s.toArray⟩
 |.nilp,v=>v=.pointer none
 |.ptr id i j,v=>∃p,m id=some p/\v=.pointer (some ⟨p.b,p.o+(i*p.w+j),none⟩)
 |.nils,v=>v=.slice none 0 0
 |.slice w id off len clip,v=>∃p a cap,m id=some p/\p.w=w/\v=.slice (some a) len cap/\len<=cap/\off+cap<=p.rc/\((clip=true->cap=len)/\(clip=false->off+cap=p.rc))/\
   (0<cap->a=⟨p.b,p.o+off*w,none⟩)
 |.lst w xs clip,v=>∃(a:Option Addr)(cap:Nat),v=.slice a xs.length cap/\xs.length<=cap/\(clip=true->cap=xs.length)/\
   ((xs=[]/\(a=none->cap=0)/\∀x,a=some x->0<cap->x.spot=none)\/∃b o c,a=some ⟨b,o,none⟩/\m.z b=some c/\VRe N m w xs c o)
 |.ept x j,v=>∃b o c u,v=.pointer (some ⟨b,o+j,none⟩)/\m.z b=some c/\VR N m x u/\0<x.cells.length/\∀i,i<x.cells.length->c[o+i]?=u.cells[i]?
 |.nilm,v=>v=.map none
 |.map id,v=>∃p,m id=some p/\v=.map (some p.b)
 |.nilf,v=>v=.nilFunc
 |.fn g cs,v=>∃vs:Array Value,v=.func (.func (N.f g)) #[] vs/\VRs N m cs vs.toList
 |.nili,v=>v=.nilIface
 |.iface t x,v=>∃u,v=.iface (N.t t) u/\VR N m x u
 |.agg cs,v=>∃vs:Array Value,v=.agg vs/\VRs N m cs vs.toList/\cs.all AV.sc=true
 |.tup cs,v=>∃vs:Array Value,v=.tuple vs/\VRs N m cs vs.toList
 |.any,_=>True
def VRs(N:zB)(m:Mp):List AV->List Value->Prop
 |[],vs=>vs=[]
 | a::as,vs=>∃u us,vs=u::us/\VR N m a u/\VRs N m as us
def VRe(N:zB)(m:Mp)(w:Nat):List AV->Array Value->Nat->Prop
 |[],_,_=>True
 | a::as,c,o=>(∃u,VR N m a u/\a.cells.length=w/\0<w/\∀i,i<w->c[o+i]?=u.cells[i]?)/\VRe N m w as c (o+w)
end
def Mp.le(m m':Mp):Prop:=(∀id p,m id=some p->m' id=some p)/\∀b c,m.z b=some c->m'.z b=some c
theorem Mp.le_refl(m:Mp):m.le m:=⟨λ_ _ h=>h,λ_ _ h=>h⟩
theorem Mp.le_trans{a b c:Mp}(h:a.le b)(k:b.le c):a.le c:=⟨λi p x=>k.1 i p (h.1 i p x),λi p x=>k.2 i p (h.2 i p x)⟩
section
variable {N:zB} {m m':Mp}
mutual
theorem VR.mono(hm:m.le m'):∀(a:AV)(v:Value),VR N m a v->VR N m' a v
 |.bool _,_,h=>by simpa only [VR]using h
 |.int _ _,_,h=>by simpa only [VR]using h
 |.str _,_,h=>by simpa only [VR]using h
 |.nilp,_,h=>by simpa only [VR]using h
 |.nils,_,h=>by simpa only [VR]using h
 |.nilm,_,h=>by simpa only [VR]using h
 |.nilf,_,h=>by simpa only [VR]using h
 |.nili,_,h=>by simpa only [VR]using h
 |.any,_,_=>by simp only[VR]
 |.ptr _ _ _,_,h=>by
  simp only[VR]at h|-;obtain⟨p,h1,h2⟩:=h;exact⟨p,hm.1 _ _ h1,h2⟩
 |.map _,_,h=>by
  simp only[VR]at h|-;obtain⟨p,h1,h2⟩:=h;exact⟨p,hm.1 _ _ h1,h2⟩
 |.slice _ _ _ _ _,_,h=>by
  simp only[VR]at h|-;obtain⟨p,a,cap,h1,h2⟩:=h;exact⟨p,a,cap,hm.1 _ _ h1,h2⟩
 |.lst w xs _,_,h=>by
  simp only[VR]at h|-;obtain⟨a,cap,h1,h2,h3,h4⟩:=h;refine⟨a,cap,h1,h2,h3, ?_⟩;rcases h4 with h4 | ⟨b,o,c,h5,h6,h7⟩
  ·exact .inl h4
  ·exact .inr ⟨b,o,c,h5,hm.2 _ _ h6,VRe.mono hm w xs c o h7⟩
 |.ept x _,_,h=>by
  simp only[VR]at h|-;obtain⟨b,o,c,u,h1,h2,h3,h4⟩:=h;exact⟨b,o,c,u,h1,hm.2 _ _ h2,VR.mono hm x u h3,h4⟩
 |.fn _ cs,_,h=>by
  simp only[VR]at h|-;obtain⟨vs,h1,h2⟩:=h;exact⟨vs,h1,VRs.mono hm cs _ h2⟩
 |.iface _ x,_,h=>by
  simp only[VR]at h|-;obtain⟨u,h1,h2⟩:=h;exact⟨u,h1,VR.mono hm x u h2⟩
 |.agg cs,_,h=>by
  simp only[VR]at h|-;obtain⟨vs,h1,h2,h3⟩:=h;exact⟨vs,h1,VRs.mono hm cs _ h2,h3⟩
 |.tup cs,_,h=>by
  simp only[VR]at h|-;obtain⟨vs,h1,h2⟩:=h;exact⟨vs,h1,VRs.mono hm cs _ h2⟩
theorem VRs.mono(hm:m.le m'):∀(as:List AV)(vs:List Value),VRs N m as vs->VRs N m' as vs
 |[],_,h=>by simpa only [VRs]using h
 | a::as,vs,h=>by
  simp only[VRs]at h|-;obtain⟨u,us,h1,h2,h3⟩:=h;exact⟨u,us,h1,VR.mono hm a u h2,VRs.mono hm as us h3⟩
theorem VRe.mono(hm:m.le m')(w:Nat):∀(as:List AV)(c:Array Value)(o:Nat),VRe N m w as c o->VRe N m' w as c o
 |[],_,_,_=>by simp only[VRe]
 | a::as,c,o,h=>by
  simp only[VRe]at h|-;obtain⟨⟨u,h1,h2⟩,h3⟩:=h;exact⟨⟨u,VR.mono hm a u h1,h2⟩,VRe.mono hm w as c _ h3⟩
end
theorem VRs.length:∀{as:List AV}{vs:List Value},VRs N m as vs->as.length=vs.length
 |[],vs,h=>by simp only[VRs]at h;simp[h]
 | a::as,vs,h=>by
  simp only[VRs]at h;obtain⟨u,us,rfl,_,h3⟩:=h;simp[VRs.length h3]
theorem VRs.iff:∀{as:List AV}{vs:List Value},VRs N m as vs↔as.length=vs.length/\∀(i:Nat)(a:AV)(v:Value),as[i]?=some a->vs[i]?=some v->VR N m a v
 |[],vs=>by
  simp only[VRs];constructor
  ·rintro rfl;exact⟨rfl,λi a v h=>by simp at h⟩
  ·rintro⟨h,_⟩;exact lEz (by simpa using h.symm)
 | a::as,vs=>by
  simp only[VRs];constructor
  ·rintro⟨u,us,rfl,h2,h3⟩;have:=(VRs.iff).1 h3;refine⟨by simp[this.1],λi x y hx hy=>?_⟩;cases i with
   | zero=>simp at hx hy;subst hx hy;exact h2
   | succ i=>exact this.2 i x y (by simpa using hx) (by simpa using hy)
  ·rintro⟨h1,h2⟩;cases vs with
   | nil=>simp at h1
   | cons u us=>
    refine⟨u,us,rfl,h2 0 a u rfl rfl,(VRs.iff).2 ⟨by simpa using h1,λi x y hx hy=>h2 (i+1) x y (by simpa using hx) (by simpa using hy)⟩⟩
theorem VRs.append{as bs:List AV}{us vs:List Value}(h:VRs N m as us)(k:VRs N m bs vs):VRs N m (as++bs) (us++vs):=by
 induction as generalizing us with
 | nil=>simp only[VRs]at h;subst h;simpa using k
 | cons a as ih=>
  simp only[VRs]at h;obtain⟨u,us,rfl,h2,h3⟩:=h;simp only[lCa,VRs];exact⟨u,us++vs,rfl,h2,ih h3⟩
theorem VRs.take{as:List AV}{us:List Value}(h:VRs N m as us)(n:Nat):VRs N m (as.take n) (us.take n):=by
 rw[VRs.iff]at h|-;refine⟨by simp[h.1],λi a v ha hv=>?_⟩;rw[gTk]at ha hv;split at ha
 ·rename_i hi;rw[iP hi]at hv;exact h.2 i a v ha hv
 ·cases ha
theorem VRs.drop{as:List AV}{us:List Value}(h:VRs N m as us)(n:Nat):VRs N m (as.drop n) (us.drop n):=by
 rw[VRs.iff]at h|-;refine⟨by simp[h.1],λi a v ha hv=>?_⟩;rw[gDr]at ha hv;exact h.2 _ a v ha hv
theorem VRs.get{as:List AV}{us:List Value}(h:VRs N m as us){i:Nat}{a:AV}(ha:as[i]?=some a):∃u,us[i]?=some u/\VR N m a u:=by
 rw[VRs.iff]at h;have hi:i<us.length:=by rw[<-h.1];exact(gSi.1 ha).1
 exact⟨us[i],gEg hi,h.2 i a _ ha (gEg hi)⟩
theorem VR.sc_cells{a:AV}{v:Value}(h:VR N m a v)(hs:a.sc=true):v.cells= #[v]:=by
 cases a<;>simp only[VR]at h<;>simp only[AV.sc,bFt]at hs
 case lst=>obtain⟨_,_,rfl,_⟩:=h;rfl
 case ept=>obtain⟨_,_,_,_,rfl,_⟩:=h;rfl
 all_goals first
  | (subst h;rfl)
  | (obtain⟨_,_,rfl⟩:=h;rfl)
  | (obtain⟨_,rfl,_⟩:=h;rfl)
  | (obtain⟨_,_,_,_,_,rfl,_⟩:=h;rfl)
theorem VR.noAgg{a:AV}{v:Value}(h:VR N m a v)(hs:a.sc=true):(∀c,v≠.agg c)/\∀c,v≠.tuple c:=by
 cases a<;>simp only[VR]at h<;>simp only[AV.sc,bFt]at hs
 case lst=>obtain⟨_,_,rfl,_⟩:=h;exact⟨nofun,nofun⟩
 case ept=>obtain⟨_,_,_,_,rfl,_⟩:=h;exact⟨nofun,nofun⟩
 all_goals first
  | (subst h;exact⟨nofun,nofun⟩)
  | (obtain⟨_,_,rfl⟩:=h;exact⟨nofun,nofun⟩)
  | (obtain⟨_,rfl,_⟩:=h;exact⟨nofun,nofun⟩)
  | (obtain⟨_,_,_,_,_,rfl,_⟩:=h;exact⟨nofun,nofun⟩)
theorem VR.cells{a:AV}{v:Value}(h:VR N m a v)(hs:0<a.cells.length):VRs N m a.cells v.cells.toList/\a.cells.all AV.sc=true:=by
 by_cases hag:∃cs,a=.agg cs
 ·obtain⟨cs,rfl⟩:=hag;simp only[VR]at h;obtain⟨vs,rfl,h2,h3⟩:=h;exact⟨h2,h3⟩
 ·have hc:a.cells=[a]/\a.sc=true:=by
   cases a<;>first
    | exact⟨rfl,rfl⟩
    | exact absurd ⟨_,rfl⟩ hag
    | (simp[AV.cells]at hs;done)
  rw[hc.1,h.sc_cells hc.2];refine⟨?_,by simp[hc.2]⟩;simp only[VRs];exact⟨v,[],rfl,h,rfl⟩
end
def qA.live:qA->Bool
 |.dead=>false
 | _=>true
def CellsAt(N:zB)(m:Mp)(c:Array Value)(o:Nat)(cs:List AV):Prop:=
 ∀j x,cs[j]?=some x->x.sc=true/\∃u,c[o+j]?=some u/\VR N m x u
def W8(n:Nat)(fz:Nat×Nat):Prop:=∀k,k<n->¬(fz.1<=k/\k<fz.2)
def ObjAt(N:zB)(m:Mp)(w:World)(p:jA):qA->Prop
 |.dead=>True
 |.row wd el _=>p.w=wd/\el.length<=p.rc/\∃c e fz,w.heap[p.b]?=some (.cells c e fz)/\p.o+p.rc*wd<=c.size/\W8 c.size fz/\
   ∀i a,el[i]?=some a->a.cells.length=wd/\CellsAt N m c (p.o+i*wd) a.cells
 |.map es=>∃xs clock,w.heap[p.b]?=some (.map xs clock)/\clock=es.length/\xs.size=es.length/\
   ∀i k v,es[i]?=some (k,v)->∃x:MapEntry,xs[i]?=some x/\x.born=i/\VR N m k x.key/\VR N m v x.val
def Still(m:Mp)(h:AH)(b:Nat):Prop:=∀id o p,h id=some o->o.wr=true->m id=some p->p.b≠b
structure HR(N:zB)(m:Mp)(h:AH)(w:World):Prop where
 at':∀id o,h id=some o->∃p,m id=some p/\(o.live=true->p.b<w.heap.size)/\ObjAt N m w p o
 none':∀id,h.fr id->m id=none
 apart:∀i j o o' p q,h i=some o->h j=some o'->o.wr=true->o'.live=true->i≠j->m i=some p->m j=some q->p.b≠q.b
 zz:∀b c,m.z b=some c->(∃e fz,w.heap[b]?=some (.cells c e fz))/\Still m h b
def Free(m:Mp)(h:AH)(b:Nat):Prop:=(∀id o p,h id=some o->o.live=true->m id=some p->p.b≠b)/\m.z b=none
structure Fr(B:Nat)(m:Mp)(h:AH)(w:World)(m':Mp)(h':AH)(w':World):Prop where
 os:w'.os=w.os
 tape:w'.tape=w.tape
 output:w'.output=w.output
 size:w.heap.size<=w'.heap.size
 le:m.le m'
 keep:∀b,b<B->Still m h b->w'.heap[b]?=w.heap[b]?/\Still m' h' b
 free:∀b,b<B->Free m h b->Free m' h' b
theorem qA.live_of_wr{o:qA}(h:o.wr=true):o.live=true:=by cases o<;>simp_all[qA.wr,qA.live]
theorem Free.still{m:Mp}{h:AH}{b:Nat}(k:Free m h b):Still m h b:=λid o p ho hw hp=>k.1 id o p ho (qA.live_of_wr hw) hp
theorem Fr.refl(B:Nat)(m:Mp)(h:AH)(w:World):Fr B m h w m h w:=
 ⟨rfl,rfl,rfl,nLr _,m.le_refl,λ_ _ k=>⟨rfl,k⟩,λ_ _ k=>k⟩
theorem Fr.trans{B:Nat}{m m' m'':Mp}{h h' h'':AH}{w w' w'':World}(a:Fr B m h w m' h' w')(b:Fr B m' h' w' m'' h'' w''):Fr B m h w m'' h'' w'':=
  ⟨b.os.trans a.os,b.tape.trans a.tape,b.output.trans a.output,nLt a.size b.size,Mp.le_trans a.le b.le,
   λk hk hs=>let ⟨e,s⟩:=a.keep k hk hs;let ⟨e',s'⟩:=b.keep k hk s;⟨e'.trans e,s'⟩,
   λk hk hf=>b.free k hk (a.free k hk hf)⟩
theorem Fr.mono{B B':Nat}{m m':Mp}{h h':AH}{w w':World}(a:Fr B m h w m' h' w')(hB:B'<=B):Fr B' m h w m' h' w':=
 ⟨a.os,a.tape,a.output,a.size,a.le,λk hk=>a.keep k (nLl hk hB),λk hk=>a.free k (nLl hk hB)⟩
inductive TyK where
 | int (k:IntKind)
 | str
 | bool
 | ptr
 | slice (e:TypeId)
 | arr (n:Nat) (e:TypeId)
 | struct (fs:List (Nat×TypeId))
 | map (k e:TypeId)
 | func
 | iface
 | other
structure TyI where
 k:TyK
 sz:Nat
 bs:Nat
 z:Option AV
def TyK.ag:TyK->Bool
 |.arr _ _=>true
 |.struct _=>true
 | _=>false
def TyK.known:TyK->Bool
 |.other=>false
 | _=>true
def WX:IntKind->IntKind->Bool
 |.i8,.i8 |.i16,.i16 |.i32,.i32 |.i64,.i64 |.u8,.u8 |.u16,.u16 |.u32,.u32 |.u64,.u64=>true
 | _,_=>false
theorem WY{a b:IntKind}(h:WX a b=true):a=b:=by cases a<;>cases b<;>first | rfl | cases h
def Jp:List (Nat×TypeId)->List Field->Bool
 |[],[]=>true
 | (o,t)::r,f::fs=>f.offset==o&&f.type==t&&Jp r fs
 | _,_=>false
def zn:TyK->TypeDesc->Bool
 |.int k,.int k'=>WX k k'
 |.str,.string=>true
 |.bool,.bool=>true
 |.ptr,.pointer _=>true
 |.slice e,.slice e'=>e==e'
 |.arr n e,.array n' e'=>n==n'&&e==e'
 |.struct fs,.struct gs=>Jp fs gs.toList
 |.map k e,.map k' e'=>k==k'&&e==e'
 |.func,.func _ _ _=>true
 |.iface,.interface _=>true
 | _,_=>false
mutual
def zU:AV->Value->Bool
 |.bool b,.bool c=>b==c
 |.int k n,.int k' n'=>WX k k'&&n==n'
 |.str s,.string b=>b.data.toList==s
 |.nilp,.pointer none=>true
 |.nils,.slice none 0 0=>true
 |.nilm,.map none=>true
 |.nilf,.nilFunc=>true
 |.nili,.nilIface=>true
 |.agg cs,.agg vs=>Jn cs vs.toList&&cs.all AV.sc
 |.tup [],.tuple vs=>vs.toList.isEmpty
 | _,_=>false
def Jn:List AV->List Value->Bool
 |[],[]=>true
 | a::as,v::vs=>zU a v&&Jn as vs
 | _,_=>false
end
theorem qiH(b:ByteArray):(⟨b.data.toList.toArray⟩:ByteArray)=b:=by cases b;simp
theorem qj6{b:Bool}{v:Value}(h:zU (.bool b) v=true):v=.bool b:=by cases v<;>simp_all[zU]
theorem qj7{k:IntKind}{n:Int}{v:Value}(h:zU (.int k n) v=true):v=.int k n:=by
 cases v<;>simp only[zU,bAt,bIe,bFt]at h;rw[WY h.1,h.2]
theorem qkD{s:List UInt8}{v:Value}(h:zU (.str s) v=true):v=.string ⟨s.toArray⟩:=by
 cases v<;>simp only[zU,bFt,bIe]at h;rw[<-h,qiH]
theorem qkB{v:Value}(h:zU .nilp v=true):v=.pointer none:=by
 cases v with
 | pointer a=>cases a with
  | none=>rfl
  | some _=>simp[zU]at h
 | _=>simp[zU]at h
theorem qkC{v:Value}(h:zU .nils v=true):v=.slice none 0 0:=by
 cases v with
 | slice a l c=>cases a with
  | none=>cases l with
   | zero=>cases c with
    | zero=>rfl
    | succ _=>simp[zU]at h
   | succ _=>simp[zU]at h
  | some _=>simp[zU]at h
 | _=>simp[zU]at h
theorem qkA{v:Value}(h:zU .nilm v=true):v=.map none:=by
 cases v with
 | map a=>cases a with
  | none=>rfl
  | some _=>simp[zU]at h
 | _=>simp[zU]at h
theorem qj8{v:Value}(h:zU .nilf v=true):v=.nilFunc:=by cases v<;>simp_all[zU]
theorem qj9{v:Value}(h:zU .nili v=true):v=.nilIface:=by cases v<;>simp_all[zU]
theorem qA0{cs:List AV}{v:Value}(h:zU (.agg cs) v=true):∃vs:Array Value,v=.agg vs/\Jn cs vs.toList=true/\cs.all AV.sc=true:=by
 cases v<;>simp only[zU,bFt,bAt]at h;exact⟨_,rfl,h⟩
theorem qkE{cs:List AV}{v:Value}(h:zU (.tup cs) v=true):cs=[]/\v=.tuple #[]:=by
 cases cs<;>cases v<;>simp only[zU,bFt]at h;rename_i vs;refine⟨rfl, ?_⟩;rw[List.isEmpty_iff]at h;rw[<-Array.toList_eq_nil_iff.1 h]
theorem qkF{a:AV}{as:List AV}{vs:List Value}(h:Jn (a::as) vs=true):∃u us,vs=u::us/\zU a u=true/\Jn as us=true:=by
 cases vs with
 | nil=>simp[Jn]at h
 | cons u us=>exact⟨u,us,rfl,by simpa[Jn]using h⟩
mutual
theorem QU{N:zB}{m:Mp}(a:AV)(v:Value)(h:zU a v=true):VR N m a v:=by
 match a with
 |.bool b=>simp only[VR];exact qj6 h
 |.int k n=>simp only[VR];exact qj7 h
 |.str s=>simp only[VR];exact qkD h
 |.nilp=>simp only[VR];exact qkB h
 |.nils=>simp only[VR];exact qkC h
 |.nilm=>simp only[VR];exact qkA h
 |.nilf=>simp only[VR];exact qj8 h
 |.nili=>simp only[VR];exact qj9 h
 |.agg cs=>
  simp only[VR];obtain⟨vs,h1,h2,h3⟩:=qA0 h;exact⟨vs,h1,Yh cs _ h2,h3⟩
 |.tup cs=>
  simp only[VR];obtain⟨h1,h2⟩:=qkE h;subst h1;exact⟨#[],h2,by simp only[VRs]⟩
 |.ptr _ _ _=>simp[zU]at h
 |.slice _ _ _ _ _=>simp[zU]at h
 |.map _=>simp[zU]at h
 |.fn _ _=>simp[zU]at h
 |.iface _ _=>simp[zU]at h
 |.any=>simp only[VR]
theorem Yh{N:zB}{m:Mp}(as:List AV)(vs:List Value)(h:Jn as vs=true):VRs N m as vs:=by
 match as with
 |[]=>
  simp only[VRs];cases vs with
  | nil=>rfl
  | cons _ _=>simp[Jn]at h
 | a::as=>
  obtain⟨u,us,h1,h2,h3⟩:=qkF h;simp only[VRs];exact⟨u,us,h1,QU a u h2,Yh as us h3⟩
end
structure TyOK(P:Program)(t:TypeId)(i:TyI):Prop where
 und:∃d,P.underlying t=some d/\(zn i.k d=true\/(match i.k with |.other=>True | _=>False))
 info:∃ti,P.info? t=some ti/\ti.size=i.sz/\ti.bytes=i.bs/\∀z,i.z=some z->∃v,ti.zero=some v/\zU z v=true
structure qV where
 P:Program
 N:zB
 T:Nat->Option TyI
 hT:∀t i,T t=some i->TyOK P t i
 mixed:P.follows .mixedOrders=true
section
variable {S:qV} {w:World} {t:TypeId}
theorem qV.kind{k:TyK}{sz bs:Nat}{z:Option AV}(h:S.T t=some ⟨k,sz,bs,z⟩)(hk:k.known=true):
  ∃d,(underlying t).run S.P w=.ok d w/\zn k d=true:=by
 obtain⟨⟨d,hd,hk'⟩,_⟩:=S.hT t _ h;refine⟨d,run_underlying hd w, ?_⟩;rcases hk' with hk' | hk'
 ·exact hk'
 ·cases k<;>simp_all[TyK.known]
theorem qV.size{i:TyI}(h:S.T t=some i):(sizeOf t).run S.P w=.ok i.sz w:=by
 obtain⟨_,ti,h1,h2,_⟩:=S.hT t i h;rw[run_sizeOf w h1];simp[Program.cellsOf,h1,h2]
theorem qV.isAgg{i:TyI}(h:S.T t=some i)(hk:i.k.known=true):(isAgg t).run S.P w=.ok i.k.ag w:=by
 obtain⟨k,sz,bs,z⟩:=i;obtain⟨d,hd,hk'⟩:=qV.kind (S:=S) (w:=w) h hk;unfold Go.isAgg;cases k<;>cases d<;>simp only[zn,bFt]at hk'<;>simp[hd,TyK.ag]
end
abbrev AMap:=List (Nat×Nat×Nat)
def AMap.look:AMap->Nat->Option (Nat×Nat)
 |[],_=>none
 | (d,p)::r,x=>if d=x then some p else AMap.look r x
def mem(L:List Nat)(n:Nat):Bool:=L.any (· ==n)
theorem mem_iff{L:List Nat}{n:Nat}:mem L n=true↔n∈L:=by simp[mem]
theorem Wd{L:List Nat}{n:Nat}:mem L n=false↔n∉L:=by rw[<-Bool.not_eq_true,mem_iff]
def wZ(L:List Nat)(A:AMap):Operand->Option (Nat×Nat)
 |.tmp x=>if mem L x then some (x,0)else A.look x
 | _=>none
def mAo(N:zB)(L:List Nat):Ao->Operand->Bool
 |.t n,.tmp m=>n==m&& !mem L n
 |.c v,.const u=>zU v u
 |.f g,.func k=>N.f g==k
 | _,_=>false
def Q9(N:zB)(L:List Nat):List Ao->List Operand->Bool
 |[],[]=>true
 | x::xs,y::ys=>mAo N L x y&&Q9 N L xs ys
 | _,_=>false
def jW(N:zB)(L:List Nat):Option Ao->Option Operand->Bool
 | none,none=>true
 | some x,some y=>mAo N L x y
 | _,_=>false
def SlotR(N:zB)(m:Mp)(L:List Nat)(s:Env)(a:Act):Prop:=∀t v,lk s t=some v->t∉L->VR N m v (a.tmps.getD t undef)
section
variable {N:zB} {m:Mp} {L:List Nat} {s:Env} {a:Act}
theorem qw{x:Ao}{o:Operand}{v:AV}(h:mAo N L x o=true)(hs:SlotR N m L s a)(he:ev s x=some v):VR N m v (a.eval o):=by
 cases x<;>cases o<;>simp only[mAo,bFt,bAt,bIe,bNt]at h
 ·obtain⟨h1,h2⟩:=h;subst h1;exact hs _ _ he (Wd.1 h2)
 ·simp only[ev,oSi]at he;subst he;exact QU _ _ h
 ·simp only[ev,oSi]at he;subst he;simp only[VR,Act.eval,VRs];exact⟨#[],by rw[h],rfl⟩
theorem Wb:∀{xs:List Ao}{os:List Operand}{vs:List AV},Q9 N L xs os=true->SlotR N m L s a->evs s xs=some vs->VRs N m vs (os.map a.eval)
 |[],[],vs,_,_,he=>by
  simp only[evs,oSi]at he;subst he;simp only[VRs,List.map_nil]
 |[],_::_,_,h,_,_=>by simp[Q9]at h
 | _::_,[],_,h,_,_=>by simp[Q9]at h
 | x::xs,o::os,vs,h,hs,he=>by
  simp only[Q9,bAt]at h;simp only[evs]at he;split at he
  ·rename_i v us hv hus;simp only[oSi]at he;subst he;simp only[lMc,VRs];exact⟨_,_,rfl,qw h.1 hs hv,Wb h.2 hs hus⟩
  ·cases he
end
def qER:BinOp->BinOp->Bool
 |.add,.add |.sub,.sub |.mul,.mul |.quo,.quo |.rem,.rem |.and,.and |.or,.or |.xor,.xor |.shl,.shl |.shr,.shr |.andNot,.andNot
 |.eql,.eql |.neq,.neq |.lss,.lss |.leq,.leq |.gtr,.gtr |.geq,.geq=>true
 | _,_=>false
theorem qiD{a b:BinOp}(h:qER a b=true):a=b:=by cases a<;>cases b<;>first | rfl | cases h
def QV(neg:Bool):BinOp->Bool
 |.eql=> !neg
 |.neq=>neg
 | _=>false
def Vy:Nat->TyK->Bool
 | 0,.ptr=>true
 | 1,.slice _=>true
 | 2,.map _ _=>true
 | 3,.func=>true
 | 4,.iface=>true
 | _,_=>false
def VN:Nat->Operand->Bool
 | 0,.const (.pointer none)=>true
 | 1,.const (.slice none 0 0)=>true
 | 2,.const (.map none)=>true
 | 3,.const .nilFunc=>true
 | 4,.const .nilIface=>true
 | _,_=>false
def Jt(S:qV)(t:TypeId)(sh:Option Nat):Bool:=
 match S.T t with
 | some i=>i.k.known&&(match sh with
  | none=> !i.k.ag&&i.sz==1
  | some k=>i.k.ag&&i.sz==k)
 | none=>false
def QC(S:qV)(L:List Nat)(place:Nat->Option (Nat×Nat)):List (Nat×Nat×Ao)->List (Nat×Operand)->Bool
 |[],[]=>true
 | (off,sz,x)::r,(i,y)::q=>(match place i with
  | some (o,z)=>o==off&&z==sz&& !(sz==0)
  | none=>false)&&mAo S.N L x y&&QC S L place r q
 | _,_=>false
def jJ(S:qV)(t:TypeId):Option Nat:=(S.T t).map (·.sz)
def JJ(S:qV)(fs:List (Nat×TypeId))(i:Nat):Option (Nat×Nat):=
 match fs[i]? with
 | some (o,t)=>(match S.T t with
  | some j=>some (o,j.sz)
  | none=>none)
 | none=>none
def qAD(S:qV)(fs:List (Nat×TypeId)):Bool:=fs.all λp=>(S.T p.2).isSome
def WM:TypeDesc->Nat
 |.int _=>1
 |.string=>2
 |.bool=>3
 | _=>0
def Zv(P:Program):List Field->List Nat->Nat->Bool
 |[],[],_=>true
 | f :: fs, k :: ks, o => f.name != "_" && f.offset == o && (match P.underlying f.type with
  | some d=>WM d==k&& !(k==0)
  | none=>false)&&Zv P fs ks (o+1)
 | _,_,_=>false
def qDQ:AV->AV->Bool
 |.bool a,.bool b=>a==b
 |.int .i64 a,.int .i64 b=>a==b
 | _,_=>false
theorem qrE{a b:AV}(h:qDQ a b=true):a=b:=by
 unfold qDQ at h;split at h
 ·rw[bIe.1 h]
 ·rw[bIe.1 h]
 ·cases h
def Xj(S:qV)(T:TypeId):Bool:=match S.T T with
 | some ⟨.map k _,_,_,_⟩=>(match S.T k with
  | some ⟨.int .i64,_,_,_⟩=>true
  | _=>false)
 | _=>false
def VF(S:qV)(T:TypeId)(z:AV):Bool:=match S.T T with
 | some ⟨.map k e,_,_,_⟩=>(match S.T k with
  | some ⟨.int .i64,_,_,_⟩=>true
  | _=>false)&&(match S.T e with
  | some ⟨_,_,_,some z'⟩=>qDQ z z'
  | _=>false)
 | _=>false
def qKQ(P:Program)(T:TypeId)(k:List Nat):Bool:=(match P.underlying T with
 | some (.struct fs)=>Zv P fs.toList k 0
 | _=>false)&& !P.stoodInHeld T&& !P.eqGuardType P.depth T
def jk(S:qV)(L:List Nat)(A:AMap)(c:AOp)(o:Op):Bool:=
 match c,o with
 |.mov x,.move y=>mAo S.N L x y
 |.mov x,.assign y=>mAo S.N L x y
 |.mov (.c (.int .i64 n)),.call ⟨.builtin .len,args,ts⟩=>args.size==1&&(match S.T (ts.getD 0 0)with
  | some ⟨.arr k _,_,_,_⟩=>ts.size==1&&(k:Int)==n
  | _=>false)
 |.pick c a b,.pick c' a' b'=>mAo S.N L c c'&&mAo S.N L a a'&&mAo S.N L b b'
 |.build z ps,.build t parts=>(match S.T t with
  | some ⟨.struct fs,_,_,some z'⟩=>qAD S fs&&(match z,z' with
   |.agg _,.agg _=>true
   | _,_=>false)&&avSame z z'&&QC S L (JJ S fs) ps parts.toList
  | some ⟨.arr _ e,_,_,some z'⟩=>(match z,z' with
   |.agg _,.agg _=>true
   | _,_=>false)&&avSame z z'&&(match S.T e with
   | some j=>QC S L (λi=>some (i*j.sz,j.sz)) ps parts.toList
   | none=>false)
  | _=>false)
 |.lload t off sh,.load T y=>(match wZ L A y with
  | some (t',off')=>t==t'&&off==off'
  | none=>false)&&Jt S T sh
 |.load sh p,.load T y=>mAo S.N L p y&&Jt S T sh
 |.nilchk x,.nilCheck y=>mAo S.N L x y
 |.bin op x y,.binOp op' _ x' y' _=>qER op op'&&mAo S.N L x x'&&mAo S.N L y y'
 |.beq neg x y,.binOp op' T x' y' _=>QV neg op'&&(match S.T T with
  | some ⟨.bool,_,_,_⟩=>true
  | _=>false)&&mAo S.N L x x'&&mAo S.N L y y'
 |.isnil tag neg x,.binOp op' T x' y' _=>QV neg op'&&(match S.T T with
  | some i=>Vy tag i.k
  | _=>false)&&((VN tag x'&&mAo S.N L x y') || (VN tag y'&&mAo S.N L x x'))
 |.not x,.unOp .not _ y=>mAo S.N L x y
 |.conv k x,.convert s d y=>mAo S.N L x y&&(match S.T s,S.T d with
  | some ⟨.int _,_,_,_⟩,some ⟨.int k',_,_,_⟩=>WX k k'
  | _,_=>false)
 |.slc w x lo hi mx,.slice T y lo' hi' mx'=>(match S.T T with
  | some ⟨.slice e,_,_,_⟩=>jJ S e==some w
  | _=>false)&&mAo S.N L x y&&jW S.N L lo lo'&&jW S.N L hi hi'&&jW S.N L mx mx'&&(mx.isNone || hi.isSome)
 |.faddr off x,.fieldAddr T y i=>(match S.T T with
  | some ⟨.struct fs,_,_,_⟩=>(match JJ S fs i with
   | some (o,z)=>o==off&& !(z==0)
   | none=>false)
  | _=>false)&&mAo S.N L x y
 |.iaddr w x i,.indexAddr T y j=>(match S.T T with
  | some ⟨.slice e,_,_,_⟩=>jJ S e==some w
  | _=>false)&&mAo S.N L x y&&mAo S.N L i j
 |.aidx n w sh x i,.index T y j=>(match S.T T with
  | some ⟨.arr n' e,_,_,_⟩=>n==n'&&jJ S e==some w&&Jt S e sh
  | _=>false)&&mAo S.N L x y&&mAo S.N L i j
 |.ext x i,.extract y j=>i==j&&mAo S.N L x y
 |.mkfn g caps,.makeFunc (.func k) first captured=>S.N.f g==k&&first.isEmpty&&Q9 S.N L caps captured.toList
 |.len x,.call ⟨.builtin .len,args,ts⟩=>(match args.toList with
  |[y]=>mAo S.N L x y
  | _=>false)&&ts.size==1&&(match S.T (ts.getD 0 0)with
  | some ⟨.slice _,_,_,_⟩=>true
  | _=>false)
 |.max x y,.call ⟨.builtin .max,args,_⟩=>(match args.toList with
  |[x',y']=>mAo S.N L x x'&&mAo S.N L y y'
  | _=>false)
 |.min x y,.call ⟨.builtin .min,args,_⟩=>(match args.toList with
  |[x',y']=>mAo S.N L x x'&&mAo S.N L y y'
  | _=>false)
 |.seq neg k x y,.binOp op' T x' y' _=>QV neg op'&&qKQ S.P T k&&mAo S.N L x x'&&mAo S.N L y y'
 |.slcm w x lo hi mx,.slice T y (some lo') (some hi') (some mx')=>(match S.T T with
  | some ⟨.slice e,_,_,_⟩=>jJ S e==some w
  | _=>false)&&mAo S.N L x y&&mAo S.N L lo lo'&&mAo S.N L hi hi'&&mAo S.N L mx mx'
 |.slcx w x lo hi,.slice T y lo' hi' none=>(match S.T T with
  | some ⟨.slice e,_,_,_⟩=>jJ S e==some w
  | _=>false)&&mAo S.N L x y&&jW S.N L lo lo'&&jW S.N L hi hi'
 |.look z x k ok,.lookup T y j ok'=>ok==ok'&&VF S T z&&mAo S.N L x y&&mAo S.N L k j
 |.mlen x,.call ⟨.builtin .len,args,ts⟩=>(match args.toList with
  |[y]=>mAo S.N L x y
  | _=>false)&&ts.size==1&&(match S.T (ts.getD 0 0)with
  | some ⟨.map _ _,_,_,_⟩=>true
  | _=>false)
 | _,_=>false
where
 avSame (a b:AV):Bool:=match a,b with
  |.agg cs,.agg ds=>sameList cs ds
  | _,_=>false
 sameList:List AV->List AV->Bool
  |[],[]=>true
  | a::as,b::bs=>sameSc a b&&sameList as bs
  | _,_=>false
 sameSc:AV->AV->Bool
  |.bool a,.bool b=>a==b
  |.int k a,.int k' b=>WX k k'&&a==b
  |.str a,.str b=>a==b
  |.nilp,.nilp |.nils,.nils |.nilm,.nilm |.nilf,.nilf |.nili,.nili=>true
  | _,_=>false
theorem qKO{a b:AV}(h:jk.sameSc a b=true):a=b:=by
 cases a<;>cases b<;>simp only[jk.sameSc,bFt,bAt,bIe]at h<;>simp_all;exact WY h.1
theorem qC5:∀{as bs:List AV},jk.sameList as bs=true->as=bs
 |[],[],_=>rfl
 |[],_::_,h=>by simp[jk.sameList]at h
 | _::_,[],h=>by simp[jk.sameList]at h
 | a::as,b::bs,h=>by
  simp only[jk.sameList,bAt]at h;rw[qKO h.1,qC5 h.2]
theorem qEL{a b:AV}(h:jk.avSame a b=true):a=b:=by
 cases a<;>cases b<;>simp only[jk.avSame,bFt]at h;rw[qC5 h]
theorem wo(b o n:Nat):(⟨b,o,none⟩:Addr).add n=⟨b,o+n,none⟩:=by
 unfold Addr.add;split
 ·rename_i h;subst h;rfl
 ·rfl
def LocAt(N:zB)(m:Mp)(w:World)(b:Nat)(c:AV):Prop:=
 ∃cs e fz,w.heap[b]?=some (.cells cs e fz)/\cs.size=c.cells.length/\W8 cs.size fz/\CellsAt N m cs 0 c.cells
section
variable {P:Program} {w w':World}
theorem X0{α:Type}{x:Sem α}{y:α}(f:α->Next)(h:x.run P w=.ok y w'):(do let z <-x;pure (f z):Sem Next).run P w=.ok (f y) w':=by
 simp[h]
theorem Yd{b o:Nat}{cs:Array Value}{e:TypeId}{fz:Nat×Nat}{u:Value}(h:w.heap[b]?=some (.cells cs e fz))(hu:cs[o]?=some u):
  w.cell? ⟨b,o,none⟩=some u:=by
 simp[World.cell?,h,hu]
theorem qFD{N:zB}{m:Mp}{b:Nat}:∀{xs:List AV}{o:Nat},(∀(j:Nat)(x:AV),xs[j]?=some x->∃u,w.cell? ⟨b,o+j,none⟩=some u/\VR N m x u)->
  ∃us:List Value,VRs N m xs us/\∀(i:Nat)(v:Value),us[i]?=some v->w.cell? ⟨b,o+i,none⟩=some v
 |[],_,_=>⟨[],by simp only[VRs],by simp⟩
 | x::xs,o,h=>by
  obtain⟨u,hu,hx⟩:=h 0 x rfl;obtain⟨us,h1,h2⟩:=qFD (xs:=xs) (o:=o+1) (λj y hy=>by
   obtain⟨u,hu,hy⟩:=h (j+1) y (by simpa using hy);exact⟨u,by rw[<-hu];congr 2;omega,hy⟩)
  refine⟨u::us,by simp only[VRs];exact⟨u,us,rfl,hx,h1⟩,λi v hv=>?_⟩;cases i with
  | zero=>simp at hv;subst hv;simpa using hu
  | succ i=>rw[<-h2 i v (by simpa using hv)];congr 2;omega
end
section
variable {S:qV} {m:Mp} {L:List Nat} {A:AMap} {s l:Env} {h:AH} {a:Act} {w:World}
theorem Vn{t:TypeId}{sh:Option Nat}{b o j:Nat}{cs:Array Value}{e:TypeId}{fz:Nat×Nat}{x av:AV}(hb:w.heap[b]?=some (.cells cs e fz))
  (hc:CellsAt S.N m cs o x.cells) (hp:x.part j sh=some av) (hsh:Jt S t sh=true):
  ∃v,(loadVar t ⟨b,o+j,none⟩).run S.P w=.ok v w/\VR S.N m av v:=by
 unfold Jt at hsh;cases hT:S.T t with
 | none=>simp[hT]at hsh
 | some i=>
  simp only[hT,bAt]at hsh;obtain⟨hk,hsh⟩:=hsh;have hag:=qV.isAgg (S:=S) (w:=w) hT hk;unfold loadVar;cases sh with
  | none=>
   simp only[bAt,bNt]at hsh;simp only[AV.part]at hp;obtain⟨_,u,hu,hv⟩:=hc j av hp;refine⟨u, ?_,hv⟩;have hcell:=Yd (w:=w) hb hu;simp[Sem.run_bind,hag,hsh.1,run_load,hcell]
  | some k=>
   simp only[bAt,bIe]at hsh;simp only[AV.part]at hp;split at hp
   ·rename_i hle;simp only[oSi]at hp;subst hp;obtain⟨us,h1,h2⟩:=qFD (w:=w) (b:=b) (N:=S.N) (m:=m) (xs:=(x.cells.drop j).take k) (o:=o+j) (λi y hy=>by
     rw[gTk]at hy;split at hy
     ·rw[gDr]at hy;obtain⟨_,u,hu,hv⟩:=hc (j+i) y hy;exact⟨u,Yd hb (by rw[<-hu];congr 1;omega),hv⟩
     ·cases hy)
    have hlen:us.length=k:=by rw[<-VRs.length h1];simp;omega
    refine⟨.agg us.toArray, ?_, ?_⟩
    ·have hl:=run_loadCells_list (P:=S.P) (w:=w) ⟨b,o+j,none⟩ us (λi v hv=>by rw[wo];exact h2 i v hv);rw[hlen]at hl;simp[Sem.run_bind,hag,hsh.1,qV.size hT,hsh.2,hl]
    ·simp only[VR];refine⟨_,rfl,by simpa using h1, ?_⟩;rw[lAt];intro y hy;obtain⟨i,hi,rfl⟩:=List.getElem_of_mem hy;have hy:((x.cells.drop j).take k)[i]?=some ((x.cells.drop j).take k)[i]:=gEg hi;rw[gTk]at hy;split at hy
     ·rw[gDr]at hy;exact(hc (j+i) _ hy).1
     ·cases hy
   ·cases hp
theorem VR.int_eq{N:zB}{k:IntKind}{n:Int}{v:Value}(h:VR N m (.int k n) v):v=.int k n:=by simpa only [VR]using h
theorem VR.str_eq{N:zB}{x:List UInt8}{v:Value}(h:VR N m (.str x) v):v=.string ⟨x.toArray⟩:=by simpa only [VR]using h
theorem VR.bool_eq{N:zB}{b:Bool}{v:Value}(h:VR N m (.bool b) v):v=.bool b:=by simpa only [VR]using h
theorem VR.int_mk{N:zB}{k:IntKind}{n:Int}:VR N m (.int k n) (.int k n):=by simp only[VR]
theorem VR.bool_mk{N:zB}{b:Bool}:VR N m (.bool b) (.bool b):=by simp only[VR]
theorem ql0{op:BinOp}{t:TypeId}{x y:Operand}{k k':IntKind}{n n':Int}{P:Program}:(eqGuard op t x y (.int k n) (.int k' n')).run P w=.ok () w:=by
 unfold eqGuard;split<;>simp[]
theorem qlZ{op:BinOp}{t:TypeId}{x y:Operand}{b c:Bool}{P:Program}:(eqGuard op t x y (.bool b) (.bool c)).run P w=.ok () w:=by
 unfold eqGuard;split<;>simp[]
theorem qpW{op:BinOp}{t:TypeId}{k:IntKind}{n n':Int}{av:AV}{P:Program}(he:wN op k n n'=some av):
    ∃v,(binOp op t (.int k n) (.int k n')).run P w=.ok v w/\VR S.N m av v:=by
  cases op<;>simp only[wN,oSi]at he<;>first
    | (cases he;done)
    | (subst he;exact⟨Value.int k _,by simp[binOp,Op.intArith,Op.intBits,Op.intCmp],VR.int_mk⟩)
    | (subst he;exact⟨Value.bool _,by simp[binOp,Op.intCmp],VR.bool_mk⟩)
    | (split at he
       · cases he
       · rename_i hz;simp only[oSi]at he;subst he;exact⟨Value.int k _,by simp[binOp,Op.intDiv,hz],VR.int_mk⟩)
theorem qlD{t:TypeId}{b c:Bool}{sz bs:Nat}{z:Option AV}(hT:S.T t=some ⟨.bool,sz,bs,z⟩):(Op.equal t (.bool b) (.bool c)).run S.P w=.ok (b==c) w:=by
 obtain⟨d,hd,hk⟩:=qV.kind (S:=S) (w:=w) hT rfl;cases d<;>simp only[zn,bFt]at hk;unfold Op.equal Op.maxDepth Op.equalIn;simp[Sem.run_bind,hd]
theorem Jj{x:Option Ao}{o:Option Operand}{d lo hi n:Nat}(hs:SlotR S.N m L s a)(hm:jW S.N L x o=true)(hb:bnd s x d lo hi=some n):
  (x=none/\o=none/\n=d)\/∃y z k i,x=some y/\o=some z/\a.eval z=.int k i/\(lo:Int)<=i/\i<=hi/\i=(n:Int):=by
 cases x with
 | none=>
  cases o with
  | none=>simp only[bnd,oSi]at hb;exact .inl ⟨rfl,rfl,hb.symm⟩
  | some _=>simp[jW]at hm
 | some y=>
  cases o with
  | none=>simp[jW]at hm
  | some z=>
   simp only[bnd]at hb;split at hb
   ·rename_i k i he;split at hb
    ·rename_i hle;simp only[oSi]at hb;have:=(qw (o:=z) hm hs he).int_eq;exact .inr ⟨y,z,k,i,rfl,rfl,this,hle.1,hle.2,by omega⟩
    ·cases hb
   ·cases hb
theorem wW{k:IntKind}{i:Int}{n y:Nat}{code:BoundsCode}{P:Program}(h:i=(n:Int))(hy:n<=y):(Instr.sliceBound (.int k i) y code).run P w=.ok n w:=by
 subst h;have:(0:Int)<=(n:Int)/\(n:Int)<=(y:Int):=by omega
 unfold Instr.sliceBound;simp[asIntOf,this.2]
theorem Xz{lo hi mx:Option Ao}{lo' hi' mx':Option Operand}{len cap l h' M:Nat}{P:Program}{sl:Bool}(hs:SlotR S.N m L s a)
  (h1:jW S.N L lo lo'=true) (h2:jW S.N L hi hi'=true) (h3:jW S.N L mx mx'=true) (hx:mx.isSome=true->hi.isSome=true)
  (hlc:len<=cap) (b1:bnd s hi len 0 len=some h') (b2:bnd s lo 0 0 h'=some l) (b3:(mx=none/\M=cap)\/∃x,mx=some x/\bnd s (some x) 0 h' h'=some M):
  (Instr.sliceBounds sl len cap (lo'.map a.eval) (hi'.map a.eval) (mx'.map a.eval)).run P w=.ok (l,h',M) w/\l<=h'/\h'<=len/\h'<=M:=by
 have hh:=Jj (a:=a) hs h2 b1;have hl:=Jj (a:=a) hs h1 b2;have hh':h'<=len:=by
  rcases hh with⟨_,_,rfl⟩ | ⟨_,_,_,i,_,_,_,_,h5,h6⟩
  ·exact nLr _
  ·omega
 have hl':l<=h':=by
  rcases hl with⟨_,_,rfl⟩ | ⟨_,_,_,i,_,_,_,_,h5,h6⟩<;>omega
 unfold Instr.sliceBounds;rcases b3 with⟨rfl,rfl⟩ | ⟨x,rfl,b3⟩
 ·have:mx'=none:=by cases mx'<;>simp[jW]at h3|-
  subst this;refine⟨?_,hl',hh',by omega⟩;rcases hh with⟨_,rfl,rfl⟩ | ⟨_,zh,kh,ih,_,rfl,eh,_,_,nh⟩<;>rcases hl with⟨_,rfl,rfl⟩ | ⟨_,zl,kl,il,_,rfl,el,_,_,nl⟩
  ·simp[]
  ·simp[el,wW nl hl']
  ·simp[eh,wW nh (nLt hh' hlc)]
  ·simp[Sem.run_bind,eh,el,wW nh (nLt hh' hlc),wW nl hl']
 ·have hM:=Jj (a:=a) hs h3 b3;rcases hM with⟨hn,_,_⟩ | ⟨_,zm,km,im,_,rfl,em,hm1,hm2,nm⟩
  ·cases hn
  have hMh:M=h':=by omega
  subst hMh;refine⟨?_,hl',hh',nLr _⟩;rcases hh with⟨hn,_,_⟩ | ⟨_,zh,kh,ih,_,rfl,eh,_,_,nh⟩
  ·rw[hn]at hx;simp at hx
  rcases hl with⟨_,rfl,rfl⟩ | ⟨_,zl,kl,il,_,rfl,el,_,_,nl⟩
  ·simp[Sem.run_bind,em,eh,wW nm (nLt hh' hlc),wW nh (nLr _)]
  ·simp[Sem.run_bind,em,eh,el,wW nm (nLt hh' hlc),wW nh (nLr _),wW nl hl']
theorem qKD{w' id off len:Nat}{clip c':Bool}{t e:TypeId}{lo hi mx:Option Ao}{lo' hi' mx':Option Operand}{l h' M sz bs:Nat}{z:Option AV}{v:Value}
  (hT:S.T t=some ⟨.slice e,sz,bs,z⟩) (he:jJ S e=some w')
  (hs:SlotR S.N m L s a) (h1:jW S.N L lo lo'=true) (h2:jW S.N L hi hi'=true) (h3:jW S.N L mx mx'=true) (hx:mx.isSome=true->hi.isSome=true)
  (hv:VR S.N m (.slice w' id off len clip) v) (b1:bnd s hi len 0 len=some h') (b2:bnd s lo 0 0 h'=some l)
  (b3:(mx=none/\c'=clip/\(!clip || h'==len)=true)\/∃x,mx=some x/\bnd s (some x) 0 h' h'=some M/\c'=true):
  ∃u,(Instr.sliceAt t v (lo'.map a.eval) (hi'.map a.eval) (mx'.map a.eval)).run S.P w=.ok u w/\VR S.N m (.slice w' id (off+l) (h'-l) c') u:=by
 simp only[VR]at hv;obtain⟨p,ad,cap,hp,hw,rfl,hle,hrc,hcl,had⟩:=hv;obtain⟨d,hd,hk⟩:=qV.kind (S:=S) (w:=w) hT rfl;cases d<;>simp only[zn,bFt,bIe]at hk;subst hk;unfold jJ at he;cases hTe:S.T e with
 | none=>simp[hTe]at he
 | some ie=>
 simp only[hTe,oMs,oSi]at he;have hsz:=qV.size (S:=S) (w:=w) hTe;rw[he]at hsz;have key:∃M',(Instr.sliceBounds true len cap (lo'.map a.eval) (hi'.map a.eval) (mx'.map a.eval)).run S.P w=.ok (l,h',M') w/\l<=h'/\h'<=len/\h'<=M'/\M'<=cap/\
   ((c'=true->M'=h')/\(c'=false->clip=false/\M'=cap)):=by
  rcases b3 with⟨hmx,hc,hc2⟩ | ⟨x,hmx,hb,hc⟩
  ·obtain⟨r,q1,q2,q3⟩:=Xz (a:=a) (w:=w) (P:=S.P) (sl:=true) (M:=cap) hs h1 h2 h3 hx hle b1 b2 (.inl ⟨hmx,rfl⟩);refine⟨cap,r,q1,q2,q3,nLr _,λhc'=>?_,λhc'=>⟨by rw[<-hc];exact hc',rfl⟩⟩;rw[hc]at hc';subst hc';simp only[Bool.not_true,Bool.false_or,bIe]at hc2;rw[hcl.1 rfl,hc2]
  ·obtain⟨r,q1,q2,q3⟩:=Xz (a:=a) (w:=w) (P:=S.P) (sl:=true) (M:=M) hs h1 h2 h3 hx hle b1 b2 (.inr ⟨x,hmx,hb⟩);have:M=h':=by
    have:=Jj (a:=a) (o:=mx') hs (by rw[<-hmx];exact h3) hb;rcases this with⟨hn,_,_⟩ | ⟨_,_,_,im,_,_,_,q5,q6,q7⟩
    ·cases hn
    ·omega
   exact⟨M,r,q1,q2,q3,by omega,λ_=>this,λq=>by rw[hc]at q;cases q⟩
 obtain⟨M',r,q1,q2,q3,q4,q5⟩:=key;refine⟨.slice (if M'=l then some ad else(some ad).map (·.add (l*w'))) (h'-l) (M'-l), ?_, ?_⟩
 ·unfold Instr.sliceAt Instr.slice;simp[Sem.run_bind,hd,r,hsz]
 ·simp only[VR];refine⟨p,if M'=l then ad else ad.add (l*w'),M'-l,hp,hw,by split<;>simp,by omega,by omega,⟨λhc=>by rw[q5.1 hc],λhc=>by have h1:=q5.2 hc;have h2:=hcl.2 h1.1;have h3:=h1.2;omega⟩,λhlt=>?_⟩;rw[iN (by omega),had (by omega),wo];congr 1;rw[Nat.add_mul];omega
theorem qpY{w' id off len:Nat}{clip:Bool}{t e:TypeId}{lo hi mx:Ao}{lo' hi' mx':Operand}{l h' M sz bs:Nat}{z:Option AV}{v:Value}
  (hT:S.T t=some ⟨.slice e,sz,bs,z⟩) (he:jJ S e=some w')
  (hs:SlotR S.N m L s a) (h1:mAo S.N L lo lo'=true) (h2:mAo S.N L hi hi'=true) (h3:mAo S.N L mx mx'=true)
  (hv:VR S.N m (.slice w' id off len clip) v) (b1:bnd s (some mx) 0 0 len=some M) (b2:bnd s (some hi) 0 0 M=some h') (b3:bnd s (some lo) 0 0 h'=some l):
  ∃u,(Instr.sliceAt t v (some (a.eval lo')) (some (a.eval hi')) (some (a.eval mx'))).run S.P w=.ok u w:=by
 simp only[VR]at hv;obtain⟨p,ad,cap,hp,hw,rfl,hle,hrc,hcl,had⟩:=hv;obtain⟨d,hd,hk⟩:=qV.kind (S:=S) (w:=w) hT rfl;cases d<;>simp only[zn,bFt,bIe]at hk;subst hk;unfold jJ at he;cases hTe:S.T e with
 | none=>simp[hTe]at he
 | some ie=>
 have hsz:=qV.size (S:=S) (w:=w) hTe;have hM:=Jj (o:=some mx') (a:=a) hs (by simpa[jW]using h3) b1;have hh:=Jj (o:=some hi') (a:=a) hs (by simpa[jW]using h2) b2;have hl:=Jj (o:=some lo') (a:=a) hs (by simpa[jW]using h1) b3;rcases hM with⟨q,_,_⟩ | ⟨_,zm,km,im,_,qm,em,_,um,nm⟩
 ·cases q
 rcases hh with⟨q,_,_⟩ | ⟨_,zh,kh,ih,_,qh,eh,_,uh,nh⟩
 ·cases q
 rcases hl with⟨q,_,_⟩ | ⟨_,zl,kl,il,_,ql,el,_,ul,nl⟩
 ·cases q
 cases qm;cases qh;cases ql;have r:(Instr.sliceBounds true len cap (some (a.eval lo')) (some (a.eval hi')) (some (a.eval mx'))).run S.P w=.ok (l,h',M) w:=by
  unfold Instr.sliceBounds;simp[Sem.run_bind,em,eh,el,wW nm (show M<=cap by omega),wW nh (show h'<=M by omega),wW nl (show l<=h' by omega)]
 refine⟨.slice (if M=l then some ad else(some ad).map (·.add (l*ie.sz))) (h'-l) (M-l), ?_⟩
 ·unfold Instr.sliceAt Instr.slice;simp[Sem.run_bind,hd,r,hsz]
theorem qpZ{w' id off len R:Nat}{t e:TypeId}{lo hi:Option Ao}{lo' hi':Option Operand}{l h' sz bs:Nat}{z:Option AV}{v:Value}
  (hT:S.T t=some ⟨.slice e,sz,bs,z⟩) (he:jJ S e=some w')
  (hs:SlotR S.N m L s a) (h1:jW S.N L lo lo'=true) (h2:jW S.N L hi hi'=true)
  (hv:VR S.N m (.slice w' id off len false) v) (hR:∀p,m id=some p->R<=p.rc-off) (b1:bnd s hi len 0 R=some h') (b2:bnd s lo 0 0 h'=some l):
  ∃u,(Instr.sliceAt t v (lo'.map a.eval) (hi'.map a.eval) none).run S.P w=.ok u w/\VR S.N m (.slice w' id (off+l) (h'-l) false) u:=by
 simp only[VR]at hv;obtain⟨p,ad,cap,hp,hw,rfl,hle,hrc,hcl,had⟩:=hv;obtain⟨d,hd,hk⟩:=qV.kind (S:=S) (w:=w) hT rfl;cases d<;>simp only[zn,bFt,bIe]at hk;subst hk;unfold jJ at he;cases hTe:S.T e with
 | none=>simp[hTe]at he
 | some ie=>
 simp only[hTe,oMs,oSi]at he;have hsz:=qV.size (S:=S) (w:=w) hTe;rw[he]at hsz;have hR:=hR p hp;have hcap:off+cap=p.rc:=by simpa using hcl
 have hh:=Jj (a:=a) hs h2 b1;have hl:=Jj (a:=a) hs h1 b2;have hh':h'<=cap:=by
  rcases hh with⟨_,_,rfl⟩ | ⟨_,_,_,i,_,_,_,_,h5,h6⟩<;>omega
 have hl':l<=h':=by
  rcases hl with⟨_,_,rfl⟩ | ⟨_,_,_,i,_,_,_,_,h5,h6⟩<;>omega
 have r:(Instr.sliceBounds true len cap (lo'.map a.eval) (hi'.map a.eval) (none:Option Value)).run S.P w=.ok (l,h',cap) w:=by
  unfold Instr.sliceBounds;rcases hh with⟨_,rfl,rfl⟩ | ⟨_,zh,kh,ih,_,rfl,eh,_,_,nh⟩<;>rcases hl with⟨_,rfl,rfl⟩ | ⟨_,zl,kl,il,_,rfl,el,_,_,nl⟩
  ·simp[]
  ·simp[el,wW nl hl']
  ·simp[eh,wW nh hh']
  ·simp[Sem.run_bind,eh,el,wW nh hh',wW nl hl']
 refine⟨.slice (if cap=l then some ad else(some ad).map (·.add (l*w'))) (h'-l) (cap-l), ?_, ?_⟩
 ·unfold Instr.sliceAt Instr.slice;simp[Sem.run_bind,hd,r,hsz]
 ·simp only[VR];refine⟨p,if cap=l then ad else ad.add (l*w'),cap-l,hp,hw,by split<;>simp,by omega,by omega,by simp;omega,λhlt=>?_⟩;rw[iN (by omega),had (by omega),wo];congr 1;rw[Nat.add_mul];omega
end
theorem qC9(off:Nat):∀(l:List Value)(k:Nat)(cs:Array Value),off+k+l.length<=cs.size->∀i:Nat,
  ((l.zipIdx k).foldl (λcs (c,j)=>cs.setIfInBounds (off+j) c) cs)[i]?=if off+k<=i/\i<off+k+l.length then l[i-(off+k)]? else cs[i]?
 |[],k,cs,_,i=>by
  simp only[List.zipIdx_nil,List.foldl_nil,lNi];rw[iN (by omega)]
 | x::l,k,cs,h,i=>by
  simp only[lCo]at h;rw[List.zipIdx_cons,List.foldl_cons,qC9 off l (k+1) _ (by simp;omega) i];simp only[lCo];by_cases h1:off+(k+1)<=i/\i<off+(k+1)+l.length
  ·rw[iP h1,iP (by omega)];have:i-(off+k)=(i-(off+(k+1)))+1:=by omega
   rw[this];rfl
  ·rw[iN h1,Array.getElem?_setIfInBounds];by_cases h2:off+k=i
   ·subst h2;rw[iP rfl,iP (by omega),iP (by omega)];simp
   ·rw[iN h2,iN (by omega)]
theorem qqQ(off:Nat)(v cs:Array Value)(h:off+v.size<=cs.size):
  (v.zipIdx.foldl (λcs (c,j)=>cs.setIfInBounds (off+j) c) cs).toList=cs.toList.take off++(v.toList++cs.toList.drop (off+v.size)):=by
 have e:v.zipIdx.foldl (λ(cs:Array Value)(c,j)=>cs.setIfInBounds (off+j) c) cs=(v.toList.zipIdx 0).foldl (λ(cs:Array Value)(c,j)=>cs.setIfInBounds (off+j) c) cs:=by
  rw[<-Array.foldl_toList,Array.toList_zipIdx]
 rw[e];apply List.ext_getElem?;intro i;rw[Array.getElem?_toList,qC9 off v.toList 0 cs (by simpa using h) i];simp only[nAz,Array.length_toList];rw[gAp,gAp];simp only[lLt,Array.length_toList];by_cases h1:i<off
 ·rw[iN (by omega),iP (by omega),gTk,iP h1,Array.getElem?_toList]
 ·by_cases h2:i<off+v.size
  ·rw[iP (by omega),iN (by omega),iP (by omega)];congr 1;omega
  ·rw[iN (by omega),iN (by omega),iN (by omega),gDr,Array.getElem?_toList];congr 1;omega
section
variable {S:qV} {m:Mp} {L:List Nat} {A:AMap} {s l:Env} {h:AH} {a:Act} {w:World}
theorem qJR{N:zB}{cs:List AV}{off:Nat}{x z:AV}(hp:(AV.agg cs).put off x=some z):
  off+x.cells.length<=cs.length/\z=.agg (cs.take off++(x.cells++cs.drop (off+x.cells.length))):=by
 have _:=N;simp only[AV.put]at hp;split at hp
 ·rename_i hle;simp only[oSi]at hp;exact⟨hle,hp.symm⟩
 ·cases hp
theorem qBJ{place place':Nat->Option (Nat×Nat)}(hpl:∀i o z,place' i=some (o,z)->place i=some (o,z))(hs:SlotR S.N m L s a):∀{ps:List (Nat×Nat×Ao)}{parts:List (Nat×Operand)}{cs:List AV}{cells:Array Value}{av:AV},
  QC S L place' ps parts=true->jZ s (.agg cs) ps=some av->VRs S.N m cs cells.toList->cs.all AV.sc=true->(∀p∈ps,0<p.2.1)->
  ∃cs' cells',av=.agg cs'/\Instr.fill place cells (parts.map λp=>(p.1,a.eval p.2))=some cells'/\VRs S.N m cs' cells'.toList/\cs'.all AV.sc=true
 |[],[],cs,cells,av,_,hb,hv,hsc,_=>by
  simp only[jZ,oSi]at hb;exact⟨cs,cells,hb.symm,rfl,hv,hsc⟩
 |[],_::_,_,_,_,hm,_,_,_,_=>by simp[QC]at hm
 | (_,_,_)::_,[],_,_,_,hm,_,_,_,_=>by simp[QC]at hm
 | (off,sz,x)::ps,(i,y)::parts,cs,cells,av,hm,hb,hv,hsc,hlay=>by
  simp only[QC,bAt]at hm;obtain⟨⟨hm1,hm2⟩,hm3⟩:=hm;simp only[jZ]at hb;split at hb
  ·rename_i v he;split at hb
   ·rename_i hlen;split at hb
    ·rename_i z' hz;obtain⟨hle,rfl⟩:=qJR (N:=S.N) hz;have hvr:=qw (a:=a) hm2 hs he;have hl0:=hlay _ (lMs);obtain⟨hc,hl⟩:=hvr.cells (by rw[hlen];exact hl0);have hcl:=VRs.length hc;have hcl2:=VRs.length hv;simp only[Array.length_toList]at hcl hcl2;cases hpi:place' i with
     | none=>simp[hpi]at hm1
     | some pz=>
      obtain⟨o,z⟩:=pz;simp only[hpi,bAt,bIe]at hm1;obtain⟨⟨rfl,rfl⟩,_⟩:=hm1;have hpi':=hpl _ _ _ hpi;have hgo:¬((a.eval y).cells.size≠z\/o+(a.eval y).cells.size>cells.size):=by omega
      simp only[lMc,Instr.fill,hpi'];rw[iN (by simpa using hgo)];refine qBJ hpl hs hm3 hb ?_ ?_ (λp hp=>hlay p (mCm _ hp))
      ·rw[qqQ _ _ _ (by omega),<-hcl];exact(hv.take o).append (hc.append (hv.drop _))
      ·rw[List.all_append,List.all_append];simp only[bAt];refine⟨?_,hl, ?_⟩
       ·rw[lAt]at hsc|-;exact λq hq=>hsc q (List.mem_of_mem_take hq)
       ·rw[lAt]at hsc|-;exact λq hq=>hsc q (List.mem_of_mem_drop hq)
    ·cases hb
   ·cases hb
  ·cases hb
theorem qo5{fs:List (Nat×TypeId)}{gs:List Field}(he:Jp fs gs=true)(hsz:qAD S fs=true):
  ∃places:List (Nat×Nat),gs.mapM (λf=>(S.P.info? f.type).map λi=>(f.offset,i.size))=some places/\∀i o z,JJ S fs i=some (o,z)->places[i]?=some (o,z):=by
 induction fs generalizing gs with
 | nil=>
  cases gs with
  | nil=>exact⟨[],rfl,λi o z h=>by simp[JJ]at h⟩
  | cons _ _=>simp[Jp]at he
 | cons p fs ih=>
  cases gs with
  | nil=>simp[Jp]at he
  | cons g gs=>
   obtain⟨o,t⟩:=p;simp only[Jp,bAt,bIe]at he;simp only[qAD,lAc,bAt]at hsz;obtain⟨places,h1,h2⟩:=ih he.2 hsz.2;cases hT:S.T t with
   | none=>simp[hT]at hsz
   | some j=>
    obtain⟨_,ti,hi,hs,_⟩:=S.hT t j hT;refine⟨(g.offset,ti.size)::places, ?_,λi o' z hf=>?_⟩
    ·simp[List.mapM_cons,he.1.2,hi,h1]
    ·cases i with
     | zero=>
      simp only[JJ,List.getElem?_cons_zero,hT,oSi,Prod.mk.injEq]at hf;simp[he.1.1,hf.1,hs,hf.2]
     | succ i=>simpa using h2 i o' z (by simpa[JJ]using hf)
theorem qB3{place:Nat->Option (Nat×Nat)}:∀{ps:List (Nat×Nat×Ao)}{parts:List (Nat×Operand)},QC S L place ps parts=true->∀p∈ps,0<p.2.1
 |[],_,_,p,hp=>by cases hp
 | (_,_,_)::_,[],hm,_,_=>by simp[QC]at hm
 | (off,sz,x)::ps,(i,y)::parts,hm,p,hp=>by
  simp only[QC,bAt]at hm;rcases mCo.1 hp with rfl | hp
  ·have:=hm.1.1;cases hpi:place i with
   | none=>simp[hpi]at this
   | some q=>simp[hpi]at this;show 0<sz;omega
  ·exact qB3 hm.2 p hp
theorem qB4(parts:Array (Nat×Operand)):(parts.map λ(i,x)=>(i,a.eval x)).toList=parts.toList.map λp=>(p.1,a.eval p.2):=by
 simp
theorem qpV{z:AV}{ps:List (Nat×Nat×Ao)}{t:TypeId}{parts:Array (Nat×Operand)}{av:AV}(hm:jk S L A (.build z ps) (.build t parts)=true)(hs:SlotR S.N m L s a)
  (hv:jZ s z ps=some av):∃v,(Instr.build t (parts.map λ(i,x)=>(i,a.eval x))).run S.P w=.ok v w/\VR S.N m av v:=by
 simp only[jk]at hm;split at hm
 ·rename_i fs sz bs z' hT;simp only[bAt]at hm;obtain⟨⟨⟨hm1,hm2⟩,hm3⟩,hm4⟩:=hm;have:=qEL hm3;subst this;cases z with
  | agg cs=>
   obtain⟨⟨d,hd,hk⟩,ti,hi,hsz,hbs,hz⟩:=S.hT t _ hT;obtain⟨zv,hz1,hz2⟩:=hz _ rfl;rcases hk with hk | hk
   ·cases d<;>simp only[zn,bFt]at hk;rename_i fields;obtain⟨vs,rfl,hc1,hc2⟩:=qA0 hz2;obtain⟨places,hp1,hp2⟩:=qo5 (S:=S) hk hm1;obtain⟨cs',cells',rfl,hf,hvr,hsc⟩:=qBJ (place:=λi=>places[i]?) (place':=JJ S fs) (cells:=vs) hp2 hs hm4 hv (Yh _ _ hc1) hc2 (qB3 hm4);refine⟨.agg cells',run_build w t _ cells' ?_, ?_⟩
    ·unfold Program.built;rw[qB4];simp only[hi,hd,hz1,hp1,Value.cells];simpa using hf
    ·simp only[VR];exact⟨cells',rfl,hvr,hsc⟩
   ·exact hk.elim
  | _=>cases hm2
 ·rename_i n e sz bs z' hT;simp only[bAt]at hm;obtain⟨⟨hm2,hm3⟩,hm4⟩:=hm;have:=qEL hm3;subst this;cases z with
  | agg cs=>
   obtain⟨⟨d,hd,hk⟩,ti,hi,hsz,hbs,hz⟩:=S.hT t _ hT;obtain⟨zv,hz1,hz2⟩:=hz _ rfl;rcases hk with hk | hk
   ·cases d<;>simp only[zn,bFt,bAt,bIe]at hk;rename_i n' e';obtain⟨rfl,rfl⟩:=hk;obtain⟨vs,rfl,hc1,hc2⟩:=qA0 hz2;cases hTe:S.T e with
    | none=>simp[hTe]at hm4
    | some j=>
     simp only[hTe]at hm4;obtain⟨_,tj,hj,hsj,_⟩:=S.hT e j hTe;obtain⟨cs',cells',rfl,hf,hvr,hsc⟩:=qBJ (place:=λi=>some (i*tj.size,tj.size)) (place':=λi=>some (i*j.sz,j.sz)) (cells:=vs)
      (λi o z h=>by rw[hsj];exact h) hs hm4 hv (Yh _ _ hc1) hc2 (qB3 hm4)
     refine⟨.agg cells',run_build w t _ cells' ?_, ?_⟩
     ·unfold Program.built;rw[qB4];simp only[hi,hd,hz1,hj,Value.cells];exact hf
     ·simp only[VR];exact⟨cells',rfl,hvr,hsc⟩
   ·exact hk.elim
  | _=>cases hm2
 ·cases hm
end
section
variable {S:qV} {m:Mp} {L:List Nat} {A:AMap} {s l:Env} {h:AH} {a:Act} {w:World}
def qDS(S:qV)(m:Mp)(L:List Nat)(A:AMap)(D:Operand->Prop)(l:Env)(a:Act)(w:World):Prop:=
 ∀y t off,D y->wZ L A y=some (t,off)->∀c,lk l t=some c->∃b,LocAt S.N m w b c/\a.eval y=.pointer (some ⟨b,off,none⟩)
theorem qp0{x:Sem Value}{v:Value}{P:Program}(h:x.run P w=.ok v w):(do pure (Next.value (<-x)):Sem Next).run P w=.ok (.value v) w:=by
 simp[h]
theorem VR.ptr_inv{N:zB}{id i j:Nat}{v:Value}(h:VR N m (.ptr id i j) v):∃p,m id=some p/\v=.pointer (some ⟨p.b,p.o+(i*p.w+j),none⟩):=by simpa only [VR]using h
theorem VR.ptr_mk{N:zB}{id i j:Nat}{p:jA}(h:m id=some p):VR N m (.ptr id i j) (.pointer (some ⟨p.b,p.o+(i*p.w+j),none⟩)):=by
 simp only[VR];exact⟨p,h,rfl⟩
theorem qKV{t:TypeId}{sh:Option Nat}{id i j:Nat}{w':Nat}{el:List AV}{rw':Bool}{e av:AV}{v:Value}(hH:HR S.N m h w)(hsh:Jt S t sh=true)
  (hp:VR S.N m (.ptr id i j) v) (ho:h id=some (.row w' el rw')) (he:el[i]?=some e) (hpt:e.part j sh=some av):
  ∃u,(Instr.loadAt t v).run S.P w=.ok u w/\VR S.N m av u:=by
 obtain⟨p,hm,rfl⟩:=hp.ptr_inv;obtain⟨p',hm',_,hw,_,c,ty,fz,hb,_,_,hcells⟩:=hH.at' id _ ho;rw[hm]at hm';cases hm';obtain⟨_,hc⟩:=hcells i e he;subst hw;obtain⟨u,hu,hv⟩:=Vn (S:=S) (t:=t) (sh:=sh) (j:=j) hb hc hpt hsh;refine⟨u, ?_,hv⟩;unfold Instr.loadAt Instr.sureAddr;rw[Nat.add_assoc]at hu;simp[hu]
theorem VR.cellsAt{N:zB}{x:AV}{u:Value}{c:Array Value}{o:Nat}(h:VR N m x u)(h0:0<x.cells.length)(hc:∀i,i<x.cells.length->c[o+i]?=u.cells[i]?):CellsAt N m c o x.cells:=by
 obtain⟨h1,h2⟩:=h.cells h0;intro j y hy;have hj:j<x.cells.length:=(gSi.1 hy).1;refine⟨lAt.1 h2 y (lMo hy), ?_⟩;obtain⟨q,q1,q2⟩:=h1.get hy;exact⟨q,by rw[hc j hj,<-q1];simp,q2⟩
theorem VRe.get{N:zB}{wd:Nat}{c:Array Value}:∀{xs:List AV}{o i:Nat}{x:AV},VRe N m wd xs c o->xs[i]?=some x->∃u,VR N m x u/\x.cells.length=wd/\0<wd/\∀j,j<wd->c[o+i*wd+j]?=u.cells[j]?
 |[],_,_,_,_,h=>by simp at h
 | y::xs,o,0,x,h,hx=>by
  simp only[VRe]at h;simp only[List.getElem?_cons_zero,oSi]at hx;subst hx;simpa using h.1
 | y::xs,o,i+1,x,h,hx=>by
  simp only[VRe]at h;obtain⟨u,h1,h2,h3,h4⟩:=VRe.get h.2 (by simpa using hx);refine⟨u,h1,h2,h3,λj hj=>?_⟩;rw[<-h4 j hj];congr 1;rw[Nat.add_mul];omega
theorem VRe.mk{N:zB}{wd:Nat}{c:Array Value}:∀{xs:List AV}{o:Nat},(∀(i:Nat)(x:AV),xs[i]?=some x->∃u,VR N m x u/\x.cells.length=wd/\0<wd/\∀j,j<wd->c[o+i*wd+j]?=u.cells[j]?)->VRe N m wd xs c o
 |[],_,_=>by simp only[VRe]
 | y::xs,o,h=>by
  simp only[VRe];refine⟨by simpa using h 0 y rfl,VRe.mk λi x hx=>?_⟩;obtain⟨u,h1,h2,h3,h4⟩:=h (i+1) x (by simpa using hx);refine⟨u,h1,h2,h3,λj hj=>?_⟩;rw[<-h4 j hj];congr 1;rw[Nat.add_mul];omega
theorem VRe.part{N:zB}{wd:Nat}{c:Array Value}{xs:List AV}{o a n:Nat}(h:VRe N m wd xs c o):VRe N m wd ((xs.drop a).take n) c (o+a*wd):=by
 refine VRe.mk λi x hx=>?_;rw[gTk]at hx;split at hx
 ·rw[gDr]at hx;obtain⟨u,h1,h2,h3,h4⟩:=h.get hx;refine⟨u,h1,h2,h3,λj hj=>?_⟩;rw[<-h4 j hj];congr 1;rw[Nat.add_mul];omega
 ·cases hx
theorem qqL{t:TypeId}{sh:Option Nat}{x av:AV}{j:Nat}{v:Value}(hH:HR S.N m h w)(hsh:Jt S t sh=true)(hp:VR S.N m (.ept x j) v)(hpt:x.part j sh=some av):
  ∃u,(Instr.loadAt t v).run S.P w=.ok u w/\VR S.N m av u:=by
 simp only[VR]at hp;obtain⟨b,o,c,u0,rfl,hz,hx,h0,hc⟩:=hp;obtain⟨⟨e,fz,hb⟩,_⟩:=hH.zz b c hz;obtain⟨u,hu,hv⟩:=Vn (S:=S) (t:=t) (sh:=sh) (j:=j) hb (hx.cellsAt h0 hc) hpt hsh;refine⟨u, ?_,hv⟩;unfold Instr.loadAt Instr.sureAddr;simp[hu]
theorem qKE{w':Nat}{xs:List AV}{clip c':Bool}{t e:TypeId}{lo hi mx:Option Ao}{lo' hi' mx':Option Operand}{l h' M sz bs:Nat}{z:Option AV}{v:Value}
  (hT:S.T t=some ⟨.slice e,sz,bs,z⟩) (he:jJ S e=some w')
  (hs:SlotR S.N m L s a) (h1:jW S.N L lo lo'=true) (h2:jW S.N L hi hi'=true) (h3:jW S.N L mx mx'=true) (hx:mx.isSome=true->hi.isSome=true)
  (hv:VR S.N m (.lst w' xs clip) v) (b1:bnd s hi xs.length 0 xs.length=some h') (b2:bnd s lo 0 0 h'=some l)
  (b3:(mx=none/\c'=(clip&&h'==xs.length))\/∃x,mx=some x/\bnd s (some x) 0 h' h'=some M/\c'=true):
  ∃u,(Instr.sliceAt t v (lo'.map a.eval) (hi'.map a.eval) (mx'.map a.eval)).run S.P w=.ok u w/\VR S.N m (.lst w' ((xs.drop l).take (h'-l)) c') u:=by
 simp only[VR]at hv;obtain⟨ad,cap,rfl,hle,hcl,hz⟩:=hv;obtain⟨d,hd,hk⟩:=qV.kind (S:=S) (w:=w) hT rfl;cases d<;>simp only[zn,bFt,bIe]at hk;subst hk;unfold jJ at he;cases hTe:S.T e with
 | none=>simp[hTe]at he
 | some ie=>
 simp only[hTe,oMs,oSi]at he;have hsz:=qV.size (S:=S) (w:=w) hTe;rw[he]at hsz;have key:∃M',(Instr.sliceBounds true xs.length cap (lo'.map a.eval) (hi'.map a.eval) (mx'.map a.eval)).run S.P w=.ok (l,h',M') w/\l<=h'/\h'<=xs.length/\h'<=M'/\M'<=cap/\
   (c'=true->M'=h'):=by
  rcases b3 with⟨hmx,hc⟩ | ⟨x,hmx,hb,hc⟩
  ·obtain⟨r,q1,q2,q3⟩:=Xz (a:=a) (w:=w) (P:=S.P) (sl:=true) (M:=cap) hs h1 h2 h3 hx hle b1 b2 (.inl ⟨hmx,rfl⟩);refine⟨cap,r,q1,q2,q3,nLr _,λhc'=>?_⟩;rw[hc]at hc';simp only[bAt,bIe]at hc';rw[hcl hc'.1,hc'.2]
  ·obtain⟨r,q1,q2,q3⟩:=Xz (a:=a) (w:=w) (P:=S.P) (sl:=true) (M:=M) hs h1 h2 h3 hx hle b1 b2 (.inr ⟨x,hmx,hb⟩);have:M=h':=by
    have:=Jj (a:=a) (o:=mx') hs (by rw[<-hmx];exact h3) hb;rcases this with⟨hn,_,_⟩ | ⟨_,_,_,im,_,_,_,q5,q6,q7⟩
    ·cases hn
    ·omega
   exact⟨M,r,q1,q2,q3,by omega,λ_=>this⟩
 obtain⟨M',r,q1,q2,q3,q4,q5⟩:=key;have hlen:((xs.drop l).take (h'-l)).length=h'-l:=by simp;omega
 refine⟨.slice (if M'=l then ad else ad.map (·.add (l*w'))) (h'-l) (M'-l), ?_, ?_⟩
 ·unfold Instr.sliceAt Instr.slice;simp[Sem.run_bind,hd,r,hsz]
 ·simp only[VR];refine⟨if M'=l then ad else ad.map (·.add (l*w')),M'-l,by rw[hlen],by rw[hlen];omega,λhc=>by rw[q5 hc,hlen], ?_⟩;rcases hz with⟨rfl,hz⟩ | ⟨b,o,c,rfl,hz,hr⟩
  ·refine .inl ⟨by simp,λha=>?_,λx hx h0=>?_⟩
   ·have:ad=none:=by
     split at ha
     ·exact ha
     ·simpa using ha
    have:=hz.1 this;omega
   ·rw[iN (by omega)]at hx;cases ad with
    | none=>cases hx
    | some y=>
     simp only[oMs,oSi]at hx;subst hx;unfold Addr.add;split
     ·exact hz.2 y rfl (by omega)
     ·rfl
  ·by_cases hM:M'=l
   ·left;refine⟨lEz (by rw[hlen];omega),λha=>?_,λx hx _=>?_⟩
    ·rw[iP hM]at ha;cases ha
    ·rw[iP hM]at hx;cases hx;rfl
   ·rw[iN hM];exact .inr ⟨b,o+l*w',c,by simp[wo],hz,hr.part⟩
def wj:Nat->Value
 | 0=>.pointer none
 | 1=>.slice none 0 0
 | 2=>.map none
 | 3=>.nilFunc
 | _=>.nilIface
theorem qIT{tag:Nat}{o:Operand}(h:VN tag o=true):o=.const (wj tag):=by
 unfold VN at h;split at h<;>first | rfl | cases h
def qIS:TypeDesc->Value->Value->Option Bool
 |.pointer _,.pointer none,.pointer none=>some true
 |.pointer _,.pointer none,.pointer (some _)=>some false
 |.pointer _,.pointer (some _),.pointer none=>some false
 |.slice _,.slice none _ _,.slice none _ _=>some true
 |.slice _,.slice none _ _,.slice (some _) _ _=>some false
 |.slice _,.slice (some _) _ _,.slice none _ _=>some false
 |.map _ _,.map none,.map none=>some true
 |.map _ _,.map none,.map (some _)=>some false
 |.map _ _,.map (some _),.map none=>some false
 |.func _ _ _,.nilFunc,.nilFunc=>some true
 |.func _ _ _,.nilFunc,.func _ _ _=>some false
 |.func _ _ _,.func _ _ _,.nilFunc=>some false
 |.interface _,.nilIface,.nilIface=>some true
 |.interface _,.nilIface,.iface _ _=>some false
 |.interface _,.iface _ _,.nilIface=>some false
 | _,_,_=>none
theorem wt{t:TypeId}{d:TypeDesc}{x y:Value}{P:Program}{b:Bool}(hd:(underlying t).run P w=.ok d w)(hb:qIS d x y=some b):(Op.equal t x y).run P w=.ok b w:=by
 unfold Op.equal Op.maxDepth Op.equalIn;simp only[Sem.run_bind,hd,Result.andThen_ok];clear hd;unfold qIS at hb;split at hb<;>first
  | (cases hb;done)
  | (simp only[oSi]at hb;subst hb;rfl)
theorem qGI{t:TypeId}{tag sz bs:Nat}{k:TyK}{z:Option AV}{x:AV}{v:Value}{b:Bool}(hT:S.T t=some ⟨k,sz,bs,z⟩)(ht:Vy tag k=true)(hv:VR S.N m x v)(hb:x.isNil tag=some b):
  (Op.equal t (wj tag) v).run S.P w=.ok b w/\(Op.equal t v (wj tag)).run S.P w=.ok b w:=by
 have hk:k.known=true:=by
  unfold Vy at ht;split at ht<;>first | rfl | cases ht
 obtain⟨d,hd,hk'⟩:=qV.kind (S:=S) (w:=w) hT hk;unfold Vy at ht;split at ht<;>try (cases ht;done)
 all_goals
  cases d<;>simp only[zn,bFt]at hk'
  all_goals (cases x<;>try (simp only[AV.isNil]at hb;cases hb;done))
  all_goals try (rename_i xs clip;cases xs<;>try (simp only[AV.isNil]at hb;cases hb;done))
  all_goals
   simp only[AV.isNil]at hb;cases hb;simp only[VR]at hv
   first
    | (obtain⟨a,cap,rfl,_,_,h | ⟨_,_,_,rfl,_⟩⟩:=hv;exact absurd h.1 (by simp);exact⟨wt hd rfl,wt hd rfl⟩)
    | (subst hv;exact⟨wt hd rfl,wt hd rfl⟩)
    | (obtain⟨p,_,rfl⟩:=hv;exact⟨wt hd rfl,wt hd rfl⟩)
    | (obtain⟨p,rfl,_⟩:=hv;exact⟨wt hd rfl,wt hd rfl⟩)
    | (obtain⟨p,_,_,_,_,rfl,_⟩:=hv;exact⟨wt hd rfl,wt hd rfl⟩)
    | (obtain⟨_,_,rfl,_⟩:=hv;exact⟨wt hd rfl,wt hd rfl⟩)
    | (obtain⟨_,_,_,_,rfl,_⟩:=hv;exact⟨wt hd rfl,wt hd rfl⟩)
end
section
variable {S:qV} {m:Mp} {L:List Nat} {A:AMap} {s l:Env} {h:AH} {a:Act} {w:World}
theorem ql1{op:BinOp}{neg:Bool}(ho:QV neg op=true){t:TypeId}{c v:Value}{y:Operand}{tag:Nat}{P:Program}:(eqGuard op t (.const c) y (wj tag) v).run P w=.ok () w:=by
 cases op<;>simp only[QV,bFt]at ho
 all_goals
  match tag with
  | 0=>cases v<;>rfl
  | 1=>cases v<;>rfl
  | 2=>cases v<;>rfl
  | 3=>cases v<;>rfl
  | _+4=>cases v<;>rfl
theorem ql2{op:BinOp}{neg:Bool}(ho:QV neg op=true){t:TypeId}{c v:Value}{x:Operand}{tag:Nat}{P:Program}:(eqGuard op t x (.const c) v (wj tag)).run P w=.ok () w:=by
 cases op<;>simp only[QV,bFt]at ho
 all_goals
  match tag with
  | 0=>cases v<;>rfl
  | 1=>cases v<;>rfl
  | 2=>cases v<;>rfl
  | 3=>cases v<;>rfl
  | _+4=>cases v<;>cases x<;>rfl
theorem qmJ{tag:Nat}{x:AV}{b:Bool}{v:Value}(hv:VR S.N m x v)(hb:x.isNil tag=some b):(∀k n,v≠.int k n)/\(∀k n,v≠.float k n)/\(∀k n q,v≠.complex k n q)/\(∀q,v≠.string q):=by
 unfold AV.isNil at hb;split at hb<;>first
  | (cases hb;done)
  | (simp only[VR]at hv;subst hv;exact⟨nofun,nofun,nofun,nofun⟩)
  | (simp only[VR]at hv;obtain⟨_,_,rfl,_⟩:=hv;exact⟨nofun,nofun,nofun,nofun⟩)
  | (simp only[VR]at hv;obtain⟨p,_,rfl⟩:=hv;exact⟨nofun,nofun,nofun,nofun⟩)
  | (simp only[VR]at hv;obtain⟨p,rfl,_⟩:=hv;exact⟨nofun,nofun,nofun,nofun⟩)
  | (simp only[VR]at hv;obtain⟨p,_,_,_,_,rfl,_⟩:=hv;exact⟨nofun,nofun,nofun,nofun⟩)
  | (simp only[VR]at hv;obtain⟨_,_,_,_,rfl,_⟩:=hv;exact⟨nofun,nofun,nofun,nofun⟩)
theorem qiE{t:TypeId}{x y:Value}{P:Program}(hx:(∀k n,x≠.int k n)/\(∀k n,x≠.float k n)/\(∀k n q,x≠.complex k n q)/\(∀q,x≠.string q)):
  (binOp .eql t x y).run P w=(do pure (.bool (<-Op.equal t x y)):Sem Value).run P w/\(binOp .neq t x y).run P w=(do pure (.bool (!(<-Op.equal t x y))):Sem Value).run P w:=by
 obtain⟨h1,h2,h3,h4⟩:=hx;cases x<;>first
  | exact absurd rfl (h1 _ _)
  | exact absurd rfl (h2 _ _)
  | exact absurd rfl (h3 _ _ _)
  | exact absurd rfl (h4 _)
  | (cases y<;>exact⟨rfl,rfl⟩)
theorem Yp{neg:Bool}{op:BinOp}{t:TypeId}{x y:Value}{b:Bool}{P:Program}(ho:QV neg op=true)
  (hx:(∀k n,x≠.int k n)/\(∀k n,x≠.float k n)/\(∀k n q,x≠.complex k n q)/\(∀q,x≠.string q)) (he:(Op.equal t x y).run P w=.ok b w):
  (binOp op t x y).run P w=.ok (.bool (if neg then !b else b)) w:=by
 obtain⟨h1,h2⟩:=qiE (t:=t) (y:=y) (w:=w) (P:=P) hx;cases op<;>simp only[QV,bFt,bNt]at ho
 ·subst ho;rw[h1];simp[he]
 ·subst ho;rw[h2];simp[he]
theorem qn6{tag:Nat}:(∀k n,wj tag≠.int k n)/\(∀k n,wj tag≠.float k n)/\(∀k n q,wj tag≠.complex k n q)/\(∀q,wj tag≠.string q):=by
 match tag with
 | 0=>exact⟨nofun,nofun,nofun,nofun⟩
 | 1=>exact⟨nofun,nofun,nofun,nofun⟩
 | 2=>exact⟨nofun,nofun,nofun,nofun⟩
 | 3=>exact⟨nofun,nofun,nofun,nofun⟩
 | _+4=>exact⟨nofun,nofun,nofun,nofun⟩
theorem qpX{tag:Nat}{neg:Bool}{x:Ao}{op:BinOp}{T T':TypeId}{x' y':Operand}{av:AV}(hm:jk S L A (.isnil tag neg x) (.binOp op T x' y' T')=true)(hs:SlotR S.N m L s a)
  (hv:val (.isnil tag neg x) s l h=some av):
  ∃v,(do eqGuard op T x' y' (a.eval x') (a.eval y');binOp op T (a.eval x') (a.eval y'):Sem Value).run S.P w=.ok v w/\VR S.N m av v:=by
 simp only[jk,bAt,Bool.or_eq_true]at hm;obtain⟨⟨h1,h2⟩,h3⟩:=hm;simp only[val,oMi]at hv;obtain⟨b,hb,rfl⟩:=hv;cases he:ev s x with
 | none=>simp[he]at hb
 | some xv=>
  simp only[he,oBs]at hb;cases hT:S.T T with
  | none=>simp[hT]at h2
  | some i=>
   obtain⟨k,sz,bs,z⟩:=i;simp only[hT]at h2;rcases h3 with⟨hn,hx⟩ | ⟨hn,hx⟩
   ·have hx:=qw (a:=a) hx hs he;have:=qIT hn;subst this;have heq:=(qGI (w:=w) hT h2 hx hb).1;refine⟨_, ?_,VR.bool_mk⟩;have:=Yp h1 qn6 heq;show (do eqGuard op T (.const (wj tag)) y' (wj tag) (a.eval y');binOp op T (wj tag) (a.eval y'):Sem Value).run S.P w=_;simp only[Sem.run_bind,ql1 h1,Result.andThen_ok];exact this
   ·have hx:=qw (a:=a) hx hs he;have:=qIT hn;subst this;have heq:=(qGI (w:=w) hT h2 hx hb).2;refine⟨_, ?_,VR.bool_mk⟩;have:=Yp h1 (qmJ hx hb) heq;show (do eqGuard op T x' (.const (wj tag)) (a.eval x') (wj tag);binOp op T (a.eval x') (wj tag):Sem Value).run S.P w=_;simp only[Sem.run_bind,ql2 h1,Result.andThen_ok];exact this
theorem qo1{cs:List AV}{off k:Nat}:(AV.agg cs).part off (some k)=if off+k<=cs.length then some (.agg ((cs.drop off).take k))else none:=rfl
theorem qkH{N:zB}{cs:List AV}{vs:Array Value}{off:Nat}{sh:Option Nat}{av:AV}{t:TypeId}(hN:N=S.N)(hv:VRs N m cs vs.toList)(hsc:cs.all AV.sc=true)(hp:(AV.agg cs).part off sh=some av)
  (hsh:Jt S t sh=true):∃v,(part t vs off).run S.P w=.ok v w/\VR S.N m av v:=by
 subst hN;unfold Jt at hsh;cases hT:S.T t with
 | none=>simp[hT]at hsh
 | some i=>
  simp only[hT,bAt]at hsh;obtain⟨hk,hsh⟩:=hsh;have hag:=qV.isAgg (S:=S) (w:=w) hT hk;unfold part;cases sh with
  | none=>
   simp only[bAt,bNt]at hsh;simp only[AV.part,AV.cells]at hp;obtain⟨u,hu,hr⟩:=hv.get hp;refine⟨u, ?_,hr⟩;have hu':vs[off]?=some u:=by simpa using hu
   simp[Sem.run_bind,hag,hsh.1,hu']
  | some k=>
   simp only[bAt,bIe]at hsh;rw[qo1]at hp;split at hp
   ·simp only[oSi]at hp;subst hp;refine⟨.agg (vs.extract off (off+k)), ?_, ?_⟩
    ·simp[Sem.run_bind,hag,hsh.1,qV.size hT,hsh.2]
    ·simp only[VR];refine⟨_,rfl, ?_, ?_⟩
     ·have:=(hv.drop off).take k;simpa[Array.toList_extract,List.extract_eq_take_drop]using this
     ·rw[lAt]at hsc|-;exact λq hq=>hsc q (List.mem_of_mem_drop (List.mem_of_mem_take hq))
   ·cases hp
theorem Yt:∀{fs:List (Nat×TypeId)}{gs:List Field}{i o z:Nat},Jp fs gs=true->JJ S fs i=some (o,z)->
  ∃g,gs[i]?=some g/\g.offset=o/\∀w:World,(sizeOf g.type).run S.P w=.ok z w
 |[],_,_,_,_,_,hf=>by simp[JJ]at hf
 | _::_,[],_,_,_,he,_=>by simp[Jp]at he
 | (o',t)::fs,g::gs,i,o,z,he,hf=>by
  simp only[Jp,bAt,bIe]at he;cases i with
  | zero=>
   simp only[JJ,List.getElem?_cons_zero]at hf;split at hf
   ·rename_i j hT;simp only[oSi,Prod.mk.injEq]at hf;refine⟨g,rfl,by rw[he.1.1,hf.1],λw=>?_⟩;rw[he.1.2,qV.size hT,hf.2]
   ·cases hf
  | succ i=>
   obtain⟨g',h1,h2⟩:=Yt (i:=i) (o:=o) (z:=z) he.2 (by simpa[JJ]using hf);exact⟨g',by simpa using h1,h2⟩
def Yld(S:qV)(m:Mp)(a:Act)(w:World)(o:Oper)(av:AV):Prop:=∃v,(execOp a.eval o).run S.P w=.ok (.value v) w/\VR S.N m av v
theorem Yld.mk{o:Oper}{av:AV}{x:Sem Value}(he:execOp a.eval o=(do pure (Next.value (<-x))))(hx:∃v,x.run S.P w=.ok v w/\VR S.N m av v):Yld S m a w o av:=by
 obtain⟨v,h1,h2⟩:=hx;exact⟨v,by rw[he];exact qp0 h1,h2⟩
theorem qKW{x:Ao}{y:Operand}{o:Oper}{av:AV}(hm:mAo S.N L x y=true)(hs:SlotR S.N m L s a)(he:ev s x=some av)(ho:o.op=.move y\/o.op=.assign y):Yld S m a w o av:=by
 refine⟨a.eval y, ?_,qw hm hs he⟩;unfold execOp;rcases ho with ho | ho<;>rw[ho]<;>rfl
set_option maxHeartbeats 1000000 in
theorem qKC{t:TypeId}{cs:Array Value}{off:Nat}{v:Value}{d:TypeDesc}{P:Program}(hu:P.underlying t=some d)(hd:WM d≠0)(hv:cs[off]?=some v):
  (part t cs off).run P w=.ok v w:=by
 unfold part isAgg;simp only[Sem.run_bind,run_underlying hu,Result.andThen_ok];cases d<;>first
  | exact absurd rfl hd
  | simp[hv]
theorem qKB{P:Program}{N:zB}{d:Nat}{xs ys:Array Value}:∀{fs:List Field}{ks:List Nat}(o:Nat){cs ds:List AV}{b:Bool},Zv P fs ks o=true->VRs N m cs (xs.toList.drop o)->VRs N m ds (ys.toList.drop o)->wK cs ds=some b->
  cs.map dig=ks->ds.map dig=ks->(Op.eqFields (d+1) xs ys fs).run P w=.ok b w
 |[],[],o,cs,ds,b,_,_,_,hb,h1,h2=>by
  have:cs=[]:=by simpa using h1
  subst this;have:ds=[]:=by simpa using h2
  subst this;cases hb;simp[Op.eqFields]
 |[],_::_,_,_,_,_,hf,_,_,_,_,_=>by simp[Zv]at hf
 | _::_,[],_,_,_,_,hf,_,_,_,_,_=>by simp[Zv]at hf
 | f::fs,k::ks,o,cs,ds,b,hf,hx,hy,hb,g1,g2=>by
  simp only[Zv,bAt,bne_iff_ne,bIe]at hf;obtain⟨⟨⟨h1,rfl⟩,h3⟩,h4⟩:=hf;cases cs with
  | nil=>simp at g1
  | cons c cs=>
  cases ds with
  | nil=>simp at g2
  | cons e ds=>
  simp only[lMc,List.cons.injEq]at g1 g2;obtain⟨g1,g3⟩:=g1;obtain⟨g2,g4⟩:=g2;simp only[VRs]at hx hy;obtain⟨u,us,hx1,hx2,hx3⟩:=hx;obtain⟨v,vs,hy1,hy2,hy3⟩:=hy;have gx:xs[f.offset]?=some u:=by rw[<-Array.getElem?_toList,<-List.head?_drop,hx1];rfl
  have gy:ys[f.offset]?=some v:=by rw[<-Array.getElem?_toList,<-List.head?_drop,hy1];rfl
  have ex:xs.toList.drop (f.offset+1)=us:=by rw[<-List.tail_drop,hx1];rfl
  have ey:ys.toList.drop (f.offset+1)=vs:=by rw[<-List.tail_drop,hy1];rfl
  split at h3
  ·rename_i dd hd1;simp only[bAt,bIe,bNt,beq_eq_false_iff_ne]at h3;obtain⟨h5,h6⟩:=h3;have hd2:WM dd≠0:=by rw[h5];exact h6
   have sc:∀b',Jk c e=some b'->(Op.equalIn (d+1) f.type u v).run P w=.ok b' w:=by
    intro b' hb';cases c<;>simp only[dig]at g1<;>(try (exact absurd g1.symm h6))<;>cases e<;>simp only[dig]at g2<;>(try (simp only[Jk,reduceCtorEq]at hb'))<;>(try (exact absurd g2.symm h6))
    ·rename_i b1 b2;cases hb';have hu:=hx2.bool_eq;have hv:=hy2.bool_eq;subst hu hv;rw[<-g1]at h5;cases dd<;>simp only[WM]at h5<;>(try omega);exact run_equalIn_bool' w d f.type _ _ hd1
    ·rename_i k1 n1 k2 n2;split at hb'
     ·rename_i hk;subst hk;cases hb';have hu:=hx2.int_eq;have hv:=hy2.int_eq;subst hu hv;rw[<-g1]at h5;cases dd<;>simp only[WM]at h5<;>(try (cases h5;done))<;>(try omega);exact run_equalIn_int w d f.type _ _ _ _ hd1
     ·cases hb'
    ·rename_i s1 s2;cases hb';have hu:=hx2.str_eq;have hv:=hy2.str_eq;subst hu hv;rw[<-g1]at h5;cases dd<;>simp only[WM]at h5<;>(try omega);rw[run_equalIn_string w d f.type _ _ hd1];simp[ByteArray.toList_eq]
   simp only[wK]at hb;simp only[Op.eqFields,ne_eq,h1,not_false_eq_true,if_true,Sem.run_bind,qKC hd1 hd2 gx,qKC hd1 hd2 gy,Result.andThen_ok];split at hb
   ·rename_i hq;rw[sc _ hq];simp only[Result.andThen_ok,Bool.not_true,bFt,if_false];exact qKB (f.offset+1) h4 (by rw[ex];exact hx3) (by rw[ey];exact hy3) hb g3 g4
   ·rename_i hq;cases hb;rw[sc _ hq];simp[Result.andThen_ok]
   ·cases hb
  ·cases h3
theorem qGP{k:AV}:∀{es:List (AV×AV)}{i:Nat}{r:Option (Nat×AV)},wM k es i=some r->∃n,k=.int .i64 n
 |[],i,r,h=>by
  unfold wM at h;split at h
  ·exact⟨_,rfl⟩
  ·cases h
 | (k',v)::es,i,r,h=>by
  unfold wM at h;cases hk:Q4 k k' with
  | none=>simp[hk]at h
  | some b=>
   unfold Q4 at hk;split at hk
   ·exact⟨_,rfl⟩
   ·cases hk
theorem qBK{n:Int}:∀{es:List (AV×AV)}{xs:List MapEntry}{i:Nat}{r:Option (Nat×AV)},xs.length=es.length->
  (∀(j:Nat)(k v:AV),es[j]?=some (k,v)->∃x:MapEntry,xs[j]?=some x/\VR S.N m k x.key/\VR S.N m v x.val)->wM (.int .i64 n) es i=some r->
  (r=none/\Instr.findNow (.int .i64) (.int .i64 n) xs i=some none)\/∃j v u,r=some (i+j,v)/\Instr.findNow (.int .i64) (.int .i64 n) xs i=some (some (i+j,u))/\es[j]?=some (.int .i64 n,v)/\VR S.N m v u
 |[],xs,i,r,hl,hx,h=>by
  have:xs=[]:=lEz hl;subst this;cases h;exact .inl ⟨rfl,rfl⟩
 | (k',v)::es,[],i,r,hl,hx,h=>by cases hl
 | (k',v)::es,x::xs,i,r,hl,hx,h=>by
  obtain⟨x',e0,e1,e2⟩:=hx 0 k' v rfl;cases e0;unfold wM at h;cases hk:Q4 (.int .i64 n) k' with
  | none=>simp[hk]at h
  | some b=>
   rw[hk]at h;unfold Q4 at hk;split at hk
   ·rename_i a c q;cases q;cases hk;simp only[VR]at e1;have eN:Instr.sameNow (.int .i64) (.int .i64 n) x.key=some (n==c):=by rw[e1];simp[Instr.sameNow]
    cases hb:(n==c)with
    | true=>
     rw[hb]at h eN;cases h;have:=bIe.1 hb;subst this;exact .inr ⟨0,v,x.val,rfl,by simp[Instr.findNow,eN],rfl,e2⟩
    | false=>
     rw[hb]at h eN;rcases qBK (i:=i+1) (by simpa using hl) (λj k v hj=>hx (j+1) k v hj) h with⟨g1,g2⟩ | ⟨j,v',u,g1,g2,g3,g4⟩
     ·exact .inl ⟨g1,by simp[Instr.findNow,eN,g2]⟩
     ·exact .inr ⟨j+1,v',u,by rw[g1];congr 2;omega,by simp[Instr.findNow,eN,g2];omega,g3,g4⟩
   ·cases hk
theorem qnN{T:TypeId}{z:AV}(h:VF S T z=true):∃k e v,S.P.underlying T=some (.map k e)/\S.P.underlying k=some (.int .i64)/\(∀w,(zeroValue e).run S.P w=.ok v w)/\zU z v=true:=by
 unfold VF at h;split at h
 ·rename_i k e sz bs zz hT;simp only[bAt]at h;obtain⟨h1,h2⟩:=h;obtain⟨⟨d,hd,hk⟩,_⟩:=S.hT T _ hT;cases d<;>simp only[zn,bFt,or_self,bAt,bIe,or_false]at hk;obtain⟨rfl,rfl⟩:=hk;split at h1
  ·rename_i sz1 bs1 z1 hT1;obtain⟨⟨d1,hd1,hk1⟩,_⟩:=S.hT _ _ hT1;cases d1<;>simp only[zn,bFt,or_self,or_false]at hk1;have hk1:=WY hk1;subst hk1;split at h2
   ·rename_i kk2 sz2 bs2 z2 hT2;have hz:=qrE h2;subst hz;obtain⟨ti,i1,_,_,i4⟩:=(S.hT _ _ hT2).info;obtain⟨v,hv,hc⟩:=i4 _ rfl;refine⟨k,e,v,hd,hd1,λw=>?_,hc⟩;unfold zeroValue;simp[run_typeInfo w i1,hv]
   ·cases h2
  ·cases h1
 ·cases h
theorem qGF(hH:HR S.N m h w){mv:AV}{y:Value}{es:List (AV×AV)}(hm:VR S.N m mv y)(he:wh h mv=some es):
  ∃xs:Array MapEntry,xs.size=es.length/\(∀(j:Nat)(k v:AV),es[j]?=some (k,v)->∃x:MapEntry,xs.toList[j]?=some x/\VR S.N m k x.key/\VR S.N m v x.val)/\((y=.map none/\xs= #[])\/∃r c,y=.map (some r)/\w.heap[r]?=some (.map xs c)):=by
 unfold wh at he;split at he
 ·cases he;simp only[VR]at hm;exact⟨#[],rfl,λj k v hj=>by simp at hj,.inl ⟨hm,rfl⟩⟩
 ·rename_i id;split at he
  ·rename_i es' hid;cases he;simp only[VR]at hm;obtain⟨p,hp,rfl⟩:=hm;obtain⟨p',hp',_,xs,c,hb,_,hs,hx⟩:=hH.at' id _ hid;rw[hp]at hp';cases hp';refine⟨xs,hs,λj k v hj=>?_,.inr ⟨_,c,rfl,hb⟩⟩;obtain⟨x,x1,_,x2,x3⟩:=hx j k v hj;exact⟨x,by simpa using x1,x2,x3⟩
  ·cases he
 ·cases he
theorem qqM{o:Oper}{z:AV}{x k:Ao}{ok:Bool}{T:TypeId}{y j:Operand}{av:AV}
  (hs:SlotR S.N m L s a) (hH:HR S.N m h w) (hT:VF S T z=true) (hx:mAo S.N L x y=true) (hk:mAo S.N L k j=true) (hv:val (.look z x k ok) s l h=some av) (ho:o.op=.lookup T y j ok):Yld S m a w o av:=by
 obtain⟨kt,et,zv,u1,u2,u3,u4⟩:=qnN hT;simp only[val]at hv;cases e1:ev s x with
 | none=>simp[e1]at hv
 | some mv=>
  cases e2:ev s k with
  | none=>simp[e1,e2]at hv
  | some kv=>
   simp only[e1,e2]at hv;cases e3:wh h mv with
   | none=>simp[e3]at hv
   | some es=>
    simp only[e3]at hv;cases e4:wM kv es 0 with
    | none=>simp[e4]at hv
    | some r=>
     obtain⟨n,rfl⟩:=qGP e4;obtain⟨xs,s1,s2,s3⟩:=qGF hH (qw (a:=a) hx hs e1) e3;have hj:a.eval j=.int .i64 n:=by have:=qw (a:=a) hk hs e2;simpa only [VR]using this
     have hc:∀b,(Instr.checkKey b 10000 kt (.int .i64 n)).run S.P w=.ok () w:=λb=>MapKept.run_checkKey (k:=.int .i64 n) u2 (show MapKept.IsKey (.int .i64) (.int .i64 n)from rfl) b 9999;have key:∀(r:Option (Nat×Value))(u:Value×Bool),Instr.findNow (.int .i64) (.int .i64 n) xs.toList 0=some r->(match r with | some (_,v)=>v=u.1/\u.2=true | none=>u=(zv,false))->(Instr.lookup T (a.eval y) (a.eval j) ok).run S.P w=.ok (if ok then .tuple #[u.1,.bool u.2]else u.1) w:=λr u hr hu=>by
      have hf:=MapKept.run_findKey (w:=w) u2 hr;unfold Instr.lookup;rw[hj];rcases s3 with⟨q,rfl⟩ | ⟨b,c,q,hb⟩
      ·cases r with
       | none=>
        simp only at hu;subst hu;simp[q,run_underlying u1,Result.andThen,hc,hf,u3]
       | some p=>
        obtain⟨p1,p2⟩:=p;simp[Instr.findNow]at hr
      ·cases r with
       | none=>
        simp only at hu;subst hu;simp[q,run_underlying u1,Result.andThen,MapKept.run_getObj_map hb,hc,hf,u3]
       | some p=>
        obtain⟨p1,p2⟩:=p;obtain⟨u1',u2'⟩:=u;simp only at hu;obtain⟨rfl,rfl⟩:=hu;simp[q,run_underlying u1,Result.andThen,MapKept.run_getObj_map hb,hc,hf]
     have fin:∀(u:Value×Bool)(v:AV),av=(if ok then .tup [v,.bool u.2]else v)->VR S.N m v u.1->VR S.N m av (if ok then .tuple #[u.1,.bool u.2]else u.1):=λu v e gv=>by
      clear key hv;subst e;cases ok with
      | true=>simp only[if_true,VR];exact⟨_,rfl,by simp only[VRs,VR];exact⟨u.1,_,rfl,gv,.bool u.2,[],rfl,rfl,rfl⟩⟩
      | false=>exact gv
     rcases qBK (by simpa using s1) s2 e4 with⟨rfl,g⟩ | ⟨jj,v,u,rfl,g,_,gv⟩
     ·simp only[e4,oSi]at hv;exact Yld.mk (x:=Instr.lookup T (a.eval y) (a.eval j) ok) (by unfold execOp;simp only[ho]) ⟨_,key _ (zv,false) g rfl,fin (zv,false) z hv.symm (QU _ _ u4)⟩
     ·simp only[e4,oSi]at hv;exact Yld.mk (x:=Instr.lookup T (a.eval y) (a.eval j) ok) (by unfold execOp;simp only[ho]) ⟨_,key _ (u,true) g ⟨rfl,rfl⟩,fin (u,true) v hv.symm gv⟩
theorem qqN{o:Oper}{x:Ao}{y:Operand}{ts:Array TypeId}{ty:TypeId}{av:AV}{k e:TypeId}{sz bs:Nat}{z:Option AV}(hs:SlotR S.N m L s a)(hH:HR S.N m h w)(hx:mAo S.N L x y=true)(h2:ts.size=1)
  (hT:S.T (ts.getD 0 0)=some ⟨.map k e,sz,bs,z⟩) (hv:val (.mlen x) s l h=some av) (ho:execOp a.eval o=(do let d <-resolve a.eval ⟨.builtin .len, #[y],ts⟩ ty;invoke d.target d.args:Sem Next)):Yld S m a w o av:=by
 have h0:ts[0]?=some (ts.getD 0 0):=by
  rw[aGe (by omega)];simp[Array.getD,h2]
 obtain⟨d,hd,hk⟩:=qV.kind (S:=S) (w:=w) hT rfl;cases d<;>simp only[zn,bFt]at hk;simp only[val]at hv;cases e1:ev s x with
 | none=>simp[e1]at hv
 | some mv=>
  cases e3:wh h mv with
  | none=>simp[e1,e3]at hv
  | some es=>
   simp only[e1,e3,oBs,oMs,oSi]at hv;subst hv;obtain⟨xs,s1,_,s3⟩:=qGF hH (qw (a:=a) hx hs e1) e3;refine⟨.int .i64 (es.length:Nat), ?_,VR.int_mk⟩;have hl:(Builtin.len_ ts ty #[a.eval y]).run S.P w=.ok (.int .i64 (es.length:Nat)) w:=by
    unfold Builtin.len_;rw[h0];rcases s3 with⟨q,rfl⟩ | ⟨b,c,q,hb⟩
    ·rw[q];simp only[List.getElem?_toArray,List.getElem?_cons_zero,Sem.run_bind,hd,Result.andThen_ok,Sem.run_pure,goInt];simp at s1;simp[<-s1]
    ·rw[q];simp only[List.getElem?_toArray,List.getElem?_cons_zero,Sem.run_bind,hd,Result.andThen_ok,Sem.run_pure,goInt,MapKept.run_getObj_map hb,s1]
   rw[ho];simp only[resolve,Sem.run_bind,Sem.run_pure,Result.andThen_ok,invoke,builtin];have:(#[y].map a.eval)= #[a.eval y]:=by simp
   rw[this];simp[hl]
theorem qq5(o:Oper)(c:AOp){av:AV}(hm:jk S L A c o.op=true)(hs:SlotR S.N m L s a)(hH:HR S.N m h w)(hl:qDS S m L A (λy=>y∈o.op.operands.toList) l a w)(hv:val c s l h=some av):Yld S m a w o av:=by
 obtain⟨dst,op,ty,pos,after,guard⟩:=o;simp only at hm;unfold jk at hm;split at hm
 case h_1 x y=>exact qKW hm hs (by simpa only [val]using hv) (.inl rfl)
 case h_2 x y=>exact qKW hm hs (by simpa only [val]using hv) (.inr rfl)
 case h_3 n args ts=>
  simp only[bAt,bIe]at hm;obtain⟨hm1,hm2⟩:=hm;simp only[val,ev,oSi]at hv;subst hv;split at hm2
  ·rename_i k e sz bs z hT;simp only[bAt,bIe]at hm2;obtain⟨d,hd,hk⟩:=qV.kind (S:=S) (w:=w) hT rfl;cases d<;>simp only[zn,bFt,bAt,bIe]at hk;refine⟨.int .i64 n, ?_,VR.int_mk⟩;have h0:ts[0]?=some (ts.getD 0 0):=by
    rw[aGe (by omega)];simp[Array.getD,hm2.1]
   have h1:∃y,(args.map a.eval)[0]?=some y:=⟨_,aGe (by simp;omega)⟩;obtain⟨y,h1⟩:=h1;have hlen:(Builtin.len_ ts ty (args.map a.eval)).run S.P w=.ok (.int .i64 n) w:=by
    unfold Builtin.len_;rw[h0,h1];simp only[Sem.run_bind,hd,Result.andThen_ok];have:goInt (k:Int)=.int .i64 n:=by rw[hm2.2];rfl
    cases y<;>simp[]<;>rw[<-hk.1,this]
   show (do let d <-resolve a.eval ⟨.builtin .len,args,ts⟩ ty;invoke d.target d.args:Sem Next).run S.P w=_;simp only[resolve,Sem.run_bind,Sem.run_pure,Result.andThen_ok,invoke,builtin];simp[hlen]
  ·cases hm2
 case h_4 c' x y c'' x' y'=>
  simp only[bAt]at hm;simp only[val]at hv;have hc:=λq hq=>qw (a:=a) (v:=q) hm.1.1 hs hq;split at hv
  ·rename_i hb;have:=(hc _ hb).bool_eq;refine⟨a.eval x', ?_,qw hm.1.2 hs hv⟩;show (do pure (Next.value (if <-asBool (a.eval c'')then a.eval x' else a.eval y')):Sem Next).run S.P w=_;rw[this];rfl
  ·rename_i hb;have:=(hc _ hb).bool_eq;refine⟨a.eval y', ?_,qw hm.2 hs hv⟩;show (do pure (Next.value (if <-asBool (a.eval c'')then a.eval x' else a.eval y')):Sem Next).run S.P w=_;rw[this];rfl
  ·cases hv
 case h_5 z ps t parts=>
  refine Yld.mk (x:=Instr.build t (parts.map λ(i,x)=>(i,a.eval x))) rfl (qpV (A:=A) (by unfold jk;exact hm) hs (by simpa only [val]using hv))
 case h_6 t off sh T y=>
  simp only[bAt]at hm;obtain⟨hm1,hm2⟩:=hm;cases ha:wZ L A y with
  | none=>simp[ha]at hm1
  | some q=>
   obtain⟨t',off'⟩:=q;simp only[ha,bAt,bIe]at hm1;obtain⟨rfl,rfl⟩:=hm1;simp only[val]at hv;cases hlk:lk l t with
   | none=>simp[hlk]at hv
   | some c=>
    simp only[hlk,oBs]at hv;obtain⟨b,⟨cs,e,fz,hb,_,_,hcs⟩,hev⟩:=hl y t off (by simp[Op.operands]) ha c hlk;obtain⟨u,hu,hr⟩:=Vn (S:=S) (t:=T) (sh:=sh) (o:=0) (j:=off) hb hcs hv hm2;refine Yld.mk (x:=Instr.loadAt T (a.eval y)) rfl ⟨u, ?_,hr⟩;rw[hev];rw[nZa]at hu;simp[Instr.loadAt,Instr.sureAddr,hu]
 case h_7 sh p T y=>
  simp only[bAt]at hm;simp only[val]at hv;split at hv
  ·rename_i id i j hp;split at hv
   ·rename_i w' el rw' ho;cases hel:el[i]? with
    | none=>simp[hel]at hv
    | some e=>
     simp only[hel,oBs]at hv;exact Yld.mk (x:=Instr.loadAt T (a.eval y)) rfl (qKV hH hm.2 (qw hm.1 hs hp) ho hel hv)
   ·cases hv
  ·rename_i x' j' hp;exact Yld.mk (x:=Instr.loadAt T (a.eval y)) rfl (qqL hH hm.2 (qw hm.1 hs hp) hv)
  ·cases hv
 case h_8 x y=>
  simp only[val]at hv;split at hv
  ·rename_i i j k he;simp only[oSi]at hv;subst hv;have hx:=qw (a:=a) hm hs he;refine⟨a.eval y, ?_,hx⟩;obtain⟨p,_,hp⟩:=hx.ptr_inv;unfold execOp;simp only[hp];rfl
  ·rename_i x' j' he;simp only[oSi]at hv;subst hv;have hx:=qw (a:=a) hm hs he;refine⟨a.eval y, ?_,hx⟩;simp only[VR]at hx;obtain⟨_,_,_,_,hp,_⟩:=hx;unfold execOp;simp only[hp];rfl
  ·rename_i g cs he;simp only[oSi]at hv;subst hv;have hx:=qw (a:=a) hm hs he;refine⟨a.eval y, ?_,hx⟩;simp only[VR]at hx;obtain⟨vs,hp,_⟩:=hx;unfold execOp;simp only[hp];rfl
  ·cases hv
 case h_9 op' x y op T x' y' T'=>
  simp only[bAt]at hm;obtain⟨⟨h1,h2⟩,h3⟩:=hm;have:=qiD h1;subst this;simp only[val]at hv;split at hv
  ·rename_i k n k' n' hx hy;split at hv
   ·rename_i hk;subst hk;have hx:=(qw (a:=a) h2 hs hx).int_eq;have hy:=(qw (a:=a) h3 hs hy).int_eq;refine Yld.mk (x:=do eqGuard op' T x' y' (a.eval x') (a.eval y');binOp op' T (a.eval x') (a.eval y')) rfl ?_;rw[hx,hy];simp only[Sem.run_bind,ql0,Result.andThen_ok];exact qpW hv
   ·cases hv
  ·cases hv
 case h_10 neg x y op T x' y' T'=>
  simp only[bAt]at hm;obtain⟨⟨⟨h1,h0⟩,h2⟩,h3⟩:=hm;simp only[val]at hv;split at hv
  ·rename_i b b' hx hy;simp only[oSi]at hv;subst hv;split at h0
   ·rename_i sz bs z hT;have hx:=(qw (a:=a) h2 hs hx).bool_eq;have hy:=(qw (a:=a) h3 hs hy).bool_eq;refine Yld.mk (x:=do eqGuard op T x' y' (a.eval x') (a.eval y');binOp op T (a.eval x') (a.eval y')) rfl ⟨_, ?_,VR.bool_mk⟩;rw[hx,hy];simp only[Sem.run_bind,qlZ,Result.andThen_ok];exact Yp h1 ⟨nofun,nofun,nofun,nofun⟩ (qlD hT)
   ·cases h0
  ·cases hv
 case h_11 tag neg x op T x' y' T'=>
  exact Yld.mk (x:=do eqGuard op T x' y' (a.eval x') (a.eval y');binOp op T (a.eval x') (a.eval y')) rfl (qpX (A:=A) (T':=T') (by unfold jk;exact hm) hs hv)
 case h_12 x t y=>
  simp only[val]at hv;split at hv
  ·rename_i b hx;simp only[oSi]at hv;subst hv;have hx:=(qw (a:=a) hm hs hx).bool_eq;refine Yld.mk (x:=Op.unary .not (a.eval y)) rfl ⟨_, ?_,VR.bool_mk⟩;rw[hx];rfl
  ·cases hv
 case h_13 k x sT dT y=>
  simp only[bAt]at hm;obtain⟨h1,h2⟩:=hm;simp only[val]at hv;split at hv
  ·rename_i k1 n hx;simp only[oSi]at hv;subst hv;split at h2
   ·rename_i k2 _ _ _ k3 _ _ _ hT1 hT2;have:=WY h2;subst this;obtain⟨d1,hd1,hk1⟩:=qV.kind (S:=S) (w:=w) hT1 rfl;obtain⟨d2,hd2,hk2⟩:=qV.kind (S:=S) (w:=w) hT2 rfl;cases d1<;>simp only[zn,bFt]at hk1;cases d2<;>simp only[zn,bFt]at hk2;have:=WY hk2;subst this;have hx:=(qw (a:=a) h1 hs hx).int_eq;refine Yld.mk (x:=convert sT dT (a.eval y)) rfl ⟨_, ?_,VR.int_mk⟩;rw[hx];unfold convert;simp only[Sem.run_bind,hd1,hd2,Result.andThen_ok];rfl
   ·cases h2
  ·cases hv
 case h_14 w' x lo hi mx T y lo' hi' mx'=>
  simp only[bAt,Bool.or_eq_true]at hm;obtain⟨⟨⟨⟨⟨h0,h1⟩,h2⟩,h3⟩,h4⟩,h5⟩:=hm;have hmx:mx.isSome=true->hi.isSome=true:=by
   intro q;rcases h5 with h5 | h5
   ·cases mx<;>simp_all
   ·exact h5
  split at h0
  ·rename_i e sz bs z hT;simp only[bIe]at h0;refine Yld.mk (x:=Instr.sliceAt T (a.eval y) (lo'.map a.eval) (hi'.map a.eval) (mx'.map a.eval)) rfl ?_;simp only[val]at hv;split at hv
   ·rename_i hx;have hx:=qw (a:=a) h1 hs hx;simp only[VR]at hx;split at hv
    ·rename_i n0 n1 n2 q0 q1 q2;simp only[oSi]at hv;subst hv;have e1:=Jj (a:=a) (o:=hi') hs h3 q1;have e2:=Jj (a:=a) (o:=lo') hs h2 q2;have z1:n1=0:=by rcases e1 with⟨_,_,rfl⟩ | ⟨_,_,_,_,_,_,_,_,_,_⟩<;>omega
     have z2:n2=0:=by rcases e2 with⟨_,_,rfl⟩ | ⟨_,_,_,_,_,_,_,_,_,_⟩<;>omega
     subst z1 z2;have q3:(mx=none/\0=0)\/∃x,mx=some x/\bnd s (some x) 0 0 0=some 0:=by
      cases mx with
      | none=>exact .inl ⟨rfl,rfl⟩
      | some x=>
       refine .inr ⟨x,rfl, ?_⟩;have q0:bnd s (some x) 0 0 0=some n0:=q0;rw[q0];congr 1;simp only[bnd]at q0;split at q0
       ·split at q0
        ·simp only[oSi]at q0;omega
        ·cases q0
       ·cases q0
     obtain⟨r,_⟩:=Xz (a:=a) (w:=w) (P:=S.P) (sl:=true) (len:=0) (cap:=0) (M:=0) hs h2 h3 h4 hmx (nLr _) q1 q2 q3;obtain⟨d,hd,hk⟩:=qV.kind (S:=S) (w:=w) hT rfl;cases d<;>simp only[zn,bFt,bIe]at hk;subst hk;cases hTe:S.T e with
     | none=>simp[jJ,hTe]at h0
     | some ie=>
      refine⟨.slice none 0 0, ?_,by simp only[VR]⟩;rw[hx];unfold Instr.sliceAt Instr.slice;simp[Sem.run_bind,hd,r,qV.size (S:=S) (w:=w) hTe]
    ·cases hv
   ·rename_i w1 id off len clip hx;have hx:=qw (a:=a) h1 hs hx;split at hv
    ·rename_i b hb;split at hv
     ·rename_i q hq;split at hv
      ·split at hv
       ·rename_i hw;obtain⟨hw,hw2⟩:=hw;simp only[oSi]at hv;subst hv hw;exact qKD (M:=0) hT h0 hs h2 h3 h4 hmx hx hb hq (.inl ⟨rfl,rfl,hw2⟩)
       ·cases hv
      ·rename_i mo;split at hv
       ·rename_i M hM;split at hv
        ·rename_i hw;simp only[oSi]at hv;subst hv hw;exact qKD hT h0 hs h2 h3 h4 hmx hx hb hq (.inr ⟨mo,rfl,hM,rfl⟩)
        ·cases hv
       ·cases hv
     ·cases hv
    ·cases hv
   ·rename_i w1 xs clip hx;have hx:=qw (a:=a) h1 hs hx;split at hv
    ·rename_i b hb;split at hv
     ·rename_i q hq;split at hv
      ·split at hv
       ·rename_i hw;simp only[oSi]at hv;subst hv hw;exact qKE (M:=0) hT h0 hs h2 h3 h4 hmx hx hb hq (.inl ⟨rfl,rfl⟩)
       ·cases hv
      ·rename_i mo;split at hv
       ·rename_i M hM;split at hv
        ·rename_i hw;simp only[oSi]at hv;subst hv hw;exact qKE hT h0 hs h2 h3 h4 hmx hx hb hq (.inr ⟨mo,rfl,hM,rfl⟩)
        ·cases hv
       ·cases hv
     ·cases hv
    ·cases hv
   ·cases hv
  ·cases h0
 case h_15 off x T y i=>
  simp only[bAt]at hm;obtain⟨h0,h1⟩:=hm;split at h0
  ·rename_i fs sz bs z hT;cases hf:JJ S fs i with
   | none=>simp[hf]at h0
   | some q=>
    obtain⟨o',zz⟩:=q;simp only[hf,bAt,bIe,bNt,beq_eq_false_iff_ne]at h0;simp only[val]at hv;split at hv
    ·rename_i id i' j hx;simp only[oSi]at hv;subst hv;have hx:=qw (a:=a) h1 hs hx;obtain⟨p,hp,hx⟩:=hx.ptr_inv;obtain⟨d,hd,hk⟩:=qV.kind (S:=S) (w:=w) hT rfl;cases d<;>simp only[zn,bFt]at hk;rename_i gs;obtain⟨g,hg,hgo,hgs⟩:=Yt hk hf;refine Yld.mk (x:=Instr.fieldAt T (a.eval y) i) rfl ⟨_, ?_,VR.ptr_mk hp⟩;rw[hx];unfold Instr.fieldAt Instr.sureAddr fieldPlace;have hg':gs[i]?=some g:=by simpa using hg
     simp only[Sem.run_bind,hd,Result.andThen_ok,hg'];have hz:(sizeOf g.type).run S.P w=.ok zz w:=hgs w;simp[hz,h0.2,wo,hgo,h0.1];omega
    ·rename_i x' j hx;simp only[oSi]at hv;subst hv;have hx:=qw (a:=a) h1 hs hx;simp only[VR]at hx;obtain⟨b,o,c,u,hx,hz1,hr⟩:=hx;obtain⟨d,hd,hk⟩:=qV.kind (S:=S) (w:=w) hT rfl;cases d<;>simp only[zn,bFt]at hk;rename_i gs;obtain⟨g,hg,hgo,hgs⟩:=Yt hk hf;refine Yld.mk (x:=Instr.fieldAt T (a.eval y) i) rfl ⟨.pointer (some ⟨b,o+(j+off),none⟩), ?_,by simp only[VR];exact⟨b,o,c,u,rfl,hz1,hr⟩⟩;rw[hx];unfold Instr.fieldAt Instr.sureAddr fieldPlace;have hg':gs[i]?=some g:=by simpa using hg
     simp only[Sem.run_bind,hd,Result.andThen_ok,hg'];have hz:(sizeOf g.type).run S.P w=.ok zz w:=hgs w;simp[hz,h0.2,wo,hgo,h0.1];omega
    ·cases hv
  ·cases h0
 case h_16 w' x i T y j=>
  simp only[bAt]at hm;obtain⟨⟨h0,h1⟩,h2⟩:=hm;split at h0
  ·rename_i e sz bs z hT;simp only[bIe]at h0;simp only[val]at hv;split at hv
   ·rename_i w1 id off len clip k n hx hi;split at hv
    ·rename_i hc;obtain⟨rfl,hc1,hc2⟩:=hc;simp only[oSi]at hv;subst hv;have hx:=qw (a:=a) h1 hs hx;have hi:=(qw (a:=a) h2 hs hi).int_eq;simp only[VR]at hx;obtain⟨p,ad,cap,hp,hw,hx,hle,hrc,hcl,had⟩:=hx;obtain⟨d,hd,hk⟩:=qV.kind (S:=S) (w:=w) hT rfl;cases d<;>simp only[zn,bFt,bIe]at hk;subst hk;cases hTe:S.T e with
     | none=>simp[jJ,hTe]at h0
     | some ie=>
      simp only[jJ,hTe,oMs,oSi]at h0;refine Yld.mk (x:=Instr.indexAt T (a.eval y) (a.eval j)) rfl ⟨_, ?_,VR.ptr_mk hp⟩;rw[hx,hi];unfold Instr.indexAt;have hcap:0<cap:=by omega
      rw[had hcap];have hn:0<=n/\n<(len:Int):=⟨hc1,hc2⟩;simp only[asIntOf,Sem.run_bind,Sem.run_pure,hd,Result.andThen_ok,iP hn,qV.size hTe,wo,h0];congr 4;rw[hw,Nat.add_mul];omega
    ·cases hv
   ·rename_i w1 xs clip k n hx hi;split at hv
    ·rename_i hc;obtain⟨rfl,hc1⟩:=hc;simp only[oMi]at hv;obtain⟨x',hxi,rfl⟩:=hv;have hx:=qw (a:=a) h1 hs hx;have hi:=(qw (a:=a) h2 hs hi).int_eq;simp only[VR]at hx;obtain⟨ad,cap,hx,hle,hcl,hz⟩:=hx;have hlt:n.toNat<xs.length:=(gSi.1 hxi).1;rcases hz with⟨rfl,_⟩ | ⟨b,o,c,rfl,hz,hr⟩
     ·simp at hlt
     obtain⟨u,g1,g2,g3,g4⟩:=hr.get hxi;obtain⟨d,hd,hk⟩:=qV.kind (S:=S) (w:=w) hT rfl;cases d<;>simp only[zn,bFt,bIe]at hk;subst hk;cases hTe:S.T e with
     | none=>simp[jJ,hTe]at h0
     | some ie=>
      simp only[jJ,hTe,oMs,oSi]at h0;refine Yld.mk (x:=Instr.indexAt T (a.eval y) (a.eval j)) rfl ⟨.pointer (some ⟨b,o+n.toNat*w1,none⟩), ?_, ?_⟩
      ·rw[hx,hi];unfold Instr.indexAt;have hn:0<=n/\n<(xs.length:Int):=⟨hc1,by omega⟩;simp only[asIntOf,Sem.run_bind,Sem.run_pure,hd,Result.andThen_ok,iP hn,qV.size hTe,wo,h0]
      ·simp only[VR];exact⟨b,o+n.toNat*w1,c,u,rfl,hz,g1,by omega,λi hi=>g4 i (by omega)⟩
    ·cases hv
   ·cases hv
  ·cases h0
 case h_17 n w' sh x i T y j=>
  simp only[bAt]at hm;obtain⟨⟨h0,h1⟩,h2⟩:=hm;split at h0
  ·rename_i n' e sz bs z hT;simp only[bAt,bIe]at h0;obtain⟨⟨rfl,h0⟩,h3⟩:=h0;simp only[val]at hv;split at hv
   ·rename_i cs k q hx hi;split at hv
    ·rename_i hc;have hx:=qw (a:=a) h1 hs hx;simp only[VR]at hx;obtain⟨vs,hx,hvs,hsc⟩:=hx;have hi:=(qw (a:=a) h2 hs hi).int_eq;obtain⟨d,hd,hk⟩:=qV.kind (S:=S) (w:=w) hT rfl;cases d<;>simp only[zn,bFt,bAt,bIe]at hk;obtain⟨rfl,rfl⟩:=hk;cases hTe:S.T e with
     | none=>simp[jJ,hTe]at h0
     | some ie=>
      simp only[jJ,hTe,oMs,oSi]at h0;obtain⟨v,hp,hr⟩:=qkH (S:=S) (w:=w) rfl hvs hsc hv h3;refine Yld.mk (x:=Instr.index T (a.eval y) (a.eval j)) rfl ⟨v, ?_,hr⟩;rw[hx,hi];unfold Instr.index;simp only[asIntOf,Sem.run_bind,Sem.run_pure,hd,Result.andThen_ok,iP hc,qV.size hTe,h0];exact hp
    ·cases hv
   ·cases hv
  ·cases h0
 case h_18 x i y j=>
  simp only[bAt,bIe]at hm;obtain⟨rfl,h1⟩:=hm;simp only[val]at hv;split at hv
  ·rename_i vs hx;have hx:=qw (a:=a) h1 hs hx;simp only[VR]at hx;obtain⟨us,hx,hus⟩:=hx;obtain⟨u,hu,hr⟩:=hus.get hv;have hu':us[i]?=some u:=by simpa using hu
   refine Yld.mk (x:=Instr.extract (a.eval y) i) rfl ⟨u, ?_,hr⟩;rw[hx];unfold Instr.extract;simp[hu']
  ·cases hv
 case h_19 g caps k first captured=>
  simp only[bAt,bIe]at hm;obtain⟨⟨rfl,h1⟩,h2⟩:=hm;simp only[val,oMi]at hv;obtain⟨vs,hv,rfl⟩:=hv;have hf:first= #[]:=by simpa using h1
  subst hf;refine Yld.mk (x:=Instr.makeFunc (.func (S.N.f g)) (#[].map a.eval) (captured.map a.eval)) rfl ⟨.func (.func (S.N.f g)) #[] (captured.map a.eval),by simp[Instr.makeFunc], ?_⟩;simp only[VR];exact⟨_,rfl,by simpa using Wb h2 hs hv⟩
 case h_20 x args ts=>
  simp only[bAt,bIe]at hm;obtain⟨⟨h1,h2⟩,h3⟩:=hm;split at h1
  ·rename_i y hargs;have hargs':args= #[y]:=by rw[<-aTt (xs:=args),hargs]
   subst hargs';have h0:ts[0]?=some (ts.getD 0 0):=by
    rw[aGe (by omega)];simp[Array.getD,h2]
   split at h3
   ·rename_i e sz bs z hT;obtain⟨d,hd,hk⟩:=qV.kind (S:=S) (w:=w) hT rfl;cases d<;>simp only[zn,bFt]at hk;have hl:∃n cap p,av=.int .i64 (n:Nat)/\a.eval y=.slice p n cap:=by
     simp only[val]at hv;split at hv
     ·rename_i hx;simp only[oSi]at hv;subst hv;have hx:=qw (a:=a) h1 hs hx;simp only[VR]at hx;exact⟨0,0,none,rfl,hx⟩
     ·rename_i w1 id off len clip hx;simp only[oSi]at hv;subst hv;have hx:=qw (a:=a) h1 hs hx;simp only[VR]at hx;obtain⟨_,_,_,_,_,hx,_⟩:=hx;exact⟨len,_,_,rfl,hx⟩
     ·rename_i w1 xs clip hx;simp only[oSi]at hv;subst hv;have hx:=qw (a:=a) h1 hs hx;simp only[VR]at hx;obtain⟨_,_,hx,_⟩:=hx;exact⟨xs.length,_,_,rfl,hx⟩
     ·cases hv
    obtain⟨n,cap,p,rfl,hx⟩:=hl;refine⟨.int .i64 n, ?_,VR.int_mk⟩;have hl:(Builtin.len_ ts ty #[a.eval y]).run S.P w=.ok (.int .i64 n) w:=by
     unfold Builtin.len_;rw[h0,hx];simp only[List.getElem?_toArray,List.getElem?_cons_zero,Sem.run_bind,hd,Result.andThen_ok,Sem.run_pure,goInt]
    show (do let d <-resolve a.eval ⟨.builtin .len, #[y],ts⟩ ty;invoke d.target d.args:Sem Next).run S.P w=_;simp only[resolve,Sem.run_bind,Sem.run_pure,Result.andThen_ok,invoke,builtin];have:(#[y].map a.eval)= #[a.eval y]:=by simp
    rw[this];simp[hl]
   ·cases h3
  ·cases h1
 case h_21 x y args ts=>
  split at hm
  ·rename_i x' y' hargs;have hargs':args= #[x',y']:=by rw[<-aTt (xs:=args),hargs]
   subst hargs';simp only[bAt]at hm;simp only[val]at hv;split at hv
   ·rename_i k n k' n' hx hy;split at hv
    ·rename_i hk;subst hk;simp only[oSi]at hv;subst hv;have hx:=(qw (a:=a) hm.1 hs hx).int_eq;have hy:=(qw (a:=a) hm.2 hs hy).int_eq;refine⟨_, ?_,VR.int_mk⟩;show (do let d <-resolve a.eval ⟨.builtin .max, #[x',y'],ts⟩ ty;invoke d.target d.args:Sem Next).run S.P w=_;simp only[resolve,Sem.run_bind,Sem.run_pure,Result.andThen_ok,invoke,builtin];have:(#[x',y'].map a.eval)= #[.int k n,.int k n']:=by simp[hx,hy]
     rw[this];rfl
    ·cases hv
   ·cases hv
  ·cases hm
 case h_22 x y args ts=>
  split at hm
  ·rename_i x' y' hargs;have hargs':args= #[x',y']:=by rw[<-aTt (xs:=args),hargs]
   subst hargs';simp only[bAt]at hm;simp only[val]at hv;split at hv
   ·rename_i k n k' n' hx hy;split at hv
    ·rename_i hk;subst hk;simp only[oSi]at hv;subst hv;have hx:=(qw (a:=a) hm.1 hs hx).int_eq;have hy:=(qw (a:=a) hm.2 hs hy).int_eq;refine⟨_, ?_,VR.int_mk⟩;show (do let d <-resolve a.eval ⟨.builtin .min, #[x',y'],ts⟩ ty;invoke d.target d.args:Sem Next).run S.P w=_;simp only[resolve,Sem.run_bind,Sem.run_pure,Result.andThen_ok,invoke,builtin];have:(#[x',y'].map a.eval)= #[.int k n,.int k n']:=by simp[hx,hy]
     rw[this];rfl
    ·cases hv
   ·cases hv
  ·cases hm
 case h_23 neg k x y op T x' y' T'=>
  simp only[bAt]at hm;obtain⟨⟨⟨h1,h0⟩,h2⟩,h3⟩:=hm;simp only[val]at hv;split at hv
  ·rename_i cs ds hx hy;split at hv
   ·rename_i hk;simp only[oMi]at hv;obtain⟨b,hb,rfl⟩:=hv;have hx:=qw (a:=a) h2 hs hx;have hy:=qw (a:=a) h3 hs hy;simp only[VR]at hx hy;obtain⟨xs,hx,hxs,_⟩:=hx;obtain⟨ys,hy,hys,_⟩:=hy;simp only[qKQ,bAt,bNt]at h0;obtain⟨⟨h4,h5⟩,h6⟩:=h0;obtain⟨hT1,hT2⟩:S.P.underlying T=some (.struct (S.P.fieldsOf T))/\Zv S.P (S.P.fieldsOf T).toList k 0=true:=by
     unfold Program.fieldsOf;split at h4
     ·rename_i fs hfs;rw[hfs];exact⟨rfl,h4⟩
     ·cases h4
    refine Yld.mk (x:=do eqGuard op T x' y' (a.eval x') (a.eval y');binOp op T (a.eval x') (a.eval y')) rfl ⟨_, ?_,VR.bool_mk⟩;rw[hx,hy];simp only[Sem.run_bind,run_eqGuard_agg _ _ _ _ _ _ _ h6,Result.andThen_ok];refine Yp h1 ⟨nofun,nofun,nofun,nofun⟩ ?_;show (Op.equalIn (9999+1) T (.agg xs) (.agg ys)).run S.P w=_;rw[run_equalIn_struct w 9999 T xs ys hT1 h5];exact qKB (d:=9998) 0 hT2 (by simpa using hxs) (by simpa using hys) hb hk.1 hk.2
   ·cases hv
  ·cases hv
 case h_24 w' x lo hi mx T y lo' hi' mx'=>
  simp only[bAt]at hm;obtain⟨⟨⟨⟨h0,h1⟩,h2⟩,h3⟩,h4⟩:=hm;split at h0
  ·rename_i e sz bs z hT;simp only[bIe]at h0;simp only[val]at hv;split at hv
   ·rename_i w1 id off len clip hx;have hx:=qw (a:=a) h1 hs hx;split at hv
    ·rename_i c hc;split at hv
     ·rename_i b hb;split at hv
      ·rename_i q hq;split at hv
       ·rename_i hw;simp only[oSi]at hv;subst hv hw;obtain⟨u,hu⟩:=qpY (w:=w) hT h0 hs h2 h3 h4 hx hc hb hq;exact Yld.mk (x:=Instr.sliceAt T (a.eval y) (some (a.eval lo')) (some (a.eval hi')) (some (a.eval mx'))) rfl ⟨u,hu,by simp only[VR]⟩
       ·cases hv
      ·cases hv
     ·cases hv
    ·cases hv
   ·cases hv
  ·cases h0
 case h_25 w' x lo hi T y lo' hi'=>
  simp only[bAt]at hm;obtain⟨⟨⟨h0,h1⟩,h2⟩,h3⟩:=hm;split at h0
  ·rename_i e sz bs z hT;simp only[bIe]at h0;refine Yld.mk (x:=Instr.sliceAt T (a.eval y) (lo'.map a.eval) (hi'.map a.eval) none) rfl ?_;simp only[val]at hv;split at hv
   ·rename_i w1 id off len hx;have hx:=qw (a:=a) h1 hs hx;split at hv
    ·rename_i w2 el rw' ho;split at hv
     ·rename_i b hb;split at hv
      ·rename_i q hq;split at hv
       ·rename_i hw;simp only[oSi]at hv;subst hv hw;refine qpZ hT h0 hs h2 h3 hx (λp hp=>?_) hb hq;obtain⟨p',hp',_,hob⟩:=hH.at' id _ ho;rw[hp]at hp';cases hp';have:=hob.2.1;omega
       ·cases hv
      ·cases hv
     ·cases hv
    ·cases hv
   ·cases hv
  ·cases h0
 case h_26 z x k ok T y j ok'=>
  simp only[bAt,bIe]at hm;obtain⟨⟨⟨rfl,h1⟩,h2⟩,h3⟩:=hm;exact qqM hs hH h1 h2 h3 hv rfl
 case h_27 x args ts=>
  simp only[bAt,bIe]at hm;obtain⟨⟨h1,h2⟩,h3⟩:=hm;split at h1
  ·rename_i y hargs;have hargs':args= #[y]:=by rw[<-aTt (xs:=args),hargs]
   subst hargs';split at h3
   ·rename_i k e sz bs z hT;exact qqN (ty:=ty) hs hH h1 h2 hT hv rfl
   ·cases h3
  ·cases h1
 case h_28=>cases hm
end
section
variable {N:zB} {m m':Mp} {h h':AH} {w w':World}
theorem CellsAt.mono(hm:m.le m'){c:Array Value}{o:Nat}{cs:List AV}(hc:CellsAt N m c o cs):CellsAt N m' c o cs:=
 λj x hx=>let ⟨h1,u,h2,h3⟩:=hc j x hx;⟨h1,u,h2,h3.mono hm⟩
theorem ObjAt.mono(hm:m.le m'){p:jA}:∀{o:qA},ObjAt N m w p o->ObjAt N m' w p o
 |.dead,_=>trivial
 |.row _ _ _,⟨h1,h2,c,e,fz,h3,h4,h5,h6⟩=>⟨h1,h2,c,e,fz,h3,h4,h5,λi a ha=>⟨(h6 i a ha).1,(h6 i a ha).2.mono hm⟩⟩
 |.map _,⟨xs,cl,h1,h2,h3,h4⟩=>⟨xs,cl,h1,h2,h3,λi k v hk=>let ⟨x,q1,q2,q3,q4⟩:=h4 i k v hk;⟨x,q1,q2,q3.mono hm,q4.mono hm⟩⟩
theorem ObjAt.block{p:jA}(hb:w'.heap[p.b]?=w.heap[p.b]?):∀{o:qA},ObjAt N m w p o->ObjAt N m w' p o
 |.dead,_=>trivial
 |.row _ _ _,⟨h1,h2,c,e,fz,h3,r⟩=>⟨h1,h2,c,e,fz,hb.trans h3,r⟩
 |.map _,⟨xs,cl,h1,r⟩=>⟨xs,cl,hb.trans h1,r⟩
theorem LocAt.mono(hm:m.le m'){b:Nat}{c:AV}(hc:LocAt N m w b c):LocAt N m' w b c:=
 let ⟨cs,e,fz,h1,h2,h3,h4⟩:=hc
 ⟨cs,e,fz,h1,h2,h3,h4.mono hm⟩
theorem LocAt.block{b:Nat}{c:AV}(hb:w'.heap[b]?=w.heap[b]?)(hc:LocAt N m w b c):LocAt N m w' b c:=
 let ⟨cs,e,fz,h1,r⟩:=hc
 ⟨cs,e,fz,hb.trans h1,r⟩
theorem LocAt.lt{b:Nat}{c:AV}(hc:LocAt N m w b c):b<w.heap.size:=by
 obtain⟨cs,e,fz,h1,_⟩:=hc;exact(aSi.1 h1).1
theorem HR.blocks(hH:HR N m h w)(hs:w.heap.size<=w'.heap.size)(hb:∀id o p,h id=some o->o.live=true->m id=some p->w'.heap[p.b]?=w.heap[p.b]?)
  (hz:∀b c,m.z b=some c->w'.heap[b]?=w.heap[b]?):HR N m h w' where
 at':=λid o ho=>by
  obtain⟨p,h1,h2,h3⟩:=hH.at' id o ho;refine⟨p,h1,λhl=>nLl (h2 hl) hs, ?_⟩;cases hl:o.live with
  | true=>exact h3.block (hb id o p ho hl h1)
  | false=>cases o<;>first | trivial | cases hl
 none':=hH.none'
 apart:=hH.apart
 zz:=λb c hc=>by rw[hz b c hc];exact hH.zz b c hc
theorem HR.lt(hH:HR N m h w){id:Nat}{o:qA}{p:jA}(ho:h id=some o)(hl:o.live=true)(hp:m id=some p):p.b<w.heap.size:=by
 obtain⟨q,h1,h2,_⟩:=hH.at' id o ho;rw[hp]at h1;cases h1;exact h2 hl
def Mp.upd(m:Mp)(id:Nat)(p:jA):Mp:=⟨λi=>if i=id then some p else m i,m.z⟩
theorem HR.zlt(hH:HR N m h w){b:Nat}{c:Array Value}(hz:m.z b=some c):b<w.heap.size:=by
 obtain⟨⟨e,fz,h1⟩,_⟩:=hH.zz b c hz;exact(aSi.1 h1).1
theorem Mp.upd_same(m:Mp)(id:Nat)(p:jA):m.upd id p id=some p:=by simp[Mp.upd]
theorem Mp.upd_ne(m:Mp){id i:Nat}(p:jA)(e:i≠id):m.upd id p i=m i:=by simp[Mp.upd,e]
theorem Mp.le_upd{id:Nat}{p:jA}(hn:m id=none):m.le (m.upd id p):=⟨λi q hq=>by
 by_cases e:i=id
 ·subst e;rw[hn]at hq;cases hq
 ·rw[Mp.upd_ne _ _ e];exact hq,λ_ _ h=>h⟩
theorem HR.znew(hH:HR N m h w){b:Nat}(hb:w.heap.size<=b):m.z b=none:=by
 cases hz:m.z b with
 | none=>rfl
 | some c=>have:=hH.zlt hz;omega
theorem HR.new(hH:HR N m h w){id:Nat}(hid:h.fr id){o:qA}{p:jA}{ob:Obj}(hp:p.b=w.heap.size)
  (ho:ObjAt N (m.upd id p) {w with heap:=w.heap.push ob} p o):HR N (m.upd id p) (h.upd id o) {w with heap:=w.heap.push ob} where
 at':=λi o' ho'=>by
  by_cases e:i=id
  ·subst e;rw[AH.upd_same]at ho';cases ho';exact⟨p,Mp.upd_same _ _ _,λ_=>by simp[hp],ho⟩
  ·rw[AH.upd_ne _ _ e]at ho';obtain⟨q,h1,h2,h3⟩:=hH.at' i o' ho';refine⟨q,by rw[Mp.upd_ne _ _ e];exact h1,λhl=>by have:=h2 hl;simp;omega, ?_⟩;have hle:=Mp.le_upd (p:=p) (hH.none' id hid);cases hl:o'.live with
   | true=>
    refine(h3.mono hle).block ?_;simp only[aGp];rw[iN (by have:=h2 hl;omega)]
   | false=>cases o'<;>first | trivial | cases hl
 none':=λi hi=>by
  by_cases e:i=id
  ·subst e;have:=hi.1;rw[AH.upd_same]at this;cases this
  ·rw[Mp.upd_ne _ _ e];exact hH.none' i ⟨by have:=hi.1;rw[AH.upd_ne _ _ e]at this;exact this,hi.2⟩
 apart:=λi j o1 o2 p1 p2 h1 h2 hw hl hij hp1 hp2=>by
  by_cases e1:i=id
  ·subst e1;rw[Mp.upd_same]at hp1;cases hp1;rw[AH.upd_ne _ _ (Ne.symm hij)]at h2;rw[Mp.upd_ne _ _ (Ne.symm hij)]at hp2;have:=hH.lt h2 hl hp2;omega
  ·rw[AH.upd_ne _ _ e1]at h1;rw[Mp.upd_ne _ _ e1]at hp1;by_cases e2:j=id
   ·subst e2;rw[Mp.upd_same]at hp2;cases hp2;have:=hH.lt h1 (qA.live_of_wr hw) hp1;omega
   ·rw[AH.upd_ne _ _ e2]at h2;rw[Mp.upd_ne _ _ e2]at hp2;exact hH.apart i j o1 o2 p1 p2 h1 h2 hw hl hij hp1 hp2
 zz:=λb c hz=>by
  have hlt:=hH.zlt hz;obtain⟨⟨e,fz,h1⟩,h2⟩:=hH.zz b c hz;refine⟨⟨e,fz, ?_⟩,λi o' q ho' hw hq=>?_⟩
  ·simp only[aGp];rw[iN (by omega)];exact h1
  ·by_cases e:i=id
   ·subst e;rw[Mp.upd_same]at hq;cases hq;omega
   ·rw[AH.upd_ne _ _ e]at ho';rw[Mp.upd_ne _ _ e]at hq;exact h2 i o' q ho' hw hq
theorem Fr.new(hH:HR N m h w){B id:Nat}(hB:B<=w.heap.size)(hid:h.fr id){o:qA}{p:jA}{ob:Obj}(hp:p.b=w.heap.size):
  Fr B m h w (m.upd id p) (h.upd id o) {w with heap:=w.heap.push ob} where
 os:=rfl
 tape:=rfl
 output:=rfl
 size:=by simp
 le:=Mp.le_upd (hH.none' id hid)
 keep:=λb hb hs=>⟨by simp only[aGp];rw[iN (by omega)],λi o' q ho' hw hq=>by
  by_cases e:i=id
  ·subst e;rw[Mp.upd_same]at hq;cases hq;omega
  ·rw[AH.upd_ne _ _ e]at ho';rw[Mp.upd_ne _ _ e]at hq;exact hs i o' q ho' hw hq⟩
 free:=λb hb hs=>⟨λi o' q ho' hw hq=>by
  by_cases e:i=id
  ·subst e;rw[Mp.upd_same]at hq;cases hq;omega
  ·rw[AH.upd_ne _ _ e]at ho';rw[Mp.upd_ne _ _ e]at hq;exact hs.1 i o' q ho' hw hq,hs.2⟩
theorem HR.kill(hH:HR N m h w){id:Nat}{o:qA}(ho:h id=some o):HR N m (h.upd id .dead) w where
 at':=λi o' ho'=>by
  by_cases e:i=id
  ·subst e;rw[AH.upd_same]at ho';cases ho';obtain⟨p,h1,_,_⟩:=hH.at' i o ho;exact⟨p,h1,by simp[qA.live],trivial⟩
  ·rw[AH.upd_ne _ _ e]at ho';exact hH.at' i o' ho'
 none':=λi hi=>by
  by_cases e:i=id
  ·subst e;have:=hi.1;rw[AH.upd_same]at this;cases this
  ·exact hH.none' i ⟨by have:=hi.1;rw[AH.upd_ne _ _ e]at this;exact this,hi.2⟩
 apart:=λi j o1 o2 p1 p2 h1 h2 hw hl hij hp1 hp2=>by
  by_cases e1:i=id
  ·subst e1;rw[AH.upd_same]at h1;cases h1;cases hw
  ·by_cases e2:j=id
   ·subst e2;rw[AH.upd_same]at h2;cases h2;cases hl
   ·rw[AH.upd_ne _ _ e1]at h1;rw[AH.upd_ne _ _ e2]at h2;exact hH.apart i j o1 o2 p1 p2 h1 h2 hw hl hij hp1 hp2
 zz:=λb c hz=>by
  obtain⟨h1,h2⟩:=hH.zz b c hz;refine⟨h1,λi o' q ho' hw hq=>?_⟩;by_cases e:i=id
  ·subst e;rw[AH.upd_same]at ho';cases ho';cases hw
  ·rw[AH.upd_ne _ _ e]at ho';exact h2 i o' q ho' hw hq
theorem Fr.kill{B id:Nat}:Fr B m h w m (h.upd id .dead) w where
 os:=rfl
 tape:=rfl
 output:=rfl
 size:=nLr _
 le:=m.le_refl
 keep:=λb hb hs=>⟨rfl,λi o' q ho' hw hq=>by
  by_cases e:i=id
  ·subst e;rw[AH.upd_same]at ho';cases ho';cases hw
  ·rw[AH.upd_ne _ _ e]at ho';exact hs i o' q ho' hw hq⟩
 free:=λb hb hs=>⟨λi o' q ho' hw hq=>by
  by_cases e:i=id
  ·subst e;rw[AH.upd_same]at ho';cases ho';cases hw
  ·rw[AH.upd_ne _ _ e]at ho';exact hs.1 i o' q ho' hw hq,hs.2⟩
end
structure FR(S:qV)(m:Mp)(L:List Nat)(n B:Nat)(st:St)(a:Act)(w:World):Prop where
 heap:HR S.N m st.h w
 slots:SlotR S.N m L st.s a
 locs:∀t c,lk st.l t=some c->t∈L/\∃b,a.tmps[t]?=some (.pointer (some ⟨b,0,none⟩))/\LocAt S.N m w b c/\Free m st.h b/\B<=b
 sep:∀t t' c c' b,lk st.l t=some c->lk st.l t'=some c'->a.tmps[t]?=some (.pointer (some ⟨b,0,none⟩))->a.tmps[t']?=some (.pointer (some ⟨b,0,none⟩))->t=t'
 defers:a.defers=[]
 size:a.tmps.size=n
 base:B<=w.heap.size
def Z7(A:AMap)(D:Operand->Prop)(l:Env)(a:Act):Prop:=
 ∀d t off,D (.tmp d)->A.look d=some (t,off)->∀c,lk l t=some c->∃b,a.tmps[t]?=some (.pointer (some ⟨b,0,none⟩))/\a.tmps.getD d undef=.pointer (some ⟨b,off,none⟩)
section
variable {S:qV} {m m':Mp} {L:List Nat} {n B:Nat} {A:AMap} {st:St} {a:Act} {w w':World}
theorem FR.addr{D:Operand->Prop}(hf:FR S m L n B st a w)(hA:Z7 A D st.l a):qDS S m L A D st.l a w:=by
 intro y t off hD hy c hc;obtain⟨hL,b,h1,h2,h3,h4⟩:=hf.locs t c hc;refine⟨b,h2, ?_⟩;cases y with
 | tmp x=>
  simp only[wZ]at hy;split at hy
  ·simp only[oSi,Prod.mk.injEq]at hy;obtain⟨rfl,rfl⟩:=hy;simp[Act.eval,h1]
  ·obtain⟨b',h5,h6⟩:=hA x t off hD hy c hc;rw[h1]at h5;simp only[oSi,Value.pointer.injEq,Addr.mk.injEq,and_true]at h5;subst h5;exact h6
 | _=>simp[wZ]at hy
theorem qCV{d t:Nat}{v:Value}:(a.put (some d) v).tmps.getD t undef=if t=d/\d<a.tmps.size then v else a.tmps.getD t undef:=by
 simp only[Act.put,Array.getD_eq_getD_getElem?,Array.getElem?_setIfInBounds];by_cases e:d=t
 ·subst e;by_cases hlt:d<a.tmps.size
  ·simp[hlt]
  ·simp[hlt]
 ·rw[iN e,iN (by omega)]
theorem ZJ{d t:Nat}{v:Value}(e:t≠d):(a.put (some d) v).tmps[t]?=a.tmps[t]?:=by
 simp only[Act.put,Array.getElem?_setIfInBounds];rw[iN (Ne.symm e)]
theorem qJV{d:Option Nat}{v:Value}:(a.put d v).tmps.size=a.tmps.size:=by cases d<;>simp[Act.put]
theorem qo9{d:Option Nat}{v:Value}:(a.put d v).defers=a.defers:=by cases d<;>rfl
theorem qB1{s:Env}{d:Option Nat}{v:AV}{t:Nat}:lk (je s d v) t=if d=some t then some v else lk s t:=by
 cases d with
 | none=>simp[je]
 | some d=>simp only[je,wQ,oSi]
theorem SlotR.put{N:zB}{s:Env}(hs:SlotR N m L s a){d:Option Nat}{av:AV}{v:Value}(hv:VR N m av v)(hd:∀x,d=some x->x<a.tmps.size):SlotR N m L (je s d av) (a.put d v):=by
 intro t x ht hL;rw[qB1]at ht;cases d with
 | none=>rw[iN (by simp)]at ht;exact hs t x ht hL
 | some d=>
  rw[qCV];by_cases e:t=d
  ·subst e;rw[iP rfl]at ht;cases ht;rw[iP ⟨rfl,hd _ rfl⟩];exact hv
  ·rw[iN (by simp;omega)]at ht;rw[iN (by omega)];exact hs t x ht hL
theorem SlotR.mono{N:zB}{s:Env}(hs:SlotR N m L s a)(hm:m.le m'):SlotR N m' L s a:=λt v ht hL=>(hs t v ht hL).mono hm
theorem FR.next(hf:FR S m L n B st a w){h':AH}{d:Option Nat}{av:AV}{v:Value}(hH:HR S.N m' h' w')(hm:m.le m')(hsz:w.heap.size<=w'.heap.size)
  (hb:∀b,B<=b->b<w.heap.size->Free m st.h b->w'.heap[b]?=w.heap[b]?/\Free m' h' b) (hv:VR S.N m' av v) (hd:∀x,d=some x->x<n/\x∉L):
  FR S m' L n B {s:=je st.s d av,l:=st.l,h:=h'} (a.put d v) w' where
 heap:=hH
 slots:=(hf.slots.mono hm).put hv (λx hx=>by rw[hf.size];exact(hd x hx).1)
 locs:=λt c hc=>by
  obtain⟨hL,b,h1,h2,h3,h4⟩:=hf.locs t c hc;obtain⟨h5,h6⟩:=hb b h4 h2.lt h3;refine⟨hL,b, ?_,(h2.mono hm).block h5,h6,h4⟩;cases d with
  | none=>exact h1
  | some d=>
   rw[ZJ]
   ·exact h1
   ·rintro rfl;exact(hd _ rfl).2 hL
 sep:=λt t' c c' b hc hc' h1 h2=>by
  have hg:∀t c,lk st.l t=some c->(a.put d v).tmps[t]?=a.tmps[t]?:=λt1 c1 hc1=>by
   have hL:=(hf.locs t1 c1 hc1).1;cases d with
   | none=>rfl
   | some d=>
    refine ZJ ?_;rintro rfl;exact(hd _ rfl).2 hL
  rw[hg t c hc]at h1;rw[hg t' c' hc']at h2;exact hf.sep t t' c c' b hc hc' h1 h2
 defers:=by rw[qo9];exact hf.defers
 size:=by rw[qJV];exact hf.size
 base:=nLt hf.base hsz
end
def World.setBlk(w:World)(b:Nat)(ob:Obj):World:={w with heap:=w.heap.setIfInBounds b ob}
theorem Zw{w:World}{b:Nat}{ob:Obj}(h:b<w.heap.size):(World.setBlk w b ob).heap[b]?=some ob:=by
 simp[World.setBlk,h]
theorem X4{w:World}{b k:Nat}{ob:Obj}(h:k≠b):(World.setBlk w b ob).heap[k]?=w.heap[k]?:=by
 simp only[World.setBlk,Array.getElem?_setIfInBounds];rw[iN (Ne.symm h)]
theorem wX{w:World}{b:Nat}{ob:Obj}:(World.setBlk w b ob).heap.size=w.heap.size:=by simp[World.setBlk]
def spl(cs:Array Value)(k:Nat):List Value->Array Value
 |[]=>cs
 | v::vs=>spl (cs.setIfInBounds k v) (k+1) vs
theorem Qn:∀{vs:List Value}{cs:Array Value}{k:Nat},(spl cs k vs).size=cs.size
 |[],_,_=>rfl
 | v::vs,cs,k=>by rw[spl,Qn];simp
theorem X7:∀{vs:List Value}{cs:Array Value}{k:Nat},k+vs.length<=cs.size->∀i:Nat,(spl cs k vs)[i]?=if k<=i/\i<k+vs.length then vs[i-k]? else cs[i]?
 |[],cs,k,_,i=>by
  simp only[spl,lNi];rw[iN (by omega)]
 | v::vs,cs,k,h,i=>by
  simp only[lCo]at h;rw[spl,X7 (by simp;omega) i];simp only[lCo];by_cases h1:k+1<=i/\i<k+1+vs.length
  ·rw[iP h1,iP (by omega)];have:i-k=(i-(k+1))+1:=by omega
   rw[this];rfl
  ·rw[iN h1,Array.getElem?_setIfInBounds];by_cases h2:k=i
   ·subst h2;rw[iP rfl,iP (by omega),iP (by omega)];simp
   ·rw[iN h2,iN (by omega)]
theorem qqE{w:World}{b o:Nat}{cs:Array Value}{e:TypeId}{fz:Nat×Nat}{v:Value}(h:w.heap[b]?=some (.cells cs e fz)):
  w.setCell ⟨b,o,none⟩ v=World.setBlk w b (.cells (cs.setIfInBounds o v) e fz):=by
 unfold World.setCell World.setBlk;congr 1;apply Array.ext_getElem?;intro i;rw[Array.getElem?_modify,Array.getElem?_setIfInBounds];have hlt:=(aSi.1 h).1;by_cases e':b=i
 ·subst e';have hg:=(aSi.1 h).2;simp[hlt,hg]
 ·rw[iN e',iN e']
theorem Vo{P:Program}{e:TypeId}{fz:Nat×Nat}{b o:Nat}:∀{vs:List Value}{w:World}{cs:Array Value}{i:Nat},w.heap[b]?=some (.cells cs e fz)->o+i+vs.length<=cs.size->W8 cs.size fz->
  (∀v∈vs,v.oneCell'=true)->(storeCells ⟨b,o,none⟩ vs i).run P w=.ok () (World.setBlk w b (.cells (spl cs (o+i) vs) e fz))
 |[],w,cs,i,h,_,_,_=>by
  have:World.setBlk w b (.cells cs e fz)=w:=by
   unfold World.setBlk;congr 1;apply Array.ext_getElem?;intro j;rw[Array.getElem?_setIfInBounds];by_cases e':b=j
   ·subst e';rw[iP rfl,iP (aSi.1 h).1,h]
   ·rw[iN e']
  simp only[storeCells,spl,this];rfl
 | v::vs,w,cs,i,h,hle,hu,h1=>by
  simp only[lCo]at hle;have hlt:=(aSi.1 h).1;have hc:w.cell? ⟨b,o+i,none⟩=some (cs[o+i]'(by omega)):=by
   simp only[World.cell?,h];rw[aGe (by omega)];rfl
  have hfz:w.frozen? ⟨b,o+i,none⟩=false:=by
   simp only[World.frozen?,h];have:=hu (o+i) (by omega);simpa using this
  have hs:=run_store P w ⟨b,o+i,none⟩ v .plain (h1 v (lMs));rw[hc]at hs;simp only[hfz]at hs;rw[qqE h]at hs;have ih:=Vo (P:=P) (b:=b) (o:=o) (e:=e) (fz:=fz) (vs:=vs) (w:=World.setBlk w b (.cells (cs.setIfInBounds (o+i) v) e fz)) (cs:=cs.setIfInBounds (o+i) v) (i:=i+1) (Zw hlt) (by simp;omega) (by simpa using hu)
   (λu hu=>h1 u (mCm _ hu))
  have e2:World.setBlk (World.setBlk w b (.cells (cs.setIfInBounds (o+i) v) e fz)) b (.cells (spl (cs.setIfInBounds (o+i) v) (o+(i+1)) vs) e fz)=
    World.setBlk w b (.cells (spl cs (o+i) (v::vs)) e fz):=by
   unfold World.setBlk;simp[spl,Nat.add_assoc]
  rw[e2]at ih;simp only[storeCells,wo,Sem.run_bind];rw[hs];simp only[bFt,if_false,Result.andThen_ok];exact ih
theorem qI5{N:zB}{m:Mp}{a:AV}{v:Value}(h:VR N m a v)(hs:a.sc=true):v.oneCell'=true:=by
 obtain⟨h1,h2⟩:=h.noAgg hs;cases v<;>first | rfl | exact absurd rfl (h1 _) | exact absurd rfl (h2 _)
theorem qI6{N:zB}{m:Mp}:∀{as:List AV}{vs:List Value},VRs N m as vs->as.all AV.sc=true->∀v∈vs,v.oneCell'=true
 |[],vs,h,_,v,hv=>by simp only[VRs]at h;subst h;cases hv
 | a::as,vs,h,hs,v,hv=>by
  simp only[VRs]at h;obtain⟨u,us,rfl,h1,h2⟩:=h;simp only[lAc,bAt]at hs;rcases mCo.1 hv with rfl | hv
  ·exact qI5 h1 hs.1
  ·exact qI6 h2 hs.2 v hv
theorem qAT{N:zB}{m:Mp}{as:List AV}{vs:List Value}{c:Array Value}{o:Nat}(h:VRs N m as vs)(hs:as.all AV.sc=true)(hc:∀j v,vs[j]?=some v->c[o+j]?=some v):CellsAt N m c o as:=by
 intro j x hx;obtain⟨u,hu,hr⟩:=h.get hx;refine⟨?_,u,hc j u hu,hr⟩;rw[lAt]at hs;exact hs x (lMo hx)
section
variable {S:qV} {m:Mp} {L:List Nat} {n B:Nat} {A:AMap} {st st':St} {a:Act} {w:World}
def Did(S:qV)(m:Mp)(L:List Nat)(n B:Nat)(h:AH)(st':St)(a:Act)(w:World)(o:Oper):Prop:=
 ∃v w' m',((execOp a.eval o).run S.P w=.ok (.value v) w'\/((execOp a.eval o).run S.P w=.ok .skip w'/\v=undef))/\FR S m' L n B st' (a.put o.dst v) w'/\Fr B m h w m' st'.h w'
theorem qq4{o:Oper}{c:AOp}{av:AV}(hf:FR S m L n B st a w)(hA:Z7 A (λy=>y∈o.op.operands.toList) st.l a)(hm:jk S L A c o.op=true)(hd:∀x,o.dst=some x->x<n/\x∉L)(hv:val c st.s st.l st.h=some av):
  Did S m L n B st.h (st.put o.dst av) a w o:=by
 obtain⟨v,h1,h2⟩:=qq5 o c hm hf.slots hf.heap (hf.addr hA) hv;refine⟨v,w,m,.inl h1, ?_,Fr.refl _ _ _ _⟩;exact hf.next hf.heap m.le_refl (nLr _) (λb _ _ hb=>⟨rfl,hb⟩) h2 hd
theorem qJU{d:Nat}{v:Value}(h:d<a.tmps.size):(a.put (some d) v).tmps[d]?=some v:=by simp[Act.put,h]
theorem FR.local'(hf:FR S m L n B st a w){t:Nat}{c:AV}{cs:Array Value}{e:TypeId}(hL:t∈L)(hn:t<n)(hc:CellsAt S.N m cs 0 c.cells)(hsz:cs.size=c.cells.length):
  FR S m L n B {st with l:=st.l.set t c} (a.put (some t) (.pointer (some ⟨w.heap.size,0,none⟩))) {w with heap:=w.heap.push (.cells cs e (0,0))} where
 heap:=hf.heap.blocks (by simp) (λid o p ho hl hp=>by
  simp only[aGp];rw[iN (by have:=hf.heap.lt ho hl hp;omega)]) (λb c hz=>by
  simp only[aGp];rw[iN (by have:=hf.heap.zlt hz;omega)])
 slots:=λx v hx hxL=>by
  rw[qCV,iN (by rintro⟨rfl,_⟩;exact hxL hL)];exact hf.slots x v hx hxL
 locs:=λt' c' hc'=>by
  simp only[wQ]at hc';by_cases e1:t=t'
  ·subst e1;rw[iP rfl]at hc';cases hc';refine⟨hL,w.heap.size, ?_,⟨cs,e,(0,0),by simp,hsz,λk _ h=>by omega,hc⟩, ?_,hf.base⟩
   ·simp[Act.put,hf.size,hn]
   ·refine⟨λid o p ho hl hp=>?_,hf.heap.znew (nLr _)⟩;have:=hf.heap.lt ho hl hp;omega
  ·rw[iN e1]at hc';obtain⟨h1,b,h2,h3,h4,h5⟩:=hf.locs t' c' hc';refine⟨h1,b,by rw[ZJ (Ne.symm e1)];exact h2,h3.block ?_,h4,h5⟩;simp only[aGp];rw[iN (by have:=h3.lt;omega)]
 sep:=λt1 t2 c1 c2 b h1 h2 h3 h4=>by
  simp only[wQ]at h1 h2;by_cases e1:t=t1<;>by_cases e2:t=t2
  ·omega
  ·subst e1;rw[iN e2]at h2;obtain⟨_,b',q1,q2,_⟩:=hf.locs t2 c2 h2;rw[ZJ (Ne.symm e2),q1]at h4;rw[qJU (by rw[hf.size];exact hn)]at h3;simp only[oSi,Value.pointer.injEq,Addr.mk.injEq,and_true]at h3 h4;have:=q2.lt;omega
  ·subst e2;rw[iN e1]at h1;obtain⟨_,b',q1,q2,_⟩:=hf.locs t1 c1 h1;rw[ZJ (Ne.symm e1),q1]at h3;rw[qJU (by rw[hf.size];exact hn)]at h4;simp only[oSi,Value.pointer.injEq,Addr.mk.injEq,and_true]at h3 h4;have:=q2.lt;omega
  ·rw[iN e1]at h1;rw[iN e2]at h2;rw[ZJ (Ne.symm e1)]at h3;rw[ZJ (Ne.symm e2)]at h4;exact hf.sep t1 t2 c1 c2 b h1 h2 h3 h4
 defers:=hf.defers
 size:=by rw[qJV];exact hf.size
 base:=by simp;exact nLt hf.base (Nat.le_succ _)
theorem Fr.push{h:AH}{ob:Obj}(hB:B<=w.heap.size):Fr B m h w m h {w with heap:=w.heap.push ob}:=
 ⟨rfl,rfl,rfl,by simp,m.le_refl,λb hb k=>⟨by simp only[aGp];rw[iN (by omega)],k⟩,λ_ _ k=>k⟩
theorem qJS{N:zB}{c v c':AV}{off:Nat}(hp:c.put off v=some c')(hvs:v.cells.all AV.sc=true):
  off+v.cells.length<=c.cells.length/\c'.cells=c.cells.take off++(v.cells++c.cells.drop (off+v.cells.length)):=by
 by_cases hag:∃ds,c=.agg ds
 ·obtain⟨ds,rfl⟩:=hag;obtain⟨h1,rfl⟩:=qJR (N:=N) hp;exact⟨h1,rfl⟩
 ·have:c.put off v=if off=0/\c.cells.length=1 then(match v.cells with |[y]=>some y | _=>none)else none:=by
   cases c<;>first | rfl | exact absurd ⟨_,rfl⟩ hag
  rw[this]at hp;split at hp
  ·rename_i h0;obtain⟨rfl,h0⟩:=h0;split at hp
   ·rename_i y hy;simp only[oSi]at hp;subst hp;have hysc:y.sc=true:=by simpa[hy]using hvs
    have hyc:y.cells=[y]:=by cases y<;>first | rfl | cases hysc
    rw[hy,hyc];refine⟨by simp;omega, ?_⟩;rw[List.drop_eq_nil_of_le (by simp;omega)];simp
   ·cases hp
  ·cases hp
theorem FR.lstore(hf:FR S m L n B st a w){t off b:Nat}{c v c':AV}{u:Value}{cs:Array Value}{e:TypeId}{fz:Nat×Nat}(hc:lk st.l t=some c)(hv:VR S.N m v u)(hk:0<v.cells.length)(hp:c.put off v=some c')
  (ht:a.tmps[t]?=some (.pointer (some ⟨b,0,none⟩))) (hb:w.heap[b]?=some (.cells cs e fz)) (hsz:cs.size=c.cells.length) (hu:W8 cs.size fz) (hcs:CellsAt S.N m cs 0 c.cells) (hfr:Free m st.h b) (hB:B<=b):
  off+u.cells.size<=cs.size/\FR S m L n B {st with l:=st.l.set t c'} a (World.setBlk w b (.cells (spl cs off u.cells.toList) e fz))/\
  Fr B m st.h w m st.h (World.setBlk w b (.cells (spl cs off u.cells.toList) e fz)):=by
 obtain⟨hvc,hvs⟩:=hv.cells hk;have hlen:=VRs.length hvc;simp only[Array.length_toList]at hlen;have hlt:=(aSi.1 hb).1;obtain⟨hle,hcc⟩:=qJS (N:=S.N) hp hvs;have hle':off+u.cells.size<=cs.size:=by omega
 have hk1:∀k,k≠b->(World.setBlk w b (.cells (spl cs off u.cells.toList) e fz)).heap[k]?=w.heap[k]?:=λk hk=>X4 hk;refine⟨hle', ?_,⟨rfl,rfl,rfl,by rw[wX];exact nLr _,m.le_refl,λk hk hs=>⟨hk1 k (by omega),hs⟩,λ_ _ hs=>hs⟩⟩;have hnew:CellsAt S.N m (spl cs off u.cells.toList) 0 c'.cells:=by
  rw[hcc];intro j x hx;rw[X7 (by simpa using hle')];simp only[Array.length_toList,nZa];rw[gAp,gAp]at hx;simp only[lLt]at hx;by_cases h1:j<off
  ·rw[iP (by omega),gTk,iP h1]at hx;rw[iN (by omega)];simpa using hcs j x hx
  ·rw[iN (by omega)]at hx;by_cases h2:j<off+u.cells.size
   ·rw[iP (by omega)]at hx;rw[iP (by omega)];obtain⟨q,hq,hr⟩:=hvc.get hx;refine⟨?_,q, ?_,hr⟩
    ·rw[lAt]at hvs;exact hvs x (lMo hx)
    ·rw[<-hq];congr 1;omega
   ·rw[iN (by omega),gDr]at hx;rw[iN (by omega)];have:=hcs _ x hx;have e1:off+v.cells.length+(j-min off c.cells.length-v.cells.length)=j:=by omega
    rw[e1]at this;simpa using this
 exact{
  heap:=hf.heap.blocks (by rw[wX];exact nLr _) (λid o p ho hl hp=>hk1 _ (hfr.1 id o p ho hl hp)) (λq c hz=>hk1 q (by rintro rfl;rw[hfr.2]at hz;cases hz))
  slots:=hf.slots
  locs:=λt' d hd=>by
   simp only[wQ]at hd;by_cases e1:t=t'
   ·subst e1;rw[iP rfl]at hd;cases hd;obtain⟨h1,_⟩:=hf.locs t c hc;exact⟨h1,b,ht,⟨_,e,fz,Zw hlt,by rw[Qn,hsz,hcc];simp;omega,by rw[Qn];exact hu,hnew⟩,hfr,hB⟩
   ·rw[iN e1]at hd;obtain⟨h1,b',h2,h3,h4,h5⟩:=hf.locs t' d hd;refine⟨h1,b',h2,h3.block (hk1 b' ?_),h4,h5⟩;rintro rfl;exact e1 (hf.sep t t' c d b' hc hd ht h2)
  sep:=λt1 t2 c1 c2 q h1 h2 h3 h4=>by
   simp only[wQ]at h1 h2;have g1:∃d,lk st.l t1=some d:=by
    by_cases e1:t=t1
    ·subst e1;exact⟨c,hc⟩
    ·rw[iN e1]at h1;exact⟨_,h1⟩
   have g2:∃d,lk st.l t2=some d:=by
    by_cases e1:t=t2
    ·subst e1;exact⟨c,hc⟩
    ·rw[iN e1]at h2;exact⟨_,h2⟩
   obtain⟨d1,g1⟩:=g1;obtain⟨d2,g2⟩:=g2;exact hf.sep t1 t2 d1 d2 q g1 g2 h3 h4
  defers:=hf.defers
  size:=hf.size
  base:=by rw[wX];exact hf.base}
end
def RowAt(N:zB)(m:Mp)(c:Array Value)(o wd:Nat)(el:List AV):Prop:=∀(i:Nat)(a:AV),el[i]?=some a->a.cells.length=wd/\CellsAt N m c (o+i*wd) a.cells
theorem Qh{i j wd:Nat}(h:i<j):i*wd+wd<=j*wd:=by
 have:=Nat.mul_le_mul_right wd h;rw[Nat.succ_mul]at this;exact this
theorem RowAt.set{N:zB}{m:Mp}{c c':Array Value}{o wd i:Nat}{el:List AV}{x:AV}(h:RowAt N m c o wd el)(hx:x.cells.length=wd)(hc:CellsAt N m c' (o+i*wd) x.cells)
  (hk:∀k,¬(o+i*wd<=k/\k<o+i*wd+wd)->c'[k]?=c[k]?):RowAt N m c' o wd (el.set i x):=by
 intro j a ha;rw[gSt]at ha;by_cases e:i=j
 ·subst e;rw[iP rfl]at ha;split at ha
  ·cases ha;exact⟨hx,hc⟩
  ·cases ha
 ·rw[iN e]at ha;obtain⟨h1,h2⟩:=h j a ha;refine⟨h1,λq y hy=>?_⟩;obtain⟨h3,u,h4,h5⟩:=h2 q y hy;refine⟨h3,u, ?_,h5⟩;rw[hk,h4];have hq:q<wd:=by rw[<-h1];exact(gSi.1 hy).1
  rcases Nat.lt_or_gt_of_ne e with hlt | hlt
  ·have:=Qh (wd:=wd) hlt;omega
  ·have:=Qh (wd:=wd) hlt;omega
def avEq(a b:AV):Bool:=match a,b with
 |.agg cs,.agg ds=>jk.sameList cs ds
 | _,_=>jk.sameSc a b
theorem qiA{a b:AV}(h:avEq a b=true):a=b:=by
 unfold avEq at h;split at h
 ·rw[qC5 h]
 ·exact qKO h
def Z5(S:qV)(t:TypeId)(z:AV)(k:Nat):Bool:=match S.T t with
 | some ⟨_,sz,_,some z'⟩=>avEq z z'&&sz==k&& !(k==0)&&z.cells.length==k
 | _=>false
section
variable {S:qV} {m:Mp} {L:List Nat} {n B:Nat} {A:AMap} {st st':St} {a:Act} {w:World}
theorem qDR{t:TypeId}{z:AV}{k:Nat}(h:Z5 S t z k=true):∃v ti,S.P.info? t=some ti/\ti.zero=some v/\ti.size=k/\(zeroValue t).run S.P w=.ok v w/\zU z v=true/\0<k/\z.cells.length=k:=by
 unfold Z5 at h;split at h
 ·rename_i kk sz bs z' hT;simp only[bAt,bIe,bNt,beq_eq_false_iff_ne]at h;obtain⟨⟨⟨h1,h2⟩,h3⟩,h4⟩:=h;have:=qiA h1;subst this;obtain⟨_,ti,hi,hsz,_,hz⟩:=S.hT t _ hT;obtain⟨v,hv,hc⟩:=hz _ rfl;refine⟨v,ti,hi,hv,by rw[hsz];exact h2, ?_,hc,by omega,h4⟩;unfold zeroValue;simp[run_typeInfo w hi,hv]
 ·cases h
theorem VR.cells'{N:zB}{x:AV}{v:Value}{k:Nat}(h:VR N m x v)(hk:0<k)(hl:x.cells.length=k):VRs N m x.cells v.cells.toList/\x.cells.all AV.sc=true/\v.cells.size=k:=by
 obtain⟨h1,h2⟩:=h.cells (by omega);have:=VRs.length h1;simp only[Array.length_toList]at this;exact⟨h1,h2,by omega⟩
theorem qAU{N:zB}{x:AV}{v:Value}{k:Nat}(h:VR N m x v)(hk:0<k)(hl:x.cells.length=k):CellsAt N m v.cells 0 x.cells:=by
 obtain⟨h1,h2,_⟩:=h.cells' hk hl;refine qAT h1 h2 (λj u hu=>?_);rw[nZa];simpa using hu
theorem qkZ{o:Oper}{z:AV}{T:TypeId}{t k:Nat}(hf:FR S m L n B st a w)(ho:o.op=.alloc T)(hd:o.dst=some t)(hL:t∈L)(hn:t<n)(hz:Z5 S T z k=true):
  Did S m L n B st.h {st with l:=st.l.set t z} a w o:=by
 obtain⟨v,ti,_,_,_,hr,hc,hk,hl⟩:=qDR (w:=w) hz;have hv:VR S.N m z v:=QU _ _ hc;refine⟨.pointer (some ⟨w.heap.size,0,none⟩),{w with heap:=w.heap.push (.cells v.cells T (0,0))},m,.inl ?_, ?_,Fr.push hf.base⟩
 ·unfold execOp;simp only[ho];simp[Instr.alloc,Sem.run_bind,hr,newVar,newRow,newObj,Sem.run]
 ·rw[hd];exact hf.local' hL hn (qAU hv hk hl) (by rw[(hv.cells' hk hl).2.2,hl])
theorem qk0{o:Oper}{x:Ao}{y:Operand}{T:TypeId}{t k:Nat}{c:AV}(hf:FR S m L n B st a w)(ho:o.op=.box T y)(hd:o.dst=some t)(hL:t∈L)(hn:t<n)(hk:0<k)(hm:mAo S.N L x y=true)
  (he:ev st.s x=some c) (hl:c.cells.length=k):Did S m L n B st.h {st with l:=st.l.set t c} a w o:=by
 have hv:=qw (a:=a) hm hf.slots he;refine⟨.pointer (some ⟨w.heap.size,0,none⟩),{w with heap:=w.heap.push (.cells (a.eval y).cells T (0,0))},m,.inl ?_, ?_,Fr.push hf.base⟩
 ·unfold execOp;simp only[ho];simp[Instr.box,newVar,newRow,newObj,Sem.run]
 ·rw[hd];exact hf.local' hL hn (qAU hv hk hl) (by rw[(hv.cells' hk hl).2.2,hl])
theorem qKF{T:TypeId}{b o k:Nat}{i:TyI}{v:AV}{u:Value}{cs:Array Value}{e:TypeId}{fz:Nat×Nat}(hT:S.T T=some i)(hk:i.sz=k)(h0:0<k)(hv:VR S.N m v u)(hl:v.cells.length=k)
  (hb:w.heap[b]?=some (.cells cs e fz)) (hle:o+k<=cs.size) (hu:W8 cs.size fz):
  (Instr.storeAt T (.pointer (some ⟨b,o,none⟩)) u).run S.P w=.ok () (World.setBlk w b (.cells (spl cs o u.cells.toList) e fz)):=by
 obtain⟨h1,h2,h3⟩:=hv.cells' h0 hl;unfold Instr.storeAt Instr.sureAddr storeVar;have hs:=Vo (P:=S.P) (o:=o) (i:=0) (vs:=u.cells.toList) hb (by simp;omega) hu (qI6 h1 h2);simp[Sem.run_bind,qV.size hT,hk,h3,hs]
theorem qk2{o:Oper}{x:Ao}{y z:Operand}{T:TypeId}{t off k:Nat}{i:TyI}{c v c':AV}(hf:FR S m L n B st a w)(hA:Z7 A (λy=>y∈o.op.operands.toList) st.l a)(ho:o.op=.store T y z)(hd:o.dst=none)(ha:wZ L A y=some (t,off))
  (hT:S.T T=some i) (hsz:i.sz=k) (hk:0<k) (hm:mAo S.N L x z=true) (hc:lk st.l t=some c) (he:ev st.s x=some v) (hl:v.cells.length=k) (hp:c.put off v=some c'):
  Did S m L n B st.h {st with l:=st.l.set t c'} a w o:=by
 have hv:=qw (a:=a) hm hf.slots he;obtain⟨hL,b,h1,⟨cs,e,fz,hb,hcs,hu,hca⟩,hfr,hB⟩:=hf.locs t c hc;have hD:y∈o.op.operands.toList:=by rw[ho];simp[Op.operands]
 have had:=hf.addr hA y t off hD ha c hc;obtain⟨hle,hf',hfr'⟩:=hf.lstore hc hv (by omega) hp h1 hb hcs hu hca hfr hB
 --the address
 have hey:a.eval y=.pointer (some ⟨b,off,none⟩):=by
  cases y with
  | tmp q=>
   simp only[wZ]at ha;split at ha
   ·simp only[oSi,Prod.mk.injEq]at ha;obtain⟨rfl,rfl⟩:=ha;simp[Act.eval,h1]
   ·obtain⟨b',h5,h6⟩:=hA q t off hD ha c hc;rw[h1]at h5;simp only[oSi,Value.pointer.injEq,Addr.mk.injEq,and_true]at h5;subst h5;exact h6
  | _=>simp[wZ]at ha
 have h3:=(hv.cells' hk hl).2.2;refine⟨undef,_,m,.inr ⟨?_,rfl⟩, ?_,hfr'⟩
 ·unfold execOp;simp only[ho];rw[hey];have:=qKF (S:=S) (w:=w) hT hsz hk hv hl hb (o:=off) (by omega) hu;simp[this]
 ·rw[hd];exact hf'
theorem XM{o:Oper}{av:AV}{v:Value}{ob:qA}{p:jA}{blk:Obj}{id:Nat}(hf:FR S m L n B st a w)(hid:st.h.fr id)(hp:p.b=w.heap.size)
  (hrun:(execOp a.eval o).run S.P w=.ok (.value v) {w with heap:=w.heap.push blk})
  (hob:ObjAt S.N (m.upd id p) {w with heap:=w.heap.push blk} p ob) (hv:VR S.N (m.upd id p) av v) (hd:∀x,o.dst=some x->x<n/\x∉L):
  Did S m L n B st.h {s:=je st.s o.dst av,l:=st.l,h:=st.h.upd id ob} a w o:=by
 refine⟨v,_,m.upd id p,.inl hrun, ?_,Fr.new hf.heap hf.base hid hp⟩;refine hf.next (hf.heap.new hid hp hob) (Mp.le_upd (hf.heap.none' id hid)) (by simp) (λb hB hlt hfr=>⟨?_, ?_⟩) hv hd
 ·simp only[aGp];rw[iN (by omega)]
 ·refine⟨λi o' q ho' hl hq=>?_,hfr.2⟩;by_cases e:i=id
  ·subst e;rw[Mp.upd_same]at hq;cases hq;omega
  ·rw[AH.upd_ne _ _ e]at ho';rw[Mp.upd_ne _ _ e]at hq;exact hfr.1 i o' q ho' hl hq
theorem Xy{N:zB}{mm:Mp}{ww:World}{b wd:Nat}{el:List AV}{c:Array Value}{e:TypeId}{rw':Bool}(hb:ww.heap[b]?=some (.cells c e (0,0)))(rc:Nat)(hrc:el.length<=rc)(hsz:rc*wd<=c.size)(h:RowAt N mm c 0 wd el):
  ObjAt N mm ww ⟨b,0,wd,rc⟩ (.row wd el rw'):=by
 refine⟨rfl,hrc,c,e,(0,0),hb,by simpa using hsz,λk _ hk=>by simp at hk,λi x hx=>?_⟩;exact h i x hx
theorem qJ7{N:zB}{mm:Mp}{z:AV}{v:Value}{k:Nat}(hv:VR N mm z v)(hk:0<k)(hl:z.cells.length=k):RowAt N mm v.cells 0 k [z]:=by
 intro i x hx;have hi:i=0:=by
  have:=(gSi.1 hx).1;simp at this;exact this
 subst hi;simp at hx;subst hx;refine⟨hl, ?_⟩;have:=qAU hv hk hl;simpa using this
theorem qkX{o:Oper}{z:AV}{T:TypeId}{k:Nat}(hf:FR S m L n B st a w)(ho:o.op=.alloc T)(hd:∀x,o.dst=some x->x<n/\x∉L)(hz:Z5 S T z k=true)
  (hs:New st o.dst (.row k [z] true) (λid=>.ptr id 0 0) st'):Did S m L n B st.h st' a w o:=by
 obtain⟨v,ti,_,_,_,hr,hc,hk,hl⟩:=qDR (w:=w) hz;obtain⟨id,hid,rfl⟩:=hs;have hv:∀mm,VR S.N mm z v:=λ_=>QU _ _ hc;refine XM (p:=⟨w.heap.size,0,k,1⟩) (blk:=.cells v.cells T (0,0)) (v:=.pointer (some ⟨w.heap.size,0,none⟩)) hf hid rfl ?_ ?_ ?_ hd
 ·unfold execOp;simp only[ho];simp[Instr.alloc,Sem.run_bind,hr,newVar,newRow,newObj,Sem.run]
 ·refine Xy (c:=v.cells) (e:=T) (by simp) 1 (by simp) ?_ (qJ7 (hv _) hk hl);rw[((hv m).cells' hk hl).2.2];omega
 ·simp only[VR];exact⟨_,Mp.upd_same _ _ _,by simp⟩
theorem qkY{o:Oper}{x:Ao}{y:Operand}{T:TypeId}{k:Nat}{c:AV}(hf:FR S m L n B st a w)(ho:o.op=.box T y)(hd:∀x,o.dst=some x->x<n/\x∉L)(hk:0<k)(hm:mAo S.N L x y=true)
  (he:ev st.s x=some c) (hl:c.cells.length=k) (hs:New st o.dst (.row k [c] true) (λid=>.ptr id 0 0) st'):Did S m L n B st.h st' a w o:=by
 obtain⟨id,hid,rfl⟩:=hs;have hv:=qw (a:=a) hm hf.slots he;have hv':=hv.mono (m':=m.upd id ⟨w.heap.size,0,k,1⟩) (Mp.le_upd (hf.heap.none' id hid));refine XM (p:=⟨w.heap.size,0,k,1⟩) (blk:=.cells (a.eval y).cells T (0,0)) (v:=.pointer (some ⟨w.heap.size,0,none⟩)) hf hid rfl ?_ ?_ ?_ hd
 ·unfold execOp;simp only[ho];simp[Instr.box,newVar,newRow,newObj,Sem.run]
 ·refine Xy (c:=(a.eval y).cells) (e:=T) (by simp) 1 (by simp) ?_ (qJ7 hv' hk hl);rw[(hv.cells' hk hl).2.2];omega
 ·simp only[VR];exact⟨_,Mp.upd_same _ _ _,by simp⟩
theorem qk5{o:Oper}{p x:Ao}{y z:Operand}{T:TypeId}{k id i j w':Nat}{ti:TyI}{v e e':AV}{el:List AV}(hf:FR S m L n B st a w)(ho:o.op=.store T y z)(hd:o.dst=none)(hmp:mAo S.N L p y=true)(hmx:mAo S.N L x z=true)
  (hT:S.T T=some ti) (hsz:ti.sz=k) (hk:0<k) (hp:ev st.s p=some (.ptr id i j)) (hx:ev st.s x=some v) (hl:v.cells.length=k) (hid:st.h id=some (.row w' el true)) (he:el[i]?=some e) (hput:e.put j v=some e'):
  Did S m L n B st.h {st with h:=st.h.upd id (.row w' (el.set i e') true)} a w o:=by
 have hv:=qw (a:=a) hmx hf.slots hx;obtain⟨pl,hpl,hey⟩:=(qw (a:=a) hmp hf.slots hp).ptr_inv;obtain⟨pl',hpl',hlt,hw,hrc,c,ty,fz,hb,hcsz,hu,hrow⟩:=hf.heap.at' id _ hid;rw[hpl]at hpl';cases hpl';subst hw;obtain⟨h1,h2,h3⟩:=hv.cells' hk hl;obtain⟨hle,hcc⟩:=qJS (N:=S.N) hput h2;obtain⟨hel,hec⟩:=hrow i e he;have hi:i<el.length:=(gSi.1 he).1;have hbound:pl.o+(i*pl.w+pl.w)<=c.size:=by
  have:=Qh (wd:=pl.w) (nLl hi hrc);omega
 have hlt:=hlt rfl;have hk1:∀q,q≠pl.b->(World.setBlk w pl.b (.cells (spl c (pl.o+(i*pl.w+j)) (a.eval z).cells.toList) ty fz)).heap[q]?=w.heap[q]?:=λq hq=>X4 hq;have hspl:∀q,(spl c (pl.o+(i*pl.w+j)) (a.eval z).cells.toList)[q]?=if pl.o+(i*pl.w+j)<=q/\q<pl.o+(i*pl.w+j)+k then(a.eval z).cells.toList[q-(pl.o+(i*pl.w+j))]? else c[q]?:=by
  intro q;rw[X7 (by simp;omega)];simp only[Array.length_toList,h3]
 have hnew:CellsAt S.N m (spl c (pl.o+(i*pl.w+j)) (a.eval z).cells.toList) (pl.o+i*pl.w) e'.cells:=by
  rw[hcc];intro q y hy;rw[hspl];rw[gAp,gAp]at hy;simp only[lLt]at hy;by_cases c1:q<j
  ·rw[iP (by omega),gTk,iP c1]at hy;rw[iN (by omega)];exact hec q y hy
  ·rw[iN (by omega)]at hy;by_cases c2:q<j+k
   ·rw[iP (by omega)]at hy;rw[iP (by omega)];obtain⟨u,hu',hr⟩:=h1.get hy;refine⟨?_,u, ?_,hr⟩
    ·rw[lAt]at h2;exact h2 y (lMo hy)
    ·rw[<-hu'];congr 1;omega
   ·rw[iN (by omega),gDr]at hy;rw[iN (by omega)];have:=hec _ y hy;have e1:j+v.cells.length+(q-min j e.cells.length-v.cells.length)=q:=by omega
    rw[e1]at this;exact this
 have hlen':e'.cells.length=pl.w:=by rw[hcc];simp;omega
 have hrow':RowAt S.N m (spl c (pl.o+(i*pl.w+j)) (a.eval z).cells.toList) pl.o pl.w (el.set i e'):=
  RowAt.set (c:=c) hrow hlen' hnew (λq hq=>by rw[hspl,iN (by omega)])
 refine⟨undef,World.setBlk w pl.b (.cells (spl c (pl.o+(i*pl.w+j)) (a.eval z).cells.toList) ty fz),m,.inr ⟨?_,rfl⟩, ?_, ?_⟩
 ·unfold execOp;simp only[ho];rw[hey];have:=qKF (S:=S) (w:=w) hT hsz hk hv hl hb (o:=pl.o+(i*pl.w+j)) (by omega) hu;simp[this]
 ·rw[hd];have hH:HR S.N m (st.h.upd id (.row pl.w (el.set i e') true)) (World.setBlk w pl.b (.cells (spl c (pl.o+(i*pl.w+j)) (a.eval z).cells.toList) ty fz)):={
   at':=λq o' ho'=>by
    by_cases e1:q=id
    ·subst e1;rw[AH.upd_same]at ho';cases ho';exact⟨pl,hpl,λ_=>by rw[wX];exact hlt,rfl,by simpa using hrc,_,ty,fz,Zw hlt,by rw[Qn];exact hcsz,by rw[Qn];exact hu,hrow'⟩
    ·rw[AH.upd_ne _ _ e1]at ho';obtain⟨pq,g1,g2,g3⟩:=hf.heap.at' q o' ho';refine⟨pq,g1,λhl=>by rw[wX];exact g2 hl, ?_⟩;cases hlv:o'.live with
     | true=>exact g3.block (hk1 _ (λhq=>hf.heap.apart id q _ o' pl pq hid ho' rfl hlv (Ne.symm e1) hpl g1 hq.symm))
     | false=>cases o'<;>first | trivial | cases hlv
   none':=λq hq=>by
    by_cases e1:q=id
    ·subst e1;have:=hq.1;rw[AH.upd_same]at this;cases this
    ·exact hf.heap.none' q ⟨by have:=hq.1;rw[AH.upd_ne _ _ e1]at this;exact this,hq.2⟩
   apart:=λq1 q2 o1 o2 p1 p2 g1 g2 gw gl gij gp1 gp2=>by
    by_cases e1:q1=id
    ·subst e1;rw[AH.upd_ne _ _ (Ne.symm gij)]at g2;exact hf.heap.apart q1 q2 _ o2 p1 p2 hid g2 rfl gl gij gp1 gp2
    ·rw[AH.upd_ne _ _ e1]at g1;by_cases e2:q2=id
     ·subst e2;exact hf.heap.apart q1 q2 o1 _ p1 p2 g1 hid gw rfl gij gp1 gp2
     ·rw[AH.upd_ne _ _ e2]at g2;exact hf.heap.apart q1 q2 o1 o2 p1 p2 g1 g2 gw gl gij gp1 gp2
   zz:=λb c hz=>by
    obtain⟨g1,g2⟩:=hf.heap.zz b c hz;rw[hk1 b (λhq=>g2 id _ pl hid rfl hpl hq.symm)];refine⟨g1,λq o' pq ho' hl' hq=>?_⟩;by_cases e1:q=id
    ·subst e1;exact g2 q _ pq hid rfl hq
    ·rw[AH.upd_ne _ _ e1]at ho';exact g2 q o' pq ho' hl' hq}
  have:=hf.next (d:=none) (av:=.any) (v:=undef) hH m.le_refl (by rw[wX];exact nLr _) (λb hB hltb hfr=>⟨hk1 b ?_, ?_⟩) (by simp only[VR]) (by simp)
  ·exact this
  ·exact λhq=>hfr.1 id _ pl hid rfl hpl hq.symm
  ·refine⟨λq o' pq ho' hl' hq=>?_,hfr.2⟩;by_cases e1:q=id
   ·subst e1;exact hfr.1 q _ pq hid rfl hq
   ·rw[AH.upd_ne _ _ e1]at ho';exact hfr.1 q o' pq ho' hl' hq
 ·refine⟨rfl,rfl,rfl,by rw[wX];exact nLr _,m.le_refl,λb hb hs=>⟨hk1 b ?_, ?_⟩,λb hb hs=>?_⟩
  ·exact λhq=>hs id _ pl hid rfl hpl hq.symm
  ·intro q o' pq ho' hl' hq;by_cases e1:q=id
   ·subst e1;exact hs q _ pq hid rfl hq
   ·rw[AH.upd_ne _ _ e1]at ho';exact hs q o' pq ho' hl' hq
  ·refine⟨λq o' pq ho' hl' hq=>?_,hs.2⟩;by_cases e1:q=id
   ·subst e1;exact hs.1 q _ pq hid rfl hq
   ·rw[AH.upd_ne _ _ e1]at ho';exact hs.1 q o' pq ho' hl' hq
end
theorem qG5(need:Nat):∀(r c:Nat),c<=need+(need+768)/4->Builtin.growBy need r c<=need+(need+768)/4
 | 0,c,h=>by simpa[Builtin.growBy]using h
 | r+1,c,h=>by
  unfold Builtin.growBy;split
  ·exact h
  ·exact qG5 need r _ (by omega)
theorem qn5(need cap:Nat)(h:cap<need):Builtin.nextslicecap need cap<=2*need+1000:=by
 unfold Builtin.nextslicecap;split
 ·omega
 ·split
  ·omega
  ·have:=qG5 need 4 cap (by omega);omega
section
variable {S:qV} {m:Mp} {L:List Nat} {n B:Nat} {A:AMap} {st st':St} {a:Act} {w:World}
theorem HR.drew{N:zB}{h:AH}{k:Nat}(hH:HR N m h w):HR N m h {w with drawn:=k}:=hH.blocks (nLr _) (λ_ _ _ _ _ _=>rfl) (λ_ _ _=>rfl)
theorem FR.drew{k:Nat}(hf:FR S m L n B st a w):FR S m L n B st a {w with drawn:=k}:=
 ⟨hf.heap.drew,hf.slots,λt c hc=>let ⟨h1,b,h2,h3,h4⟩:=hf.locs t c hc;⟨h1,b,h2,h3.block rfl,h4⟩,hf.sep,hf.defers,hf.size,hf.base⟩
theorem Fr.drew{k:Nat}{h:AH}:Fr B m h w m h {w with drawn:=k}:=⟨rfl,rfl,rfl,nLr _,m.le_refl,λ_ _ k=>⟨rfl,k⟩,λ_ _ k=>k⟩
structure Cells(N:zB)(m:Mp)(c:Array Value)(wd:Nat)(ys:List AV):Prop where
 size:c.size=ys.length*wd
 row:RowAt N m c 0 wd ys
 one:∀v∈c.toList,v.oneCell'=true
theorem VY{N:zB}{c:Array Value}{wd:Nat}{ys:List AV}(hs:c.size=ys.length*wd)(h:RowAt N m c 0 wd ys):∀v∈c.toList,v.oneCell'=true:=by
 intro v hv;obtain⟨k,hk,rfl⟩:=List.getElem_of_mem hv;simp only[Array.length_toList]at hk;have hw:0<wd:=by
  rcases Nat.eq_zero_or_pos wd with rfl | h0
  ·rw[Nat.mul_zero]at hs;omega
  ·exact h0
 have hi:k/wd<ys.length:=by rw[Nat.div_lt_iff_lt_mul hw];omega
 obtain⟨h1,h2⟩:=h (k/wd) ys[k/wd] (gEg hi);have hj:k%wd<ys[k/wd].cells.length:=by rw[h1];exact Nat.mod_lt _ hw
 obtain⟨h3,u,h4,h5⟩:=h2 (k%wd) _ (gEg hj);have e:0+k/wd*wd+k%wd=k:=by rw[nZa];exact Nat.div_add_mod' k wd
 rw[e]at h4;have:c.toList[k]=u:=by
  have:=(aSi.1 h4).2;simpa using this
 rw[this];exact qI5 h5 h3
theorem qCY{N:zB}{P:Program}{wd:Nat}{y:AV}{ys:List AV}{v:Value}{h:AH}(hH:HR N m h w)(hy:z9 h y=some ys)(hw:wOf y=none\/wOf y=some wd)(hs:(∃q,y=.str q)->wd=1)(hv:VR N m y v):
  ∃c,(Builtin.lenOf v).run P w=.ok ys.length w/\(∀w':World,w'.heap=w.heap->(Builtin.firstCells wd ys.length v).run P w'=.ok c w')/\Cells N m c wd ys:=by
 cases y<;>simp only[z9]at hy<;>try (cases hy;done)
 case nils=>
  simp only[oSi]at hy;subst hy;simp only[VR]at hv;subst hv;exact⟨#[],rfl,λ_ _=>rfl,by simp,λi a ha=>by simp at ha,by simp⟩
 case str q=>
  simp only[oSi]at hy;subst hy;simp only[VR]at hv;subst hv;have:=hs ⟨q,rfl⟩;subst this;have hsz:(⟨q.toArray⟩:ByteArray).size=q.length:=by simp[ByteArray.size]
  refine⟨(q.map λb=>Value.int .u8 b.toNat).toArray, ?_, ?_, ?_⟩
  ·simp[Builtin.lenOf,hsz]
  ·intro w' _;simp only[Builtin.firstCells,Sem.run_pure,lMp];congr 1;apply Array.ext';have:(ByteArray.extract ⟨q.toArray⟩ 0 q.length).data.toList=q:=by simp
   simp[]
  ·have hrow:RowAt N m (q.map λb=>Value.int .u8 b.toNat).toArray 0 1 (q.map λb=>AV.int .u8 b.toNat):=by
    intro i a ha;simp only[gMp,oMi]at ha;obtain⟨b,hb,rfl⟩:=ha;refine⟨rfl,λj x hx=>?_⟩;have hj:j=0:=by
     have:=(gSi.1 hx).1;simp[AV.cells]at this;exact this
    subst hj;simp[AV.cells]at hx;subst hx;exact⟨rfl,Value.int .u8 b.toNat,by simp[hb],by simp only[VR]⟩
   have hsz':(q.map λb=>Value.int .u8 b.toNat).toArray.size=(q.map λb=>AV.int .u8 b.toNat).length*1:=by simp
   exact⟨hsz',hrow,VY hsz' hrow⟩
 case slice w' id off len clip=>
  split at hy
  ·rename_i h0;cases hy;subst h0;simp only[VR]at hv;obtain⟨p,ad,cap,hp,hpw,rfl,hlc,hrc,_,had⟩:=hv;exact⟨#[],rfl,λ_ _=>by simp only[lNi,Builtin.firstCells,Nat.zero_mul,loadCells,loadCellsFrom,Sem.run_pure],by simp,λi a ha=>by simp at ha,by simp⟩
  cases ho:h id with
  | none=>simp[ho]at hy
  | some ob=>
   cases ob<;>simp only[ho]at hy<;>try (cases hy;done)
   rename_i w'' el rw';split at hy
   ·rename_i hle;simp only[oSi]at hy;subst hy;rcases hw with hw | hw
    ·cases hw
    simp only[wOf,oSi]at hw;subst hw;simp only[VR]at hv;obtain⟨p,ad,cap,hp,hpw,rfl,hlc,hrc,_,had⟩:=hv;obtain⟨p',hp',hlt,hw2,hel,c,ty,fz,hb,hcs,hu,hrow⟩:=hH.at' id _ ho;rw[hp]at hp';cases hp';subst hpw;subst hw2;have hlen:((el.drop off).take len).length=len:=by simp;omega
    rw[hlen];have hbound:p.o+off*p.w+len*p.w<=c.size:=by
     have:(off+len)*p.w<=p.rc*p.w:=Nat.mul_le_mul_right _ (by omega);rw[Nat.add_mul]at this;omega
    have hsz':(c.extract (p.o+off*p.w) (p.o+off*p.w+len*p.w)).size=len*p.w:=by simp;omega
    have hrow':RowAt N m (c.extract (p.o+off*p.w) (p.o+off*p.w+len*p.w)) 0 p.w ((el.drop off).take len):=by
     intro i x hx;rw[gTk]at hx;split at hx
     ·rename_i hi;rw[gDr]at hx;obtain⟨h1,h2⟩:=hrow _ x hx;refine⟨h1,λj y hy=>?_⟩;obtain⟨h3,u,h4,h5⟩:=h2 j y hy;refine⟨h3,u, ?_,h5⟩;have hj:j<p.w:=by rw[<-h1];exact(gSi.1 hy).1
      have:=Qh (wd:=p.w) hi;rw[Array.getElem?_extract,iP (by omega),<-h4];congr 1;rw[Nat.add_mul];omega
     ·cases hx
    refine⟨_,rfl, ?_,⟨by rw[hsz',hlen],hrow',VY (by rw[hsz',hlen]) hrow'⟩⟩;intro w1 hw1;rw[<-hw1]at hb;by_cases h0:len*p.w=0
    ·simp only[Builtin.firstCells,h0,loadCells,loadCellsFrom,Sem.run_pure];congr 1;exact(Array.size_eq_zero_iff.1 (by simp;omega)).symm
    ·have hcap:0<cap:=by
      rcases Nat.eq_zero_or_pos len with h | h
      ·subst h;simp at h0
      ·omega
     have hl:=run_loadCells_list (P:=P) (w:=w1) ⟨p.b,p.o+off*p.w,none⟩ (c.extract (p.o+off*p.w) (p.o+off*p.w+len*p.w)).toList (λj v hv=>by
      rw[wo];rw[Array.getElem?_toList,Array.getElem?_extract]at hv;split at hv
      ·exact Yd hb hv
      ·cases hv)
     rw[had hcap];simp only[Builtin.firstCells];rw[Array.length_toList,hsz',aTt]at hl;exact hl
   ·cases hy
 case lst w' xs clip=>
  simp only[oSi]at hy;subst hy;rcases hw with hw | hw
  ·cases hw
  simp only[wOf,oSi]at hw;subst hw;simp only[VR]at hv;obtain⟨ad,cap,rfl,hle,hcl,hz⟩:=hv;rcases hz with⟨rfl,_⟩ | ⟨b,o,c,rfl,hz,hr⟩
  ·refine⟨#[],rfl,λ_ _=>?_,by simp,λi a ha=>by simp at ha,by simp⟩;cases ad<;>simp[Builtin.firstCells,loadCells,loadCellsFrom]<;>rfl
  ·obtain⟨⟨ty,fz,hb⟩,_⟩:=hH.zz b c hz;have hin:∀i,i<xs.length->∀j,j<w'->o+i*w'+j<c.size:=by
    intro i hi j hj;obtain⟨u,h1,h2,h3,h4⟩:=hr.get (gEg hi);obtain⟨q1,q2⟩:=h1.cells (by omega);have hlen:=q1.length;simp only[Array.length_toList]at hlen;have:c[o+i*w'+j]?=some u.cells[j]:=by rw[h4 j hj];exact aGe (by omega)
    exact(aSi.1 this).1
   have hsz':(c.extract o (o+xs.length*w')).size=xs.length*w':=by
    simp only[Array.size_extract];rcases Nat.eq_zero_or_pos (xs.length*w')with h0 | h0
    ·omega
    ·have hx:0<xs.length:=Nat.pos_of_mul_pos_right h0;have hw0:0<w':=Nat.pos_of_mul_pos_left h0;have:=hin (xs.length-1) (by omega) (w'-1) (by omega);have e:(xs.length-1)*w'+w'=xs.length*w':=by rw[<-Nat.succ_mul];congr 1;omega
     omega
   have hrow':RowAt N m (c.extract o (o+xs.length*w')) 0 w' xs:=by
    intro i x hx;obtain⟨u,h1,h2,h3,h4⟩:=hr.get hx;refine⟨h2,λj y hy=>?_⟩;obtain⟨q3,q,q4,q5⟩:=h1.cellsAt (c:=c) (o:=o+i*w') (by omega) (λi hi=>h4 i (by omega)) j y hy;refine⟨q3,q, ?_,q5⟩;have hi:i<xs.length:=(gSi.1 hx).1;have hj:j<w':=by rw[<-h2];exact(gSi.1 hy).1
    have:=Qh (wd:=w') hi;have hcs:=(aSi.1 q4).1;rw[Array.getElem?_extract,iP (by omega),<-q4];congr 1;omega
   refine⟨_,rfl, ?_,⟨hsz',hrow',VY hsz' hrow'⟩⟩;intro w1 hw1;rw[<-hw1]at hb;have hl:=run_loadCells_list (P:=P) (w:=w1) ⟨b,o,none⟩ (c.extract o (o+xs.length*w')).toList (λj v hv=>by
    rw[wo];rw[Array.getElem?_toList,Array.getElem?_extract]at hv;split at hv
    ·exact Yd hb hv
    ·cases hv)
   simp only[Builtin.firstCells];rw[Array.length_toList,hsz',aTt]at hl;exact hl
def Wc(S:qV)(T T2:TypeId)(w:Nat):Bool:=(match S.T T with
 | some ⟨.slice e,_,_,_⟩=>(match S.T e with
  | some ⟨_,sz,bs,some z⟩=>sz==w&& !(w==0)&&z.cells.length==w&&decide (bs<=16384)
  | _=>false)
 | _=>false)&&(match S.T T2 with
 | some ⟨.slice _,_,_,_⟩=>true
 | some ⟨.str,_,_,_⟩=>w==1
 | _=>false)
theorem Zu{T T2 ty:TypeId}{wd:Nat}{y:AV}{ys:List AV}{x v:Value}{base:Option Addr}{sLen sCap:Nat}(hH:HR S.N m st.h w)(hm:Wc S T T2 wd=true)
    (hy:z9 st.h y=some ys) (hw:wOf y=none\/wOf y=some wd) (hstr:(∃q,y=.str q)->wd=1) (hv:VR S.N m y v) (hx:x=.slice base sLen sCap):
    ∃c e ti zc,(typeInfo e).run S.P w=.ok ti w/\ti.size=wd/\0<wd/\Cells S.N m c wd ys/\zc.size=wd/\
      (sLen+ys.length<=sCap->(Builtin.append_ #[T,T2] ty #[x,v]).run S.P w=(do if let some a:=base then storeCells (a.add (sLen*wd)) c.toList
                                                                                         pure (Value.slice base (sLen+ys.length) sCap):Sem Value).run S.P w)/\
      (¬sLen+ys.length<=sCap->sLen+ys.length<=LIM->∃cap k,sLen+ys.length<=cap/\∀old,(Builtin.firstCells wd sLen x).run S.P {w with drawn:=k}=.ok old {w with drawn:=k}->
        (Builtin.append_ #[T,T2] ty #[x,v]).run S.P w=.ok (.slice (some ⟨w.heap.size,0,none⟩) (sLen+ys.length) cap)
          {w with heap:=w.heap.push (.cells (old++c++Builtin.zeroCells zc (cap-(sLen+ys.length))) e (0,0)),drawn:=k}):=by
  unfold Wc at hm;simp only[bAt]at hm;obtain⟨hm1,hm2⟩:=hm;split at hm1
  · rename_i e sz bs z hT;split at hm1
    · rename_i kk sz' bs' z' hTe;simp only[bAt,bIe,bNt,beq_eq_false_iff_ne,dTe]at hm1;obtain⟨⟨⟨rfl,hw0⟩,hzl⟩,hbs⟩:=hm1;obtain⟨d,hd,hk⟩:=qV.kind (S:=S) (w:=w) hT rfl;cases d<;>simp only[zn,bFt,bIe]at hk;subst hk;obtain⟨_,ti,hi,hsz,hbt,hz⟩:=S.hT e _ hTe;obtain⟨zv,hzv,hzc⟩:=hz _ rfl;have hzvr:VR S.N m z' zv:=QU _ _ hzc;have hzs:=(hzvr.cells' (by omega) hzl).2.2;obtain⟨c,hc1,hc2,hc3⟩:=qCY (P:=S.P) hH hy hw hstr hv;have hzeros:∃d2,(underlying T2).run S.P w=.ok d2 w/\((∃e2,d2=.slice e2)\/d2=.string):=by
        split at hm2
        · rename_i hT2;obtain⟨d2,hd2,hk2⟩:=qV.kind (S:=S) (w:=w) hT2 rfl;cases d2<;>simp only[zn,bFt]at hk2;exact⟨_,hd2,.inl ⟨_,rfl⟩⟩
        · rename_i hT2;obtain⟨d2,hd2,hk2⟩:=qV.kind (S:=S) (w:=w) hT2 rfl;cases d2<;>simp only[zn,bFt]at hk2;exact⟨_,hd2,.inr rfl⟩
        · cases hm2
      obtain⟨d2,hd2,hzeros⟩:=hzeros;have hsize:∀w':World,(sizeOf e).run S.P w'=.ok sz' w':=λw'=>qV.size hTe;have hinfo:∀w':World,(typeInfo e).run S.P w'=.ok ti w':=λw'=>run_typeInfo w' hi;have hzero:∀w':World,(zeroValue e).run S.P w'=.ok zv w':=λw'=>by unfold zeroValue;simp[hinfo,hzv]
      refine⟨c,e,ti,zv.cells,hinfo w,hsz,by omega,hc3,hzs,λhle=>?_,λhgt hlim=>?_⟩
      · subst hx;unfold Builtin.append_;rcases hzeros with⟨e2,rfl⟩ | rfl
        all_goals
          simp only[List.getElem?_toArray,List.getElem?_cons_zero,List.getElem?_cons_succ,Sem.run_bind,Sem.run_pure,hd,hd2,Result.andThen_ok,hsize,hc1,bFt,if_false,iP hle,Bool.not_false,if_true,hc2 w rfl];cases base<;>rfl
      · refine⟨(Question.appendCap (sLen+ys.length) sCap e).cut (w.tape w.drawn (.appendCap (sLen+ys.length) sCap e)),w.drawn+1, ?_,λold hold=>?_⟩
        · simp only[Question.cut];omega
        · subst hx;have hlim':¬(((sLen+ys.length:Nat):Int)>IntKind.i64.max/\(False\/ti.bytes=0)):=by
            have hL:LIM=4294967296:=rfl;simp[IntKind.max,IntKind.signed,IntKind.bits];omega
          have hcap:¬Builtin.nextslicecap (sLen+ys.length) sCap*ti.bytes>2^48:=by
            have hL:LIM=4294967296:=rfl;have h1:=qn5 (sLen+ys.length) sCap (by omega);have h2:Builtin.nextslicecap (sLen+ys.length) sCap*ti.bytes<=(2*(sLen+ys.length)+1000)*16384:=Nat.mul_le_mul h1 (by rw[hbt];exact hbs);omega
          have hw':{w with drawn:=w.drawn+1}={w with drawn:=w.drawn+1}:=rfl;have hc2':(Builtin.firstCells sz' ys.length v).run S.P {w with drawn:=w.drawn+1}=.ok c {w with drawn:=w.drawn+1}:=hc2 _ rfl;unfold Builtin.append_;rcases hzeros with⟨e2,rfl⟩ | rfl
          all_goals
            simp only[List.getElem?_toArray,List.getElem?_cons_zero,List.getElem?_cons_succ,Sem.run_bind,Sem.run_pure,hd,hd2,Result.andThen_ok,hsize,hc1,bFt,if_false,iN hgt,Bool.not_false,if_true,
              hinfo,iN hlim',iN hcap,run_choose,Question.forced,run_askRoom,hold,hc2',hzero]
            rfl
    · cases hm1
  · cases hm1
end
section
variable {S:qV} {m:Mp} {L:List Nat} {n B:Nat} {A:AMap} {st st':St} {a:Act} {w:World}
theorem qpT{N:zB}{c c1 c2 r:Array Value}{wd:Nat}{xs ys:List AV}(h1:RowAt N m c1 0 wd xs)(s1:c1.size=xs.length*wd)(h2:RowAt N m c2 0 wd ys)(s2:c2.size=ys.length*wd)(e:c=c1++c2++r):RowAt N m c 0 wd (xs++ys):=by
 subst e;intro i x hx;rw[gAp]at hx;split at hx
 ·rename_i hi;obtain⟨q1,q2⟩:=h1 i x hx;refine⟨q1,λj y hy=>?_⟩;obtain⟨q3,u,q4,q5⟩:=q2 j y hy;refine⟨q3,u, ?_,q5⟩;have hlt:=(aSi.1 q4).1;rw[Array.getElem?_append_left (by simp;omega),Array.getElem?_append_left hlt];exact q4
 ·rename_i hi;obtain⟨q1,q2⟩:=h2 _ x hx;refine⟨q1,λj y hy=>?_⟩;obtain⟨q3,u,q4,q5⟩:=q2 j y hy;refine⟨q3,u, ?_,q5⟩;have hlt:=(aSi.1 q4).1;have e1:0+i*wd+j=c1.size+(0+(i-xs.length)*wd+j):=by
   rw[s1];have:i*wd=xs.length*wd+(i-xs.length)*wd:=by rw[<-Nat.add_mul];congr 1;omega
   omega
  rw[e1,Array.getElem?_append_left (by simp;omega),Array.getElem?_append_right (by omega)];rw[<-q4];congr 1;omega
theorem X5(z:Array Value)(k:Nat):(Builtin.zeroCells z k).size=k*z.size:=by simp[Builtin.zeroCells]
theorem XL{o:Oper}{x:AV}{v:Value}(hf:FR S m L n B st a w)(hrun:(execOp a.eval o).run S.P w=.ok (.value v) w)(hv:VR S.N m x v)(hd:∀x,o.dst=some x->x<n/\x∉L):
  Did S m L n B st.h (st.put o.dst x) a w o:=
 ⟨v,w,m,.inl hrun,hf.next hf.heap m.le_refl (nLr _) (λ_ _ _ hb=>⟨rfl,hb⟩) hv hd,Fr.refl _ _ _ _⟩
theorem Yl{o:Oper}{v:Value}{wd cap k id:Nat}{xs ys:List AV}{c1 c2 r:Array Value}{e:TypeId}(hf:FR S m L n B st a w)(hid:st.h.fr id)
  (hrun:(execOp a.eval o).run S.P w=.ok (.value (.slice (some ⟨w.heap.size,0,none⟩) (xs.length+ys.length) cap)) {w with heap:=w.heap.push (.cells (c1++c2++r) e (0,0)),drawn:=k})
  (h1:RowAt S.N m c1 0 wd xs) (s1:c1.size=xs.length*wd) (h2:RowAt S.N m c2 0 wd ys) (s2:c2.size=ys.length*wd) (s3:r.size=(cap-(xs.length+ys.length))*wd) (hcap:xs.length+ys.length<=cap)
  (hd:∀x,o.dst=some x->x<n/\x∉L):
  Did S m L n B st.h {s:=je st.s o.dst (.slice wd id 0 (xs.length+ys.length) false),l:=st.l,h:=st.h.upd id (.row wd (xs++ys) true)} a w o:=by
 have _:=v;have hf':FR S m L n B st a {w with drawn:=k}:=hf.drew;have hle:=Mp.le_upd (p:=(⟨w.heap.size,0,wd,cap⟩:jA)) (hf.heap.none' id hid);have hrow:=qpT (r:=r) h1 s1 h2 s2 rfl;have hob:ObjAt S.N (m.upd id ⟨w.heap.size,0,wd,cap⟩) {w with heap:=w.heap.push (.cells (c1++c2++r) e (0,0)),drawn:=k} ⟨w.heap.size,0,wd,cap⟩ (.row wd (xs++ys) true):=by
  refine Xy (c:=c1++c2++r) (e:=e) (by simp) cap (by simpa using hcap) ?_ (λi x hx=>⟨(hrow i x hx).1,(hrow i x hx).2.mono hle⟩);simp only[Array.size_append,s1,s2,s3];rw[<-Nat.add_mul,<-Nat.add_mul];exact Nat.mul_le_mul_right _ (by omega)
 refine⟨_,_,m.upd id ⟨w.heap.size,0,wd,cap⟩,.inl hrun, ?_,(Fr.drew (k:=k)).trans (Fr.new hf'.heap hf'.base hid rfl)⟩;refine hf'.next (hf'.heap.new hid rfl hob) hle (by simp) (λb hB hlt hfr=>⟨?_, ?_⟩) ?_ hd
 ·have hlt':b<w.heap.size:=hlt;simp only[aGp];rw[iN (by omega)]
 ·have hlt':b<w.heap.size:=hlt;refine⟨λi o' q ho' hl hq=>?_,hfr.2⟩;by_cases e:i=id
  ·subst e;rw[Mp.upd_same]at hq;cases hq;show w.heap.size≠b;omega
  ·rw[AH.upd_ne _ _ e]at ho';rw[Mp.upd_ne _ _ e]at hq;exact hfr.1 i o' q ho' hl hq
 ·simp only[VR];exact⟨_,_,cap,Mp.upd_same _ _ _,rfl,rfl,hcap,by simp,by simp,λ_=>by simp⟩
theorem ZM{o:Oper}{x y:Operand}{ts:Array TypeId}{T T2:TypeId}(ho:o.op=.call ⟨.builtin .append, #[x,y],ts⟩)(hts:ts= #[T,T2]){v:Value}{w':World}
  (h:(Builtin.append_ #[T,T2] o.type #[a.eval x,a.eval y]).run S.P w=.ok v w'):(execOp a.eval o).run S.P w=.ok (.value v) w':=by
 subst hts;unfold execOp;simp only[ho];simp only[resolve,Sem.run_bind,Sem.run_pure,Result.andThen_ok,invoke,builtin];have:(#[x,y].map a.eval)= #[a.eval x,a.eval y]:=by simp
 rw[this];simp[h]
theorem HR.regrow{N:zB}{h:AH}{w':World}{id id':Nat}{wd:Nat}{el:List AV}{p q:jA}{o:qA}(hH:HR N m h w)(hid:h id=some (.row wd el true))(hp:m id=some p)(hn:(h.upd id .dead).fr id')(hq:q.b=p.b)
  (hs:w'.heap.size=w.heap.size) (hk:∀k,k≠p.b->w'.heap[k]?=w.heap[k]?) (ho:ObjAt N (m.upd id' q) w' q o):HR N (m.upd id' q) ((h.upd id .dead).upd id' o) w':=by
 have hne:id'≠id:=by rintro rfl;have:=hn.1;rw[AH.upd_same]at this;cases this
 have hn':h.fr id':=⟨by have:=hn.1;rwa[AH.upd_ne _ _ hne]at this,hn.2⟩;have hle:=Mp.le_upd (p:=q) (hH.none' id' hn');have hlt:=hH.lt hid rfl hp;have hap:∀j o' pj,j≠id->h j=some o'->o'.live=true->m j=some pj->pj.b≠p.b:=λj o' pj hj ho' hl hpj hb=>hH.apart id j _ o' p pj hid ho' rfl hl (Ne.symm hj) hp hpj hb.symm;exact{
  at':=λi o' ho'=>by
   by_cases e:i=id'
   ·subst e;rw[AH.upd_same]at ho';cases ho';exact⟨q,Mp.upd_same _ _ _,λ_=>by omega,ho⟩
   ·rw[AH.upd_ne _ _ e]at ho';by_cases e2:i=id
    ·subst e2;rw[AH.upd_same]at ho';cases ho';exact⟨p,by rw[Mp.upd_ne _ _ e];exact hp,by simp[qA.live],trivial⟩
    ·rw[AH.upd_ne _ _ e2]at ho';obtain⟨pi,h1,h2,h3⟩:=hH.at' i o' ho';refine⟨pi,by rw[Mp.upd_ne _ _ e];exact h1,λhl=>by rw[hs];exact h2 hl, ?_⟩;cases hl:o'.live with
     | true=>exact(h3.mono hle).block (hk _ (hap i o' pi e2 ho' hl h1))
     | false=>cases o'<;>first | trivial | cases hl
  none':=λi hi=>by
   by_cases e:i=id'
   ·subst e;have:=hi.1;rw[AH.upd_same]at this;cases this
   ·have h1:=hi.1;rw[AH.upd_ne _ _ e]at h1;by_cases e2:i=id
    ·subst e2;rw[AH.upd_same]at h1;cases h1
    ·rw[AH.upd_ne _ _ e2]at h1;rw[Mp.upd_ne _ _ e];exact hH.none' i ⟨h1,hi.2⟩
  apart:=λi j o1 o2 p1 p2 h1 h2 hw hl hij hp1 hp2=>by
   by_cases e1:i=id'
   ·subst e1;rw[Mp.upd_same]at hp1;cases hp1;rw[AH.upd_ne _ _ (Ne.symm hij)]at h2;rw[Mp.upd_ne _ _ (Ne.symm hij)]at hp2;by_cases e2:j=id
    ·subst e2;rw[AH.upd_same]at h2;cases h2;cases hl
    ·rw[AH.upd_ne _ _ e2]at h2;have:=hap j o2 p2 e2 h2 hl hp2;omega
   ·rw[AH.upd_ne _ _ e1]at h1;rw[Mp.upd_ne _ _ e1]at hp1;by_cases e3:i=id
    ·subst e3;rw[AH.upd_same]at h1;cases h1;cases hw
    ·rw[AH.upd_ne _ _ e3]at h1;by_cases e2:j=id'
     ·subst e2;rw[Mp.upd_same]at hp2;cases hp2;have:=hap i o1 p1 e3 h1 (qA.live_of_wr hw) hp1;omega
     ·rw[AH.upd_ne _ _ e2]at h2;rw[Mp.upd_ne _ _ e2]at hp2;by_cases e4:j=id
      ·subst e4;rw[AH.upd_same]at h2;cases h2;cases hl
      ·rw[AH.upd_ne _ _ e4]at h2;exact hH.apart i j o1 o2 p1 p2 h1 h2 hw hl hij hp1 hp2
  zz:=λb c hz=>by
   obtain⟨g1,g2⟩:=hH.zz b c hz;have hbp:b≠p.b:=λhb=>g2 id _ p hid rfl hp hb.symm;rw[hk b hbp];refine⟨g1,λi o' q' ho' hw hq'=>?_⟩;by_cases e:i=id'
   ·subst e;rw[Mp.upd_same]at hq';cases hq';rw[hq];exact Ne.symm hbp
   ·rw[AH.upd_ne _ _ e]at ho';rw[Mp.upd_ne _ _ e]at hq';by_cases e2:i=id
    ·subst e2;rw[AH.upd_same]at ho';cases ho';cases hw
    ·rw[AH.upd_ne _ _ e2]at ho';exact g2 i o' q' ho' hw hq'}
theorem FR.kill(hf:FR S m L n B st a w){id:Nat}{o:qA}(ho:st.h id=some o):FR S m L n B {st with h:=st.h.upd id .dead} a w:=
 ⟨hf.heap.kill ho,hf.slots,λt c hc=>let ⟨h1,b,h2,h3,h4,h5⟩:=hf.locs t c hc;⟨h1,b,h2,h3,⟨λi o' q ho' hl hq=>by
  by_cases e:i=id
  ·subst e;have ho'':st.h.upd i .dead i=some o':=ho';rw[AH.upd_same]at ho'';cases ho'';cases hl
  ·have ho'':st.h.upd id .dead i=some o':=ho';rw[AH.upd_ne _ _ e]at ho'';exact h4.1 i o' q ho'' hl hq,h4.2⟩,h5⟩,hf.sep,hf.defers,hf.size,hf.base⟩
theorem qF9{o:Oper}{wd cap0 id id' off len:Nat}{el ys T:List AV}{p:jA}{c:Array Value}{ad:Addr}(hf:FR S m L n B st a w)(hel:st.h id=some (.row wd el true))(hp:m id=some p)(hpw:p.w=wd)
  (hrc:off+cap0<=p.rc) (hle:len+ys.length<=cap0) (hxl:((el.drop off).take len).length=len) (hid':(st.h.upd id .dead).fr id') (hc:Cells S.N m c wd ys) (had:0<cap0->ad=⟨p.b,p.o+off*wd,none⟩)
  (hT:∀(i:Nat)(x:AV),T[i]?=some x->el[off+len+ys.length+i]?=some x) (hTl:len+ys.length+T.length<=cap0)
  (hrun:∀w',(storeCells (ad.add (len*wd)) c.toList).run S.P w=.ok () w'->(execOp a.eval o).run S.P w=.ok (.value (.slice (some ad) (len+ys.length) cap0)) w')
  (hd:∀x,o.dst=some x->x<n/\x∉L):
  Did S m L n B st.h {s:=je st.s o.dst (.slice wd id' 0 (len+ys.length) false),l:=st.l,h:=(st.h.upd id .dead).upd id' (.row wd ((el.drop off).take len++(ys++T)) true)} a w o:=by
 obtain⟨p',hp',hlt,hw2,helc,cs,ty,fz,hb,hcs,hu,hrow⟩:=hf.heap.at' id _ hel;rw[hp]at hp';cases hp';subst hpw;have hlt:=hlt rfl;have hbound:p.o+off*p.w+cap0*p.w<=cs.size:=by
  have:(off+cap0)*p.w<=p.rc*p.w:=Nat.mul_le_mul_right _ hrc;rw[Nat.add_mul]at this;omega
 have hb2:len*p.w+ys.length*p.w<=cap0*p.w:=by rw[<-Nat.add_mul];exact Nat.mul_le_mul_right _ hle
 have hst:=Vo (P:=S.P) (o:=p.o+off*p.w+len*p.w) (i:=0) (vs:=c.toList) hb (by simp[hc.size];omega) hu hc.one;simp only[nAz]at hst;have hspl:∀k,(spl cs (p.o+off*p.w+len*p.w) c.toList)[k]?=if p.o+off*p.w+len*p.w<=k/\k<p.o+off*p.w+len*p.w+ys.length*p.w then c.toList[k-(p.o+off*p.w+len*p.w)]? else cs[k]?:=by
  intro k;rw[X7 (by simp[hc.size];omega)];simp only[Array.length_toList,hc.size]
 have hne:id'≠id:=by rintro rfl;have:=hid'.1;rw[AH.upd_same]at this;cases this
 have hn':st.h.fr id':=⟨by have:=hid'.1;rwa[AH.upd_ne _ _ hne]at this,hid'.2⟩;have hmle:=Mp.le_upd (p:=(⟨p.b,p.o+off*p.w,p.w,cap0⟩:jA)) (hf.heap.none' id' hn');have hk1:∀k,k≠p.b->(World.setBlk w p.b (.cells (spl cs (p.o+off*p.w+len*p.w) c.toList) ty fz)).heap[k]?=w.heap[k]?:=λk hk=>X4 hk;have hob:ObjAt S.N (m.upd id' ⟨p.b,p.o+off*p.w,p.w,cap0⟩) (World.setBlk w p.b (.cells (spl cs (p.o+off*p.w+len*p.w) c.toList) ty fz)) ⟨p.b,p.o+off*p.w,p.w,cap0⟩ (.row p.w ((el.drop off).take len++(ys++T)) true):=by
  refine⟨rfl,by rw[lAp,hxl,lAp];show len+(ys.length+T.length)<=cap0;omega,_,ty,fz,Zw hlt,by rw[Qn];exact hbound,by rw[Qn];exact hu,λi x hx=>?_⟩;rw[gAp]at hx;split at hx
  ·rename_i hi;rw[hxl]at hi;rw[gTk,iP hi,gDr]at hx;obtain⟨q1,q2⟩:=hrow _ x hx;refine⟨q1,λj y hy=>?_⟩;obtain⟨q3,u,q4,q5⟩:=q2 j y hy;refine⟨q3,u, ?_,q5.mono hmle⟩;have hj:j<p.w:=by rw[<-q1];exact(gSi.1 hy).1
   have:=Qh (wd:=p.w) hi;show (spl cs (p.o+off*p.w+len*p.w) c.toList)[p.o+off*p.w+i*p.w+j]?=some u;rw[hspl,iN (by omega),<-q4];congr 1;rw[Nat.add_mul];omega
  ·rename_i hi;rw[hxl]at hi hx;rw[gAp]at hx;split at hx
   ·obtain⟨q1,q2⟩:=hc.row _ x hx;refine⟨q1,λj y hy=>?_⟩;obtain⟨q3,u,q4,q5⟩:=q2 j y hy;refine⟨q3,u, ?_,q5.mono hmle⟩;have hlt2:=(aSi.1 q4).1;have e1:i*p.w=len*p.w+(i-len)*p.w:=by rw[<-Nat.add_mul];congr 1;omega
    rw[hc.size]at hlt2;show (spl cs (p.o+off*p.w+len*p.w) c.toList)[p.o+off*p.w+i*p.w+j]?=some u;rw[hspl,iP (by omega),Array.getElem?_toList,<-q4];congr 1;omega
   ·rename_i hi2;have hx:=hT _ x hx;have e0:off+len+ys.length+(i-len-ys.length)=off+i:=by omega
    rw[e0]at hx;obtain⟨q1,q2⟩:=hrow _ x hx;refine⟨q1,λj y hy=>?_⟩;obtain⟨q3,u,q4,q5⟩:=q2 j y hy;refine⟨q3,u, ?_,q5.mono hmle⟩;have e1:i*p.w=len*p.w+ys.length*p.w+(i-len-ys.length)*p.w:=by rw[<-Nat.add_mul,<-Nat.add_mul];congr 1;omega
    show (spl cs (p.o+off*p.w+len*p.w) c.toList)[p.o+off*p.w+i*p.w+j]?=some u;rw[hspl,iN (by omega),<-q4];congr 1;rw[Nat.add_mul];omega
 have hnew:∀b,b≠p.b->(∀i o' q,st.h i=some o'->i≠id->o'.live=true->m i=some q->q.b≠b)->
   ∀i o' q,((st.h.upd id .dead).upd id' (.row p.w ((el.drop off).take len++(ys++T)) true)) i=some o'->o'.live=true->(m.upd id' ⟨p.b,p.o+off*p.w,p.w,cap0⟩) i=some q->q.b≠b:=by
  intro b hbp hb' i o' q ho' hl hq;by_cases e1:i=id'
  ·subst e1;rw[Mp.upd_same]at hq;cases hq;exact Ne.symm hbp
  ·rw[AH.upd_ne _ _ e1]at ho';rw[Mp.upd_ne _ _ e1]at hq;by_cases e2:i=id
   ·subst e2;rw[AH.upd_same]at ho';cases ho';cases hl
   ·rw[AH.upd_ne _ _ e2]at ho';exact hb' i o' q ho' e2 hl hq
 have hsto:∃w',(storeCells (ad.add (len*p.w)) c.toList).run S.P w=.ok () w'/\w'.heap.size=w.heap.size/\w'.os=w.os/\w'.tape=w.tape/\w'.output=w.output/\(∀k,k≠p.b->w'.heap[k]?=w.heap[k]?)/\
   ObjAt S.N (m.upd id' ⟨p.b,p.o+off*p.w,p.w,cap0⟩) w' ⟨p.b,p.o+off*p.w,p.w,cap0⟩ (.row p.w ((el.drop off).take len++(ys++T)) true):=by
  rcases Nat.eq_zero_or_pos cap0 with h0 | h0
  ·have hy0:ys.length=0:=by omega
   have hc0:c.toList=[]:=by
    have:=hc.size;rw[hy0,Nat.zero_mul]at this;rw[Array.size_eq_zero_iff.1 this]
   refine⟨w,by rw[hc0];rfl,rfl,rfl,rfl,rfl,λ_ _=>rfl, ?_⟩;have e0:(el.drop off).take len++(ys++T)=[]:=by
    apply lEz;rw[lAp,hxl,lAp];omega
   rw[e0];refine⟨rfl,by simp,cs,ty,fz,hb,hbound,hu,λi x hx=>by simp at hx⟩
  ·have had:=had h0;subst had;exact⟨_,by rw[wo];exact hst,wX,rfl,rfl,rfl,hk1,hob⟩
 obtain⟨w',hs1,hs2,hs3,hs4,hs5,hs6,hs7⟩:=hsto;refine⟨.slice (some ad) (len+ys.length) cap0,w',m.upd id' ⟨p.b,p.o+off*p.w,p.w,cap0⟩,.inl (hrun _ hs1), ?_, ?_⟩
 ·refine hf.next (hf.heap.regrow (q:=⟨p.b,p.o+off*p.w,p.w,cap0⟩) hel hp hid' rfl hs2 hs6 hs7) hmle (by rw[hs2];exact nLr _) (λb hB hltb hfr=>?_) ?_ hd
  ·have hbp:b≠p.b:=λhq=>hfr.1 id _ p hel rfl hp hq.symm;exact⟨hs6 b hbp,hnew b hbp (λi o' q ho' _ hl hq=>hfr.1 i o' q ho' hl hq),hfr.2⟩
  ·simp only[VR];exact⟨_,_,cap0,Mp.upd_same _ _ _,rfl,rfl,hle,by simp,by simp,λhq=>by rw[had hq];simp⟩
 ·refine⟨hs3,hs4,hs5,by rw[hs2];exact nLr _,hmle,λb hb hs=>?_,λb hb hs=>?_⟩
  ·have hbp:b≠p.b:=λhq=>hs id _ p hel rfl hp hq.symm;refine⟨hs6 b hbp,λi o' q ho' hl hq=>?_⟩;by_cases e1:i=id'
   ·subst e1;rw[Mp.upd_same]at hq;cases hq;exact Ne.symm hbp
   ·have ho'':((st.h.upd id .dead).upd id' (.row p.w ((el.drop off).take len++(ys++T)) true)) i=some o':=ho';rw[AH.upd_ne _ _ e1]at ho'';rw[Mp.upd_ne _ _ e1]at hq;by_cases e2:i=id
    ·subst e2;rw[AH.upd_same]at ho'';cases ho'';cases hl
    ·rw[AH.upd_ne _ _ e2]at ho'';exact hs i o' q ho'' hl hq
  ·have hbp:b≠p.b:=λhq=>hs.1 id _ p hel rfl hp hq.symm;exact⟨hnew b hbp (λi o' q ho' _ hl hq=>hs.1 i o' q ho' hl hq),hs.2⟩
theorem qkT{o:Oper}{x y:Ao}{x' y':Operand}{ts:Array TypeId}{T T2:TypeId}{wd:Nat}{av bv:AV}(hf:FR S m L n B st a w)(ho:o.op=.call ⟨.builtin .append, #[x',y'],ts⟩)(hts:ts= #[T,T2])
  (hd:∀x,o.dst=some x->x<n/\x∉L) (hm:Wc S T T2 wd=true) (hx:mAo S.N L x x'=true) (hy:mAo S.N L y y'=true) (ex:ev st.s x=some av) (ey:ev st.s y=some bv)
  (hs:App wd av bv st o.dst st'):Did S m L n B st.h st' a w o:=by
 obtain⟨ys,hys,hsw,hs⟩:=hs;have hw:wOf bv=none\/wOf bv=some wd:=by
  cases bv<;>first
   | exact .inl rfl
   | (exact .inr (congrArg some hsw))
 have hstr:(∃q,bv=.str q)->wd=1:=by rintro⟨q,rfl⟩;exact hsw
 have hvx:=qw (a:=a) hx hf.slots ex;have hvy:=qw (a:=a) hy hf.slots ey;cases av<;>try (exact hs.elim)
 case nils=>
  simp only at hs;have hx0:a.eval x'=.slice none 0 0:=by simpa only [VR]using hvx
  split at hs
  ·rename_i h0;subst hs;obtain⟨c,e,ti,zc,_,_,_,hc,_,hin,_⟩:=Zu (st:=st) (w:=w) (ty:=o.type) hf.heap hm hys hw hstr hvy hx0;refine XL (v:=.slice none 0 0) hf (ZM ho hts ?_) (by simp only[VR]) hd;rw[hin (by omega),h0];rfl
  ·rename_i h0;obtain⟨hlim,id,hid,rfl⟩:=hs;obtain⟨c,e,ti,zc,_,_,hw0,hc,hzc,_,hout⟩:=Zu (st:=st) (w:=w) (ty:=o.type) hf.heap hm hys hw hstr hvy hx0;obtain⟨cap,k,hcap,hr⟩:=hout (by omega) (by omega);have hr:=hr #[] (by rw[hx0];rfl);have:=Yl (o:=o) (v:=.nilFunc) (wd:=wd) (xs:=[]) (ys:=ys) (c1:= #[]) (c2:=c) (r:=Builtin.zeroCells zc (cap-(0+ys.length))) (e:=e) (cap:=cap) (k:=k) hf hid
    (ZM ho hts (by simpa using hr)) (λi q hq=>by simp at hq) (by simp) hc.row hc.size (by rw[X5,hzc];simp) (by simpa using hcap) hd
   simpa using this
 case slice w1 id off len clip=>
  obtain⟨rfl,hs⟩:=hs;have hvx':=hvx;simp only[VR]at hvx;obtain⟨p,ad,cap0,hp,hpw,hx0,hlc,hrc,hcl,had⟩:=hvx;split at hs
  ·rename_i h0;subst hs;obtain⟨c,e,ti,zc,_,_,_,hc,_,hin,_⟩:=Zu (st:=st) (w:=w) (ty:=o.type) hf.heap hm hys hw hstr hvy hx0;have hc0:c.toList=[]:=by
    have:=hc.size;rw[h0,Nat.zero_mul]at this;rw[Array.size_eq_zero_iff.1 this]
   refine XL (v:=a.eval x') hf (ZM ho hts ?_) hvx' hd;rw[hin (by omega),h0,hx0];simp[hc0,storeCells]
  ·rename_i h0;obtain⟨hlim,xs,hxs,hs⟩:=hs;have hxl:xs.length=len:=by
    simp only[z9]at hxs;split at hxs
    ·cases hxs;simp_all
    split at hxs
    ·split at hxs
     ·simp only[oSi]at hxs;subst hxs;simp;omega
     ·cases hxs
    ·cases hxs
   obtain⟨c,e,ti,zc,_,_,hw0,hc,hzc,hin,hout⟩:=Zu (st:=st) (w:=w) (ty:=o.type) hf.heap hm hys hw hstr hvy hx0;obtain⟨c1,_,hc1,hcx⟩:=qCY (P:=S.P) (wd:=w1) hf.heap hxs (.inr rfl) (by rintro⟨q,hq⟩;cases hq) hvx';by_cases hle:len+ys.length<=cap0
   ·--in place
    have hclip:clip=false:=by
     cases clip with
     | false=>rfl
     | true=>have:=hcl.1 rfl;omega
    subst hclip;simp only[bFt,if_false]at hs;obtain⟨⟨el,hel⟩,id',hid',rfl⟩:=hs;have hxs':xs=(el.drop off).take len:=by
     simp only[z9,hel]at hxs;split at hxs
     ·rename_i h1;cases hxs;rw[h1,List.take_zero]
     split at hxs
     ·rename_i h1;simp only[oSi]at hxs;exact hxs.symm
     ·cases hxs
    subst hxs';have:=qF9 (o:=o) (T:=[]) (ad:=ad) (cap0:=cap0) hf hel hp hpw hrc hle hxl hid' hc had (λi x hx=>by simp at hx) (by simpa using hle) (λw' h1=>ZM ho hts (by rw[hin hle];simp[h1])) hd;rw[lAn]at this;exact this
   ·--in a new block
    obtain⟨cap,k,hcap,hr⟩:=hout hle hlim;have hr:=hr c1 (by rw[<-hxl];exact hc1 _ rfl);have hr2:=ZM ho hts hr;rw[<-hxl]at hr2 hcap;cases clip with
    | true=>
     simp only[if_true]at hs;obtain⟨id',hid',rfl⟩:=hs;have:=Yl (o:=o) (v:=.nilFunc) (xs:=xs) (ys:=ys) (c1:=c1) (c2:=c) hf hid' hr2 hcx.row hcx.size hc.row hc.size (by rw[X5,hzc]) hcap hd;rw[hxl]at this;exact this
    | false=>
     simp only[bFt,if_false]at hs;obtain⟨⟨el,hel⟩,id',hid',rfl⟩:=hs;obtain⟨v,w2,m2,g1,g2,g3⟩:=Yl (o:=o) (v:=.nilFunc) (xs:=xs) (ys:=ys) (c1:=c1) (c2:=c) (hf.kill hel) hid' hr2 hcx.row hcx.size hc.row hc.size (by rw[X5,hzc]) hcap hd;rw[hxl]at g2 g3;exact⟨v,w2,m2,g1,g2,Fr.kill.trans g3⟩
 case lst w1 xs clip=>
  obtain⟨rfl,hs⟩:=hs;have hvx':=hvx;simp only[VR]at hvx;obtain⟨ad,cap0,hx0,hlc,hcl,had⟩:=hvx;split at hs
  ·rename_i h0;subst hs;obtain⟨c,e,ti,zc,_,_,_,hc,_,hin,_⟩:=Zu (st:=st) (w:=w) (ty:=o.type) hf.heap hm hys hw hstr hvy hx0;have hc0:c.toList=[]:=by
    have:=hc.size;rw[h0,Nat.zero_mul]at this;rw[Array.size_eq_zero_iff.1 this]
   refine XL (v:=a.eval x') hf (ZM ho hts ?_) hvx' hd;rw[hin (by omega),h0,hx0];cases ad<;>simp[hc0,storeCells]<;>rfl
  ·rename_i h0;obtain⟨hlim,rfl,id',hid',rfl⟩:=hs;have hcap0:=hcl rfl;obtain⟨c,e,ti,zc,_,_,hw0,hc,hzc,hin,hout⟩:=Zu (st:=st) (w:=w) (ty:=o.type) hf.heap hm hys hw hstr hvy hx0;obtain⟨c1,_,hc1,hcx⟩:=qCY (P:=S.P) (wd:=w1) (h:=st.h) hf.heap (y:=.lst w1 xs true) rfl (.inr rfl) (by rintro⟨q,hq⟩;cases hq) hvx';obtain⟨cap,k,hcap,hr⟩:=hout (by omega) hlim;have hr:=hr c1 (hc1 _ rfl);have hr2:=ZM ho hts hr;exact Yl (o:=o) (v:=.nilFunc) (xs:=xs) (ys:=ys) (c1:=c1) (c2:=c) hf hid' hr2 hcx.row hcx.size hc.row hc.size (by rw[X5,hzc]) hcap hd
theorem qkU{o:Oper}{x y:Ao}{x' y':Operand}{ts:Array TypeId}{T T2:TypeId}{wd:Nat}{av bv:AV}(hf:FR S m L n B st a w)(ho:o.op=.call ⟨.builtin .append, #[x',y'],ts⟩)(hts:ts= #[T,T2])
  (hd:∀x,o.dst=some x->x<n/\x∉L) (hm:Wc S T T2 wd=true) (hx:mAo S.N L x x'=true) (hy:mAo S.N L y y'=true) (ex:ev st.s x=some av) (ey:ev st.s y=some bv)
  (hs:AppX wd av bv st o.dst st'):Did S m L n B st.h st' a w o:=by
 obtain⟨ys,id,off,len,el,hys,hsw,rfl,hel,hlen,id',hid',rfl⟩:=hs;have hw:wOf bv=none\/wOf bv=some wd:=by
  cases bv<;>first
   | exact .inl rfl
   | (exact .inr (congrArg some hsw))
 have hstr:(∃q,bv=.str q)->wd=1:=by rintro⟨q,rfl⟩;exact hsw
 have hvx:=qw (a:=a) hx hf.slots ex;have hvy:=qw (a:=a) hy hf.slots ey;simp only[VR]at hvx;obtain⟨p,ad,cap0,hp,hpw,hx0,hlc,hrc,hcl,had⟩:=hvx;have hcl:off+cap0=p.rc:=by simpa using hcl
 obtain⟨p',hp',_,_,helc,_⟩:=hf.heap.at' id _ hel;rw[hp]at hp';cases hp';obtain⟨c,e,ti,zc,_,_,hw0,hc,hzc,hin,_⟩:=Zu (st:=st) (w:=w) (ty:=o.type) hf.heap hm hys hw hstr hvy hx0;have hle:len+ys.length<=cap0:=by omega
 refine qF9 (o:=o) (ad:=ad) (cap0:=cap0) (T:=el.drop (off+len+ys.length)) hf hel hp hpw hrc hle (by simp;omega) hid' hc had (λi x hx=>by rwa[gDr]at hx) (by simp;omega) (λw' h1=>ZM ho hts (by rw[hin hle];simp[h1])) hd
end
def ZD(N:zB)(L:List Nat):List (Nat×Ao)->List (Nat×Operand)->Bool
 |[],[]=>true
 | (i,x)::r,(j,y)::q=>i==j&&mAo N L x y&&ZD N L r q
 | _,_=>false
def ZB(S:qV)(T:TypeId)(w:Nat)(z:AV):Bool:=match S.T T with
 | some ⟨.slice e,_,_,_⟩=>Z5 S e z w&&(match S.T e with
  | some ⟨_,_,bs,_⟩=>decide (bs<=16384)
  | none=>false)
 | _=>false
section
variable {S:qV} {m:Mp} {L:List Nat} {n B:Nat} {A:AMap} {st st':St} {a:Act} {w:World}
theorem qGL{place:Nat->Option (Nat×Nat)}{wd:Nat}(hpl:∀i,place i=some (i*wd,wd))(h0:0<wd)(hs:SlotR S.N m L st.s a):∀{ps:List (Nat×Ao)}{parts:List (Nat×Operand)}{el el':List AV}{cells:Array Value},
  ZD S.N L ps parts=true->jE st.s wd el ps=some el'->RowAt S.N m cells 0 wd el->cells.size=el.length*wd->
  ∃cells',Instr.fill place cells (parts.map λp=>(p.1,a.eval p.2))=some cells'/\RowAt S.N m cells' 0 wd el'/\cells'.size=cells.size/\el'.length=el.length
 |[],[],el,el',cells,_,hb,hv,_=>by
  simp only[jE,oSi]at hb;subst hb;exact⟨cells,rfl,hv,rfl,rfl⟩
 |[],_::_,_,_,_,hm,_,_,_=>by simp[ZD]at hm
 | (_,_)::_,[],_,_,_,hm,_,_,_=>by simp[ZD]at hm
 | (i,x)::ps,(j,y)::parts,el,el',cells,hm,hb,hv,hsz=>by
  simp only[ZD,bAt,bIe]at hm;obtain⟨⟨rfl,hm2⟩,hm3⟩:=hm;simp only[jE]at hb;split at hb
  ·rename_i v he;split at hb
   ·rename_i hc;obtain⟨hl,hi⟩:=hc;have hvr:=qw (a:=a) hm2 hs he;obtain⟨q1,q2,q3⟩:=hvr.cells' h0 hl;have hbd:i*wd+wd<=cells.size:=by rw[hsz];exact Qh hi
    have hgo:¬((a.eval y).cells.size≠wd\/i*wd+(a.eval y).cells.size>cells.size):=by omega
    simp only[lMc,Instr.fill,hpl];rw[iN (by simpa using hgo)];have hget:∀k:Nat,((a.eval y).cells.zipIdx.foldl (λcs (c,j)=>cs.setIfInBounds (i*wd+j) c) cells)[k]?=if i*wd<=k/\k<i*wd+wd then(a.eval y).cells.toList[k-i*wd]? else cells[k]?:=by
     intro k;have e:(a.eval y).cells.zipIdx.foldl (λ(cs:Array Value)(c,j)=>cs.setIfInBounds (i*wd+j) c) cells=((a.eval y).cells.toList.zipIdx 0).foldl (λ(cs:Array Value)(c,j)=>cs.setIfInBounds (i*wd+j) c) cells:=by
      rw[<-Array.foldl_toList,Array.toList_zipIdx]
     rw[e,qC9 (i*wd) _ 0 cells (by simp;omega) k];simp only[nAz,Array.length_toList,q3]
    have hsize:((a.eval y).cells.zipIdx.foldl (λcs (c,j)=>cs.setIfInBounds (i*wd+j) c) cells).size=cells.size:=by
     have e:(a.eval y).cells.zipIdx.foldl (λ(cs:Array Value)(c,j)=>cs.setIfInBounds (i*wd+j) c) cells=((a.eval y).cells.toList.zipIdx 0).foldl (λ(cs:Array Value)(c,j)=>cs.setIfInBounds (i*wd+j) c) cells:=by
      rw[<-Array.foldl_toList,Array.toList_zipIdx]
     rw[e];exact fold_size _ _ _ _
    have hrow:RowAt S.N m ((a.eval y).cells.zipIdx.foldl (λcs (c,j)=>cs.setIfInBounds (i*wd+j) c) cells) 0 wd (el.set i v):=by
     refine RowAt.set (c:=cells) hv hl ?_ (λk hk=>by rw[hget,iN (by omega)]);refine qAT q1 q2 (λk u hu=>?_);have hk:k<wd:=by
      have:=(gSi.1 hu).1;simp[q3]at this;exact this
     rw[hget,iP (by omega),<-hu];congr 1;omega
    obtain⟨cells',r1,r2,r3,r4⟩:=qGL hpl h0 hs hm3 hb hrow (by rw[hsize,hsz];simp);exact⟨cells',r1,r2,by rw[r3,hsize],by rw[r4];simp⟩
   ·cases hb
  ·cases hb
where
 fold_size (off:Nat):∀(l:List Value)(k:Nat)(cs:Array Value),((l.zipIdx k).foldl (λ(cs:Array Value)(c,j)=>cs.setIfInBounds (off+j) c) cs).size=cs.size
  |[],_,_=>rfl
  | x::l,k,cs=>by rw[List.zipIdx_cons,List.foldl_cons,fold_size off l];simp
theorem qC0{N:zB}{z:AV}{v:Value}{wd c k:Nat}(hv:VR N m z v)(h0:0<wd)(hl:z.cells.length=wd)(hk:k<=c):RowAt N m ((Array.range (c*wd)).map (v.cells[· %v.cells.size]!)) 0 wd (List.replicate k z):=by
 obtain⟨q1,q2,q3⟩:=hv.cells' h0 hl;intro i x hx;rw[List.getElem?_replicate]at hx;split at hx
 ·rename_i hi;cases hx;refine⟨hl,qAT q1 q2 (λj u hu=>?_)⟩;have hj:j<wd:=by
   have:=(gSi.1 hu).1;simp[q3]at this;exact this
  have hlt:0+i*wd+j<c*wd:=by
   have:=Qh (wd:=wd) (nLl hi hk);omega
  rw[Array.getElem?_map,Array.getElem?_range,iP hlt];simp only[oMs,q3,nZa];rw[Nat.mul_comm,Nat.mul_add_mod,Nat.mod_eq_of_lt hj];have hu':v.cells[j]?=some u:=by simpa using hu
  rw[getElem!_def,hu']
 ·cases hx
theorem qBF{T:TypeId}{wd:Nat}{z:AV}(h:ZB S T wd z=true):∃e ti v,S.P.underlying T=some (.slice e)/\S.P.info? e=some ti/\ti.zero=some v/\ti.size=wd/\ti.bytes<=16384/\zU z v=true/\0<wd/\z.cells.length=wd:=by
 unfold ZB at h;split at h
 ·rename_i e sz bs z' hT;simp only[bAt]at h;obtain⟨h1,h2⟩:=h;obtain⟨v,ti,g1,g2,g3,g4,g5,g6,g7⟩:=qDR (w:=default) h1;obtain⟨⟨d,hd,hk⟩,_⟩:=S.hT T _ hT;rcases hk with hk | hk
  ·cases d<;>simp only[zn,bFt,bIe]at hk;subst hk;refine⟨e,ti,v,hd,g1,g2,g3, ?_,g5,g6,g7⟩;split at h2
   ·rename_i hTe;obtain⟨_,ti',q1,_,q2,_⟩:=S.hT e _ hTe;rw[g1]at q1;cases q1;rw[q2];simpa using h2
   ·cases h2
  ·exact hk.elim
 ·cases h
theorem qkV{o:Oper}{T:TypeId}{wd k:Nat}{z:AV}{ps:List (Nat×Ao)}{parts:Array (Nat×Operand)}(hf:FR S m L n B st a w)(ho:o.op=.buildSlice T k parts)(hd:∀x,o.dst=some x->x<n/\x∉L)
  (hm:ZB S T wd z=true) (hp:ZD S.N L ps parts.toList=true) (hsm:k*wd<=16777216) {el:List AV} (he:jE st.s wd (List.replicate k z) ps=some el) (hs:New st o.dst (.row wd el true) (λid=>.slice wd id 0 k false) st'):
  Did S m L n B st.h st' a w o:=by
 obtain⟨e,ti,v,g1,g2,g3,g4,_,g5,g6,g7⟩:=qBF hm;obtain⟨id,hid,rfl⟩:=hs;have hv:∀mm,VR S.N mm z v:=λ_=>QU _ _ g5;have hmap:(parts.map λ(i,x)=>(i,a.eval x)).toList=parts.toList.map λp=>(p.1,a.eval p.2):=qB4 parts;have hle:=Mp.le_upd (p:=(⟨w.heap.size,0,wd,k⟩:jA)) (hf.heap.none' id hid);have hrow0:=qC0 (c:=k) (k:=k) (hv m) g6 g7 (nLr _);obtain⟨cells',r1,r2,r3,r4⟩:=qGL (place:=λi=>some (i*wd,wd)) (cells:=(Array.range (k*wd)).map (v.cells[· %v.cells.size]!)) (λ_=>rfl) g6 hf.slots hp he hrow0 (by simp);have hlen:el.length=k:=by rw[r4];simp
 have hrun:(Instr.buildSlice T k (parts.map λ(i,x)=>(i,a.eval x))).run S.P w=.ok (.slice (some ⟨w.heap.size,0,none⟩) k k) {w with heap:=w.heap.push (.cells cells' e (0,0))}:=by
  by_cases hk0:k*wd=0
  ·have hk:k=0:=by
    rcases Nat.mul_eq_zero.1 hk0 with h | h
    ·exact h
    ·omega
   subst hk;have hps:parts.toList=[]:=by
    cases hq:parts.toList with
    | nil=>rfl
    | cons q qs=>
     obtain⟨j,y⟩:=q;rw[hq]at hp;cases ps with
     | nil=>simp[ZD]at hp
     | cons p ps=>
      obtain⟨i,x⟩:=p;simp only[jE]at he;split at he
      ·simp at he
      ·cases he
   have hparts:parts= #[]:=by rw[<-aTt (xs:=parts),hps]
   subst hparts;have:cells'= #[]:=Array.size_eq_zero_iff.1 (by rw[r3];simp);subst this;simp[Instr.buildSlice,Sem.run_bind,run_underlying g1,sizeOf,run_typeInfo w g2,Instr.fill,newRow,newObj,Sem.run,Array.range_zero']
  ·have:=run_buildSlice w T e k (parts.map λ(i,x)=>(i,a.eval x)) cells' ti v g1 g2 g3 (by rw[g4];omega) (by rw[g4];exact hk0) (by rw[g4,hmap];exact r1);exact this
 refine XM (p:=⟨w.heap.size,0,wd,k⟩) (blk:=.cells cells' e (0,0)) (v:=.slice (some ⟨w.heap.size,0,none⟩) k k) hf hid rfl ?_ ?_ ?_ hd
 ·unfold execOp;simp only[ho];exact X0 Next.value hrun
 ·refine Xy (c:=cells') (e:=e) (by simp) k (by omega) (by rw[r3];simp) (λi x hx=>⟨(r2 i x hx).1,(r2 i x hx).2.mono hle⟩)
 ·simp only[VR];exact⟨_,_,k,Mp.upd_same _ _ _,rfl,rfl,nLr _,by simp,by simp,λ_=>by simp⟩
theorem qk4{o:Oper}{T:TypeId}{wd:Nat}{z:AV}{l c:Ao}{l' c':Operand}{k k':IntKind}{x y:Int}(hf:FR S m L n B st a w)(ho:o.op=.makeSlice T l' c')(hd:∀x,o.dst=some x->x<n/\x∉L)
  (hm:ZB S T wd z=true) (hl:mAo S.N L l l'=true) (hc:mAo S.N L c c'=true) (el:ev st.s l=some (.int k x)) (ec:ev st.s c=some (.int k' y)) (h0:0<=x) (hxy:x<=y) (hy:y<=(LIM:Int))
  (hs:New st o.dst (.row wd (List.replicate x.toNat z) true) (λid=>.slice wd id 0 x.toNat false) st'):Did S m L n B st.h st' a w o:=by
 obtain⟨e,ti,v,g1,g2,g3,g4,gb,g5,g6,g7⟩:=qBF hm;obtain⟨id,hid,rfl⟩:=hs;have hv:∀mm,VR S.N mm z v:=λ_=>QU _ _ g5;have hL:(LIM:Int)=4294967296:=rfl;have hb:(ti.bytes:Int)*y<=281474976710656:=by
  have:(ti.bytes:Int)*y<=16384*4294967296:=Int.mul_le_mul (by omega) (by omega) (by omega) (by omega);omega
 have hle:=Mp.le_upd (p:=(⟨w.heap.size,0,wd,y.toNat⟩:jA)) (hf.heap.none' id hid);have hrun:=run_make (P:=S.P) w T e ti v g1 g2 g3 k k' x y h0 hxy hb (by omega);rw[g4]at hrun;have hrow:=qC0 (c:=y.toNat) (k:=x.toNat) (hv m) g6 g7 (by omega);refine XM (p:=⟨w.heap.size,0,wd,y.toNat⟩) (blk:=.cells (madeCells v.cells (y.toNat*wd)) e (0,0)) (v:=.slice (some ⟨w.heap.size,0,none⟩) x.toNat y.toNat) hf hid rfl ?_ ?_ ?_ hd
 ·unfold execOp;simp only[ho];rw[(qw (a:=a) hl hf.slots el).int_eq,(qw (a:=a) hc hf.slots ec).int_eq];exact X0 Next.value hrun
 ·refine Xy (c:=madeCells v.cells (y.toNat*wd)) (e:=e) (by simp) y.toNat (by simp;omega) (by rw[size_madeCells];exact nLr _) (λi x hx=>⟨(hrow i x hx).1,(hrow i x hx).2.mono hle⟩)
 ·simp only[VR];exact⟨_,_,y.toNat,Mp.upd_same _ _ _,rfl,rfl,by omega,by simp,by simp,λ_=>by simp⟩
def VD(S:qV)(T:TypeId)(w:Nat):Bool:=match S.T T with
 | some ⟨.slice e,_,_,_⟩=>(match S.T e with
  | some ⟨_,sz,_,_⟩=>sz==w
  | none=>false)
 | _=>false
theorem qk9{T:TypeId}{wd:Nat}(h:VD S T wd=true):∃e ti,S.P.underlying T=some (.slice e)/\S.P.info? e=some ti/\ti.size=wd:=by
 unfold VD at h;split at h
 ·rename_i e sz bs z' hT;split at h
  ·rename_i k sz' bs' z2 hTe;obtain⟨⟨d,hd,hk⟩,_⟩:=S.hT T _ hT;obtain⟨_,ti,q1,q2,_⟩:=S.hT e _ hTe;rcases hk with hk | hk
   ·cases d<;>simp only[zn,bFt,bIe]at hk;subst hk;exact⟨e,ti,hd,q1,q2.trans (by simpa using h)⟩
   ·exact hk.elim
  ·cases h
 ·cases h
theorem qk1{o:Oper}{T:TypeId}{wd:Nat}(hf:FR S m L n B st a w)(ho:o.op=.buildSlice T 0 #[])(hd:∀x,o.dst=some x->x<n/\x∉L)(hm:VD S T wd=true):
  Did S m L n B st.h (st.put o.dst (.lst wd [] true)) a w o:=by
 obtain⟨e,ti,g1,g2,g3⟩:=qk9 hm;have hrun:(Instr.buildSlice T 0 ((#[]:Array (Nat×Operand)).map λ(i,x)=>(i,a.eval x))).run S.P w=.ok (.slice (some ⟨w.heap.size,0,none⟩) 0 0) {w with heap:=w.heap.push (.cells #[] e (0,0))}:=by
  simp[Instr.buildSlice,Sem.run_bind,run_underlying g1,sizeOf,run_typeInfo w g2,Instr.fill,newRow,newObj,Sem.run,Array.range_zero']
 refine⟨.slice (some ⟨w.heap.size,0,none⟩) 0 0,{w with heap:=w.heap.push (.cells #[] e (0,0))},m,.inl ?_,hf.next (hf.heap.blocks (by simp) (λid o p ho hl hp=>?_) (λb c hz=>?_)) m.le_refl (by simp) (λb hB hlt hfr=>⟨?_,hfr⟩) ?_ hd,Fr.push hf.base⟩
 ·unfold execOp;simp only[ho];exact X0 Next.value hrun
 ·simp only[aGp];rw[iN (by have:=hf.heap.lt ho hl hp;omega)]
 ·simp only[aGp];rw[iN (by have:=hf.heap.zlt hz;omega)]
 ·simp only[aGp];rw[iN (by omega)]
 ·simp only[VR];exact⟨_,0,rfl,nLr _,λ_=>rfl,.inl ⟨trivial,λq=>rfl,λx hx h0=>by omega⟩⟩
theorem qk6{o:Oper}{v:Value}{av:AV}{wd id off:Nat}{el ys:List AV}{p:jA}{c:Array Value}(hf:FR S m L n B st a w)(hel:st.h id=some (.row wd el true))(hp:m id=some p)(hl:off+ys.length<=el.length)(hc:Cells S.N m c wd ys)
  (hrun:∀w',(storeCells ⟨p.b,p.o+off*wd,none⟩ c.toList).run S.P w=.ok () w'->(execOp a.eval o).run S.P w=.ok (.value v) w') (hv:VR S.N m av v) (hd:∀x,o.dst=some x->x<n/\x∉L):
  Did S m L n B st.h {s:=je st.s o.dst av,l:=st.l,h:=st.h.upd id (.row wd (el.take off++(ys++el.drop (off+ys.length))) true)} a w o:=by
 obtain⟨pl',hpl',hlt,hw,hrc,cs,ty,fz,hb,hcsz,hu,hrow⟩:=hf.heap.at' id _ hel;rw[hp]at hpl';cases hpl';subst hw;have hlt:=hlt rfl;have hbound:p.o+off*p.w+ys.length*p.w<=cs.size:=by
  have:(off+ys.length)*p.w<=p.rc*p.w:=Nat.mul_le_mul_right _ (by omega);rw[Nat.add_mul]at this;omega
 have hst:=Vo (P:=S.P) (o:=p.o+off*p.w) (i:=0) (vs:=c.toList) hb (by simp[hc.size];omega) hu hc.one;simp only[nAz]at hst;have hk1:∀q,q≠p.b->(World.setBlk w p.b (.cells (spl cs (p.o+off*p.w) c.toList) ty fz)).heap[q]?=w.heap[q]?:=λq hq=>X4 hq;have hspl:∀q,(spl cs (p.o+off*p.w) c.toList)[q]?=if p.o+off*p.w<=q/\q<p.o+off*p.w+ys.length*p.w then c.toList[q-(p.o+off*p.w)]? else cs[q]?:=by
  intro q;rw[X7 (by simp[hc.size];omega)];simp only[Array.length_toList,hc.size]
 have hlen:(el.take off++(ys++el.drop (off+ys.length))).length=el.length:=by simp;omega
 have hrow':∀(i:Nat)(x:AV),(el.take off++(ys++el.drop (off+ys.length)))[i]?=some x->x.cells.length=p.w/\CellsAt S.N m (spl cs (p.o+off*p.w) c.toList) (p.o+i*p.w) x.cells:=by
  intro i x hx;rw[gAp]at hx;have htk:(el.take off).length=off:=by simp;omega
  rw[htk]at hx;split at hx
  ·rename_i hi;rw[gTk,iP hi]at hx;obtain⟨q1,q2⟩:=hrow _ x hx;refine⟨q1,λj y hy=>?_⟩;obtain⟨q3,u,q4,q5⟩:=q2 j y hy;refine⟨q3,u, ?_,q5⟩;have hj:j<p.w:=by rw[<-q1];exact(gSi.1 hy).1
   have:=Qh (wd:=p.w) hi;rw[hspl,iN (by omega),<-q4]
  ·rename_i hi;rw[gAp]at hx;split at hx
   ·obtain⟨q1,q2⟩:=hc.row _ x hx;refine⟨q1,λj y hy=>?_⟩;obtain⟨q3,u,q4,q5⟩:=q2 j y hy;refine⟨q3,u, ?_,q5⟩;have hlt2:=(aSi.1 q4).1;have e1:i*p.w=off*p.w+(i-off)*p.w:=by rw[<-Nat.add_mul];congr 1;omega
    rw[hc.size]at hlt2;rw[hspl,iP (by omega),Array.getElem?_toList,<-q4];congr 1;omega
   ·rw[gDr]at hx;have e0:off+ys.length+(i-off-ys.length)=i:=by omega
    rw[e0]at hx;obtain⟨q1,q2⟩:=hrow _ x hx;refine⟨q1,λj y hy=>?_⟩;obtain⟨q3,u,q4,q5⟩:=q2 j y hy;refine⟨q3,u, ?_,q5⟩;have e1:i*p.w=off*p.w+ys.length*p.w+(i-off-ys.length)*p.w:=by rw[<-Nat.add_mul,<-Nat.add_mul];congr 1;omega
    rw[hspl,iN (by omega),<-q4]
 refine⟨v,World.setBlk w p.b (.cells (spl cs (p.o+off*p.w) c.toList) ty fz),m,.inl (hrun _ hst), ?_, ?_⟩
 ·have hH:HR S.N m (st.h.upd id (.row p.w (el.take off++(ys++el.drop (off+ys.length))) true)) (World.setBlk w p.b (.cells (spl cs (p.o+off*p.w) c.toList) ty fz)):={
   at':=λq o' ho'=>by
    by_cases e1:q=id
    ·subst e1;rw[AH.upd_same]at ho';cases ho';exact⟨p,hp,λ_=>by rw[wX];exact hlt,rfl,by rw[hlen];exact hrc,_,ty,fz,Zw hlt,by rw[Qn];exact hcsz,by rw[Qn];exact hu,hrow'⟩
    ·rw[AH.upd_ne _ _ e1]at ho';obtain⟨pq,g1,g2,g3⟩:=hf.heap.at' q o' ho';refine⟨pq,g1,λhl=>by rw[wX];exact g2 hl, ?_⟩;cases hlv:o'.live with
     | true=>exact g3.block (hk1 _ (λhq=>hf.heap.apart id q _ o' p pq hel ho' rfl hlv (Ne.symm e1) hp g1 hq.symm))
     | false=>cases o'<;>first | trivial | cases hlv
   none':=λq hq=>by
    by_cases e1:q=id
    ·subst e1;have:=hq.1;rw[AH.upd_same]at this;cases this
    ·exact hf.heap.none' q ⟨by have:=hq.1;rw[AH.upd_ne _ _ e1]at this;exact this,hq.2⟩
   apart:=λq1 q2 o1 o2 p1 p2 g1 g2 gw gl gij gp1 gp2=>by
    by_cases e1:q1=id
    ·subst e1;rw[AH.upd_ne _ _ (Ne.symm gij)]at g2;exact hf.heap.apart q1 q2 _ o2 p1 p2 hel g2 rfl gl gij gp1 gp2
    ·rw[AH.upd_ne _ _ e1]at g1;by_cases e2:q2=id
     ·subst e2;exact hf.heap.apart q1 q2 o1 _ p1 p2 g1 hel gw rfl gij gp1 gp2
     ·rw[AH.upd_ne _ _ e2]at g2;exact hf.heap.apart q1 q2 o1 o2 p1 p2 g1 g2 gw gl gij gp1 gp2
   zz:=λb c hz=>by
    obtain⟨g1,g2⟩:=hf.heap.zz b c hz;rw[hk1 b (λhq=>g2 id _ p hel rfl hp hq.symm)];refine⟨g1,λq o' pq ho' hl' hq=>?_⟩;by_cases e1:q=id
    ·subst e1;exact g2 q _ pq hel rfl hq
    ·rw[AH.upd_ne _ _ e1]at ho';exact g2 q o' pq ho' hl' hq}
  refine hf.next hH m.le_refl (by rw[wX];exact nLr _) (λb hB hltb hfr=>⟨hk1 b ?_, ?_⟩) hv hd
  ·exact λhq=>hfr.1 id _ p hel rfl hp hq.symm
  ·refine⟨λq o' pq ho' hl' hq=>?_,hfr.2⟩;by_cases e1:q=id
   ·subst e1;exact hfr.1 q _ pq hel rfl hq
   ·rw[AH.upd_ne _ _ e1]at ho';exact hfr.1 q o' pq ho' hl' hq
 ·refine⟨rfl,rfl,rfl,by rw[wX];exact nLr _,m.le_refl,λb hb hs=>⟨hk1 b ?_, ?_⟩,λb hb hs=>?_⟩
  ·exact λhq=>hs id _ p hel rfl hp hq.symm
  ·intro q o' pq ho' hl' hq;by_cases e1:q=id
   ·subst e1;exact hs q _ pq hel rfl hq
   ·have ho'':(st.h.upd id (.row p.w (el.take off++(ys++el.drop (off+ys.length))) true)) q=some o':=ho';rw[AH.upd_ne _ _ e1]at ho'';exact hs q o' pq ho'' hl' hq
  ·refine⟨λq o' pq ho' hl' hq=>?_,hs.2⟩;by_cases e1:q=id
   ·subst e1;exact hs.1 q _ pq hel rfl hq
   ·have ho'':(st.h.upd id (.row p.w (el.take off++(ys++el.drop (off+ys.length))) true)) q=some o':=ho';rw[AH.upd_ne _ _ e1]at ho'';exact hs.1 q o' pq ho'' hl' hq
theorem qC1{o:Oper}{x:Operand}{ts:Array TypeId}{T:TypeId}(ho:o.op=.call ⟨.builtin .clear, #[x],ts⟩)(hts:ts= #[T]){v:Value}{w':World}
  (h:(Builtin.clear_ #[T] o.type #[a.eval x]).run S.P w=.ok v w'):(execOp a.eval o).run S.P w=.ok (.value v) w':=by
 subst hts;unfold execOp;simp only[ho];simp only[resolve,Sem.run_bind,Sem.run_pure,Result.andThen_ok,invoke,builtin];have:(#[x].map a.eval)= #[a.eval x]:=by simp
 rw[this];simp[h]
theorem qkW{o:Oper}{x:Ao}{x':Operand}{ts:Array TypeId}{T:TypeId}{wd:Nat}{z:AV}(hf:FR S m L n B st a w)(ho:o.op=.call ⟨.builtin .clear, #[x'],ts⟩)(hts:ts= #[T])
  (hd:o.dst=none) (hm:ZB S T wd z=true) (hx:mAo S.N L x x'=true) (hs:Step (.clear wd z x) o.dst st st'):Did S m L n B st.h st' a w o:=by
 obtain⟨e,ti,v,g1,g2,g3,g4,_,g5,g6,g7⟩:=qBF hm;have hv:VR S.N m z v:=QU _ _ g5;obtain⟨av,xs,ex,hxs,hs⟩:=hs;have hvx:=qw (a:=a) hx hf.slots ex;have hun:(underlying T).run S.P w=.ok (.slice e) w:=by unfold underlying;simp[g1]
 have hzv:(zeroValue e).run S.P w=.ok v w:=by unfold zeroValue;simp[run_typeInfo w g2,g3]
 have hdd:∀x,o.dst=some x->x<n/\x∉L:=λx hx=>by rw[hd]at hx;cases hx
 have hq:∀st:St,{st with s:=je st.s o.dst .any}=st:=λst=>by rw[hd];rfl
 cases av<;>try (exact hs.elim)
 case nils=>
  have hs:st'=st:=hs;subst hs;have hx0:a.eval x'=.slice none 0 0:=by simpa only [VR]using hvx
  have:=XL (o:=o) (x:=.any) (v:=.tuple #[]) hf (qC1 ho hts (by rw[hx0];unfold Builtin.clear_;simp[hun])) (by simp only[VR]) hdd;rw[show st'.put o.dst .any=st' from hq st']at this;exact this
 case slice w1 id off len clip=>
  obtain⟨rfl,el,hel,rfl⟩:=hs;simp only[VR]at hvx;obtain⟨p,ad,cap0,hp,hpw,hx0,hlc,hrc,hcl,had⟩:=hvx;have hb:off+len<=el.length\/len=0:=by
   simp only[z9,hel]at hxs;split at hxs
   ·exact .inr (by assumption)
   ·split at hxs
    ·exact .inl (by assumption)
    ·cases hxs
  rcases Nat.eq_zero_or_pos len with h0 | h0
  ·subst h0;have e1:el.take off++(List.replicate 0 z++el.drop (off+0))=el:=by simp
   rw[e1];have e2:({st with h:=st.h.upd id (.row w1 el true)}:St)=st:=by
    have:st.h.upd id (.row w1 el true)=st.h:=by
     refine AH.ext' (λi=>?_) (λ_=>rfl);rw[AH.upd_apply];split
     ·rename_i hi;rw[hi,hel]
     ·rfl
    rw[this]
   rw[e2];have:=XL (o:=o) (x:=.any) (v:=.tuple #[]) hf (qC1 ho hts (by rw[hx0];unfold Builtin.clear_;simp[hun])) (by simp only[VR]) hdd;rw[show st.put o.dst .any=st from hq st]at this;exact this
  ·have hb:off+len<=el.length:=by omega
   have had:=had (by omega);subst had;have hrow:=qC0 (c:=len) (k:=len) hv g6 g7 (nLr _);have hcs:Cells S.N m (Builtin.zeroCells v.cells len) w1 (List.replicate len z):=by
    have hsz:(Builtin.zeroCells v.cells len).size=(List.replicate len z).length*w1:=by
     rw[X5,(hv.cells' g6 g7).2.2];simp
    have hr:RowAt S.N m (Builtin.zeroCells v.cells len) 0 w1 (List.replicate len z):=by
     have h3:=(hv.cells' g6 g7).2.2;unfold Builtin.zeroCells;rw[h3];rw[h3]at hrow;exact hrow
    exact⟨hsz,hr,VY hsz hr⟩
   have:=qk6 (o:=o) (v:=.tuple #[]) (av:=.any) (ys:=List.replicate len z) (off:=off) hf hel hp (by simpa using hb) hcs (λw' h1=>qC1 ho hts (by
    rw[hx0];unfold Builtin.clear_;cases len with
    | zero=>omega
    | succ k=>simp[hun,hzv,h1])) (by simp only[VR]) hdd
   rw[hd]at this;simp only[lLr]at this;exact this
theorem qF8{o:Oper}{id:Nat}{ob ob':qA}{pl:jA}{blk:Obj}(hf:FR S m L n B st a w)(hd:o.dst=none)(hid:st.h id=some ob)(w1:ob.wr=true)(w2:ob.live=true)(hpl:m id=some pl)(hlt:pl.b<w.heap.size)
  (hrun:(execOp a.eval o).run S.P w=.ok .skip (World.setBlk w pl.b blk)) (hob:ObjAt S.N m (World.setBlk w pl.b blk) pl ob'):Did S m L n B st.h {st with h:=st.h.upd id ob'} a w o:=by
 have hk1:∀q,q≠pl.b->(World.setBlk w pl.b blk).heap[q]?=w.heap[q]?:=λq hq=>X4 hq;refine⟨undef,World.setBlk w pl.b blk,m,.inr ⟨hrun,rfl⟩, ?_, ?_⟩
 ·rw[hd];have hH:HR S.N m (st.h.upd id ob') (World.setBlk w pl.b blk):={
   at':=λq o' ho'=>by
    by_cases e1:q=id
    ·subst e1;rw[AH.upd_same]at ho';cases ho';exact⟨pl,hpl,λ_=>by rw[wX];exact hlt,hob⟩
    ·rw[AH.upd_ne _ _ e1]at ho';obtain⟨pq,g1,g2,g3⟩:=hf.heap.at' q o' ho';refine⟨pq,g1,λhl=>by rw[wX];exact g2 hl, ?_⟩;cases hlv:o'.live with
     | true=>exact g3.block (hk1 _ (λhq=>hf.heap.apart id q _ o' pl pq hid ho' w1 hlv (Ne.symm e1) hpl g1 hq.symm))
     | false=>cases o'<;>first | trivial | cases hlv
   none':=λq hq=>by
    by_cases e1:q=id
    ·subst e1;have:=hq.1;rw[AH.upd_same]at this;cases this
    ·exact hf.heap.none' q ⟨by have:=hq.1;rw[AH.upd_ne _ _ e1]at this;exact this,hq.2⟩
   apart:=λq1 q2 o1 o2 p1 p2 g1 g2 gw gl gij gp1 gp2=>by
    by_cases e1:q1=id
    ·subst e1;rw[AH.upd_ne _ _ (Ne.symm gij)]at g2;exact hf.heap.apart q1 q2 _ o2 p1 p2 hid g2 w1 gl gij gp1 gp2
    ·rw[AH.upd_ne _ _ e1]at g1;by_cases e2:q2=id
     ·subst e2;exact hf.heap.apart q1 q2 o1 _ p1 p2 g1 hid gw w2 gij gp1 gp2
     ·rw[AH.upd_ne _ _ e2]at g2;exact hf.heap.apart q1 q2 o1 o2 p1 p2 g1 g2 gw gl gij gp1 gp2
   zz:=λb c hz=>by
    obtain⟨g1,g2⟩:=hf.heap.zz b c hz;rw[hk1 b (λhq=>g2 id _ pl hid w1 hpl hq.symm)];refine⟨g1,λq o' pq ho' hl' hq=>?_⟩;by_cases e1:q=id
    ·subst e1;exact g2 q _ pq hid w1 hq
    ·rw[AH.upd_ne _ _ e1]at ho';exact g2 q o' pq ho' hl' hq}
  have:=hf.next (d:=none) (av:=.any) (v:=undef) hH m.le_refl (by rw[wX];exact nLr _) (λb hB hltb hfr=>⟨hk1 b ?_, ?_⟩) (by simp only[VR]) (by simp)
  ·exact this
  ·exact λhq=>hfr.1 id _ pl hid w2 hpl hq.symm
  ·refine⟨λq o' pq ho' hl' hq=>?_,hfr.2⟩;by_cases e1:q=id
   ·subst e1;exact hfr.1 q _ pq hid w2 hq
   ·rw[AH.upd_ne _ _ e1]at ho';exact hfr.1 q o' pq ho' hl' hq
 ·refine⟨rfl,rfl,rfl,by rw[wX];exact nLr _,m.le_refl,λb hb hs=>⟨hk1 b ?_, ?_⟩,λb hb hs=>?_⟩
  ·exact λhq=>hs id _ pl hid w1 hpl hq.symm
  ·intro q o' pq ho' hl' hq;by_cases e1:q=id
   ·subst e1;exact hs q _ pq hid w1 hq
   ·rw[AH.upd_ne _ _ e1]at ho';exact hs q o' pq ho' hl' hq
  ·refine⟨λq o' pq ho' hl' hq=>?_,hs.2⟩;by_cases e1:q=id
   ·subst e1;exact hs.1 q _ pq hid w2 hq
   ·rw[AH.upd_ne _ _ e1]at ho';exact hs.1 q o' pq ho' hl' hq
theorem qk3{o:Oper}{T:TypeId}(hf:FR S m L n B st a w)(ho:o.op=.makeMap T none)(hd:∀x,o.dst=some x->x<n/\x∉L)(hs:New st o.dst (.map []) .map st'):Did S m L n B st.h st' a w o:=by
 obtain⟨id,hid,rfl⟩:=hs;refine XM (p:=⟨w.heap.size,0,1,0⟩) (blk:=.map #[] 0) (v:=.map (some w.heap.size)) hf hid rfl ?_ ?_ ?_ hd
 ·unfold execOp;simp only[ho];simp[Instr.makeMap,newObj,Sem.run]
 ·exact⟨#[],0,by simp,rfl,rfl,λi k v h=>by simp at h⟩
 ·simp only[VR];exact⟨_,Mp.upd_same _ _ _,rfl⟩
theorem qnM{T:TypeId}(h:Xj S T=true):∃k e,S.P.underlying T=some (.map k e)/\S.P.underlying k=some (.int .i64):=by
 unfold Xj at h;split at h
 ·rename_i k e sz bs zz hT;obtain⟨⟨d,hd,hk⟩,_⟩:=S.hT T _ hT;cases d<;>simp only[zn,bFt,or_self,bAt,bIe,or_false]at hk;obtain⟨rfl,rfl⟩:=hk;split at h
  ·rename_i sz1 bs1 z1 hT1;obtain⟨⟨d1,hd1,hk1⟩,_⟩:=S.hT _ _ hT1;cases d1<;>simp only[zn,bFt,or_self,or_false]at hk1;have hk1:=WY hk1;subst hk1;exact⟨k,e,hd,hd1⟩
  ·cases h
 ·cases h
theorem qGA{o:Oper}{p k x:Ao}{y j z:Operand}{T:TypeId}(hf:FR S m L n B st a w)(ho:o.op=.mapUpdate T y j z\/o.op=.insert T y j z)(hd:o.dst=none)(hT:Xj S T=true)(hy:mAo S.N L p y=true)(hj:mAo S.N L k j=true)(hz:mAo S.N L x z=true)
  (hs:Step (.mupd p k x) o.dst st st'):Did S m L n B st.h st' a w o:=by
 obtain⟨id,kv,v,es,e1,e2,e3,hid,hs⟩:=hs;obtain⟨kt,et,u1,u2⟩:=qnM hT;have h1:=qw (a:=a) hy hf.slots e1;have h2:=qw (a:=a) hj hf.slots e2;have h3:=qw (a:=a) hz hf.slots e3;simp only[VR]at h1;obtain⟨pl,hpl,hey⟩:=h1;obtain⟨pl',hpl',hlt,xs,c,hb,hc,hsz,hx⟩:=hf.heap.at' id _ hid;rw[hpl]at hpl';cases hpl';have hlt:=hlt rfl;have hx2:∀(j:Nat)(k v:AV),es[j]?=some (k,v)->∃x:MapEntry,xs.toList[j]?=some x/\VR S.N m k x.key/\VR S.N m v x.val:=λj k v hj=>by
  obtain⟨x,x1,_,x2,x3⟩:=hx j k v hj;exact⟨x,by simpa using x1,x2,x3⟩
 have hset:∀ob,(setObj pl.b ob).run S.P w=.ok () (World.setBlk w pl.b ob):=λob=>MapKept.run_setObj_map ob hb;cases hf':wM kv es 0 with
 | none=>rw[hf']at hs;exact hs.elim
 | some r=>
  rw[hf']at hs;obtain⟨q,rfl⟩:=qGP hf';simp only[VR]at h2;have hck:∀b,(Instr.checkKey b 10000 kt (.int .i64 q)).run S.P w=.ok () w:=λb=>MapKept.run_checkKey (k:=.int .i64 q) u2 (show MapKept.IsKey (.int .i64) (.int .i64 q)from rfl) b 9999;rcases qBK (m:=m) (by simpa using hsz) hx2 hf' with⟨rfl,g⟩ | ⟨i,v0,u,rfl,g,g2,g3⟩
  ·simp only at hs;subst hs;have hfk:=MapKept.run_findKey (w:=w) u2 g;refine qF8 (blk:=.map (xs.push {key:=.int .i64 q,val:=a.eval z,born:=c}) (c+1)) hf hd hid rfl rfl hpl hlt ?_ ⟨_,_,Zw hlt,by simp[hc],by simp[hsz],λi k' v' hi=>?_⟩
   ·unfold execOp;rcases ho with ho | ho<;>simp only[ho]<;>simp[hey,h2,Instr.mapUpdate,run_underlying u1,Result.andThen,MapKept.run_getObj_map hb,hck,hfk,hset]
   ·rw[gAp]at hi;split at hi
    ·rename_i hlt';obtain⟨x,x1,x2,x3,x4⟩:=hx i k' v' hi;exact⟨x,by rw[aGp,iN (by omega)];exact x1,x2,x3,x4⟩
    ·rename_i hge;have:i-es.length=0:=by have:=(gSi.1 hi).1;simp at this;omega
     rw[this]at hi;cases hi;exact⟨_,by rw[aGp,iP (by omega)],by simp only;omega,by simp only[VR],h3⟩
  ·simp only[nZa]at hs g;subst hs;have hfk:=MapKept.run_findKey (w:=w) u2 g;obtain⟨x0,y1,y2,y3,y4⟩:=hx i _ _ g2;simp only[VR]at y3;have hst:(Instr.keyThatStays (.int .i64 q) (.int .i64 q)).run S.P w=.ok (.int .i64 q) w:=MapKept.run_keyThatStays (d:=.int .i64) (k:=.int .i64 q) (show MapKept.IsKey (.int .i64) (.int .i64 q)from rfl);refine qF8 (blk:=.map (xs.modify i λe=>{e with key:=.int .i64 q,val:=a.eval z}) c) hf hd hid rfl rfl hpl hlt ?_ ⟨_,_,Zw hlt,by simp[hc],by simp[hsz],λj k' v' hj=>?_⟩
   ·unfold execOp;rcases ho with ho | ho<;>simp only[ho]<;>simp[hey,h2,Instr.mapUpdate,run_underlying u1,Result.andThen,MapKept.run_getObj_map hb,hck,hfk,y1,y3,hst,hset]
   ·rw[gSt]at hj;split at hj
    ·rename_i e;subst e;split at hj
     ·cases hj;exact⟨{x0 with key:=.int .i64 q,val:=a.eval z},by rw[Array.getElem?_modify,iP rfl,y1];rfl,y2,by simp only[VR],h3⟩
     ·cases hj
    ·rename_i e;obtain⟨x,x1,x2,x3,x4⟩:=hx j k' v' hj;exact⟨x,by rw[Array.getElem?_modify,iN e];exact x1,x2,x3,x4⟩
def Xi(S:qV)(L:List Nat)(n:Nat)(A:AMap)(c:AOp)(o:Oper):Bool:=
 (match c with
  |.lalloc _=>true
  |.lbox _ _=>true
  | _=>(match o.dst with
   | some d=>decide (d<n)&& !mem L d
   | none=>true))&&
 (match c,o.op with
 |.lalloc z,.alloc T=>(match o.dst with
  | some t=>mem L t&&decide (t<n)
  | none=>false)&&Z5 S T z z.cells.length
 |.lbox k x,.box _T y=>(match o.dst with
  | some t=>mem L t&&decide (t<n)
  | none=>false)&& !(k==0)&&mAo S.N L x y
 |.lstore t off k x,.store T y z=>o.dst.isNone&&(match wZ L A y with
  | some (t',off')=>t==t'&&off==off'
  | none=>false)&& !(k==0)&&jJ S T==some k&&mAo S.N L x z
 |.halloc w z,.alloc T=>Z5 S T z w
 |.hbox w x,.box _T y=> !(w==0)&&mAo S.N L x y
 |.bslice w z k ps,.buildSlice T k' parts=>k==k'&&ZB S T w z&&ZD S.N L ps parts.toList&&decide (k*w<=16777216)
 |.mksl w z l c,.makeSlice T l' c'=>ZB S T w z&&mAo S.N L l l'&&mAo S.N L c c'
 |.store k p x,.store T y z=>o.dst.isNone&& !(k==0)&&jJ S T==some k&&mAo S.N L p y&&mAo S.N L x z
 |.app w x y,.call ⟨.builtin .append,args,ts⟩=>(match args.toList,ts.toList with
  |[x',y'],[T,T2]=>Wc S T T2 w&&mAo S.N L x x'&&mAo S.N L y y'
  | _,_=>false)
 |.appx w x y,.call ⟨.builtin .append,args,ts⟩=>(match args.toList,ts.toList with
  |[x',y'],[T,T2]=>Wc S T T2 w&&mAo S.N L x x'&&mAo S.N L y y'
  | _,_=>false)
 |.clear w z x,.call ⟨.builtin .clear,args,ts⟩=>o.dst.isNone&&(match args.toList,ts.toList with
  |[x'],[T]=>ZB S T w z&&mAo S.N L x x'
  | _,_=>false)
 |.mov (.c (.lst w [] true)),.buildSlice T k parts=>k==0&&parts.toList.isEmpty&&VD S T w
 |.mkmap,.makeMap _ none=>true
 |.mupd p k x,.mapUpdate T y j z=>o.dst.isNone&&Xj S T&&mAo S.N L p y&&mAo S.N L k j&&mAo S.N L x z
 |.mupd p k x,.insert T y j z=>o.dst.isNone&&Xj S T&&mAo S.N L p y&&mAo S.N L k j&&mAo S.N L x z
 | c,op=>isVal c&&jk S L A c op)
where
 isVal:AOp->Bool
  |.mov _ |.pick _ _ _ |.build _ _ |.lload _ _ _ |.load _ _ |.nilchk _ |.bin _ _ _ |.beq _ _ _ |.seq _ _ _ _ |.isnil _ _ _ |.not _ |.conv _ _ |.slc _ _ _ _ _ |.slcx _ _ _ _ |.slcm _ _ _ _ _ |.faddr _ _ |.iaddr _ _ _ |.aidx _ _ _ _ _ |.ext _ _ |.mkfn _ _ |.len _ |.max _ _ |.min _ _ |.mlen _ |.look _ _ _ _=>true
  | _=>false
theorem qK0{c:AOp}{d:Option Nat}(h:Xi.isVal c=true)(hs:Step c d st st'):∃v,val c st.s st.l st.h=some v/\st'=st.put d v:=by
 cases c<;>first
  | (cases h;done)
  | exact hs
theorem qKX{T:TypeId}{k:Nat}(h:(jJ S T==some k)=true):∃i,S.T T=some i/\i.sz=k:=by
 unfold jJ at h;cases hT:S.T T with
 | none=>simp[hT]at h
 | some i=>exact⟨i,rfl,by simpa[hT]using h⟩
theorem QF{o:Oper}(h:(match o.dst with
   | some d=>decide (d<n)&& !mem L d
   | none=>true)=true):∀x,o.dst=some x->x<n/\x∉L:=by
 intro x hx;rw[hx]at h;simp only[bAt,dTe,bNt]at h;exact⟨h.1,Wd.1 h.2⟩
set_option maxHeartbeats 1000000 in
theorem qqS{o:Oper}{c:AOp}(hf:FR S m L n B st a w)(hA:Z7 A (λy=>y∈o.op.operands.toList) st.l a)(hm:Xi S L n A c o=true)(hs:Step c o.dst st st'):Did S m L n B st.h st' a w o:=by
 unfold Xi at hm;rw[bAt]at hm;obtain⟨hd,hm⟩:=hm;split at hm
 case h_1 z T hop=>
  simp only[bAt]at hm;obtain⟨t,ht,rfl⟩:=hs;rw[ht]at hm;simp only[bAt,dTe]at hm;exact qkZ hf hop ht (mem_iff.1 hm.1.1) hm.1.2 hm.2
 case h_2 k x T y hop=>
  simp only[bAt,bNt,beq_eq_false_iff_ne]at hm;obtain⟨t,v,ht,he,hl,rfl⟩:=hs;rw[ht]at hm;simp only[bAt,dTe]at hm;exact qk0 hf hop ht (mem_iff.1 hm.1.1.1) hm.1.1.2 (by omega) hm.2 he hl
 case h_3 t off k x T y z hop=>
  simp only[bAt,bNt,beq_eq_false_iff_ne]at hm;obtain⟨⟨⟨⟨h1,h2⟩,h3⟩,h4⟩,h5⟩:=hm;obtain⟨c,v,c',hc,he,hl,hp,rfl⟩:=hs;obtain⟨i,hT,hi⟩:=qKX h4;have hdn:o.dst=none:=by simpa using h1
  cases ha:wZ L A y with
  | none=>simp[ha]at h2
  | some q=>
   obtain⟨t',off'⟩:=q;simp only[ha,bAt,bIe]at h2;obtain⟨rfl,rfl⟩:=h2;exact qk2 hf hA hop hdn ha hT hi (by omega) h5 hc he hl hp
 case h_4 wd z T hop=>exact qkX hf hop (QF hd) hm hs
 case h_5 wd x T y hop=>
  simp only[bAt,bNt,beq_eq_false_iff_ne]at hm;obtain⟨v,he,hl,hs⟩:=hs;exact qkY hf hop (QF hd) (by omega) hm.2 he hl hs
 case h_6 wd z k ps T k' parts hop=>
  simp only[bAt,dTe,bIe]at hm;obtain⟨⟨⟨rfl,h1⟩,h2⟩,h3⟩:=hm;obtain⟨el,he,hs⟩:=hs;exact qkV hf hop (QF hd) h1 h2 h3 he hs
 case h_7 wd z l c T l' c' hop=>
  simp only[bAt]at hm;obtain⟨k,k',x,y,e1,e2,h0,h1,h2,hs⟩:=hs;exact qk4 hf hop (QF hd) hm.1.1 hm.1.2 hm.2 e1 e2 h0 h1 h2 hs
 case h_8 k p x T y z hop=>
  simp only[bAt,bNt,beq_eq_false_iff_ne]at hm;obtain⟨⟨⟨⟨h1,h2⟩,h3⟩,h4⟩,h5⟩:=hm;obtain⟨i,hT,hi⟩:=qKX h3;obtain⟨id,i',j,v,w',el,e,e',g1,g2,g3,g4,g5,g6,rfl⟩:=hs;exact qk5 hf hop (by simpa using h1) h4 h5 hT hi (by omega) g1 g2 g3 g4 g5 g6
 case h_9 wd x y args ts hop=>
  split at hm
  ·rename_i x' y' T T2 ha ht;simp only[bAt]at hm;have hargs:args= #[x',y']:=by rw[<-aTt (xs:=args),ha]
   have hts:ts= #[T,T2]:=by rw[<-aTt (xs:=ts),ht]
   subst hargs;obtain⟨av,bv,e1,e2,hs⟩:=hs;exact qkT hf hop hts (QF hd) hm.1.1 hm.1.2 hm.2 e1 e2 hs
  ·cases hm
 case h_10 wd x y args ts hop=>
  split at hm
  ·rename_i x' y' T T2 ha ht;simp only[bAt]at hm;have hargs:args= #[x',y']:=by rw[<-aTt (xs:=args),ha]
   have hts:ts= #[T,T2]:=by rw[<-aTt (xs:=ts),ht]
   subst hargs;obtain⟨av,bv,e1,e2,hs⟩:=hs;exact qkU hf hop hts (QF hd) hm.1.1 hm.1.2 hm.2 e1 e2 hs
  ·cases hm
 case h_11 wd z x args ts hop=>
  rw[bAt]at hm;obtain⟨hdn,hm⟩:=hm;split at hm
  ·rename_i x' T ha ht;simp only[bAt]at hm;have hargs:args= #[x']:=by rw[<-aTt (xs:=args),ha]
   have hts:ts= #[T]:=by rw[<-aTt (xs:=ts),ht]
   subst hargs;exact qkW hf hop hts (by simpa using hdn) hm.1 hm.2 hs
  ·cases hm
 case h_12 wd T k parts hop=>
  simp only[bAt,bIe,List.isEmpty_iff]at hm;obtain⟨⟨rfl,h1⟩,h2⟩:=hm;have hp:parts= #[]:=by rw[<-aTt (xs:=parts),h1]
  subst hp;obtain⟨v,hv,rfl⟩:=qK0 (by rfl) hs;cases hv;exact qk1 hf hop (QF hd) h2
 case h_13 T hop=>exact qk3 hf hop (QF hd) hs
 case h_14 p k x T y j z hop=>
  simp only[bAt]at hm;obtain⟨⟨⟨⟨h1,h2⟩,h3⟩,h4⟩,h5⟩:=hm;exact qGA hf (.inl hop) (by simpa using h1) h2 h3 h4 h5 hs
 case h_15 p k x T y j z hop=>
  simp only[bAt]at hm;obtain⟨⟨⟨⟨h1,h2⟩,h3⟩,h4⟩,h5⟩:=hm;exact qGA hf (.inr hop) (by simpa using h1) h2 h3 h4 h5 hs
 case h_16=>
  rw[bAt]at hm;obtain⟨v,hv,rfl⟩:=qK0 hm.1 hs;exact qq4 hf hA hm.2 (by
   refine QF ?_;split at hd
   ·cases hm.1
   ·cases hm.1
   ·exact hd) hv
end
structure jP where
 i:Nat
 d:Nat
 t:Nat
 off:Nat
 g:Option (Nat×Bool)
def QO(ns:List jP):AMap:=ns.map λe=>(e.d,e.t,e.off)
theorem qED:∀{ns:List jP}{d t off:Nat},(QO ns).look d=some (t,off)->∃e∈ns,e.d=d/\e.t=t/\e.off=off
 |[],_,_,_,h=>by cases h
 | e::ns,d,t,off,h=>by
  simp only[QO,lMc,AMap.look]at h;split at h
  ·rename_i hd;simp only[oSi,Prod.mk.injEq]at h;exact⟨e,lMs,hd,h.1,h.2⟩
  ·obtain⟨e',h1,h2⟩:=qED (ns:=ns) h;exact⟨e',mCm _ h1,h2⟩
def NopInv(ns:List jP)(dn:Nat->Prop)(st:St)(a:Act):Prop:=
 ∀e∈ns,dn e.i->zM st.s e.g=some true->∀c,lk st.l e.t=some c->∃b,a.tmps[e.t]?=some (.pointer (some ⟨b,0,none⟩))/\a.tmps.getD e.d undef=.pointer (some ⟨b,e.off,none⟩)
def touch(c:qC)(e:jP):Bool:=match c.d with
 | some d=>d==e.d || d==e.t || (match e.g with
  | some (g,_)=>d==g
  | none=>false)
 | none=>false
def dEq:Option Nat->Option Nat->Bool
 | none,none=>true
 | some a,some b=>a==b
 | _,_=>false
theorem qF6{a b:Option Nat}(h:dEq a b=true):a=b:=by cases a<;>cases b<;>simp_all[dEq]
def Xh(L:List Nat)(n:Nat)(ops:Array Oper):Option (Nat×Bool)->Option (Nat×Bool)->Bool
 | none,none=>true
 | some (d,b),some (j,b')=>b==b'&&decide (d<n)&& !mem L d&&(match ops[j]? with
  | some o=>dEq o.dst (some d)
  | none=>false)
 | _,_=>false
def WU:AOp->Bool
 |.lalloc _ |.lbox _ _=>true
 | _=>false
def mDst(L:List Nat)(n:Nat)(o:Oper):Bool:=match o.dst with
 | some d=>decide (d<n)&& !mem L d
 | none=>true
def Wh(S:qV)(L:List Nat)(ns:List jP)(o:Oper):Option (Nat×Nat):=match o.op with
 |.fieldAddr T y i=>(match wZ L (QO ns) y,S.T T with
  | some (t,off),some ⟨.struct fs,_,_,_⟩=>(match JJ S fs i with
   | some (fo,z)=>if z=0 then none else some (t,off+fo)
   | none=>none)
  | _,_=>none)
 |.indexAddr T y (.const (.int _ x))=>(match wZ L (QO ns) y,S.T T with
  | some (t,off),some ⟨.arr k e,_,_,_⟩=>(match jJ S e with
   | some z=>if 0<=x/\x<(k:Int)then some (t,off+x.toNat*z)else none
   | none=>none)
  | _,_=>none)
 | _=>none
def WW:AOp->Bool
 |.nop _=>true
 | _=>false
def ZA(S:qV)(L:List Nat)(n:Nat)(ns:List jP)(c:qC)(o:Oper):Bool:=match c.o with
 |.nop t=>(match Wh S L ns o with
  | some (t',_)=>t==t'
  | none=>false)
 |.call g args=>(match o.op with
  |.call ⟨.value (.func f),args',_⟩=>S.N.f g==f&&Q9 S.N L args args'.toList
  | _=>false)
 |.callv x args=>(match o.op with
  |.call ⟨.value y,args',_⟩=>mAo S.N L x y&&Q9 S.N L args args'.toList
  | _=>false)
 |.panic x=>(match o.op with
  |.panic y=>mAo S.N L x y
  | _=>false)
 | _=>Xi S L n (QO ns) c.o o
def VE(S:qV)(L:List Nat)(ns:List jP)(c:qC)(o:Oper)(e:jP):Bool:= !(e.i==c.i) || (WW c.o&&gEq e.g c.g&&(match Wh S L ns o with
 | some (t,off)=>e.t==t&&e.off==off
 | none=>false)&&(match o.dst with
 | some d=>e.d==d&& !(e.t==d)&&(match c.g with
  | some (g,_)=> !(g==d)
  | none=>true)
 | none=>false))
def mUse(ns:List jP)(c:qC)(o:Oper):Bool:=o.op.operands.toList.all λy=>match y with
 |.tmp d=>ns.all λe=> !(e.d==d) || (e.g.isNone || gEq e.g c.g)
 | _=>true
def ZC(S:qV)(L:List Nat)(n:Nat)(ns:List jP)(ops:Array Oper)(c:qC):Bool:=match ops[c.i]? with
 | none=>false
 | some o=>dEq c.d o.dst&&Xh L n ops c.g o.guard&&(c.g.isNone || !WU c.o)&&(WU c.o || mDst L n o)&&ZA S L n ns c o&&ns.all (VE S L ns c o)&&mUse ns c o
def YF(ns:List jP)(o:Oper)(dn:Nat->Prop):Prop:=∀d,Operand.tmp d∈o.op.operands.toList->∀e∈ns,e.d=d->dn e.i
variable {Γ:Nat->Option AFn} {kk:Nat}
def ZW(S:qV)(Γ:Nat->Option AFn)(k:Nat):Prop:=
 ∀g as h r h',Ex Γ k (.call g as h) (.res r h')->∀m w (vs:Array Value),HR S.N m h w->VRs S.N m as vs.toList->
  Calls S.P (S.N.f g) vs w λe w'=>∃m',Fr w.heap.size m h w m' h' w'/\HR S.N m' h' w'/\(match r with
   |.ok v=>∃u,e=.returned u/\VR S.N m' v u
   |.pan v=>∃u,e=.panicked [{v:=u,recovered:=false}]/\VR S.N m' v u)
def QL(S:qV)(Γ:Nat->Option AFn):Prop:=∀g,Γ g≠none->∀(args:Array Value)(w:World),(callFunc (S.N.f g) args).run S.P w=.ok (.enter (S.N.f g) args) w
theorem qFB{g:Nat}{as:List AV}{h:AH}{r:UO}{h':AH}(hx:Ex Γ kk (.call g as h) (.res r h')):Γ g≠none:=by
 have key:∀k j o,Ex Γ k j o->∀g as h,j=.call g as h->Γ g≠none:=by
  intro k j o hx
  induction hx with
  | fn hg=>rintro g as h ⟨⟩;rw[hg];simp
  | fnP hg=>rintro g as h ⟨⟩;rw[hg];simp
  | ext hg=>rintro g as h ⟨⟩;rw[hg];simp
  | frzA K hK hl hc hx ih=>rintro g as h ⟨⟩;exact ih _ _ _ rfl
  | frzR K hK hc hx ih=>rintro g as h ⟨⟩;exact ih _ _ _ rfl
  | drop hh ht hx ih=>rintro g as h ⟨⟩;exact ih _ _ _ rfl
  | brw K hK hl hc ht hx ih=>rintro g as h ⟨⟩;exact ih _ _ _ rfl
  | nilc id hid hh1 hh2 ht hx1 hx2 ih1 ih2=>rintro g as h ⟨⟩;exact ih1 _ _ _ rfl
  | brn K S hK hl hc hv hn hx ih=>rintro g as h ⟨⟩;exact ih _ _ _ rfl
  | trim n ho hx ih=>rintro g as h ⟨⟩;exact ih _ _ _ rfl
  | _=>rintro g as h ⟨⟩
 exact key _ _ _ hx _ _ _ rfl
section
variable {S:qV} {m:Mp} {L:List Nat} {n B:Nat} {ns:List jP} {ops:Array Oper} {st st':St} {a:Act} {w:World}
theorem V6{c:qC}{o:Oper}(hf:FR S m L n B st a w)(hm:Xh L n ops c.g o.guard=true){t:Bool}(hw:zM st.s c.g=some t):Region.wanted o (yielded ops a.tmps)=t:=by
 cases hg:c.g with
 | none=>
  rw[hg]at hm hw;cases ho:o.guard with
  | none=>simp only[zM,oSi]at hw;simp[Region.wanted,ho,hw]
  | some _=>rw[ho]at hm;simp[Xh]at hm
 | some q=>
  obtain⟨d,b⟩:=q;rw[hg]at hm hw;cases ho:o.guard with
  | none=>rw[ho]at hm;simp[Xh]at hm
  | some q'=>
   obtain⟨j,b'⟩:=q';rw[ho]at hm;simp only[Xh,bAt,bIe,dTe,bNt]at hm;obtain⟨⟨⟨rfl,hd⟩,hL⟩,hj⟩:=hm;cases hoj:ops[j]? with
   | none=>simp[hoj]at hj
   | some oj=>
    simp only[hoj]at hj;have hdj:=qF6 hj;have hlt:d<a.tmps.size:=by rw[hf.size];exact hd
    simp only[zM]at hw;have hsl:=hf.slots d;have hget:a.tmps[d]?=some (a.tmps.getD d undef):=by
     rw[aGe hlt];simp[Array.getD,hlt]
    split at hw
    ·rename_i c' hlk;simp only[oSi]at hw;have:=(hsl _ hlk (Wd.1 hL)).bool_eq;rw[this]at hget;simp[Region.wanted,ho,yielded,hoj,hdj,hget,hw]
    ·rename_i hlk;simp only[oSi]at hw;have hv:=hsl _ hlk (Wd.1 hL);simp only[VR,VRs]at hv;obtain⟨vs,hv,_⟩:=hv;rw[hv]at hget;simp[Region.wanted,ho,yielded,hoj,hdj,hget,hw]
    ·cases hw
theorem qCW{d:Option Nat}{v:Value}{x:Nat}(h:d≠some x):(a.put d v).tmps[x]?=a.tmps[x]?:=by
 cases d with
 | none=>rfl
 | some d=>exact ZJ (by rintro rfl;exact h rfl)
theorem NopInv.next{dn:Nat->Prop}{c:qC}(hN:NopInv ns dn st a)(ht:∀e∈ns,dn e.i->touch c e=false){v:Value}{vw:Option AV}{lw:Option (Nat×AV)}{h':AH}
  (hl:∀t x,lw=some (t,x)->c.d=some t\/∃c0,lk st.l t=some c0):NopInv ns dn (qy c.d vw lw st h') (a.put c.d v):=by
 intro e he hd hw c0 hc0;have htc:=ht e he hd;have hne:c.d≠some e.d/\c.d≠some e.t/\∀g b,e.g=some (g,b)->c.d≠some g:=by
  unfold touch at htc;cases hcd:c.d with
  | none=>simp
  | some d=>
   rw[hcd]at htc;simp only[Bool.or_eq_false_iff,beq_eq_false_iff_ne]at htc;refine⟨by simpa using htc.1.1,by simpa using htc.1.2,λg b hg=>?_⟩;have:=htc.2;rw[hg]at this;simpa using this
 have hw':zM st.s e.g=some true:=by
  rw[<-hw];unfold qy;cases vw with
  | none=>rfl
  | some x=>
   cases hg:e.g with
   | none=>rfl
   | some q=>
    obtain⟨g,b⟩:=q;simp only[zM,qB1];rw[iN (hne.2.2 g b hg)]
 have hlk:∃c1,lk st.l e.t=some c1:=by
  unfold qy at hc0;cases lw with
  | none=>exact⟨c0,hc0⟩
  | some q=>
   obtain⟨t,x⟩:=q;simp only[wQ]at hc0;by_cases ht':t=e.t
   ·rcases hl t x rfl with h1 | h1
    ·exact absurd (ht'▸h1) hne.2.1
    ·rw[<-ht'];exact h1
   ·rw[iN ht']at hc0;exact⟨c0,hc0⟩
 obtain⟨c1,hlk⟩:=hlk;obtain⟨b,h1,h2⟩:=hN e he hd hw' c1 hlk;refine⟨b,by rw[qCW hne.2.1];exact h1, ?_⟩;rw[<-h2];simp only[Array.getD_eq_getD_getElem?];rw[qCW hne.1]
theorem qlC{d:Option Nat}{v:AV}{h:AH}:({st with h:=h}:St).put d v=qy d (some v) none st h:=rfl
theorem qqT{c:qC}(h:Step c.o c.d st st'):∃vw lw,st'=qy c.d vw lw st st'.h/\∀t x,lw=some (t,x)->c.d=some t\/∃c0,lk st.l t=some c0:=by
 obtain⟨vw,lw,e1,e2,_⟩:=qKZ h;refine⟨vw,lw,e1,λt x hx=>?_⟩;have:=e2 t x hx;unfold jd at this;cases ho:c.o<;>rw[ho]at this<;>simp only at this
 case lalloc z=>cases hd:c.d<;>simp[hd]at this;exact .inl (by rw[this])
 case lbox k y=>cases hd:c.d<;>simp[hd]at this;exact .inl (by rw[this])
 case lstore t' off k y=>
  rw[ho]at h;obtain⟨q,_,_,h1,_⟩:=h;simp only[oSi,Prod.mk.injEq,and_true]at this;exact .inr ⟨q,by rw[<-this];exact h1⟩
 all_goals simp at this
theorem Vm{o:Oper}{f:FuncId}{y:Operand}{args:Array Operand}{ts:Array TypeId}{cap:Array Value}(ho:o.op=.call ⟨.value y,args,ts⟩)(hy:a.eval y=.func (.func f) #[] cap)
  (hk:∀(args:Array Value)(w:World),(callFunc f args).run S.P w=.ok (.enter f args) w):(execOp a.eval o).run S.P w=.ok (.enter f (args.map a.eval++cap)) w:=by
 unfold execOp;simp only[ho];simp only[resolve,hy,Deferred.ofValue,Sem.run_bind,Sem.run_pure,Result.andThen_ok,invoke,hk];simp
theorem qhW{dn:Nat->Prop}{c:qC}{o:Oper}(hN:NopInv ns dn st a)(hu:YF ns o dn)(hw:zM st.s c.g=some true)
  (hg:mUse ns c o=true):Z7 (QO ns) (λy=>y∈o.op.operands.toList) st.l a:=by
 intro d t off hd hlook c0 hc0;obtain⟨e,he,rfl,rfl,rfl⟩:=qED hlook;have h1:=lAt.1 hg _ hd;simp only at h1;have h2:=lAt.1 h1 e he;simp only[beq_self_eq_true,Bool.not_true,Bool.false_or,Bool.or_eq_true]at h2;have hw':zM st.s e.g=some true:=by
  rcases h2 with h2 | h2
  ·cases hg':e.g with
   | none=>rfl
   | some _=>rw[hg']at h2;cases h2
  ·rw[qBM h2];exact hw
 exact hN e he (hu _ hd e he rfl) hw' c0 hc0
theorem qB7{o:Oper}(h:mDst L n o=true):∀x,o.dst=some x->x<n/\x∉L:=QF h
theorem qoA{o:Oper}{t off:Nat}{c0:AV}(hf:FR S m L n B st a w)(hA:Z7 (QO ns) (λy=>y∈o.op.operands.toList) st.l a)(hn:Wh S L ns o=some (t,off))(hc:lk st.l t=some c0):
  ∃b,a.tmps[t]?=some (.pointer (some ⟨b,0,none⟩))/\(execOp a.eval o).run S.P w=.ok (.value (.pointer (some ⟨b,off,none⟩))) w:=by
 have key:∀y off0,y∈o.op.operands.toList->wZ L (QO ns) y=some (t,off0)->∃b,a.tmps[t]?=some (.pointer (some ⟨b,0,none⟩))/\a.eval y=.pointer (some ⟨b,off0,none⟩):=by
  intro y off0 hy ha;obtain⟨_,b,h1,_⟩:=hf.locs t c0 hc;refine⟨b,h1, ?_⟩;cases y with
  | tmp q=>
   simp only[wZ]at ha;split at ha
   ·simp only[oSi,Prod.mk.injEq]at ha;obtain⟨rfl,rfl⟩:=ha;simp[Act.eval,h1]
   ·obtain⟨b',h5,h6⟩:=hA q t off0 hy ha c0 hc;rw[h1]at h5;simp only[oSi,Value.pointer.injEq,Addr.mk.injEq,and_true]at h5;subst h5;exact h6
  | _=>simp[wZ]at ha
 unfold Wh at hn;split at hn
 ·rename_i T y i hop;split at hn
  ·rename_i t' off' fs sz bs z ha hT;split at hn
   ·rename_i fo zz hfo;split at hn
    ·cases hn
    ·rename_i hz;simp only[oSi,Prod.mk.injEq]at hn;obtain⟨rfl,rfl⟩:=hn;obtain⟨b,h1,h2⟩:=key y off' (by rw[hop];simp[Op.operands]) ha;refine⟨b,h1, ?_⟩;obtain⟨d,hd,hk⟩:=qV.kind (S:=S) (w:=w) hT rfl;cases d<;>simp only[zn,bFt]at hk;rename_i gs;obtain⟨g,hg,hgo,hgs⟩:=Yt hk hfo;have hg':gs[i]?=some g:=by simpa using hg
     have hz':(sizeOf g.type).run S.P w=.ok zz w:=hgs w;unfold execOp;simp only[hop];rw[h2];refine X0 Next.value ?_;unfold Instr.fieldAt Instr.sureAddr fieldPlace;simp only[Sem.run_bind,hd,Result.andThen_ok,hg'];simp[hz',hz,wo,hgo]
   ·cases hn
  ·cases hn
 ·rename_i T y k x hop;split at hn
  ·rename_i t' off' kk e sz bs z ha hT;split at hn
   ·rename_i zz hzz;split at hn
    ·rename_i hx;simp only[oSi,Prod.mk.injEq]at hn;obtain⟨rfl,rfl⟩:=hn;obtain⟨b,h1,h2⟩:=key y off' (by rw[hop];simp[Op.operands]) ha;refine⟨b,h1, ?_⟩;obtain⟨d,hd,hk⟩:=qV.kind (S:=S) (w:=w) hT rfl;cases d<;>simp only[zn,bFt,bAt,bIe]at hk;obtain⟨rfl,rfl⟩:=hk;cases hTe:S.T e with
     | none=>simp[jJ,hTe]at hzz
     | some ie=>
      simp only[jJ,hTe,oMs,oSi]at hzz;unfold execOp;simp only[hop];rw[h2];refine X0 Next.value ?_;unfold Instr.indexAt;simp only[asIntOf,Instr.sureAddr,Sem.run_bind,Sem.run_pure,hd,Result.andThen_ok,Act.eval,iP hx,qV.size hTe,wo,hzz]
    ·cases hn
   ·cases hn
  ·cases hn
 ·cases hn
set_option maxHeartbeats 1000000 in
theorem qI7(_hG:GOK Γ)(hK:QL S Γ)(hcs:ZW S Γ kk){c:qC}{o:Oper}{dn:Nat->Prop}{Q:Exit->Act->World->Prop}{K:Act->World->Prop}(hf:FR S m L n B st a w)(hN:NopInv ns dn st a)(ho:ops[c.i]?=some o)(hm:ZC S L n ns ops c=true)
  (hu:YF ns o dn) (ht:∀e∈ns,dn e.i->touch c e=false) (hs:St0 Γ kk c st st')
  (hk:∀a' w' m',FR S m' L n B st' a' w'->NopInv ns (λi=>dn i\/i=c.i) st' a'->Fr B m st.h w m' st'.h w'->K a' w'):wpOp S.P ops Q c.i K a w:=by
 unfold ZC at hm;simp only[ho,bAt]at hm;obtain⟨⟨⟨⟨⟨⟨hd,hg⟩,hgl⟩,hds⟩,hop⟩,hent⟩,huse⟩:=hm;have hdd:=qF6 hd;unfold wpOp;simp only[ho]
 --the invariant of the addresses,where the operation is no address itself
 have hext:∀{s2:St}{a2:Act},NopInv ns dn s2 a2->WW c.o=false->NopInv ns (λi=>dn i\/i=c.i) s2 a2:=by
  intro s2 a2 h1 h2 e he hdn;rcases hdn with hdn | hdn
  ·exact h1 e he hdn
  ·have:=lAt.1 hent e he;simp[VE,hdn,h2]at this
 rcases hs with⟨hw,rfl⟩ | ⟨hw,hs | ⟨g,as,v,h',hce,hx,rfl⟩⟩
 ·--passed over
  rw[V6 hf hg hw];simp only[bFt,if_false];have hgs:c.g.isNone=false:=by
   cases hcg:c.g with
   | none=>rw[hcg]at hw;simp[zM]at hw
   | some _=>rfl
  have hnl:WU c.o=false:=by simpa[hgs]using hgl
  have hdst:=qB7 (by simpa[hnl]using hds);have hf':=hf.next (d:=o.dst) (av:=.undef) (v:=undef) hf.heap m.le_refl (nLr _) (λ_ _ _ hb=>⟨rfl,hb⟩) (by simp only[VR,VRs];exact⟨#[],rfl,rfl⟩) hdst;refine hk _ _ m (by rw[hdd];exact hf') ?_ (Fr.refl _ _ _ _);have h1:NopInv ns dn (st.put c.d .undef) (a.put o.dst undef):=by
   rw[<-hdd];exact hN.next (v:=undef) (vw:=some .undef) (lw:=none) (h':=st.h) ht nofun
  intro e he hdn hwe;rcases hdn with hdn | hdn
  ·exact h1 e he hdn hwe
  ·exfalso;have hq:=lAt.1 hent e he;simp only[VE,hdn,beq_self_eq_true,Bool.not_true,Bool.false_or,bAt]at hq;have hge:=qBM hq.1.1.2;rw[hge]at hwe;cases hod:o.dst with
   | none=>rw[hod]at hq;simp at hq
   | some d=>
    rw[hod]at hq;simp only[bAt]at hq;cases hcg:c.g with
    | none=>rw[hcg]at hw;simp[zM]at hw
    | some q=>
     obtain⟨g,b⟩:=q;rw[hcg]at hq hw hwe;simp only[bNt,beq_eq_false_iff_ne]at hq;simp only[zM,St.put,hdd,hod,qB1]at hwe hw;rw[iN (by simpa using Ne.symm hq.2.2)]at hwe;rw[hwe]at hw;cases hw
 ·rw[V6 hf hg hw];simp only[if_true];refine .inl ?_;have hA:=qhW hN hu hw huse;by_cases hnop:WW c.o=true
  ·--an address
   have hco:∃t,c.o=.nop t:=by cases hc:c.o<;>rw[hc]at hnop<;>first | exact⟨_,rfl⟩ | cases hnop
   obtain⟨t,hco⟩:=hco;rw[hco]at hs;obtain⟨v,hv,rfl⟩:=hs;simp only[val,oMi]at hv;obtain⟨c0,hc0,rfl⟩:=hv;have hdst:=qB7 (by simpa[hco,WU]using hds);unfold ZA at hop;rw[hco]at hop;simp only at hop;cases hnv:Wh S L ns o with
   | none=>rw[hnv]at hop;cases hop
   | some q=>
   obtain⟨t',off⟩:=q;rw[hnv]at hop;simp only[bIe]at hop;subst hop;obtain⟨b,hb,hrun⟩:=qoA hf hA hnv hc0;unfold Oper.wp;rw[hrun];show K (a.put o.dst _) w;have hf':=hf.next (d:=o.dst) (av:=.any) (v:=.pointer (some ⟨b,off,none⟩)) hf.heap m.le_refl (nLr _) (λ_ _ _ hb=>⟨rfl,hb⟩) (by simp only[VR]) hdst;refine hk _ _ m (by rw[hdd];exact hf') ?_ (Fr.refl _ _ _ _);have h1:NopInv ns dn (st.put c.d .any) (a.put o.dst (.pointer (some ⟨b,off,none⟩))):=by
    rw[<-hdd];exact hN.next (vw:=some .any) (lw:=none) (h':=st.h) ht nofun
   intro e he hdn hwe c1 hc1;rcases hdn with hdn | hdn
   ·exact h1 e he hdn hwe c1 hc1
   ·have hq:=lAt.1 hent e he;simp only[VE,hdn,beq_self_eq_true,Bool.not_true,Bool.false_or,bAt,hnv,bIe]at hq;obtain⟨⟨_,hqt,hqo⟩,hq⟩:=hq;cases hod:o.dst with
    | none=>rw[hod]at hq;simp at hq
    | some d=>
     rw[hod]at hq;simp only[bAt,bIe,bNt,beq_eq_false_iff_ne]at hq;have hdn2:=(hdst d hod).1;refine⟨b, ?_, ?_⟩
     ·rw[qCW (by simpa using Ne.symm hq.1.2),hqt];exact hb
     ·rw[hq.1.1,qCV,iP ⟨rfl,by rw[hf.size];exact hdn2⟩,hqo]
  ·have hnop':WW c.o=false:=by simpa using hnop
   have hms:Xi S L n (QO ns) c.o o=true:=by
    unfold ZA at hop;cases hc:c.o<;>rw[hc]at hop hs hnop'<;>first
     | exact hop
     | (cases hnop';done)
     | exact hs.elim
   have hsd:=hs;rw[hdd]at hsd;obtain⟨v,w',m',hrun,hf',hfr⟩:=qqS hf hA hms hsd;have hgo:K (a.put o.dst v) w':=by
    refine hk _ _ m' hf' (hext ?_ hnop') hfr;obtain⟨vw,lw,e1,e2⟩:=qqT hs;rw[e1,<-hdd];exact hN.next ht e2
   unfold Oper.wp;rcases hrun with hrun | ⟨hrun,rfl⟩
   ·rw[hrun];exact hgo
   ·rw[hrun];exact hgo
 ·rw[V6 hf hg hw];simp only[if_true];refine .inl ?_;have hnop':WW c.o=false/\WU c.o=false:=by
   cases hc:c.o<;>rw[hc]at hce<;>simp only[jD]at hce<;>first | exact⟨rfl,rfl⟩ | cases hce
  have hdst:=qB7 (by simpa[hnop'.2]using hds);have hgk:=hK g (qFB hx);have hrun:∃vs:Array Value,(execOp a.eval o).run S.P w=.ok (.enter (S.N.f g) vs) w/\VRs S.N m as vs.toList:=by
   unfold ZA at hop;cases hc:c.o<;>rw[hc]at hce hop<;>simp only[jD]at hce<;>try (cases hce;done)
   case call g' args=>
    simp only[oMi,Prod.mk.injEq]at hce;obtain⟨as',hev,rfl,rfl⟩:=hce;simp only at hop;split at hop
    ·rename_i f args' ts hop';simp only[bAt,bIe]at hop;obtain⟨rfl,hma⟩:=hop;refine⟨_,Vm hop' rfl hgk, ?_⟩;have:=Wb hma hf.slots hev;simpa using this
    ·cases hop
   case callv x args=>
    split at hce
    ·rename_i g' cs as' he1 he2;simp only[oSi,Prod.mk.injEq]at hce;obtain⟨rfl,rfl⟩:=hce;simp only at hop;split at hop
     ·rename_i y args' ts hop';simp only[bAt]at hop;have hv:=qw (a:=a) hop.1 hf.slots he1;simp only[VR]at hv;obtain⟨vs,hv,hvs⟩:=hv;refine⟨_,Vm hop' hv hgk, ?_⟩;have:=(Wb hop.2 hf.slots he2).append hvs;simpa using this
     ·cases hop
    ·cases hce
  obtain⟨vs,hrun,hvs⟩:=hrun;unfold Oper.wp;rw[hrun];refine Calls.mono (hcs g as st.h (.ok v) h' hx m w vs hf.heap hvs) ?_;rintro e w' ⟨m',hfr,hH,u,rfl,hu⟩;show K (a.put o.dst u) w';have hf':=hf.next (d:=o.dst) (av:=v) (v:=u) hH hfr.le hfr.size (λb _ hlt hfree=>⟨(hfr.keep b hlt hfree.still).1,hfr.free b hlt hfree⟩) hu hdst;refine hk _ _ m' (by rw[hdd];exact hf') (hext ?_ hnop'.1) (hfr.mono hf.base);rw[<-hdd,qlC];exact hN.next (v:=u) ht nofun
end
end Go.Ab
