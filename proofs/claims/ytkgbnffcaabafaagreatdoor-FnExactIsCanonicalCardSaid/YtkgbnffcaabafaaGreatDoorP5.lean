/- Texts AbV .. AbM: the abstract machine, its laws and contracts of functions: lemmas for the statement. No condition. -/
import Derived.Test.YtkgbnffcaabafaaGreatDoorP4
set_option linter.unusedSimpArgs false
set_option linter.unusedVariables false
namespace Go.Ab
open Go
theorem qWO{μ:List (Option Nat)}{h:List qC}:∀{r:List (Option Nat)}{a b:List qC},jT μ h r (a++b)->jT μ h (r.take a.length) a/\jT μ h (r.drop a.length) b
 | r,[],b,k=>⟨by simp;trivial,by simpa using k⟩
 |[],o::a,b,k=>k.elim
 | j::r,o::a,b,k=>by
  have:=qWO (r:=r) (a:=a) (b:=b) k.2;exact⟨⟨k.1,this.1⟩,this.2⟩
theorem kA:∀{l:List (Option Nat)}{n:Nat},zk l=true->zk (l.take n)=true
 |[],_,_=>by simp[zk]
 | _::_,0,_=>by simp[zk]
 | none::l,n+1,h=>by
  simp only[List.take_succ_cons,zk]at h|-;exact kA h
 | some j::l,n+1,h=>by
  simp only[List.take_succ_cons,zk,bAt,lAt]at h|-;exact⟨fun x hx=>h.1 x (List.mem_of_mem_take hx),kA h.2⟩
theorem K8:∀{l:List (Option Nat)}{n:Nat},zk l=true->zk (l.drop n)=true
 |[],_,_=>by simp[zk]
 | _::_,0,h=>by simpa using h
 | none::l,n+1,h=>by
  simp only[List.drop_succ_cons,zk]at h|-;exact K8 h
 | some j::l,n+1,h=>by
  simp only[List.drop_succ_cons,zk,bAt]at h|-;exact K8 h.2
section
variable {S:List (Option Nat)} {h h':List qC} {v t:AV} {vs ts:List AV}
theorem zT.uncons(x:zT S h (v::vs) (t::ts)):∃S1 S2,S=S1++S2/\qu S1 h v t/\zT S2 h vs ts:=by
 have l:=x.len;simp only[AV.rowss]at l;have hp:=x.p;simp only[AV.pls,bAt]at hp;have ho:=x.o;simp only[qZ]at ho;obtain⟨o1,o2⟩:=qWO ho;rw[zd]at o1 o2;rw[nZa]at o2;have hv:=x.v;simp only[qZ]at hv;obtain⟨v1,v2⟩:=hv.hd;rw[zd,nZa]at v2;have m1:∀i,i<t.rows->(S.take t.rows)[0+i]?=S[0+i]?:=fun i hi=>by
  rw[nZa,gTk,if_pos hi]
 have m2:∀i,i<AV.rowss ts->(S.drop t.rows)[0+i]?=S[t.rows+i]?:=fun i hi=>by
  rw[nZa,gDr]
 refine⟨S.take t.rows,S.drop t.rows,(List.take_append_drop _ _).symm,⟨hp.1,kA x.d,qeQ hp.1 m1 o1,VR2.move _ _ _ _ hp.1 m1 v1⟩,⟨hp.2,K8 x.d,YJ hp.2 m2 o2,VR2.moves _ _ _ _ hp.2 m2 v2⟩⟩
theorem VR2.scal{μ:List (Option Nat)}{a:AV}(x:VR2 μ v a)(ha:a.tree=true)(hn:∀w xs c,a≠.lst w xs c)(h1:∀cs,a≠.agg cs)(h2:∀cs,a≠.tup cs)(h3:∀g cs,a≠.fn g cs):v=a:=by
 cases x with
 | tree _=>rfl
 | ptr _=>simp[AV.tree]at ha
 | slice _=>simp[AV.tree]at ha
 | map _=>simp[AV.tree]at ha
 | ph _=>simp[AV.tree]at ha
 | ph2 _=>simp[AV.tree]at ha
 | nilL=>exact absurd rfl (hn _ _ _)
 | clip _=>exact absurd rfl (hn _ _ _)
 | agg _ _=>exact absurd rfl (h1 _)
 | fn _ _=>exact absurd rfl (h3 _ _)
 | tup _ _=>exact absurd rfl (h2 _)
theorem VR2.int{μ:List (Option Nat)}{k:IntKind}{n:Int}(x:VR2 μ v (.int k n)):v=.int k n:=x.scal rfl (by simp) (by simp) (by simp) (by simp)
theorem qu.int{k:IntKind}{n:Int}(x:qu S h v (.int k n)):v=.int k n/\S=[]:=by
 have:=x.v;simp only[lay]at this;have l:=x.len;simp only[AV.rows]at l;exact⟨this.int,lEz l⟩
end
section
variable {E:Ev} {ks:List Fr1} {Q:qS->VSt->Prop}
end
section
variable {Γ:Nat->Option AFn} {g:Nat} {vs vs':List AV} {h:List qC}
end
section
variable {E:Ev} {l:List qA} {ks:List Fr1} {s m:qf} {h:List qC} {Q:qS->VSt->Prop}
end
section
variable {Γ:Nat->Option AFn} {g:Nat} {vs:List AV} {h:List qC} {v:AV}
end
section
variable {E:Ev} {l:List qA} {ks:List Fr1} {s m:qf} {h:List qC} {Q:qS->VSt->Prop} {g e w id n:Nat} {as vs:List AV} {xs ys:List AV}
end
section
variable {E:Ev} {ks:List Fr1} {Q:qS->VSt->Prop}
end
section
variable {ns:List Nat}
end
section
variable {Γ:Nat->Option AFn} {g:Nat} {vs vs':List AV} {h:List qC} {K:AV->List qC->Prop}
end
section
variable {s s' m m':qf} {h h':List qC}
end
theorem qYL:∀{as bs:List AV},AV.trees (as++bs)=(AV.trees as&&AV.trees bs)
 |[],_=>by simp[AV.trees]
 | a::as,bs=>by simp[AV.trees,qYL (as:=as),Bool.and_assoc]
section
variable {Γ:Nat->Option AFn} {g:Nat} {v x y:AV} {j:Nat} {sh:Option Nat}
theorem Conv.subV{ρ:Ren}{hr:AH}{K:List Nat}{r:AV}(hp:x.part j sh=some y)(hy:0<y.cells.length)(h:RelV ρ (.ept x j) r):∃r',Conv hr K r r'/\RelV ρ (.ept y 0) r':=by
 simp only[RelV]at h;obtain⟨z,rfl,hz⟩:=h;obtain⟨u,h1,h2⟩:=hz.part hp;refine⟨.ept u 0,.sub h1 (by rw[h2.cellsLen];exact hy), ?_⟩;simp only[RelV];exact⟨u,rfl,h2⟩
theorem Pure.lk{as bs:List AV}(hx:x.tree=true)(hp:x.part j sh=some y)(hy:0<y.cells.length)(h:Pure Γ g (as++.ept y 0::bs) v):Pure Γ g (as++.ept x j::bs) v:=by
 unfold Pure at h|-;obtain⟨t1,t2,h⟩:=h;refine⟨?_,t2,fun hr ar har=> ?_⟩
 ·rw[qYL]at t1|-;simp only[AV.trees,AV.tree,bAt]at t1|-;exact⟨t1.1,hx,t1.2.2⟩
 ·obtain⟨as',br,rfl,ha,hb⟩:∃as' br,ar=as'++br/\RelVs ρ0 as as'/\RelVs ρ0 (.ept x j::bs) br:=⟨ar.take as.length,ar.drop as.length,(List.take_append_drop _ _).symm,by have:=har.take as.length;rwa[List.take_left]at this,by have:=har.drop as.length;rwa[List.drop_left]at this⟩;simp only[RelVs]at hb;obtain⟨r,bs',rfl,hr1,hb⟩:=hb;obtain⟨r',c1,c2⟩:=Conv.subV (hr:=hr) (K:=[]) hp hy hr1;obtain⟨k,w,hr',h1,h2,h3,h4⟩:=h (hr.kill []) (as'++r'::bs') (ha.append (by simp only[RelVs];exact⟨r',bs',rfl,c2,hb⟩));have e:(hr.kill []).f=hr.f:=by funext i;rfl
  refine⟨k,w,hr',.frzA [] (fun id hi=>by cases hi) (as':=as'++r'::bs') (by simp) (fun p hp=> ?_) h1,by rw[h2,e],fun a ha=>(AH.fr_kill (h3 a ha)).1,h4⟩;rw[List.zip_append (by rfl),List.zip_cons_cons]at hp;rcases ja.1 hp with q | q
  ·have:p.1=p.2:=by obtain⟨i,hi,rfl⟩:=List.getElem_of_mem q;simp
   rw[this];exact .refl _
  ·rcases List.mem_cons.1 q with rfl | q
   ·exact c1
   ·have:p.1=p.2:=by obtain⟨i,hi,rfl⟩:=List.getElem_of_mem q;simp
    rw[this];exact .refl _
theorem Pure.lk0{bs:List AV}(hx:x.tree=true)(hp:x.part j sh=some y)(hy:0<y.cells.length)(h:Pure Γ g (.ept y 0::bs) v):Pure Γ g (.ept x j::bs) v:=Pure.lk (as:=[]) hx hp hy h
end
section
variable {E:Ev} {ks:List Fr1} {s m:qf} {h:List qC} {st:VSt} {Q:qS->VSt->Prop} {x y z:Ao} {l:List qA} {i:Nat} {d:Option Nat} {v:AV} {g:Option (Nat×Bool)} {ck:List qA}
@[go_sem] theorem qjM:Go1 E (.mk i d g .mkmap ck) l ks ⟨s,m,h⟩ Q=wm E d (.map []) (.map h.length) l ks ⟨s,m,h⟩ Q:=by
 unfold Go1 jt ju;simp[qA.o,qA.d,AOp.isCall,qA.apC,AOp.isApp,wm,jW]
theorem qbS{id:Nat}{es:List (AV×AV)}(ho:h[id]?=some (.map es)):wK (toH h) (.map id)=some es:=by
 have:(toH h).f id=some (.map es):=ho;simp only[wK];show (match toH h id with | some (.map es)=>some es | _=>none)=some es;rw[show toH h id=some (.map es)from ho]
def lkuS(z:AV)(ok:Bool)(k:AV)(es:List (AV×AV)):Option AV:=match jB k es 0 with
 | some (some (_,v))=>some (if ok then .tup [v,.bool true]else v)
 | some none=>some (if ok then .tup [z,.bool false]else z)
 | none=>none
def X7(h:List qC)(z:AV)(ok:Bool)(a b:Option AV):Option AV:=match a,b with
 | some m,some k=>match wK (toH h) m with
  | some es=>lkuS z ok k es
  | none=>none
 | _,_=>none
@[go_sem] theorem qjH{z:AV}{ok:Bool}:Go1 E (.mk i d g (.looks z x y ok) ck) l ks ⟨s,m,h⟩ Q=Put E (X7 h z ok (ev (toE s) x) (ev (toE s) y)) d l ks ⟨s,m,h⟩ Q:=by
 rw[zo rfl fun _=>rfl];rfl
theorem qdZ{z k:AV}{ok:Bool}{id:Nat}{es:List (AV×AV)}(ho:h[id]?=some (.map es)):X7 h z ok (some (.map id)) (some k)=lkuS z ok k es:=by simp only[X7,qbS ho]
def XN(E:Ev)(a b c:Option AV)(l:List qA)(ks:List Fr1)(st:VSt)(Q:qS->VSt->Prop):Prop:=match a,b,c with
 | some (.map id),some k',some v'=>(match st.h[id]? with
  | some (.map es)=>(match jB k' es 0 with
   | some (some (i,_))=>R E (.ops l::ks) {st with h:=st.h.set id (.map (es.set i (k',v')))} Q
   | some none=>R E (.ops l::ks) {st with h:=st.h.set id (.map (es++[(k',v')]))} Q
   | none=>False)
  | _=>False)
 | _,_,_=>False
@[go_sem] theorem qjO:Go1 E (.mk i d g (.mupds x y z) ck) l ks ⟨s,m,h⟩ Q=XN E (ev (toE s) x) (ev (toE s) y) (ev (toE s) z) l ks ⟨s,m,h⟩ Q:=by
 unfold Go1 jt ju XN;simp only[qA.o,qA.d,AOp.isCall,qA.apC,AOp.isApp,Bool.false_and,bFt,if_false]
 all_goals rfl
theorem qd7{id:Nat}{es:List (AV×AV)}{k v:AV}(ho:h[id]?=some (.map es))(hf:jB k es 0=some none)(hr:R E (.ops l::ks) ⟨s,m,h.set id (.map (es++[(k,v)]))⟩ Q):XN E (some (.map id)) (some k) (some v) l ks ⟨s,m,h⟩ Q:=by
 simp only[XN,ho,hf];exact hr
end
theorem kJ{n:List UInt8}{v:List UInt8->AV}:∀{ks:List (List UInt8)}{i:Nat},n∉ks->jB (.str n) (ks.map fun k=>(AV.str k,v k)) i=some none
 |[],_,_=>rfl
 | k::ks,i,h=>by
  have h1:(n==k)=false:=by simpa using fun e:n=k=>h (e▸lMs)
  simp only[lMc,jB,JV,h1];exact kJ fun q=>h (List.mem_cons_of_mem _ q)
theorem qUP{n:List UInt8}{v:List UInt8->AV}:∀{ks:List (List UInt8)}{i:Nat},n∈ks->∃j,jB (.str n) (ks.map fun k=>(AV.str k,v k)) i=some (some (j,v n))
 | k::ks,i,h=>by
  by_cases e:n=k
  ·subst e;exact⟨i,by simp[jB,JV]⟩
  ·have h1:(n==k)=false:=by simpa using e
   simp only[lMc,jB,JV,h1];exact qUP (by simpa[e]using h)
end Go.Ab
