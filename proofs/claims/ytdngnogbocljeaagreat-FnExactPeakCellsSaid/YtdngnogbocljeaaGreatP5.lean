/- Texts AbI .. AbV: the abstract machine, its laws and contracts of functions: lemmas for the statement. No condition. -/
import Derived.Test.YtdngnogbocljeaaGreatP4
set_option linter.unusedSimpArgs false
set_option linter.unusedVariables false
namespace Go.Ab
open Go
section
variable {Γ:Nat->Option AFn} {g:Nat} {vs:List AV} {h:List qB}
def WU(res:List j4)(K:AV->List qB->Prop)(e:qf)(st:VSt):Prop:=(e=.nrm\/e=.ret)/\match jS (wY st) res with
 | some vs=>K (ja vs) st.h
 | none=>False
def XG(vs:Option (List AV))(h:List qB)(K:AV->List qB->Prop):Prop:=match vs with
 | some vs=>K (ja vs) h
 | none=>False
@[go_sem] theorem qsQ{res:List j4}{s m:qq}{K:AV->List qB->Prop}:WU res K .ret ⟨s,m,h⟩=XG (jS (wY ⟨s,m,h⟩) res) h K:=by
 simp[WU,XG];all_goals rfl
@[go_sem] theorem qsP{res:List j4}{s m:qq}{K:AV->List qB->Prop}:WU res K .nrm ⟨s,m,h⟩=XG (jS (wY ⟨s,m,h⟩) res) h K:=by
 simp[WU,XG];all_goals rfl
@[go_sem] theorem qrI{K:AV->List qB->Prop}:XG (some vs) h K=K (ja vs) h:=rfl
@[go_sem] theorem qwD{v:AV}:ja [v]=v:=rfl
@[go_sem] theorem qwE{v w:AV}{r:List AV}:ja (v::w::r)=.tup (v::w::r):=rfl
theorem SCall.run{F:qJ}{K:AV->List qB->Prop}(fz bp:List Nat)(hg:Γ g=some (.fn F))(hok:F.body.ok=true)(hn:vs.length=F.np)
  (hR:R ⟨Γ,h.length,fz,bp⟩ [.code F.body] ⟨qN 0 vs,[],h⟩ (WU F.res K)):SCall Γ g vs h K:=λρ hr ar hH hv=>by
 have hS:zX ρ ⟨qN 0 vs,[],h⟩ {s:=params 0 ar,l:=Env.empty,h:=hr}:=⟨Vf hv,(λn v h=>by cases h),hH⟩;obtain⟨k,e,sr',ρ',st',g1,⟨he,hq⟩,g3,g4,g5⟩:=Sem.of (by simpa only [lAc,List.all_nil,Bool.and_true,Fr1.ok]using hok) hR ρ _ hS (nLr _);have hb:Ex Γ k (.code F.body {s:=params 0 ar,l:=Env.empty,h:=hr}) (.st e sr'):=by
  cases g1 with
  | code h h'=>cases h';exact h
  | codeX h he' hx h'=>cases e<;>simp[exK]at hx
  | codeE h he' hx=>exact h
 split at hq
 ·rename_i us hus;obtain⟨rs,q1,q2⟩:=Vl g3 hus;have hx:=Ex.fn hg (by rw[hv.length];exact hn) hb he q1;exact⟨k+1,_,_,ρ',_,st'.h,hx,hq,g3.h,qCD q2,g4,g5⟩
 ·exact hq.elim
theorem SCall.cut{K:AV->List qB->Prop}(id n w:Nat)(hs:SCall Γ g vs h λv h'=>∃el,h'[id]?=some (.row w el true)/\K v (h'.set id (.row w (el.take n) true))):SCall Γ g vs h K:=λρ hr ar hH hv=>by
 obtain⟨k,r,hr',ρ',v,h',hx,⟨el,ho,hk⟩,g1,g2,g3,g4⟩:=hs ρ hr ar hH hv;rcases g1.obj _ _ ho with⟨q1,q2,_⟩ | ⟨a,el',q1,q2,q3⟩
 ·subst q2;rw[List.take_nil]at hk;have e:h'.set id (.row w [] true)=h':=List.ext_getElem? λi=>by
   rw[gSt];split
   ·rename_i e;subst e;split
    ·rw[ho]
    ·rename_i hn;rw[gEn (by omega)]
   ·rfl
  rw[e]at hk;exact⟨k,r,hr',ρ',v,h',hx,hk,g1,g2,g3,g4⟩
 ·refine⟨k,r,_,ρ',v,_,.trim n q2 hx,hk,g1.write q1 ho (by simp) (.inr ⟨a,_,q1,AH.upd_same _ _ _,q3.take n⟩),g2,g3.trans (Fm.write g1 q1),by rw[lLs];exact g4⟩
end
section
variable {E:Ev} {l:List qA} {ks:List Fr1} {s m:qq} {h:List qB} {Q:qf->VSt->Prop} {k e:Nat} {vs:List AV}
theorem X4{o:Option AV}{v:AV}(ho:o=some v)(hr:R E (.ops l::ks) ⟨(k,v)::s,m,h⟩ Q):Put E o (some k) l ks ⟨s,m,h⟩ Q:=by
 subst ho;rw[qgJ];exact hr
theorem qk(hp:SCall E.Γ k vs h λv h'=>R E (.ops l::ks) ⟨(e,v)::s,m,h'⟩ Q):we E (some (k,vs)) [] (some e) l ks ⟨s,m,h⟩ Q:=by
 unfold we;exact hp
theorem XS{c:qA}{r:List qA}(hp:SCall E.Γ k vs h λv h'=>ckVs ⟨(e,v)::s,m,h'⟩ (c::r)/\R E (.ops l::ks) ⟨(e,v)::s,m,h'⟩ Q):we E (some (k,vs)) (c::r) (some e) l ks ⟨s,m,h⟩ Q:=by
 unfold we;exact Or.inr hp
theorem SCall.mono{Γ:Nat->Option AFn}{g:Nat}{K K':AV->List qB->Prop}(hs:SCall Γ g vs h K)(hk:∀v h',K v h'->K' v h'):SCall Γ g vs h K':=λρ hr ar hH hv=>by
 obtain⟨k,r,hr',ρ',v,h',hx,q,g⟩:=hs ρ hr ar hH hv;exact⟨k,r,hr',ρ',v,h',hx,hk _ _ q,g⟩
end
section
variable {E:Ev} {ks:List Fr1} {Q:qf->VSt->Prop}
end
section
variable {Γ:Nat->Option AFn} {g:Nat} {vs vs':List AV} {h:List qB}
end
section
variable {E:Ev} {l:List qA} {ks:List Fr1} {s m:qq} {h:List qB} {Q:qf->VSt->Prop}
end
section
variable {Γ:Nat->Option AFn} {g:Nat} {vs:List AV} {h:List qB} {v:AV}
end
section
variable {E:Ev} {l:List qA} {ks:List Fr1} {s m:qq} {h:List qB} {Q:qf->VSt->Prop} {g e w id n:Nat} {as vs:List AV} {xs ys:List AV}
end
section
variable {E:Ev} {ks:List Fr1} {Q:qf->VSt->Prop}
end
section
variable {ns:List Nat}
end
section
variable {Γ:Nat->Option AFn} {g:Nat} {vs vs':List AV} {h:List qB} {K:AV->List qB->Prop}
end
section
variable {s s' m m':qq} {h h':List qB}
end
def GvS(H:List qB)(s s':qq):Prop:=∀n v',get s' n=some v'->∃v,get s n=some v/\(v=v'\/Cv H v v'/\v'.tree=true)
theorem GvS.nil{H:List qB}{s:qq}:GvS H s []:=λn v h=>by cases h
theorem GvS.same{H:List qB}{s s':qq}{n:Nat}{v:AV}(h:get s n=some v)(hs:GvS H s s'):GvS H s ((n,v)::s'):=λk u hu=>by
 rw[WV]at hu;split at hu
 ·rename_i e;subst e;cases hu;exact⟨_,h,.inl rfl⟩
 ·exact hs k u hu
theorem GvS.cons{H:List qB}{s s':qq}{n:Nat}{v v':AV}(h:get s n=some v)(hc:Cv H v v')(ht:v'.tree=true)(hs:GvS H s s'):GvS H s ((n,v')::s'):=λk u hu=>by
 rw[WV]at hu;split at hu
 ·rename_i e;subst e;cases hu;exact⟨_,h,.inr ⟨hc,ht⟩⟩
 ·exact hs k u hu
theorem zG.without{ρ:Ren}{h:List qB}{hr:AH}(hH:zG ρ h hr)(ids:List Nat):zG ρ (without ids h) (hr.kill (js ρ h ids)):=by
 refine⟨λi o hi=>?_,λi j a o o' q1 q2 hi hj d1 d2=>hH.inj i j a o o' q1 q2 (qDE hi d1).2 (qDE hj d2).2 d1 d2,λi hi=>hH.out i (by simpa[Go.Ab.without]using hi),λi a hi=>?_⟩
 ·by_cases hd:o=.dead
  ·subst hd;trivial
  ·obtain⟨q1,q2⟩:=qDE hi hd;refine(hH.obj i o q2).mono (λ_ _ q=>q) λa o' ha hq=>?_;rw[<-hq];show (hr.kill _) a=_;rw[AH.kill_at,if_neg];rw[lCm,J6];rintro⟨j,w,el,p1,p2,p3⟩;have:=hH.inj i j a _ _ ha p2 q2 p3 hd (by simp);subst this;have:ids.contains i=true:=by simpa using p1
   rw[this]at q1;cases q1
 ·obtain⟨o,ho⟩:=hH.is i a hi;show ∃o,(hr.kill _) a=some o;rw[AH.kill_at];split
  ·exact⟨_,rfl⟩
  ·exact⟨o,ho⟩
theorem Can.give{b:Nat}{s s' m m':qq}{h:List qB}(ids:List Nat)(h1:GvS (only ids h) s s')(h2:GvS (only ids h) m m'):Can b ⟨s,m,h⟩ ⟨s',m',without ids h⟩:=λρ sr hS hb=>by
 have hO:zG ρ (only ids h) sr.h:=⟨λi o hi=>by
   by_cases hd:o=.dead
   ·subst hd;trivial
   ·exact hS.h.obj i o (Vd hi hd).2,λi j a o o' h1 h2 hi hj d1 d2=>hS.h.inj i j a o o' h1 h2 (Vd hi d1).2 (Vd hj d2).2 d1 d2,
  λi hi=>hS.h.out i (by simpa[only]using hi),hS.h.is⟩
 have slot:∀{s s':qq}{e:Env},RelE ρ s e->GvS (only ids h) s s'->∀n v',get s' n=some v'->∃r',(∃v0,lk e n=some v0/\zE sr.h (js ρ h ids) v0 r')/\RelV ρ v' r':=by
  intro s s' e hE hg n v' hv;obtain⟨v,q1,q2⟩:=hg n v' hv;obtain⟨r,q3,q4⟩:=hE n v q1;rcases q2 with rfl | ⟨q2,q5⟩
  ·exact⟨r,⟨r,q3,.refl _⟩,q4⟩
  ·obtain⟨r',c1,c2⟩:=q2.conv hO (K:=js ρ h ids) (λi a w el ha ho=>by
    obtain⟨q1,q2⟩:=Vd ho (by simp);rw[lCm,J6];exact⟨i,w,el,by simpa using q1,ha,q2⟩) q4
   exact⟨r',⟨r,q3,c1⟩,Qp _ _ q5 c2⟩
 have env:∀{s s':qq}{e:Env},RelE ρ s e->GvS (only ids h) s s'->∃e':Env,(∀t v,lk e' t=some v->∃v0,lk e t=some v0/\zE sr.h (js ρ h ids) v0 v)/\RelE ρ s' e':=by
  intro s s' e hE hg;refine⟨λn=>match hq:get s' n with
   | some v'=>some (Classical.choose (slot hE hg n v' hq))
   | none=>none,λt v ht=>?_,λn v hv=>?_⟩
  ·simp only[lk]at ht;split at ht
   ·rename_i v' hq;simp only[oSi]at ht;subst ht;exact(Classical.choose_spec (slot hE hg t v' hq)).1
   ·cases ht
  ·refine⟨Classical.choose (slot hE hg n v hv), ?_,(Classical.choose_spec (slot hE hg n v hv)).2⟩;simp only[lk];split
   ·rename_i v' hq;have e:v'=v:=by rw[hq]at hv;exact Option.some.inj hv
    subst e;rfl
   ·rename_i hq;rw[hq]at hv;cases hv
 obtain⟨e1,f1,f2⟩:=env hS.s h1;obtain⟨e2,f3,f4⟩:=env hS.l h2;refine⟨{s:=e1,l:=e2,h:=sr.h.kill (js ρ h ids)},ρ,λΓ k c o hx=>.frz (js ρ h ids) ⟨hS.h.rows ids,f1,f3,rfl⟩ hx,⟨f2,f4,hS.h.without ids⟩,
  ⟨λa o q1 q2=>?_,λi a hi=>.inl ⟨i,hi⟩,λa ha=>(AH.fr_kill ha).1,λ_ _=>rfl⟩,by simpa[without]using hb⟩
 show (sr.h.kill _) a=_;rw[AH.kill_at,if_neg]
 ·exact q1
 ·rw[lCm,J6];rintro⟨j,w,el,p1,p2,p3⟩;exact q2 j p2
theorem qDF{ids:List Nat}{h:List qB}{j:Nat}(hj:j∉ids):(without ids h)[j]?=h[j]?:=by
 simp only[without,List.getElem?_mapIdx];cases h[j]? with
 | none=>rfl
 | some o=>simp[hj]
theorem qiC{ids:List Nat}{h:List qB}:(without ids h).length=h.length:=by simp[without]
theorem qfS{ids:List Nat}{h:List qB}{j:Nat}(hj:j∈ids):(only ids h)[j]?=h[j]?:=by
 simp only[only,List.getElem?_mapIdx];cases h[j]? with
 | none=>rfl
 | some o=>simp[hj]
theorem qhX:∀{as bs:List AV},AV.trees (as++bs)=(AV.trees as&&AV.trees bs)
 |[],_=>by simp[AV.trees]
 | a::as,bs=>by simp[AV.trees,qhX (as:=as),Bool.and_assoc]
section
variable {Γ:Nat->Option AFn} {g:Nat} {v x y:AV} {j:Nat} {sh:Option Nat}
theorem zE.subV{ρ:Ren}{hr:AH}{K:List Nat}{r:AV}(hp:x.part j sh=some y)(hy:0<y.cells.length)(h:RelV ρ (.ept x j) r):∃r',zE hr K r r'/\RelV ρ (.ept y 0) r':=by
 simp only[RelV]at h;obtain⟨z,rfl,hz⟩:=h;obtain⟨u,h1,h2⟩:=hz.part hp;refine⟨.ept u 0,.sub h1 (by rw[h2.cellsLen];exact hy), ?_⟩;simp only[RelV];exact⟨u,rfl,h2⟩
theorem Pure.lk{as bs:List AV}(hx:x.tree=true)(hp:x.part j sh=some y)(hy:0<y.cells.length)(h:Pure Γ g (as++.ept y 0::bs) v):Pure Γ g (as++.ept x j::bs) v:=by
 unfold Pure at h|-;obtain⟨t1,t2,h⟩:=h;refine⟨?_,t2,λhr ar har=>?_⟩
 ·rw[qhX]at t1|-;simp only[AV.trees,AV.tree,bAt]at t1|-;exact⟨t1.1,hx,t1.2.2⟩
 ·obtain⟨as',br,rfl,ha,hb⟩:∃as' br,ar=as'++br/\RelVs ρ0 as as'/\RelVs ρ0 (.ept x j::bs) br:=⟨ar.take as.length,ar.drop as.length,(List.take_append_drop _ _).symm,by have:=har.take as.length;rwa[List.take_left]at this,by have:=har.drop as.length;rwa[List.drop_left]at this⟩;simp only[RelVs]at hb;obtain⟨r,bs',rfl,hr1,hb⟩:=hb;obtain⟨r',c1,c2⟩:=zE.subV (hr:=hr) (K:=[]) hp hy hr1;obtain⟨k,w,hr',h1,h2,h3,h4⟩:=h (hr.kill []) (as'++r'::bs') (ha.append (by simp only[RelVs];exact⟨r',bs',rfl,c2,hb⟩));have e:(hr.kill []).f=hr.f:=by funext i;rfl
  refine⟨k,w,hr',.frzA [] (λid hi=>by cases hi) (as':=as'++r'::bs') (by simp) (λp hp=>?_) h1,by rw[h2,e],λa ha=>(AH.fr_kill (h3 a ha)).1,h4⟩;rw[List.zip_append (by rfl),List.zip_cons_cons]at hp;rcases jR.1 hp with q | q
  ·have:p.1=p.2:=by obtain⟨i,hi,rfl⟩:=List.getElem_of_mem q;simp
   rw[this];exact .refl _
  ·rcases List.mem_cons.1 q with rfl | q
   ·exact c1
   ·have:p.1=p.2:=by obtain⟨i,hi,rfl⟩:=List.getElem_of_mem q;simp
    rw[this];exact .refl _
theorem Pure.lk0{bs:List AV}(hx:x.tree=true)(hp:x.part j sh=some y)(hy:0<y.cells.length)(h:Pure Γ g (.ept y 0::bs) v):Pure Γ g (.ept x j::bs) v:=Pure.lk (as:=[]) hx hp hy h
theorem Pure.lk1{a:AV}{bs:List AV}(hx:x.tree=true)(hp:x.part j sh=some y)(hy:0<y.cells.length)(h:Pure Γ g (a::.ept y 0::bs) v):Pure Γ g (a::.ept x j::bs) v:=Pure.lk (as:=[a]) hx hp hy h
end
variable {Γ:Nat->Option AFn} {g:Nat} {vs:List AV} {h:List qB}
end Go.Ab
namespace Go.Ab
open Go
section
variable {E:Ev} {ks:List Fr1} {s m:qq} {h:List qB} {st:VSt} {Q:qf->VSt->Prop} {x y z:Ao} {l:List qA} {i:Nat} {d:Option Nat} {v:AV} {g:Option (Nat×Bool)} {ck:List qA}
end
section
variable {μ μ':List (Option Nat)} {h h':List qB}
end
section
variable {S S':List (Option Nat)} {h h':List qB} {v t:AV} {vs ts vs' ts':List AV}
end
section
variable {S0 S S1:List (Option Nat)} {cs0 ts0 vs ts:List AV} {w si:Nat} {g mid:List qB} {X t:AV}
end
section
variable {E:Ev} {ρ:Ren} {st:VSt} {sr:St}
end
section
variable {Γ:Nat->Option AFn} {g:Nat} {vs:List AV} {h:List qB}
end
section
variable {E:Ev} {l:List qA} {ks:List Fr1} {s m:qq} {h:List qB} {Q:qf->VSt->Prop} {k e:Nat} {vs:List AV} {v:AV}
end
section
variable {S:List (Option Nat)} {h h':List qB} {v t:AV} {vs ts:List AV}
end
end Go.Ab
