/- Texts AbI .. AbV: the abstract machine, its laws and contracts of functions: lemmas for the statement. No condition. -/
import Derived.Test.YtifmaamaodjfjaaGreatP3
set_option linter.unusedSimpArgs false
set_option linter.unusedVariables false
namespace Go.Ab
open Go
section
variable {Γ:Nat->Option AFn} {g:Nat} {vs:List AV} {h:List qA}
def WP(res:List jh)(K:AV->List qA->Prop)(e:qi)(st:VSt):Prop:=(e=.nrm\/e=.ret)/\match jM (wG st) res with
 | some vs=>K (jS vs) st.h
 | none=>False
def W6(vs:Option (List AV))(h:List qA)(K:AV->List qA->Prop):Prop:=match vs with
 | some vs=>K (jS vs) h
 | none=>False
@[go_sem] theorem qsO{res:List jh}{s m:qp}{K:AV->List qA->Prop}:WP res K .ret ⟨s,m,h⟩=W6 (jM (wG ⟨s,m,h⟩) res) h K:=by
 simp[WP,W6];all_goals rfl
@[go_sem] theorem qsN{res:List jh}{s m:qp}{K:AV->List qA->Prop}:WP res K .nrm ⟨s,m,h⟩=W6 (jM (wG ⟨s,m,h⟩) res) h K:=by
 simp[WP,W6];all_goals rfl
@[go_sem] theorem qrG{K:AV->List qA->Prop}:W6 (some vs) h K=K (jS vs) h:=rfl
@[go_sem] theorem qvB{v:AV}:jS [v]=v:=rfl
@[go_sem] theorem qvC{v w:AV}{r:List AV}:jS (v::w::r)=.tup (v::w::r):=rfl
theorem SCall.run{F:qJ}{K:AV->List qA->Prop}(fz bp:List Nat)(hg:Γ g=some (.fn F))(hok:F.body.ok=true)(hn:vs.length=F.np)
  (hR:R ⟨Γ,h.length,fz,bp⟩ [.code F.body] ⟨qM 0 vs,[],h⟩ (WP F.res K)):SCall Γ g vs h K:=λρ hr ar hH hv=>by
 have hS:zV ρ ⟨qM 0 vs,[],h⟩ {s:=params 0 ar,l:=Env.empty,h:=hr}:=⟨Vd hv,(λn v h=>by cases h),hH⟩;obtain⟨k,e,sr',ρ',st',g1,⟨he,hq⟩,g3,g4,g5⟩:=Sem.of (by simpa only [lAc,List.all_nil,Bool.and_true,Fr1.ok]using hok) hR ρ _ hS (nLr _);have hb:Ex Γ k (.code F.body {s:=params 0 ar,l:=Env.empty,h:=hr}) (.st e sr'):=by
  cases g1 with
  | code h h'=>cases h';exact h
  | codeX h he' hx h'=>cases e<;>simp[exK]at hx
  | codeE h he' hx=>exact h
 split at hq
 ·rename_i us hus;obtain⟨rs,q1,q2⟩:=Vl g3 hus;have hx:=Ex.fn hg (by rw[hv.length];exact hn) hb he q1;exact⟨k+1,_,_,ρ',_,st'.h,hx,hq,g3.h,qCM q2,g4,g5⟩
 ·exact hq.elim
theorem SCall.cut{K:AV->List qA->Prop}(id n w:Nat)(hs:SCall Γ g vs h λv h'=>∃el,h'[id]?=some (.row w el true)/\K v (h'.set id (.row w (el.take n) true))):SCall Γ g vs h K:=λρ hr ar hH hv=>by
 obtain⟨k,r,hr',ρ',v,h',hx,⟨el,ho,hk⟩,g1,g2,g3,g4⟩:=hs ρ hr ar hH hv;rcases g1.obj _ _ ho with⟨q1,q2,_⟩ | ⟨a,el',q1,q2,q3⟩
 ·subst q2;rw[List.take_nil]at hk;have e:h'.set id (.row w [] true)=h':=List.ext_getElem? λi=>by
   rw[gSt];split
   ·rename_i e;subst e;split
    ·rw[ho]
    ·rename_i hn;rw[gEn (by omega)]
   ·rfl
  rw[e]at hk;exact⟨k,r,hr',ρ',v,h',hx,hk,g1,g2,g3,g4⟩
 ·refine⟨k,r,_,ρ',v,_,.trim n q2 hx,hk,g1.write q1 ho (by simp) (.inr ⟨a,_,q1,AH.upd_same _ _ _,q3.take n⟩),g2,g3.trans (Fm.write g1 q1),by rw[lLs];exact g4⟩
end
section
variable {E:Ev} {l:List qC} {ks:List Fr1} {s m:qp} {h:List qA} {Q:qi->VSt->Prop} {k e:Nat} {vs:List AV}
theorem Wm{o:Option AV}{v:AV}(ho:o=some v)(hr:R E (.ops l::ks) ⟨(k,v)::s,m,h⟩ Q):Put E o (some k) l ks ⟨s,m,h⟩ Q:=by
 subst ho;rw[qJW];exact hr
theorem qj(hp:SCall E.Γ k vs h λv h'=>R E (.ops l::ks) ⟨(e,v)::s,m,h'⟩ Q):wJ E (some (k,vs)) [] (some e) l ks ⟨s,m,h⟩ Q:=by
 unfold wJ;exact hp
theorem XH{c:qC}{r:List qC}(hp:SCall E.Γ k vs h λv h'=>ckVs ⟨(e,v)::s,m,h'⟩ (c::r)/\R E (.ops l::ks) ⟨(e,v)::s,m,h'⟩ Q):wJ E (some (k,vs)) (c::r) (some e) l ks ⟨s,m,h⟩ Q:=by
 unfold wJ;exact Or.inr hp
theorem SCall.mono{Γ:Nat->Option AFn}{g:Nat}{K K':AV->List qA->Prop}(hs:SCall Γ g vs h K)(hk:∀v h',K v h'->K' v h'):SCall Γ g vs h K':=λρ hr ar hH hv=>by
 obtain⟨k,r,hr',ρ',v,h',hx,q,g⟩:=hs ρ hr ar hH hv;exact⟨k,r,hr',ρ',v,h',hx,hk _ _ q,g⟩
end
section
variable {E:Ev} {ks:List Fr1} {Q:qi->VSt->Prop}
end
section
variable {Γ:Nat->Option AFn} {g:Nat} {vs vs':List AV} {h:List qA}
end
section
variable {E:Ev} {l:List qC} {ks:List Fr1} {s m:qp} {h:List qA} {Q:qi->VSt->Prop}
end
section
variable {Γ:Nat->Option AFn} {g:Nat} {vs:List AV} {h:List qA} {v:AV}
end
section
variable {E:Ev} {l:List qC} {ks:List Fr1} {s m:qp} {h:List qA} {Q:qi->VSt->Prop} {g e w id n:Nat} {as vs:List AV} {xs ys:List AV}
end
section
variable {ns:List Nat}
end
section
variable {Γ:Nat->Option AFn} {g:Nat} {vs vs':List AV} {h:List qA} {K:AV->List qA->Prop}
end
section
variable {s s' m m':qp} {h h':List qA}
end
def GvS(H:List qA)(s s':qp):Prop:=∀n v',get s' n=some v'->∃v,get s n=some v/\(v=v'\/Cv H v v'/\v'.tree=true)
theorem GvS.nil{H:List qA}{s:qp}:GvS H s []:=λn v h=>by cases h
theorem GvS.same{H:List qA}{s s':qp}{n:Nat}{v:AV}(h:get s n=some v)(hs:GvS H s s'):GvS H s ((n,v)::s'):=λk u hu=>by
 rw[WQ]at hu;split at hu
 ·rename_i e;subst e;cases hu;exact⟨_,h,.inl rfl⟩
 ·exact hs k u hu
theorem GvS.cons{H:List qA}{s s':qp}{n:Nat}{v v':AV}(h:get s n=some v)(hc:Cv H v v')(ht:v'.tree=true)(hs:GvS H s s'):GvS H s ((n,v')::s'):=λk u hu=>by
 rw[WQ]at hu;split at hu
 ·rename_i e;subst e;cases hu;exact⟨_,h,.inr ⟨hc,ht⟩⟩
 ·exact hs k u hu
theorem zH.without{ρ:Ren}{h:List qA}{hr:AH}(hH:zH ρ h hr)(ids:List Nat):zH ρ (without ids h) (hr.kill (jU ρ h ids)):=by
 refine⟨λi o hi=>?_,λi j a o o' q1 q2 hi hj d1 d2=>hH.inj i j a o o' q1 q2 (qDI hi d1).2 (qDI hj d2).2 d1 d2,λi hi=>hH.out i (by simpa[Go.Ab.without]using hi),λi a hi=>?_⟩
 ·by_cases hd:o=.dead
  ·subst hd;trivial
  ·obtain⟨q1,q2⟩:=qDI hi hd;refine(hH.obj i o q2).mono (λ_ _ q=>q) λa o' ha hq=>?_;rw[<-hq];show (hr.kill _) a=_;rw[AH.kill_at,iN];rw[lCm,JS];rintro⟨j,w,el,p1,p2,p3⟩;have:=hH.inj i j a _ _ ha p2 q2 p3 hd (by simp);subst this;have:ids.contains i=true:=by simpa using p1
   rw[this]at q1;cases q1
 ·obtain⟨o,ho⟩:=hH.is i a hi;show ∃o,(hr.kill _) a=some o;rw[AH.kill_at];split
  ·exact⟨_,rfl⟩
  ·exact⟨o,ho⟩
theorem Can.give{b:Nat}{s s' m m':qp}{h:List qA}(ids:List Nat)(h1:GvS (only ids h) s s')(h2:GvS (only ids h) m m'):Can b ⟨s,m,h⟩ ⟨s',m',without ids h⟩:=λρ sr hS hb=>by
 have hO:zH ρ (only ids h) sr.h:=⟨λi o hi=>by
   by_cases hd:o=.dead
   ·subst hd;trivial
   ·exact hS.h.obj i o (ZG hi hd).2,λi j a o o' h1 h2 hi hj d1 d2=>hS.h.inj i j a o o' h1 h2 (ZG hi d1).2 (ZG hj d2).2 d1 d2,
  λi hi=>hS.h.out i (by simpa[only]using hi),hS.h.is⟩
 have slot:∀{s s':qp}{e:Env},RelE ρ s e->GvS (only ids h) s s'->∀n v',get s' n=some v'->∃r',(∃v0,lk e n=some v0/\zC sr.h (jU ρ h ids) v0 r')/\RelV ρ v' r':=by
  intro s s' e hE hg n v' hv;obtain⟨v,q1,q2⟩:=hg n v' hv;obtain⟨r,q3,q4⟩:=hE n v q1;rcases q2 with rfl | ⟨q2,q5⟩
  ·exact⟨r,⟨r,q3,.refl _⟩,q4⟩
  ·obtain⟨r',c1,c2⟩:=q2.conv hO (K:=jU ρ h ids) (λi a w el ha ho=>by
    obtain⟨q1,q2⟩:=ZG ho (by simp);rw[lCm,JS];exact⟨i,w,el,by simpa using q1,ha,q2⟩) q4
   exact⟨r',⟨r,q3,c1⟩,QI _ _ q5 c2⟩
 have env:∀{s s':qp}{e:Env},RelE ρ s e->GvS (only ids h) s s'->∃e':Env,(∀t v,lk e' t=some v->∃v0,lk e t=some v0/\zC sr.h (jU ρ h ids) v0 v)/\RelE ρ s' e':=by
  intro s s' e hE hg;refine⟨λn=>match hq:get s' n with
   | some v'=>some (Classical.choose (slot hE hg n v' hq))
   | none=>none,λt v ht=>?_,λn v hv=>?_⟩
  ·simp only[lk]at ht;split at ht
   ·rename_i v' hq;simp only[oSi]at ht;subst ht;exact(Classical.choose_spec (slot hE hg t v' hq)).1
   ·cases ht
  ·refine⟨Classical.choose (slot hE hg n v hv), ?_,(Classical.choose_spec (slot hE hg n v hv)).2⟩;simp only[lk];split
   ·rename_i v' hq;have e:v'=v:=by rw[hq]at hv;exact Option.some.inj hv
    subst e;rfl
   ·rename_i hq;rw[hq]at hv;cases hv
 obtain⟨e1,f1,f2⟩:=env hS.s h1;obtain⟨e2,f3,f4⟩:=env hS.l h2;refine⟨{s:=e1,l:=e2,h:=sr.h.kill (jU ρ h ids)},ρ,λΓ k c o hx=>.frz (jU ρ h ids) ⟨hS.h.rows ids,f1,f3,rfl⟩ hx,⟨f2,f4,hS.h.without ids⟩,
  ⟨λa o q1 q2=>?_,λi a hi=>.inl ⟨i,hi⟩,λa ha=>(AH.fr_kill ha).1,λ_ _=>rfl⟩,by simpa[without]using hb⟩
 show (sr.h.kill _) a=_;rw[AH.kill_at,iN]
 ·exact q1
 ·rw[lCm,JS];rintro⟨j,w,el,p1,p2,p3⟩;exact q2 j p2
theorem qDK{ids:List Nat}{h:List qA}{j:Nat}(hj:j∉ids):(without ids h)[j]?=h[j]?:=by
 simp only[without,List.getElem?_mapIdx];cases h[j]? with
 | none=>rfl
 | some o=>simp[hj]
theorem qDJ{ids:List Nat}{h:List qA}:(without ids h).length=h.length:=by simp[without]
theorem qI9{ids:List Nat}{h:List qA}{j:Nat}(hj:j∈ids):(only ids h)[j]?=h[j]?:=by
 simp only[only,List.getElem?_mapIdx];cases h[j]? with
 | none=>rfl
 | some o=>simp[hj]
inductive HCv(H:List qA):AV->AV->Prop
 | same (v:AV):HCv H v v
 | cv {v v':AV} (h:Cv H v v') (ht:v'.tree=true):HCv H v v'
 | agg {cs ds:List AV} (hl:cs.length=ds.length) (hc:∀p∈cs.zip ds,HCv H p.1 p.2):HCv H (.agg cs) (.agg ds)
theorem qA1{ρ:Ren}{hr:AH}{K:List Nat}:∀{cs ds rs:List AV},cs.length=ds.length->(∀p∈cs.zip ds,∀{r:AV},RelV ρ p.1 r->∃r',zC hr K r r'/\RelV ρ p.2 r')->RelVs ρ cs rs->
  ∃rs',rs.length=rs'.length/\(∀p∈rs.zip rs',zC hr K p.1 p.2)/\RelVs ρ ds rs'
 |[],ds,rs,hl,_,h=>by
  have:ds=[]:=lEz (by simpa using hl.symm);subst this;simp only[RelVs]at h;subst h;exact⟨[],rfl,λp hp=>by simp at hp,by simp only[RelVs]⟩
 | c::cs,[],_,hl,_,_=>by simp at hl
 | c::cs,d::ds,rs,hl,hi,h=>by
  simp only[RelVs]at h;obtain⟨r,rs,rfl,h1,h2⟩:=h;obtain⟨r',q1,q2⟩:=hi (c,d) (by simp) h1;obtain⟨rs',q3,q4,q5⟩:=qA1 (by simpa using hl) (λp hp=>hi p (by simp only[List.zip_cons_cons];exact mCm _ hp)) h2;refine⟨r'::rs',by simp[q3],λp hp=>?_,by simp only[RelVs];exact⟨r',rs',rfl,q2,q5⟩⟩;simp only[List.zip_cons_cons,mCo]at hp;rcases hp with rfl | hp
  ·exact q1
  ·exact q4 p hp
theorem HCv.conv{ρ:Ren}{H:List qA}{hr:AH}(hh:zH ρ H hr){K:List Nat}(hK:∀i a w el,ρ i=some (some a)->H[i]?=some (.row w el true)->K.contains a=true){v t:AV}(hc:HCv H v t):
  ∀{r:AV},RelV ρ v r->∃r',zC hr K r r'/\RelV ρ t r':=by
 induction hc with
 | same v=>exact λhr=>⟨_,.refl _,hr⟩
 | cv hc ht=>exact λhr=>let ⟨r',q1,q2⟩:=hc.conv hh hK hr;⟨r',q1,QI _ _ ht q2⟩
 | @agg cs ds hl hc ih=>
  intro r hr;simp only[RelV]at hr;obtain⟨rs,rfl,hr⟩:=hr;obtain⟨rs',q1,q2,q3⟩:=qA1 hl (λp hp=>ih p hp) hr;exact⟨.agg rs',.agg q1 q2,by simp only[RelV];exact⟨rs',rfl,q3⟩⟩
theorem HCv.list{H:List qA}{a b:AV}{as bs:List AV}(h:HCv H a b)(hs:as.length=bs.length/\∀p∈as.zip bs,HCv H p.1 p.2):(a::as).length=(b::bs).length/\∀p∈(a::as).zip (b::bs),HCv H p.1 p.2:=⟨by simp[hs.1],λp hp=>by
 simp only[List.zip_cons_cons,mCo]at hp;rcases hp with rfl | hp
 ·exact h
 ·exact hs.2 p hp⟩
theorem SCall.giveH{Γ:Nat->Option AFn}{g:Nat}{vs vs':List AV}{h:List qA}{K:AV->List qA->Prop}(ids:List Nat)(hc:vs.length=vs'.length/\∀p∈vs.zip vs',HCv (only ids h) p.1 p.2)(hs:SCall Γ g vs' (without ids h) K):SCall Γ g vs h K:=λρ hr ar hH hv=>by
 have hO:zH ρ (only ids h) hr:=⟨λi o hi=>by
   by_cases hd:o=.dead
   ·subst hd;trivial
   ·exact hH.obj i o (ZG hi hd).2,λi j a o o' h1 h2 hi hj d1 d2=>hH.inj i j a o o' h1 h2 (ZG hi d1).2 (ZG hj d2).2 d1 d2,
  λi hi=>hH.out i (by simpa[only]using hi),hH.is⟩
 obtain⟨ar',c1,c2,c3⟩:=qA1 hc.1 (λp hp=>(hc.2 p hp).conv hO (K:=jU ρ h ids) (λi a w el ha ho=>by
  obtain⟨q1,q2⟩:=ZG ho (by simp);rw[lCm,JS];exact⟨i,w,el,by simpa using q1,ha,q2⟩)) hv
 obtain⟨k,r,hr',ρ',v,h',hx,q,g1,g2,g3,g4⟩:=hs ρ (hr.kill (jU ρ h ids)) ar' (hH.without ids) c3;refine⟨k,r,hr',ρ',v,h',.frzA _ (hH.rows ids) c1 c2 hx,q,g1,g2, ?_,by simpa[without]using g4⟩;rw[qDJ]at g3;refine Fm.trans ⟨λx o p1 p2=>?_,λi x hx=>.inl ⟨i,hx⟩,λx hx=>(AH.fr_kill hx).1,λ_ _=>rfl⟩ g3;show (hr.kill _) x=_;rw[AH.kill_at,iN]
 ·exact p1
 ·rw[lCm,JS];rintro⟨j,w,el,r1,r2,r3⟩;exact p2 j r2
theorem qLD:∀{as bs:List AV},AV.trees (as++bs)=(AV.trees as&&AV.trees bs)
 |[],_=>by simp[AV.trees]
 | a::as,bs=>by simp[AV.trees,qLD (as:=as),Bool.and_assoc]
section
variable {Γ:Nat->Option AFn} {g:Nat} {v x y:AV} {j:Nat} {sh:Option Nat}
theorem zC.subV{ρ:Ren}{hr:AH}{K:List Nat}{r:AV}(hp:x.part j sh=some y)(hy:0<y.cells.length)(h:RelV ρ (.ept x j) r):∃r',zC hr K r r'/\RelV ρ (.ept y 0) r':=by
 simp only[RelV]at h;obtain⟨z,rfl,hz⟩:=h;obtain⟨u,h1,h2⟩:=hz.part hp;refine⟨.ept u 0,.sub h1 (by rw[h2.cellsLen];exact hy), ?_⟩;simp only[RelV];exact⟨u,rfl,h2⟩
theorem Pure.lk{as bs:List AV}(hx:x.tree=true)(hp:x.part j sh=some y)(hy:0<y.cells.length)(h:Pure Γ g (as++.ept y 0::bs) v):Pure Γ g (as++.ept x j::bs) v:=by
 unfold Pure at h|-;obtain⟨t1,t2,h⟩:=h;refine⟨?_,t2,λhr ar har=>?_⟩
 ·rw[qLD]at t1|-;simp only[AV.trees,AV.tree,bAt]at t1|-;exact⟨t1.1,hx,t1.2.2⟩
 ·obtain⟨as',br,rfl,ha,hb⟩:∃as' br,ar=as'++br/\RelVs ρ0 as as'/\RelVs ρ0 (.ept x j::bs) br:=⟨ar.take as.length,ar.drop as.length,(List.take_append_drop _ _).symm,by have:=har.take as.length;rwa[List.take_left]at this,by have:=har.drop as.length;rwa[List.drop_left]at this⟩;simp only[RelVs]at hb;obtain⟨r,bs',rfl,hr1,hb⟩:=hb;obtain⟨r',c1,c2⟩:=zC.subV (hr:=hr) (K:=[]) hp hy hr1;obtain⟨k,w,hr',h1,h2,h3,h4⟩:=h (hr.kill []) (as'++r'::bs') (ha.append (by simp only[RelVs];exact⟨r',bs',rfl,c2,hb⟩));have e:(hr.kill []).f=hr.f:=by funext i;rfl
  refine⟨k,w,hr',.frzA [] (λid hi=>by cases hi) (as':=as'++r'::bs') (by simp) (λp hp=>?_) h1,by rw[h2,e],λa ha=>(AH.fr_kill (h3 a ha)).1,h4⟩;rw[List.zip_append (by rfl),List.zip_cons_cons]at hp;rcases jL.1 hp with q | q
  ·have:p.1=p.2:=by obtain⟨i,hi,rfl⟩:=List.getElem_of_mem q;simp
   rw[this];exact .refl _
  ·rcases mCo.1 q with rfl | q
   ·exact c1
   ·have:p.1=p.2:=by obtain⟨i,hi,rfl⟩:=List.getElem_of_mem q;simp
    rw[this];exact .refl _
theorem Pure.lk0{bs:List AV}(hx:x.tree=true)(hp:x.part j sh=some y)(hy:0<y.cells.length)(h:Pure Γ g (.ept y 0::bs) v):Pure Γ g (.ept x j::bs) v:=Pure.lk (as:=[]) hx hp hy h
theorem Pure.lk1{a:AV}{bs:List AV}(hx:x.tree=true)(hp:x.part j sh=some y)(hy:0<y.cells.length)(h:Pure Γ g (a::.ept y 0::bs) v):Pure Γ g (a::.ept x j::bs) v:=Pure.lk (as:=[a]) hx hp hy h
end
variable {Γ:Nat->Option AFn} {g:Nat} {vs:List AV} {h:List qA}
end Go.Ab
namespace Go.Ab
open Go
section
variable {E:Ev} {ks:List Fr1} {s m:qp} {h:List qA} {st:VSt} {Q:qi->VSt->Prop} {x y z:Ao} {l:List qC} {i:Nat} {d:Option Nat} {v:AV} {g:Option (Nat×Bool)} {ck:List qC}
end
section
variable {μ μ':List (Option Nat)} {h h':List qA}
end
section
variable {S S':List (Option Nat)} {h h':List qA} {v t:AV} {vs ts vs' ts':List AV}
end
section
variable {S0 S S1:List (Option Nat)} {cs0 ts0 vs ts:List AV} {w si:Nat} {g mid:List qA} {X t:AV}
end
section
variable {E:Ev} {ρ:Ren} {st:VSt} {sr:St}
end
section
variable {Γ:Nat->Option AFn} {g:Nat} {vs:List AV} {h:List qA}
end
section
variable {E:Ev} {l:List qC} {ks:List Fr1} {s m:qp} {h:List qA} {Q:qi->VSt->Prop} {k e:Nat} {vs:List AV} {v:AV}
end
section
variable {S:List (Option Nat)} {h h':List qA} {v t:AV} {vs ts:List AV}
end
end Go.Ab
