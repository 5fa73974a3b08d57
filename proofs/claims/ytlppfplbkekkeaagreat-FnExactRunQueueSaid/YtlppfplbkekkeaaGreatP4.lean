/- Texts AbO4 .. AbV: the abstract machine, its laws and contracts of functions: lemmas for the statement. No condition. -/
import Derived.Test.YtlppfplbkekkeaaGreatP3
set_option linter.unusedSimpArgs false
set_option linter.unusedVariables false
namespace Go.Ab
open Go
section
variable {Γ:Nat->Option AFn} {g:Nat} {w:Nat} {z:AV}
def Vu(w:Nat):qJ:=⟨1,8,[.t 2],.seq (.reg true [⟨0,some 2,none,.mov (.c (.nils)),[]⟩]) (.seq (.seq (.reg true [⟨0,some 3,none,.mov (.t 0),[]⟩,
⟨1,some 4,none,.isnil 1 false (.t 3),[]⟩]) (.cond (.t 4) (.seq (.reg true [⟨0,some 2,none,.mov (.c (.nils)),[]⟩]) (.ret)) (.skip))) (.seq (.reg true [⟨0,some 5,none,.mov (.c (.lst w [] true)),[]⟩,
⟨1,some 6,none,.mov (.t 0),[]⟩,
⟨2,some 7,none,.app w (.t 5) (.t 6),[]⟩,
⟨3,some 2,none,.mov (.t 7),[]⟩]) (.ret)))⟩
theorem qb7(hg:Γ g=some (.fn (Vu w)))(h:AH):Ex Γ 1 (.call g [.nils] h) (.res (.ok .nils) h):=by
 refine .fn (st:=⟨((((params 0 [.nils]).set 2 .nils).set 3 .nils).set 4 (.bool true)).set 2 .nils,Env.empty,h⟩) (e:=.ret) hg rfl ?_ (.inr rfl) rfl;refine .seqN (.reg (.step rfl ⟨.nils,rfl,rfl⟩ trivial .nil) (.inl rfl)) (.seqX (.seqN (.reg (.step rfl ⟨.nils,rfl,rfl⟩ trivial (.step rfl ⟨.bool true,rfl,rfl⟩ trivial .nil)) (.inl rfl)) ?_) (by simp));exact .cond (t:=true) rfl (.seqN (.reg (.step rfl ⟨.nils,rfl,rfl⟩ trivial .nil) (.inl rfl)) .ret)
theorem qiY(hg:Γ g=some (.fn (Vu w)))(h:AH)(id:Nat):Ex Γ 1 (.call g [.slice w id 0 0 false] h) (.res (.ok (.lst w [] true)) h):=by
 refine .fn (st:=⟨(((((((params 0 [.slice w id 0 0 false]).set 2 .nils).set 3 (.slice w id 0 0 false)).set 4 (.bool false)).set 5 (.lst w [] true)).set 6 (.slice w id 0 0 false)).set 7 (.lst w [] true)).set 2 (.lst w [] true),Env.empty,h⟩) (e:=.ret) hg rfl ?_ (.inr rfl) rfl;refine .seqN (.reg (.step rfl ⟨.nils,rfl,rfl⟩ trivial .nil) (.inl rfl)) (.seqN (.seqN (.reg (.step rfl ⟨.slice w id 0 0 false,rfl,rfl⟩ trivial (.step rfl ⟨.bool false,rfl,rfl⟩ trivial .nil)) (.inl rfl)) (.cond (t:=false) rfl .cskip)) (.seqN (.reg ?_ (.inl rfl)) .ret));refine .step rfl ⟨.lst w [] true,rfl,rfl⟩ trivial (.step rfl ⟨.slice w id 0 0 false,rfl,rfl⟩ trivial (.step (st':=⟨((((((params 0 [.slice w id 0 0 false]).set 2 .nils).set 3 (.slice w id 0 0 false)).set 4 (.bool false)).set 5 (.lst w [] true)).set 6 (.slice w id 0 0 false)).set 7 (.lst w [] true),Env.empty,h⟩) rfl ?_ trivial (.step rfl ⟨.lst w [] true,rfl,rfl⟩ trivial .nil)));exact⟨.lst w [] true,.slice w id 0 0 false,rfl,rfl,[],rfl,rfl,rfl,rfl⟩
theorem qoD(hr:AH):qt ρ0 [] hr:=⟨(λi o h=>by simp at h),(λi j a o o' h=>by cases h),(λ_ _=>rfl),(λi a h=>by cases h)⟩
theorem qb6(hg:Γ g=some (.fn (Vu w))){xs:List AV}(hf:∀n,qK xs n=(xs,[]))(hp:AV.pls xs=true)(ht:AV.trees xs=true)(hl:xs.length<=4194304):
  Fresh Γ g [.lst w xs false] (.lst w xs false):=by
 cases xs with
 | cons x xs=>
  refine Fresh.intro [] [] hg rfl rfl (by simp only[AV.trees,AV.tree]at ht|-;simp[ht]) hp ?_;simp only[Vu,qM,go_sem];refine Vi Els.lst (by simp only[lCo]at hl|-;omega) ?_;simp only[go_sem];exact wv (pre:=[]) (post:=[]) hp (by simp[zT,lay]) (by simp[lay,hf])
 | nil=>
  refine⟨rfl,rfl,λhr ar har=>?_⟩;have hn:∀hr',qt (ρ0.ext 0 none) [.row w [] true] hr':=λhr'=>(qoD hr').nil;simp only[RelVs,RelV]at har;obtain⟨r,rs,rfl,hr0,rfl⟩:=har;have hfm:∀hr':AH,(∀a o,hr a=some o->hr' a=some o)->(∀a,hr'.fr a->hr.fr a)->Fm 0 ρ0 hr (ρ0.ext 0 none) hr':=λhr' h1 h2=>⟨λa o q _=>h1 a o q,(λi a q=>by
   by_cases e:i=0
   ·subst e;rw[Ren.ext_same]at q;cases q
   ·rw[Ren.ext_ne _ _ e]at q;cases q),h2,λi hi=>by omega⟩
  rcases hr0 with⟨ys,c,rfl,_,hys⟩ | ⟨_,rfl⟩
  ·subst hys;obtain⟨id,hid⟩:=hr.fresh;have hx1:Ex Γ 1 (.call g [.nils] hr) (.res (.ok (.lst w [] true)) (hr.kill [])):=.frzR [] (λi hi=>by simp at hi) .nils (qb7 hg hr);refine⟨1,_,_,ρ0.ext 0 none,.nilc id hid (λi o q=>by rw[AH.kill_at];simpa using q) (λi o q=>q) rfl hx1 (qiY hg _ id),hn _,by simp[lay,RelV,Ren.ext_same],hfm _ (λa o q=>q) λa q=>AH.fr_tomb (AH.fr_tomb' q)⟩
  ·exact⟨1,_,_,ρ0.ext 0 none,qb7 hg hr,hn _,by simp[lay,RelV,Ren.ext_same],hfm _ (λa o q=>q) λa q=>q⟩
theorem qDC{μ:List (Option Nat)}{h:List qC}:∀{r1 r2:List (Option Nat)}{h1 h2:List qC},j0 μ h r1 h1->j0 μ h r2 h2->j0 μ h (r1++r2) (h1++h2)
 |[],_,[],_,_,k=>k
 | _::_,_,_::_,_,j,k=>⟨j.1,qDC j.2 k⟩
 |[],_,_::_,_,j,_=>j.elim
 | _::_,_,[],_,j,_=>j.elim
theorem qeN{μ:List (Option Nat)}{h:List qC}{xs:List AV}{a b:Nat}(hp:AV.pls xs=true)(hm:∀i,i<AV.rowss xs->μ[b+i]?=some (some (a+i)))(hh:∀i o,(qK xs a).2[i]?=some o->h[a+i]?=some o):
  j0 μ h ((List.range' a (AV.rowss xs)).map some) (qK xs b).2:=by
 refine Xo (by simp[jC]) λi j o h1 h2=>?_;have hi:i<AV.rowss xs:=by have:=(gSi.1 h2).1;rw[jC]at this;exact this
 rw[gMp,List.getElem?_range' (by omega)]at h1;simp only[Nat.one_mul,oMs,oSi]at h1;subst h1;exact Yj xs a b hp hm hh i o h2
def rmu(b n:Nat):List (Option Nat):=(List.range' 0 b).map some++some (b+n+2)::(List.range' (b+1) n).map some
theorem qoK{b n i:Nat}(hi:i<b):(rmu b n)[i]?=some (some i):=by
 unfold rmu;rw[gAl (by simpa using hi),gMp,List.getElem?_range' (by omega)];simp
theorem U9{b n:Nat}:(rmu b n)[b]?=some (some (b+n+2)):=by
 unfold rmu;rw[gAr (by simp)];simp
theorem qfR{b n i:Nat}(hi:i<n):(rmu b n)[b+1+i]?=some (some (b+1+i)):=by
 unfold rmu;rw[gAr (by simp;omega)];have e:b+1+i-((List.range' 0 b).map some).length=i+1:=by simp;omega
 rw[e,List.getElem?_cons_succ,gMp,List.getElem?_range' (by omega)];simp
theorem qoJ{b n:Nat}:zb (rmu b n)=true:=by
 have e:rmu b n=(List.range' 0 b++(b+n+2)::List.range' (b+1) n).map some:=by simp[rmu]
 rw[e];refine V5 ?_;rw[List.nodup_append];refine⟨List.nodup_range', ?_, ?_⟩
 ·rw[List.nodup_cons];refine⟨?_,List.nodup_range'⟩;simp only[List.mem_range'_1];omega
 ·intro x hx y hy;simp only[List.mem_range'_1,List.mem_cons]at hx hy;rcases hy with rfl | hy<;>omega
theorem Can.round{ps ts:List AV}{x:qC}{s s' m m':qv}{b n:Nat}(hps:AV.pls ps=true)(hts:AV.pls ts=true)(hb:AV.rowss ps=b)(hn:AV.rowss ts=n)(h1:WG (rmu b n) s s')(h2:WG (rmu b n) m m'):
  Can 0 ⟨s,m,(qK ps 0).2++.dead::((qK ts (b+1)).2++[x,.row w (qK ts (b+1)).1 true])⟩ ⟨s',m',(qK ps 0).2++.row w (qK ts (b+1)).1 true::(qK ts (b+1)).2⟩:=by
 subst hb hn;have hlp:=jC ps 0;have hlt:=jC ts (AV.rowss ps+1);refine Can.renum (rmu (AV.rowss ps) (AV.rowss ts)) qoJ (qDC (qeN hps (λi hi=>by rw[nZa];exact qoK hi) λi o hi=>?_) ⟨?_,qeN hts (λi hi=>qfR hi) λi o hi=>?_⟩) h1 h2
 ·rw[nZa,gAl (gSi.1 hi).1];exact hi
 ·refine .row (el:=(qK ts (AV.rowss ps+1)).1) (rw':=true) ?_ ⟨rfl,λp hp=>?_⟩
  ·rw[gAr (by omega),show AV.rowss ps+AV.rowss ts+2-(qK ps 0).2.length=AV.rowss ts+1+1 by omega,List.getElem?_cons_succ,gAr (by omega),hlt,
    show AV.rowss ts+1-AV.rowss ts=1 by omega]
   rfl
  ·exact(Yk ts (AV.rowss ps+1) (AV.rowss ps+1) hts (λi hi=>qfR hi)).2 p hp
 ·have hi':=(gSi.1 hi).1;rw[gAr (by omega),show AV.rowss ps+1+i-(qK ps 0).2.length=i+1 by omega,List.getElem?_cons_succ,gAl hi'];exact hi
theorem Zr{A:List qC}{o:qC}:(A++[o])[A.length]?=some o:=gCl
theorem Can.push{ps A:List AV}{t:AV}{s s' m m':qv}{h h':List qC}{b n:Nat}(hps:AV.pls ps=true)(hA:AV.pls A=true)(ht:t.pl=true)(hb:AV.rowss ps=b)(hn:AV.rowss A+t.rows=n)
  (hh:h=(qK ps 0).2++.dead::((qK A (b+1)).2++((lay t (b+1+AV.rowss A)).2++[.row w [(lay t (b+1+AV.rowss A)).1] true,.row w ((qK A (b+1)).1++[(lay t (b+1+AV.rowss A)).1]) true])))
  (hh':h'=(qK ps 0).2++.row w (qK (A++[t]) (b+1)).1 true::(qK (A++[t]) (b+1)).2) (h1:WG (rmu b n) s s') (h2:WG (rmu b n) m m'):Can 0 ⟨s,m,h⟩ ⟨s',m',h'⟩:=by
 have hp:AV.pls (A++[t])=true:=by
  have:∀B:List AV,AV.pls B=true->AV.pls (B++[t])=true:=by
   intro B
   induction B with
   | nil=>intro _;simp only[lNa,AV.pls,ht,Bool.and_true]
   | cons y B ih=>
    intro hB;simp only[AV.pls,bAt]at hB;simp only[lCa,AV.pls,hB.1,ih hB.2,Bool.and_self]
  exact this A hA
 have r:=Can.round (w:=w) (x:=.row w [(lay t (b+1+AV.rowss A)).1] true) (s:=s) (s':=s') (m:=m) (m':=m') (b:=b) (n:=n) hps hp hb (by rw[qfU];simp only[AV.rowss,nAz];exact hn) h1 h2;subst hh hh';simp only[Xc,qK,lAn,lAa]at r|-;exact r
end
section
variable {Γ:Nat->Option AFn} {g:Nat} {vs:List AV} {h:List qC}
def Jq(res:List jV)(K:AV->List qC->Prop)(e:qi)(st:VSt):Prop:=(e=.nrm\/e=.ret)/\match jG (wH st) res with
 | some vs=>K (zT vs) st.h
 | none=>False
def VX(vs:Option (List AV))(h:List qC)(K:AV->List qC->Prop):Prop:=match vs with
 | some vs=>K (zT vs) h
 | none=>False
@[go_sem] theorem qrX{res:List jV}{s m:qv}{K:AV->List qC->Prop}:Jq res K .ret ⟨s,m,h⟩=VX (jG (wH ⟨s,m,h⟩) res) h K:=by
 simp[Jq,VX];all_goals rfl
@[go_sem] theorem qrW{res:List jV}{s m:qv}{K:AV->List qC->Prop}:Jq res K .nrm ⟨s,m,h⟩=VX (jG (wH ⟨s,m,h⟩) res) h K:=by
 simp[Jq,VX];all_goals rfl
@[go_sem] theorem qwF{K:AV->List qC->Prop}:VX (some vs) h K=K (zT vs) h:=rfl
@[go_sem] theorem qwH{v:AV}:zT [v]=v:=rfl
@[go_sem] theorem qwI{v w:AV}{r:List AV}:zT (v::w::r)=.tup (v::w::r):=rfl
theorem SCall.run{F:qJ}{K:AV->List qC->Prop}(fz bp:List Nat)(hg:Γ g=some (.fn F))(hok:F.body.ok=true)(hn:vs.length=F.np)
  (hR:R ⟨Γ,h.length,fz,bp⟩ [.code F.body] ⟨qM 0 vs,[],h⟩ (Jq F.res K)):SCall Γ g vs h K:=λρ hr ar hH hv=>by
 have hS:zN ρ ⟨qM 0 vs,[],h⟩ {s:=params 0 ar,l:=Env.empty,h:=hr}:=⟨WA hv,(λn v h=>by cases h),hH⟩;obtain⟨k,e,sr',ρ',st',g1,⟨he,hq⟩,g3,g4,g5⟩:=Sem.of (by simpa only [lAc,List.all_nil,Bool.and_true,Fr1.ok]using hok) hR ρ _ hS (nLr _);have hb:Ex Γ k (.code F.body {s:=params 0 ar,l:=Env.empty,h:=hr}) (.st e sr'):=by
  cases g1 with
  | code h h'=>cases h';exact h
  | codeX h he' hx h'=>cases e<;>simp[exK]at hx
  | codeE h he' hx=>exact h
 split at hq
 ·rename_i us hus;obtain⟨rs,q1,q2⟩:=WD g3 hus;have hx:=Ex.fn hg (by rw[hv.length];exact hn) hb he q1;exact⟨k+1,_,_,ρ',_,st'.h,hx,hq,g3.h,Wn q2,g4,g5⟩
 ·exact hq.elim
theorem SCall.cut{K:AV->List qC->Prop}(id n w:Nat)(hs:SCall Γ g vs h λv h'=>∃el,h'[id]?=some (.row w el true)/\K v (h'.set id (.row w (el.take n) true))):SCall Γ g vs h K:=λρ hr ar hH hv=>by
 obtain⟨k,r,hr',ρ',v,h',hx,⟨el,ho,hk⟩,g1,g2,g3,g4⟩:=hs ρ hr ar hH hv;rcases g1.obj _ _ ho with⟨q1,q2,_⟩ | ⟨a,el',q1,q2,q3⟩
 ·subst q2;rw[List.take_nil]at hk;have e:h'.set id (.row w [] true)=h':=List.ext_getElem? λi=>by
   rw[gSt];split
   ·rename_i e;subst e;split
    ·rw[ho]
    ·rename_i hn;rw[gEn (by omega)]
   ·rfl
  rw[e]at hk;exact⟨k,r,hr',ρ',v,h',hx,hk,g1,g2,g3,g4⟩
 ·refine⟨k,r,_,ρ',v,_,.trim n q2 hx,hk,g1.write q1 ho (by simp) (.inr ⟨a,_,q1,AH.upd_same _ _ _,q3.take n⟩),g2,g3.trans (Fm.write g1 q1),by rw[lLs];exact g4⟩
end
section
variable {E:Ev} {l:List qA} {ks:List Fr1} {s m:qv} {h:List qC} {Q:qi->VSt->Prop} {k e:Nat} {vs:List AV}
theorem qDV{o:Option AV}{v:AV}(ho:o=some v)(hr:R E (.ops l::ks) ⟨(k,v)::s,m,h⟩ Q):Put E o (some k) l ks ⟨s,m,h⟩ Q:=by
 subst ho;rw[qfJ];exact hr
theorem qU(hp:SCall E.Γ k vs h λv h'=>R E (.ops l::ks) ⟨(e,v)::s,m,h'⟩ Q):wR E (some (k,vs)) false (some e) l ks ⟨s,m,h⟩ Q:=by
 unfold wR;simp only[bFt,if_false];exact hp
end
section
variable {E:Ev} {ks:List Fr1} {Q:qi->VSt->Prop}
end
section
variable {Γ:Nat->Option AFn} {g:Nat} {vs vs':List AV} {h:List qC}
end
section
variable {E:Ev} {l:List qA} {ks:List Fr1} {s m:qv} {h:List qC} {Q:qi->VSt->Prop}
end
section
variable {Γ:Nat->Option AFn} {g:Nat} {vs:List AV} {h:List qC} {v:AV}
def J2(n:Nat):List qC:=List.replicate n .dead
def finT(res:List jV)(h:List qC)(v:AV)(e:qi)(st:VSt):Prop:=(e=.nrm\/e=.ret)/\∃ex,st.h=h++ex/\match jG (wH st) res with
 | some vs=>Cv (J2 h.length++ex) (zT vs) v
 | none=>False
def FinT(h:List qC)(vs:Option (List AV))(h':List qC)(v:AV):Prop:=∃ex,h'=h++ex/\match vs with
 | some vs=>Cv (J2 h.length++ex) (zT vs) v
 | none=>False
@[go_sem] theorem qrZ{res:List jV}{s m:qv}{h':List qC}:finT res h v .ret ⟨s,m,h'⟩=FinT h (jG (wH ⟨s,m,h'⟩) res) h' v:=by
 simp[finT,FinT];all_goals rfl
theorem FinT.of{ex:List qC}(hf:Fin (some vs) (J2 h.length++ex) v):FinT h (some vs) (h++ex) v:=⟨ex,rfl,by unfold Fin at hf;exact hf⟩
theorem qeW{ex:List qC}:only (List.range' h.length ex.length) (h++ex)=J2 h.length++ex:=by
 refine List.ext_getElem? λi=>?_;simp only[only,List.getElem?_mapIdx,J2];by_cases hi:i<h.length
 ·rw[gAl hi,gAl (by simpa using hi),gEg hi,List.getElem?_replicate,if_pos hi];simp;omega
 ·rw[gAr (by omega),gAr (by simp;omega),lLr];cases he:ex[i-h.length]? with
  | none=>rfl
  | some o=>
   have hl:=Qp he;simp;omega
theorem qqG{ex:List qC}:without (List.range' h.length ex.length) (h++ex)=h++J2 ex.length:=by
 refine List.ext_getElem? λi=>?_;simp only[without,List.getElem?_mapIdx,J2];by_cases hi:i<h.length
 ·rw[gAl hi,gAl hi,gEg hi];simp;omega
 ·rw[gAr (by omega),gAr (by omega),List.getElem?_replicate];cases he:ex[i-h.length]? with
  | none=>rw[List.getElem?_eq_none_iff]at he;rw[if_neg (by omega)];rfl
  | some o=>
   have hl:=Qp he;rw[if_pos hl];simp;omega
theorem SCall.tree{F:qJ}{K:AV->List qC->Prop}(fz bp:List Nat)(hg:Γ g=some (.fn F))(hok:F.body.ok=true)(hn:vs.length=F.np)(hv0:v.tree=true)
  (hR:R ⟨Γ,h.length,fz,bp⟩ [.code F.body] ⟨qM 0 vs,[],h⟩ (finT F.res h v)) (hk:∀ex,K v (h++ex)):SCall Γ g vs h K:=λρ hr ar hH hv=>by
 have hS:zN ρ ⟨qM 0 vs,[],h⟩ {s:=params 0 ar,l:=Env.empty,h:=hr}:=⟨WA hv,(λn v h=>by cases h),hH⟩;obtain⟨k,e,sr',ρ',st',g1,⟨he,ex,hh,hq⟩,g3,g4,g5⟩:=Sem.of (by simpa only [lAc,List.all_nil,Bool.and_true,Fr1.ok]using hok) hR ρ _ hS (nLr _);have hb:Ex Γ k (.code F.body {s:=params 0 ar,l:=Env.empty,h:=hr}) (.st e sr'):=by
  cases g1 with
  | code h h'=>cases h';exact h
  | codeX h he' hx h'=>cases e<;>simp[exK]at hx
  | codeE h he' hx=>exact h
 split at hq
 ·rename_i us hus;obtain⟨rs,q1,q2⟩:=WD g3 hus;have hx:=Ex.fn hg (by rw[hv.length];exact hn) hb he q1;have g3h:=g3.h;rw[hh]at g3h;obtain⟨ids,hids⟩:∃ids,ids=List.range' h.length ex.length:=⟨_,rfl⟩;have hnew:∀i,ids.contains i=true->h.length<=i:=λi hi=>by
   rw[lCm,hids,List.mem_range'_1]at hi;exact hi.1
  have hO:qt ρ' (J2 h.length++ex) sr'.h:=by
   rw[<-qeW,<-hids];exact⟨λi o hi=>by
    by_cases hd:o=.dead
    ·subst hd;trivial
    ·exact g3h.obj i o (w5 hi hd).2,λi j a o o' h1 h2 hi hj d1 d2=>g3h.inj i j a o o' h1 h2 (w5 hi d1).2 (w5 hj d2).2 d1 d2,
    λi hi=>g3h.out i (by simpa[only]using hi),g3h.is⟩
  obtain⟨r',c1,c2⟩:=hq.conv hO (K:=zr ρ' (h++ex) ids) (λi a w el ha ho=>by
   rw[<-qeW,<-hids]at ho;obtain⟨q1,q2⟩:=w5 ho (by simp);rw[lCm,wP];exact⟨i,w,el,by simpa using q1,ha,q2⟩) (Wn q2)
  have hx2:=Ex.frzR _ (g3h.rows ids) c1 hx;have hnk:∀a,(∀i,ρ i≠some (some a))->(∃o,hr a=some o)->(zr ρ' (h++ex) ids).contains a=false:=λa hp ⟨o,ho⟩=>by
   by_cases hc:(zr ρ' (h++ex) ids).contains a=true
   ·rw[lCm,wP]at hc;obtain⟨i,w,el,p1,p2,p3⟩:=hc;rcases g4.new i a p2 with⟨j,hj⟩ | hf
    ·exact absurd hj (hp j)
    ·have:hr a=none:=hf.1;rw[this]at ho;cases ho
   ·simpa using hc
  refine⟨k+1,r',_,ρ',v,h++J2 ex.length,hx2,hk _, ?_,Qe _ _ hv0 c2,⟨λa o h1 h2=>?_,g4.new,λa ha=>g4.fr a (AH.fr_kill ha).1,g4.base⟩,by simp⟩
  ·rw[<-qqG,<-hids];refine⟨λi o hi=>?_,λi j a o o' q1 q2 hi hj d1 d2=>g3h.inj i j a o o' q1 q2 (YA hi d1).2 (YA hj d2).2 d1 d2,
    λi hi=>g3h.out i (by simpa[without]using hi),λi a hi=>?_⟩
   ·by_cases hd:o=.dead
    ·subst hd;trivial
    ·obtain⟨q1,q2⟩:=YA hi hd;refine(g3h.obj i o q2).mono (λ_ _ q=>q) λa o' ha hq=>?_;rw[<-hq];show (sr'.h.kill _) a=_;rw[AH.kill_at,if_neg];rw[lCm,wP];rintro⟨j,w,el,p1,p2,p3⟩;have:=g3h.inj i j a _ _ ha p2 q2 p3 hd (by simp);subst this;have:ids.contains i=true:=by simpa using p1
     rw[this]at q1;cases q1
   ·obtain⟨o,ho⟩:=g3h.is i a hi;show ∃o,(sr'.h.kill _) a=some o;rw[AH.kill_at];split
    ·exact⟨_,rfl⟩
    ·exact⟨o,ho⟩
  ·show (sr'.h.kill _) a=_;rw[AH.kill_at,if_neg]
   ·exact g4.pres a o h1 h2
   ·rw[hnk a h2 ⟨o,h1⟩];simp
 ·exact hq.elim
end
section
variable {E:Ev} {l:List qA} {ks:List Fr1} {s m:qv} {h:List qC} {Q:qi->VSt->Prop} {g e w id n:Nat} {as vs:List AV} {xs ys:List AV}
end
def Wk(ns:List Nat)(v v':AV):Prop:=∀(ρ:Ren)(r:AV),(∀n∈ns,ρ n=some none)->RelV ρ v r->RelV ρ v' r
inductive Wks(ns:List Nat):List AV->List AV->Prop
 | nil:Wks ns [] []
 | cons {a b:AV} {as bs:List AV} (h:Wk ns a b) (hs:Wks ns as bs):Wks ns (a::as) (b::bs)
section
variable {ns:List Nat}
theorem Wk.refl(v:AV):Wk ns v v:=λ_ _ _ h=>h
theorem Wks.refl:∀vs:List AV,Wks ns vs vs
 |[]=>.nil
 | v::vs=>.cons (.refl v) (Wks.refl vs)
theorem Wks.same{a:AV}{as bs:List AV}(hs:Wks ns as bs):Wks ns (a::as) (a::bs):=.cons (.refl a) hs
theorem Wks.rel{as bs:List AV}(h:Wks ns as bs){ρ:Ren}(hn:∀n∈ns,ρ n=some none):∀{rs:List AV},RelVs ρ as rs->RelVs ρ bs rs:=by
 induction h with
 | nil=>exact λh=>h
 | cons h _ ih=>
  intro rs k;simp only[RelVs]at k|-;obtain⟨u,us,rfl,h1,h2⟩:=k;exact⟨u,us,rfl,h ρ u hn h1,ih h2⟩
theorem Wk.nilL{w:Nat}{c:Bool}:Wk ns .nils (.lst w [] c):=λρ r _ h=>by
 simp only[RelV]at h|-;exact .inr ⟨trivial,h⟩
theorem Wk.ph{n w:Nat}{c:Bool}(h:n∈ns):Wk ns .nils (.slice w n 0 0 c):=λρ r hn k=>by
 simp only[RelV]at k|-;exact .inr ⟨hn n h,trivial,trivial,.inl k⟩
theorem Wk.agg{as bs:List AV}(h:Wks ns as bs):Wk ns (.agg as) (.agg bs):=λρ r hn k=>by
 simp only[RelV]at k|-;obtain⟨ds,h1,h2⟩:=k;exact⟨ds,h1,h.rel hn h2⟩
inductive WkO(ns:List Nat):qC->qC->Prop
 | refl (o:qC):WkO ns o o
 | row {w:Nat} {xs ys:List AV} {rw':Bool} (h:Wks ns xs ys):WkO ns (.row w xs rw') (.row w ys rw')
 | dead (o:qC):WkO ns o .dead
def WkH(ns:List Nat)(h h':List qC):Prop:=h.length=h'.length/\∀(i:Nat)(o o':qC),h[i]?=some o->h'[i]?=some o'->WkO ns o o'
theorem WkH.set{h:List qC}{i w:Nat}{xs ys:List AV}{rw':Bool}(hw:Wks ns xs ys):WkH ns (h.set i (.row w xs rw')) (h.set i (.row w ys rw')):=by
 refine⟨by simp,λj o o' h1 h2=>?_⟩;rw[gSt]at h1 h2;split at h1
 ·rename_i e;rw[if_pos e]at h2;split at h1
  ·rename_i hl;rw[if_pos hl]at h2;cases h1;cases h2;exact .row hw
  ·cases h1
 ·rename_i e;rw[if_neg e]at h2;rw[h1]at h2;cases h2;exact .refl o
theorem WkH.at'{h:List qC}{i w:Nat}{xs ys:List AV}{rw':Bool}(ho:h[i]?=some (.row w xs rw'))(hw:Wks ns xs ys):WkH ns h (h.set i (.row w ys rw')):=by
 refine⟨by simp,λj o o' h1 h2=>?_⟩;rw[gSt]at h2;split at h2
 ·rename_i e;subst e;split at h2
  ·rw[ho]at h1;cases h1;cases h2;exact .row hw
  ·cases h2
 ·rw[h1]at h2;cases h2;exact .refl o
theorem WkH.rel{h h':List qC}(hw:WkH ns h h'){ρ:Ren}{hr:AH}(hn:∀n∈ns,ρ n=some none)(hH:qt ρ h hr):qt ρ h' hr:=by
 have get:∀{i:Nat}{o':qC},h'[i]?=some o'->∃o,h[i]?=some o/\WkO ns o o':=λ{i o'} hi=>by
  have hl:i<h.length:=by rw[hw.1];exact(gSi.1 hi).1
  exact⟨h[i],gEg hl,hw.2 i _ _ (gEg hl) hi⟩
 have nd:∀{o o':qC},WkO ns o o'->o'≠.dead->o≠.dead:=λ{o o'} h hd=>by cases h<;>first | exact absurd rfl hd | exact hd | simp
 refine⟨λi o' hi=>?_,λi j a o o' h1 h2 hi hj d1 d2=>?_,λi hi=>hH.out i (by rw[hw.1];exact hi),hH.is⟩
 ·obtain⟨o,ho,hk⟩:=get hi;have:=hH.obj i o ho;cases hk with
  | refl=>exact this
  | dead=>trivial
  | row h=>
   rcases this with⟨q1,rfl,q3⟩ | ⟨i',el',q1,q2,q3⟩
   ·cases h;exact .inl ⟨q1,rfl,q3⟩
   ·exact .inr ⟨i',el',q1,q2,h.rel hn q3⟩
 ·obtain⟨p,hp,hk⟩:=get hi;obtain⟨q,hq,hk2⟩:=get hj;exact hH.inj i j a p q h1 h2 hp hq (nd hk d1) (nd hk2 d2)
end
section
variable {Γ:Nat->Option AFn} {g:Nat} {vs vs':List AV} {h:List qC} {K:AV->List qC->Prop}
theorem qDB{ρ:Ren}:∀n∈([]:List Nat),ρ n=some none:=λn h=>by cases h
theorem SCall.arg(hw:Wks [] vs vs')(hs:SCall Γ g vs' h K):SCall Γ g vs h K:=λρ hr ar hH hv=>hs ρ hr ar hH (hw.rel qDB hv)
theorem SCall.out(hs:SCall Γ g vs h λv h'=>∃v' h'',Wk [] v v'/\WkH [] h' h''/\K v' h''):SCall Γ g vs h K:=λρ hr ar hH hv=>by
 obtain⟨k,r,hr',ρ',v,h',hx,⟨v',h'',w1,w2,hk⟩,g1,g2,g3,g4⟩:=hs ρ hr ar hH hv;exact⟨k,r,hr',ρ',v',h'',hx,hk,w2.rel qDB g1,w1 ρ' r qDB g2,g3,by rw[<-w2.1];exact g4⟩
theorem SCall.runW{F:qJ}(fz bp:List Nat)(hg:Γ g=some (.fn F))(hok:F.body.ok=true)(hn:vs.length=F.np)
  (hR:R ⟨Γ,h.length,fz,bp⟩ [.code F.body] ⟨qM 0 vs,[],h⟩ (Jq F.res λv h'=>∃v' h'',Wk [] v v'/\WkH [] h' h''/\K v' h'')):SCall Γ g vs h K:=SCall.out (SCall.run fz bp hg hok hn hR)
end
section
variable {s s' m m':qv} {h h':List qC}
end
theorem qt.without{ρ:Ren}{h:List qC}{hr:AH}(hH:qt ρ h hr)(ids:List Nat):qt ρ (without ids h) (hr.kill (zr ρ h ids)):=by
 refine⟨λi o hi=>?_,λi j a o o' q1 q2 hi hj d1 d2=>hH.inj i j a o o' q1 q2 (YA hi d1).2 (YA hj d2).2 d1 d2,λi hi=>hH.out i (by simpa[Go.Ab.without]using hi),λi a hi=>?_⟩
 ·by_cases hd:o=.dead
  ·subst hd;trivial
  ·obtain⟨q1,q2⟩:=YA hi hd;refine(hH.obj i o q2).mono (λ_ _ q=>q) λa o' ha hq=>?_;rw[<-hq];show (hr.kill _) a=_;rw[AH.kill_at,if_neg];rw[lCm,wP];rintro⟨j,w,el,p1,p2,p3⟩;have:=hH.inj i j a _ _ ha p2 q2 p3 hd (by simp);subst this;have:ids.contains i=true:=by simpa using p1
   rw[this]at q1;cases q1
 ·obtain⟨o,ho⟩:=hH.is i a hi;show ∃o,(hr.kill _) a=some o;rw[AH.kill_at];split
  ·exact⟨_,rfl⟩
  ·exact⟨o,ho⟩
theorem Can.ph{b w:Nat}{s s' m m':qv}{h:List qC}(h1:∀n v',get s' n=some v'->∃v,get s n=some v/\Wk [h.length] v v')(h2:∀n v',get m' n=some v'->∃v,get m n=some v/\Wk [h.length] v v'):Can b ⟨s,m,h⟩ ⟨s',m',h++[.row w [] true]⟩:=λρ sr hS hb=>by
 have hle:=Ren.ext_le (x:=none) hS.h.none_at;have hn:∀n∈[h.length],(ρ.ext h.length none) n=some none:=λn hn=>by simp at hn;subst hn;exact Ren.ext_same _ _ _
 exact⟨sr,ρ.ext h.length none,λ_ _ _ _ h=>h,⟨λn v hv=>let ⟨u,q1,q2⟩:=h1 n v hv;let ⟨r,q3,q4⟩:=hS.s n u q1;⟨r,q3,q2 _ r hn (RelV.mono hle _ _ q4)⟩,
  λn v hv=>let ⟨u,q1,q2⟩:=h2 n v hv;let ⟨r,q3,q4⟩:=hS.l n u q1;⟨r,q3,q2 _ r hn (RelV.mono hle _ _ q4)⟩,hS.h.nil⟩,Fm.mkNil hS.h hb,by have:b<=h.length:=hb;simp;omega⟩
theorem Wk.ph2{ns:List Nat}{n w:Nat}{c:Bool}(h:n∈ns):Wk ns (.lst w [] true) (.slice w n 0 0 c):=λρ r hn k=>by
 simp only[RelV]at k|-;refine .inr ⟨hn n h,trivial,trivial, ?_⟩;rcases k with⟨ys,c,rfl,h1,h2⟩ | ⟨_,rfl⟩
 ·simp only[RelVs]at h2;subst h2;rw[h1 (by first | rfl | trivial)];exact .inr rfl
 ·exact .inl rfl
def WkN(ns:List Nat)(s s':qv):Prop:=∀n v',get s' n=some v'->∃v,get s n=some v/\Wk ns v v'
theorem WkN.nil{ns:List Nat}{s:qv}:WkN ns s []:=λn v h=>by cases h
theorem WkN.same{ns:List Nat}{s s':qv}{n:Nat}{v:AV}(h:get s n=some v)(hs:WkN ns s s'):WkN ns s ((n,v)::s'):=λk u hu=>by
 rw[XU]at hu;split at hu
 ·rename_i e;subst e;cases hu;exact⟨_,h,.refl _⟩
 ·exact hs k u hu
theorem WkN.cons{ns:List Nat}{s s':qv}{n:Nat}{v v':AV}(h:get s n=some v)(hw:Wk ns v v')(hs:WkN ns s s'):WkN ns s ((n,v')::s'):=λk u hu=>by
 rw[XU]at hu;split at hu
 ·rename_i e;subst e;cases hu;exact⟨v,h,hw⟩
 ·exact hs k u hu
theorem Jy{ids:List Nat}{h:List qC}{j:Nat}(hj:j∉ids):(without ids h)[j]?=h[j]?:=by
 simp only[without,List.getElem?_mapIdx];cases h[j]? with
 | none=>rfl
 | some o=>simp[hj]
theorem QG{ids:List Nat}{h:List qC}:(without ids h).length=h.length:=by simp[without]
theorem QY{ids:List Nat}{h:List qC}{j:Nat}(hj:j∈ids):(only ids h)[j]?=h[j]?:=by
 simp only[only,List.getElem?_mapIdx];cases h[j]? with
 | none=>rfl
 | some o=>simp[hj]
inductive HCv(H:List qC):AV->AV->Prop
 | same (v:AV):HCv H v v
 | cv {v v':AV} (h:Cv H v v') (ht:v'.tree=true):HCv H v v'
 | agg {cs ds:List AV} (hl:cs.length=ds.length) (hc:∀p∈cs.zip ds,HCv H p.1 p.2):HCv H (.agg cs) (.agg ds)
theorem V0{ρ:Ren}{hr:AH}{K:List Nat}:∀{cs ds rs:List AV},cs.length=ds.length->(∀p∈cs.zip ds,∀{r:AV},RelV ρ p.1 r->∃r',qz hr K r r'/\RelV ρ p.2 r')->RelVs ρ cs rs->
  ∃rs',rs.length=rs'.length/\(∀p∈rs.zip rs',qz hr K p.1 p.2)/\RelVs ρ ds rs'
 |[],ds,rs,hl,_,h=>by
  have:ds=[]:=lEz (by simpa using hl.symm);subst this;simp only[RelVs]at h;subst h;exact⟨[],rfl,λp hp=>by simp at hp,by simp only[RelVs]⟩
 | c::cs,[],_,hl,_,_=>by simp at hl
 | c::cs,d::ds,rs,hl,hi,h=>by
  simp only[RelVs]at h;obtain⟨r,rs,rfl,h1,h2⟩:=h;obtain⟨r',q1,q2⟩:=hi (c,d) (by simp) h1;obtain⟨rs',q3,q4,q5⟩:=V0 (by simpa using hl) (λp hp=>hi p (by simp only[List.zip_cons_cons];exact List.mem_cons_of_mem _ hp)) h2;refine⟨r'::rs',by simp[q3],λp hp=>?_,by simp only[RelVs];exact⟨r',rs',rfl,q2,q5⟩⟩;simp only[List.zip_cons_cons,List.mem_cons]at hp;rcases hp with rfl | hp
  ·exact q1
  ·exact q4 p hp
theorem HCv.conv{ρ:Ren}{H:List qC}{hr:AH}(hh:qt ρ H hr){K:List Nat}(hK:∀i a w el,ρ i=some (some a)->H[i]?=some (.row w el true)->K.contains a=true){v t:AV}(hc:HCv H v t):
  ∀{r:AV},RelV ρ v r->∃r',qz hr K r r'/\RelV ρ t r':=by
 induction hc with
 | same v=>exact λhr=>⟨_,.refl _,hr⟩
 | cv hc ht=>exact λhr=>let ⟨r',q1,q2⟩:=hc.conv hh hK hr;⟨r',q1,Qe _ _ ht q2⟩
 | @agg cs ds hl hc ih=>
  intro r hr;simp only[RelV]at hr;obtain⟨rs,rfl,hr⟩:=hr;obtain⟨rs',q1,q2,q3⟩:=V0 hl (λp hp=>ih p hp) hr;exact⟨.agg rs',.agg q1 q2,by simp only[RelV];exact⟨rs',rfl,q3⟩⟩
theorem HCv.list{H:List qC}{a b:AV}{as bs:List AV}(h:HCv H a b)(hs:as.length=bs.length/\∀p∈as.zip bs,HCv H p.1 p.2):(a::as).length=(b::bs).length/\∀p∈(a::as).zip (b::bs),HCv H p.1 p.2:=⟨by simp[hs.1],λp hp=>by
 simp only[List.zip_cons_cons,List.mem_cons]at hp;rcases hp with rfl | hp
 ·exact h
 ·exact hs.2 p hp⟩
theorem HCv.refls{H:List qC}:∀(as:List AV),as.length=as.length/\∀p∈as.zip as,HCv H p.1 p.2
 |[]=>⟨rfl,λp hp=>by simp at hp⟩
 | a::as=>HCv.list (.same a) (HCv.refls as)
theorem HCv.apps{H:List qC}:∀(pre:List AV){as bs:List AV},(as.length=bs.length/\∀p∈as.zip bs,HCv H p.1 p.2)->(pre++as).length=(pre++bs).length/\∀p∈(pre++as).zip (pre++bs),HCv H p.1 p.2
 |[],_,_,h=>h
 | a::pre,_,_,h=>HCv.list (.same a) (HCv.apps pre h)
theorem Can.giveH{b w id:Nat}{s m:qv}{h:List qC}{el el':List AV}(ids:List Nat)(hid:ids.contains id=false)(ho:h[id]?=some (.row w el true))(h0:0<el.length)(hc:el.length=el'.length/\∀p∈el.zip el',HCv (only ids h) p.1 p.2):
  Can b ⟨s,m,h⟩ ⟨s,m,(without ids h).set id (.row w el' true)⟩:=λρ sr hS hb=>by
 have hO:qt ρ (only ids h) sr.h:=⟨λi o hi=>by
   by_cases hd:o=.dead
   ·subst hd;trivial
   ·exact hS.h.obj i o (w5 hi hd).2,λi j a o o' h1 h2 hi hj d1 d2=>hS.h.inj i j a o o' h1 h2 (w5 hi d1).2 (w5 hj d2).2 d1 d2,
  λi hi=>hS.h.out i (by simpa[only]using hi),hS.h.is⟩
 rcases hS.h.obj _ _ ho with⟨_,q2,_⟩ | ⟨a,rel,q1,q2,q3⟩
 ·subst q2;simp at h0
 have hKa:(zr ρ h ids).contains a=false:=by
  by_cases hq:(zr ρ h ids).contains a=true
  ·rw[lCm,wP]at hq;obtain⟨j,w',el2,p1,p2,p3⟩:=hq;have:=hS.h.inj id j a _ _ q1 p2 ho p3 (by simp) (by simp);subst this;have:ids.contains id=true:=by simpa using p1
   rw[this]at hid;cases hid
  ·simpa using hq
 obtain⟨rel',c1,c2,c3⟩:=V0 hc.1 (λp hp=>(hc.2 p hp).conv hO (K:=zr ρ h ids) (λi a w el ha ho=>by
  obtain⟨q1,q2⟩:=w5 ho (by simp);rw[lCm,wP];exact⟨i,w,el,by simpa using q1,ha,q2⟩)) q3
 have hw:=hS.h.without ids;have ho':(without ids h)[id]?=some (.row w el true):=by rw[Jy (by simpa using hid)];exact ho
 refine⟨{s:=sr.s,l:=sr.l,h:=(sr.h.kill (zr ρ h ids)).upd a (.row w rel' true)},ρ,λΓ k c o hx=>.cvh (zr ρ h ids) a w rel rel' true (hS.h.rows ids) hKa q2 c1 c2 hx,⟨hS.s,hS.l, ?_⟩, ?_, ?_⟩
 ·exact hw.write q1 ho' (by simp) (.inr ⟨a,rel',q1,AH.upd_same _ _ _,c3⟩)
 ·refine Fm.trans ⟨λx o p1 p2=>?_,λi x hx=>.inl ⟨i,hx⟩,λx hx=>(AH.fr_kill hx).1,λ_ _=>rfl⟩ (Fm.write hw q1);show (sr.h.kill _) x=_;rw[AH.kill_at,if_neg]
  ·exact p1
  ·rw[lCm,wP];rintro⟨j,w,el,r1,r2,r3⟩;exact p2 j r2
 ·simpa[without]using hb
theorem SCall.giveH{Γ:Nat->Option AFn}{g:Nat}{vs vs':List AV}{h:List qC}{K:AV->List qC->Prop}(ids:List Nat)(hc:vs.length=vs'.length/\∀p∈vs.zip vs',HCv (only ids h) p.1 p.2)(hs:SCall Γ g vs' (without ids h) K):SCall Γ g vs h K:=λρ hr ar hH hv=>by
 have hO:qt ρ (only ids h) hr:=⟨λi o hi=>by
   by_cases hd:o=.dead
   ·subst hd;trivial
   ·exact hH.obj i o (w5 hi hd).2,λi j a o o' h1 h2 hi hj d1 d2=>hH.inj i j a o o' h1 h2 (w5 hi d1).2 (w5 hj d2).2 d1 d2,
  λi hi=>hH.out i (by simpa[only]using hi),hH.is⟩
 obtain⟨ar',c1,c2,c3⟩:=V0 hc.1 (λp hp=>(hc.2 p hp).conv hO (K:=zr ρ h ids) (λi a w el ha ho=>by
  obtain⟨q1,q2⟩:=w5 ho (by simp);rw[lCm,wP];exact⟨i,w,el,by simpa using q1,ha,q2⟩)) hv
 obtain⟨k,r,hr',ρ',v,h',hx,q,g1,g2,g3,g4⟩:=hs ρ (hr.kill (zr ρ h ids)) ar' (hH.without ids) c3;refine⟨k,r,hr',ρ',v,h',.frzA _ (hH.rows ids) c1 c2 hx,q,g1,g2, ?_,by simpa[without]using g4⟩;rw[QG]at g3;refine Fm.trans ⟨λx o p1 p2=>?_,λi x hx=>.inl ⟨i,hx⟩,λx hx=>(AH.fr_kill hx).1,λ_ _=>rfl⟩ g3;show (hr.kill _) x=_;rw[AH.kill_at,if_neg]
 ·exact p1
 ·rw[lCm,wP];rintro⟨j,w,el,r1,r2,r3⟩;exact p2 j r2
theorem qgU:∀{as bs:List AV},AV.trees (as++bs)=(AV.trees as&&AV.trees bs)
 |[],_=>by simp[AV.trees]
 | a::as,bs=>by simp[AV.trees,qgU (as:=as),Bool.and_assoc]
section
variable {Γ:Nat->Option AFn} {g:Nat} {v x y:AV} {j:Nat} {sh:Option Nat}
theorem qz.subV{ρ:Ren}{hr:AH}{K:List Nat}{r:AV}(hp:x.part j sh=some y)(hy:0<y.cells.length)(h:RelV ρ (.ept x j) r):∃r',qz hr K r r'/\RelV ρ (.ept y 0) r':=by
 simp only[RelV]at h;obtain⟨z,rfl,hz⟩:=h;obtain⟨u,h1,h2⟩:=hz.part hp;refine⟨.ept u 0,.sub h1 (by rw[h2.cellsLen];exact hy), ?_⟩;simp only[RelV];exact⟨u,rfl,h2⟩
theorem Pure.lk{as bs:List AV}(hx:x.tree=true)(hp:x.part j sh=some y)(hy:0<y.cells.length)(h:Pure Γ g (as++.ept y 0::bs) v):Pure Γ g (as++.ept x j::bs) v:=by
 unfold Pure at h|-;obtain⟨t1,t2,h⟩:=h;refine⟨?_,t2,λhr ar har=>?_⟩
 ·rw[qgU]at t1|-;simp only[AV.trees,AV.tree,bAt]at t1|-;exact⟨t1.1,hx,t1.2.2⟩
 ·obtain⟨as',br,rfl,ha,hb⟩:∃as' br,ar=as'++br/\RelVs ρ0 as as'/\RelVs ρ0 (.ept x j::bs) br:=⟨ar.take as.length,ar.drop as.length,(List.take_append_drop _ _).symm,by have:=har.take as.length;rwa[List.take_left]at this,by have:=har.drop as.length;rwa[List.drop_left]at this⟩;simp only[RelVs]at hb;obtain⟨r,bs',rfl,hr1,hb⟩:=hb;obtain⟨r',c1,c2⟩:=qz.subV (hr:=hr) (K:=[]) hp hy hr1;obtain⟨k,w,hr',h1,h2,h3,h4⟩:=h (hr.kill []) (as'++r'::bs') (ha.append (by simp only[RelVs];exact⟨r',bs',rfl,c2,hb⟩));have e:(hr.kill []).f=hr.f:=by funext i;rfl
  refine⟨k,w,hr',.frzA [] (λid hi=>by cases hi) (as':=as'++r'::bs') (by simp) (λp hp=>?_) h1,by rw[h2,e],λa ha=>(AH.fr_kill (h3 a ha)).1,h4⟩;rw[List.zip_append (by rfl),List.zip_cons_cons]at hp;rcases zw.1 hp with q | q
  ·have:p.1=p.2:=by obtain⟨i,hi,rfl⟩:=List.getElem_of_mem q;simp
   rw[this];exact .refl _
  ·rcases List.mem_cons.1 q with rfl | q
   ·exact c1
   ·have:p.1=p.2:=by obtain⟨i,hi,rfl⟩:=List.getElem_of_mem q;simp
    rw[this];exact .refl _
theorem Pure.lk0{bs:List AV}(hx:x.tree=true)(hp:x.part j sh=some y)(hy:0<y.cells.length)(h:Pure Γ g (.ept y 0::bs) v):Pure Γ g (.ept x j::bs) v:=Pure.lk (as:=[]) hx hp hy h
theorem Pure.lk1{a:AV}{bs:List AV}(hx:x.tree=true)(hp:x.part j sh=some y)(hy:0<y.cells.length)(h:Pure Γ g (a::.ept y 0::bs) v):Pure Γ g (a::.ept x j::bs) v:=Pure.lk (as:=[a]) hx hp hy h
end
variable {Γ:Nat->Option AFn} {g:Nat} {vs:List AV} {h:List qC}
theorem SCall.runC{F:qJ}{K:AV->List qC->Prop}{st':VSt}(fz bp:List Nat)(hg:Γ g=some (.fn F))(hok:F.body.ok=true)(hn:vs.length=F.np)(hc:Can h.length ⟨qM 0 vs,[],h⟩ st')
  (hR:R ⟨Γ,h.length,fz,bp⟩ [.code F.body] st' (Jq F.res K)):SCall Γ g vs h K:=λρ hr ar hH hv=>by
 have hS:zN ρ ⟨qM 0 vs,[],h⟩ {s:=params 0 ar,l:=Env.empty,h:=hr}:=⟨WA hv,(λn v h=>by cases h),hH⟩;have hs:=Sem.of (E:=⟨Γ,h.length,fz,bp⟩) (by simpa only [lAc,List.all_nil,Bool.and_true,Fr1.ok]using hok) hR;obtain⟨k,e,sr',ρ',st',g1,⟨he,hq⟩,g3,g4,g5⟩:=Sem.can hc hs ρ _ hS (nLr _);have hb:Ex Γ k (.code F.body {s:=params 0 ar,l:=Env.empty,h:=hr}) (.st e sr'):=by
  cases g1 with
  | code h h'=>cases h';exact h
  | codeX h he' hx h'=>cases e<;>simp[exK]at hx
  | codeE h he' hx=>exact h
 split at hq
 ·rename_i us hus;obtain⟨rs,q1,q2⟩:=WD g3 hus;have hx:=Ex.fn hg (by rw[hv.length];exact hn) hb he q1;exact⟨k+1,_,_,ρ',_,st'.h,hx,hq,g3.h,Wn q2,g4,g5⟩
 ·exact hq.elim
end Go.Ab
namespace Go.Ab
open Go
theorem Fresh.pure{Γ:Nat->Option AFn}{g:Nat}{vs:List AV}{t:AV}(hp:Fresh Γ g vs t)(hc:t.cn=true)(ht:t.tree=true):Pure Γ g vs t:=by
 unfold Fresh at hp;unfold Pure;obtain⟨t1,t2,hp⟩:=hp;refine⟨t1,ht,λhr ar har=>?_⟩;obtain⟨k,r,hr',ρ',h1,h2,h3,h4⟩:=hp hr ar har;obtain⟨r',q1,q2⟩:=(qCR (h:=(lay t 0).2) t 0 t2 hc (λi o hi=>by rw[nZa];exact hi)).conv h2 (K:=zr ρ' (lay t 0).2 (List.range t.rows)) (λi a w el ha ho=>by
  rw[lCm,wP];exact⟨i,w,el,lMr.2 (by have:=(gSi.1 ho).1;rw[qf]at this;exact this),ha,ho⟩) h3
 have hrow:Rows hr' (zr ρ' (lay t 0).2 (List.range t.rows)):=λa ha=>by
  rw[lCm,wP]at ha;obtain⟨i,w,el,_,q2,q3⟩:=ha;rcases h2.obj i _ q3 with⟨q,_⟩ | ⟨i',el',p1,p2,p3⟩
  ·rw[q]at q2;cases q2
  ·rw[p1]at q2;cases q2;exact⟨_,p2,rfl⟩
 have hx:=Ex.frzR _ hrow q1 h1;have hkeep:∀id o,hr id=some o->(hr'.kill (zr ρ' (lay t 0).2 (List.range t.rows))) id=some o:=λid o ho=>by
  rw[AH.kill_at];have:(zr ρ' (lay t 0).2 (List.range t.rows)).contains id=false:=by
   rw[<-Bool.not_eq_true,lCm,wP];rintro⟨i,w,el,_,q,_⟩;have:=(h4.new0 q).1;rw[ho]at this;cases this
  rw[this];simpa using h4.pres id o ho (λi hi=>by cases hi)
 exact⟨k,r',_,.drop hkeep (VN _ _ ht q2) hx,rfl,λa ha=>AH.fr_of_tomb ha,q2⟩
section
variable {E:Ev} {ks:List Fr1} {s m:qv} {h:List qC} {st:VSt} {Q:qi->VSt->Prop} {x y z:Ao} {l:List qA} {i:Nat} {d:Option Nat} {v:AV} {g:Option (Nat×Bool)} {ck:List qA}
@[go_sem] theorem qs2:Go1 E (.mk i d g .mkmap ck) l ks ⟨s,m,h⟩ Q=JA E d (.map []) (.map h.length) l ks ⟨s,m,h⟩ Q:=by
 unfold Go1 wa wn;simp[qA.o,qA.d,AOp.isCall,qA.apC,AOp.isApp,JA,w8]
@[go_sem] theorem qs4:Go1 E (.mk i d g (.mlen x) ck) l ks ⟨s,m,h⟩ Q=Put E (((ev (toE s) x).bind (wT (toH h))).map λes=>.int .i64 es.length) d l ks ⟨s,m,h⟩ Q:=je rfl λ_=>rfl
theorem qCA{id:Nat}{es:List (AV×AV)}(ho:h[id]?=some (.map es)):wT (toH h) (.map id)=some es:=by
 have:(toH h).f id=some (.map es):=ho;simp only[wT];show (match toH h id with | some (.map es)=>some es | _=>none)=some es;rw[show toH h id=some (.map es)from ho]
def lku(z:AV)(ok:Bool)(k:AV)(es:List (AV×AV)):Option AV:=match jT k es 0 with
 | some (some (_,v))=>some (if ok then .tup [v,.bool true]else v)
 | some none=>some (if ok then .tup [z,.bool false]else z)
 | none=>none
def lkE(h:List qC)(z:AV)(ok:Bool)(a b:Option AV):Option AV:=match a,b with
 | some m,some k=>match wT (toH h) m with
  | some es=>lku z ok k es
  | none=>none
 | _,_=>none
@[go_sem] theorem qsX{z:AV}{ok:Bool}:Go1 E (.mk i d g (.look z x y ok) ck) l ks ⟨s,m,h⟩ Q=Put E (lkE h z ok (ev (toE s) x) (ev (toE s) y)) d l ks ⟨s,m,h⟩ Q:=by
 rw[je rfl λ_=>rfl];rfl
theorem Ub{z k:AV}{ok:Bool}{id:Nat}{es:List (AV×AV)}(ho:h[id]?=some (.map es)):lkE h z ok (some (.map id)) (some k)=lku z ok k es:=by simp only[lkE,qCA ho]
def Mup(E:Ev)(a b c:Option AV)(l:List qA)(ks:List Fr1)(st:VSt)(Q:qi->VSt->Prop):Prop:=match a,b,c with
 | some (.map id),some k',some v'=>(match st.h[id]? with
  | some (.map es)=>(match jT k' es 0 with
   | some (some (i,_))=>R E (.ops l::ks) {st with h:=st.h.set id (.map (es.set i (k',v')))} Q
   | some none=>R E (.ops l::ks) {st with h:=st.h.set id (.map (es++[(k',v')]))} Q
   | none=>False)
  | _=>False)
 | _,_,_=>False
@[go_sem] theorem qs6:Go1 E (.mk i d g (.mupd x y z) ck) l ks ⟨s,m,h⟩ Q=Mup E (ev (toE s) x) (ev (toE s) y) (ev (toE s) z) l ks ⟨s,m,h⟩ Q:=by
 unfold Go1 wa wn Mup;simp only[qA.o,qA.d,AOp.isCall,qA.apC,AOp.isApp,Bool.false_and,bFt,if_false]
 all_goals rfl
theorem qeC{id:Nat}{es:List (AV×AV)}{k v:AV}(ho:h[id]?=some (.map es))(hf:jT k es 0=some none)(hr:R E (.ops l::ks) ⟨s,m,h.set id (.map (es++[(k,v)]))⟩ Q):Mup E (some (.map id)) (some k) (some v) l ks ⟨s,m,h⟩ Q:=by
 simp only[Mup,ho,hf];exact hr
end
def kI(n:Nat):AV:=.int .i64 (n:Nat)
theorem UO{n:Nat}{v:Nat->AV}:∀{ks:List Nat}{i:Nat},n∉ks->jT (kI n) (ks.map λk=>(kI k,v k)) i=some none
 |[],_,_=>rfl
 | k::ks,i,h=>by
  have h1:¬n=k:=λe=>h (e▸lMs);have:((n:Int)==(k:Int))=false:=by simp;omega
  simp only[lMc,jT,kI,QQ,if_true,this];exact UO λq=>h (List.mem_cons_of_mem _ q)
theorem qc4{n:Nat}{v:Nat->AV}:∀{ks:List Nat}{i:Nat},n∈ks->∃j,jT (kI n) (ks.map λk=>(kI k,v k)) i=some (some (j,v n))
 | k::ks,i,h=>by
  by_cases e:n=k
  ·subst e;exact⟨i,by simp[jT,kI,QQ]⟩
  ·have:((n:Int)==(k:Int))=false:=by simp;omega
   simp only[lMc,jT,kI,QQ,if_true,this];exact qc4 (by simpa[e]using h)
section
variable {μ μ':List (Option Nat)} {h h':List qC}
theorem VR2s.hd{a b:AV}{as bs:List AV}(x:VR2s μ (a::as) (b::bs)):VR2 μ a b/\VR2s μ as bs:=
 ⟨x.2 (a,b) (by simp),by have:=x.1;simpa using this,λp hp=>x.2 p (by simp only[List.zip_cons_cons];exact List.mem_cons_of_mem _ hp)⟩
theorem VR2.aggs{v:AV}{ds:List AV}(x:VR2 μ v (.agg ds)):∃cs,v=.agg cs/\VR2s μ cs ds:=by
 cases x with
 | tree ht=>exact⟨ds,rfl,VR2s.trees (by simpa only [AV.tree]using ht)⟩
 | agg hl hc=>exact⟨_,rfl,hl,hc⟩
theorem VR2.tups{v:AV}{ds:List AV}(x:VR2 μ v (.tup ds)):∃cs,v=.tup cs/\VR2s μ cs ds:=by
 cases x with
 | tree ht=>exact⟨ds,rfl,VR2s.trees (by simpa only [AV.tree]using ht)⟩
 | tup hl hc=>exact⟨_,rfl,hl,hc⟩
theorem VR2.slc0{v:AV}{w a b n:Nat}(h:μ'[b]?=μ[a]?)(x:VR2 μ v (.slice w a 0 n false)):VR2 μ' v (.slice w b 0 n false):=by
 cases x with
 | tree ht=>simp[AV.tree]at ht
 | slice hm=>exact .slice (h.trans hm)
 | ph hm=>exact .ph (h.trans hm)
 | ph2 hm=>exact .ph2 (h.trans hm)
mutual
theorem VR2.move:∀(t:AV)(a b:Nat)(v:AV),t.pl=true->(∀i,i<t.rows->μ'[b+i]?=μ[a+i]?)->VR2 μ v (lay t a).1->VR2 μ' v (lay t b).1
 |.lst w xs c,a,b,v,hp,hm,hv=>by
  simp only[lay]at hv|-;exact hv.slc0 (by have:=hm 0 (by simp only[AV.rows];omega);simpa using this)
 |.agg xs,a,b,v,hp,hm,hv=>by
  simp only[lay]at hv|-;obtain⟨cs,rfl,hc⟩:=hv.aggs;have:=VR2.moves xs a b cs hp hm hc;exact .agg this.1 this.2
 |.tup xs,a,b,v,hp,hm,hv=>by
  simp only[lay]at hv|-;obtain⟨cs,rfl,hc⟩:=hv.tups;have:=VR2.moves xs a b cs hp hm hc;exact .tup this.1 this.2
 |.bool _,_,_,_,_,_,hv |.int _ _,_,_,_,_,_,hv |.str _,_,_,_,_,_,hv |.nilp,_,_,_,_,_,hv |.nils,_,_,_,_,_,hv |.nilm,_,_,_,_,_,hv |.nilf,_,_,_,_,_,hv |.nili,_,_,_,_,_,hv=>by
  simp only[lay]at hv|-;cases hv;exact .tree (by rfl)
 |.any,_,_,_,hp,_,_ |.ptr _ _ _,_,_,_,hp,_,_ |.slice _ _ _ _ _,_,_,_,hp,_,_ |.map _,_,_,_,hp,_,_ |.ept _ _,_,_,_,hp,_,_ |.fn _ _,_,_,_,hp,_,_ |.iface _ _,_,_,_,hp,_,_=>by cases hp
theorem VR2.moves:∀(xs:List AV)(a b:Nat)(vs:List AV),AV.pls xs=true->(∀i,i<AV.rowss xs->μ'[b+i]?=μ[a+i]?)->VR2s μ vs (qK xs a).1->VR2s μ' vs (qK xs b).1
 |[],a,b,vs,_,_,hv=>by
  have:vs=[]:=lEz hv.1;subst this;exact VR2s.nil
 | x::xs,a,b,vs,hp,hm,hv=>by
  simp only[AV.pls,bAt]at hp;simp only[AV.rowss]at hm;simp only[qK,qf]at hv|-;cases vs with
  | nil=>have:=hv.1;simp at this
  | cons v vs=>
   obtain⟨h1,h2⟩:=hv.hd;refine .cons (VR2.move x a b v hp.1 (λi hi=>hm i (by omega)) h1) (VR2.moves xs _ _ vs hp.2 (λi hi=>?_) h2);rw[show b+x.rows+i=b+(x.rows+i) by omega,show a+x.rows+i=a+(x.rows+i) by omega];exact hm _ (by omega)
end
mutual
theorem OR2.move:∀(t:AV)(a b:Nat),t.pl=true->(∀i,i<t.rows->μ'[b+i]?=μ[a+i]?)->∀(i:Nat)(j:Option Nat)(o o':qC),(lay t a).2[i]?=some o->(lay t b).2[i]?=some o'->OR2 μ h j o->OR2 μ' h j o'
 |.lst w xs c,a,b,hp,hm,i,j,o,o',h1,h2,ho=>by
  simp only[lay]at h1 h2;simp only[AV.rows]at hm;have hm':∀i,i<AV.rowss xs->μ'[b+1+i]?=μ[a+1+i]?:=λi hi=>by
   rw[show b+1+i=b+(i+1) by omega,show a+1+i=a+(i+1) by omega];exact hm _ (by omega)
  cases i with
  | zero=>
   simp only[List.getElem?_cons_zero,oSi]at h1 h2;subst h1 h2;generalize he:(qK xs (a+1)).1=el at ho;cases ho with
   | ph=>
    have:xs=[]:=lEz (by rw[<-jK xs (a+1),he];rfl);subst this;exact .ph
   | row hr hv=>
    rw[<-he]at hv;exact .row hr (VR2.moves xs _ _ _ hp hm' hv)
  | succ i=>
   simp only[List.getElem?_cons_succ]at h1 h2;exact OR2.moves xs (a+1) (b+1) hp hm' i j o o' h1 h2 ho
 |.agg xs,a,b,hp,hm,i,j,o,o',h1,h2,ho=>by
  simp only[lay]at h1 h2;exact OR2.moves xs a b hp hm i j o o' h1 h2 ho
 |.tup xs,a,b,hp,hm,i,j,o,o',h1,h2,ho=>by
  simp only[lay]at h1 h2;exact OR2.moves xs a b hp hm i j o o' h1 h2 ho
 |.bool _,_,_,_,_,_,_,_,_,h1,_,_ |.int _ _,_,_,_,_,_,_,_,_,h1,_,_ |.str _,_,_,_,_,_,_,_,_,h1,_,_ |.nilp,_,_,_,_,_,_,_,_,h1,_,_ |.nils,_,_,_,_,_,_,_,_,h1,_,_ |.nilm,_,_,_,_,_,_,_,_,h1,_,_ |.nilf,_,_,_,_,_,_,_,_,h1,_,_ |.nili,_,_,_,_,_,_,_,_,h1,_,_=>by
  simp[lay]at h1
 |.any,_,_,hp,_,_,_,_,_,_,_,_ |.ptr _ _ _,_,_,hp,_,_,_,_,_,_,_,_ |.slice _ _ _ _ _,_,_,hp,_,_,_,_,_,_,_,_ |.map _,_,_,hp,_,_,_,_,_,_,_,_ |.ept _ _,_,_,hp,_,_,_,_,_,_,_,_ |.fn _ _,_,_,hp,_,_,_,_,_,_,_,_ |.iface _ _,_,_,hp,_,_,_,_,_,_,_,_=>by cases hp
theorem OR2.moves:∀(xs:List AV)(a b:Nat),AV.pls xs=true->(∀i,i<AV.rowss xs->μ'[b+i]?=μ[a+i]?)->∀(i:Nat)(j:Option Nat)(o o':qC),(qK xs a).2[i]?=some o->(qK xs b).2[i]?=some o'->OR2 μ h j o->OR2 μ' h j o'
 |[],_,_,_,_,_,_,_,_,h1,_,_=>by simp[qK]at h1
 | x::xs,a,b,hp,hm,i,j,o,o',h1,h2,ho=>by
  simp only[AV.pls,bAt]at hp;simp only[AV.rowss]at hm;simp only[qK,qf]at h1 h2;rcases Nat.lt_or_ge i x.rows with q | q
  ·rw[gAl (by rw[qf];exact q)]at h1 h2;exact OR2.move x a b hp.1 (λi hi=>hm i (by omega)) i j o o' h1 h2 ho
  ·rw[gAr (by rw[qf];exact q),qf]at h1 h2;refine OR2.moves xs (a+x.rows) (b+x.rows) hp.2 (λi hi=>?_) (i-x.rows) j o o' h1 h2 ho;rw[show b+x.rows+i=b+(x.rows+i) by omega,show a+x.rows+i=a+(x.rows+i) by omega];exact hm _ (by omega)
end
theorem qmU{r:List (Option Nat)}{t:AV}{a b:Nat}(hp:t.pl=true)(hm:∀i,i<t.rows->μ'[b+i]?=μ[a+i]?)(ho:j0 μ h r (lay t a).2):j0 μ' h r (lay t b).2:=by
 have hl:=Xn ho;rw[qf]at hl;refine Xo (by rw[hl,qf]) λi j o' h1 h2=>?_;have hi:i<(lay t a).2.length:=by have:=(gSi.1 h2).1;rw[qf]at this|-;exact this
 obtain⟨j',hj,hor⟩:=Wi ho i _ (gEg hi);rw[h1]at hj;cases hj;exact OR2.move t a b hp hm i j _ o' (gEg hi) h2 hor
theorem Yw{r:List (Option Nat)}{xs:List AV}{a b:Nat}(hp:AV.pls xs=true)(hm:∀i,i<AV.rowss xs->μ'[b+i]?=μ[a+i]?)(ho:j0 μ h r (qK xs a).2):j0 μ' h r (qK xs b).2:=by
 have hl:=Xn ho;rw[jC]at hl;refine Xo (by rw[hl,jC]) λi j o' h1 h2=>?_;have hi:i<(qK xs a).2.length:=by have:=(gSi.1 h2).1;rw[jC]at this|-;exact this
 obtain⟨j',hj,hor⟩:=Wi ho i _ (gEg hi);rw[h1]at hj;cases hj;exact OR2.moves xs a b hp hm i j _ o' (gEg hi) h2 hor
theorem qDD:∀{r:List (Option Nat)}{os:List qC},(∀j,some j∈r->h'[j]?=h[j]?)->j0 μ h r os->j0 μ h' r os
 |[],[],_,k=>k
 | j::r,o::os,hh,k=>by
  refine⟨?_,qDD (λi hi=>hh i (List.mem_cons_of_mem _ hi)) k.2⟩;have k1:=k.1;cases k1 with
  | dead=>exact .dead
  | ph=>exact .ph
  | row ho he=>exact .row ((hh _ (by simp)).trans ho) he
  | map ho hk hv=>exact .map ((hh _ (by simp)).trans ho) hk hv
 |[],_::_,_,k=>k.elim
 | _::_,[],_,k=>k.elim
theorem V3:∀{a b:List (Option Nat)},zb a=true->zb b=true->(∀j,some j∈a->some j∉b)->zb (a++b)=true
 |[],b,_,hb,_=>hb
 | none::a,b,ha,hb,hn=>by
  simp only[lCa,zb]at ha|-;exact V3 ha hb λj hj=>hn j (List.mem_cons_of_mem _ hj)
 | some j::a,b,ha,hb,hn=>by
  simp only[lCa,zb,bAt,lAt]at ha|-;refine⟨λx hx=>?_,V3 ha.2 hb λj hj=>hn j (List.mem_cons_of_mem _ hj)⟩;rcases zw.1 hx with hx | hx
  ·exact ha.1 x hx
  ·cases x with
   | none=>rfl
   | some k=>
    have:j≠k:=by rintro rfl;exact hn j (by simp) hx
    have hb:Nat.beq j k=false:=by rw[<-Bool.not_eq_true];intro q;exact this (Nat.eq_of_beq_eq_true q)
    simp only[hb];rfl
theorem qjX{k:Nat}{b:List (Option Nat)}(hb:zb b=true)(hn:some k∉b):zb (some k::b)=true:=by
 have:=V3 (a:=[some k]) (b:=b) rfl hb (λj hj=>by simp at hj;subst hj;exact hn);exact this
end
theorem VR2s.app{μ:List (Option Nat)}:∀{as bs cs ds:List AV},VR2s μ as bs->VR2s μ cs ds->VR2s μ (as++cs) (bs++ds)
 |[],[],_,_,_,k=>k
 | a::as,b::bs,_,_,j,k=>VR2s.cons j.hd.1 (VR2s.app j.hd.2 k)
 |[],_::_,_,_,j,_=>by have:=j.1;simp at this
 | _::_,[],_,_,j,_=>by have:=j.1;simp at this
structure qd(S:List (Option Nat))(h:List qC)(v t:AV):Prop where
 p:t.pl=true
 d:zb S=true
 o:j0 S h S (lay t 0).2
 v:VR2 S v (lay t 0).1
structure qo(S:List (Option Nat))(h:List qC)(vs ts:List AV):Prop where
 p:AV.pls ts=true
 d:zb S=true
 o:j0 S h S (qK ts 0).2
 v:VR2s S vs (qK ts 0).1
theorem qfB:∀{as bs:List AV},AV.pls (as++bs)=(AV.pls as&&AV.pls bs)
 |[],_=>by simp[AV.pls]
 | a::as,bs=>by simp[AV.pls,qfB (as:=as),Bool.and_assoc]
section
variable {S S':List (Option Nat)} {h h':List qC} {v t:AV} {vs ts vs' ts':List AV}
theorem qd.len(x:qd S h v t):S.length=t.rows:=by rw[Xn x.o,qf]
theorem qo.len(x:qo S h vs ts):S.length=AV.rowss ts:=by rw[Xn x.o,jC]
theorem qo.cnt(x:qo S h vs ts):vs.length=ts.length:=by rw[x.v.1,jK]
theorem qd.heap(x:qd S h v t)(hh:∀j,some j∈S->h'[j]?=h[j]?):qd S h' v t:=⟨x.p,x.d,qDD hh x.o,x.v⟩
theorem qo.heap(x:qo S h vs ts)(hh:∀j,some j∈S->h'[j]?=h[j]?):qo S h' vs ts:=⟨x.p,x.d,qDD hh x.o,x.v⟩
theorem qo.nil:qo [] h [] []:=⟨rfl,rfl,trivial,VR2s.nil⟩
theorem qo.app(x:qo S h vs ts)(y:qo S' h vs' ts')(hn:∀j,some j∈S->some j∉S'):qo (S++S') h (vs++vs') (ts++ts'):=by
 have l1:=x.len;have l2:=y.len;have m1:∀i,i<AV.rowss ts->(S++S')[0+i]?=S[0+i]?:=λi hi=>gAl (by omega);have m2:∀i,i<AV.rowss ts'->(S++S')[0+AV.rowss ts+i]?=S'[0+i]?:=λi hi=>by
  rw[gAr (by omega)];congr 1;omega
 refine⟨by rw[qfB,x.p,y.p];rfl,V3 x.d y.d hn, ?_, ?_⟩
 ·rw[Xc];exact qDC (Yw x.p m1 x.o) (Yw y.p m2 y.o)
 ·rw[Xc];exact VR2s.app (VR2.moves _ _ _ _ x.p m1 x.v) (VR2.moves _ _ _ _ y.p m2 y.v)
theorem qd.one(x:qd S h v t):qo S h [v] [t]:=by
 refine⟨by simp[AV.pls,x.p],x.d, ?_, ?_⟩
 ·simp only[qK,lAn];exact x.o
 ·simp only[qK];exact VR2s.cons x.v VR2s.nil
theorem qo.snoc(x:qo S h vs ts)(y:qd S' h v t)(hn:∀j,some j∈S->some j∉S'):qo (S++S') h (vs++[v]) (ts++[t]):=x.app y.one hn
theorem qo.scal(x:qo S h vs ts){a:AV}(ha:∀n,lay a n=(a,[]))(hp:a.pl=true)(ht:a.tree=true):qo S h (vs++[a]) (ts++[a]):=by
 have y:qo [] h [a] [a]:=⟨by simp[AV.pls,hp],rfl,by simp only[qK,ha];trivial,by simp only[qK,ha];exact VR2s.cons (.tree ht) VR2s.nil⟩;have:=x.app y (λj hj=>by simp);rwa[lAn]at this
theorem qo.agg(x:qo S h vs ts):qd S h (.agg vs) (.agg ts):=⟨by simp only[AV.pl];exact x.p,x.d,by simp only[lay];exact x.o,by simp only[lay];exact .agg x.v.1 x.v.2⟩
theorem qo.tup(x:qo S h vs ts):qd S h (.tup vs) (.tup ts):=⟨by simp only[AV.pl];exact x.p,x.d,by simp only[lay];exact x.o,by simp only[lay];exact .tup x.v.1 x.v.2⟩
theorem qd.aggs{w:AV}(x:qd S h w (.agg ts)):∃vs,w=.agg vs/\qo S h vs ts:=by
 have hv:=x.v;simp only[lay]at hv;obtain⟨cs,rfl,hc⟩:=hv.aggs;exact⟨cs,rfl,by have:=x.p;simp only[AV.pl]at this;exact this,x.d,by have:=x.o;simp only[lay]at this;exact this,hc⟩
theorem qo.row{k w:Nat}(x:qo S h vs ts)(hr:h[k]?=some (.row w vs true))(hn:some k∉S):qd (some k::S) h (.slice w k 0 ts.length false) (.lst w ts false):=by
 have m:∀i,i<AV.rowss ts->(some k::S)[0+1+i]?=S[0+i]?:=λi hi=>by
  rw[show 0+1+i=i+1 by omega,List.getElem?_cons_succ,nZa]
 refine⟨by simp only[AV.pl];exact x.p,qjX x.d hn, ?_, ?_⟩
 ·simp only[lay];exact⟨.row hr (VR2.moves _ _ _ _ x.p m x.v),Yw x.p m x.o⟩
 ·simp only[lay];exact .slice (by simp)
theorem qd.nils{w:Nat}{c:Bool}:qd [none] h .nils (.lst w [] false):=by
 refine⟨rfl,rfl, ?_, ?_⟩
 ·simp only[lay,qK];exact⟨.ph,trivial⟩
 ·simp only[lay,qK,lNi];exact .ph rfl
theorem qd.new{pre post:List qC}{n:Nat}(hp:t.pl=true)(hn:pre.length=n)(hh:h=pre++((lay t n).2++post)):qd ((List.range' n t.rows).map some) h (lay t n).1 t:=by
 subst hn;have hm:∀i,i<t.rows->((List.range' pre.length t.rows).map some)[0+i]?=some (some (pre.length+i)):=λi hi=>by
  rw[gMp,List.getElem?_range' (by omega)];simp
 refine⟨hp,V5 (List.nodup_range'),Xo (by simp[qf]) λi j o h1 h2=>?_,qCQ t _ _ hp hm⟩;have hi:i<t.rows:=by have:=(gSi.1 h2).1;rw[qf]at this;exact this
 have:=hm i hi;rw[nZa]at this;rw[this]at h1;cases h1;refine qCP t pre.length 0 hp hm (λi o hi=>?_) i o h2;rw[hh,gAr (by omega),Nat.add_sub_cancel_left,gAl (gSi.1 hi).1];exact hi
theorem qd.fin{ws:List AV}(x:qd S h (zT ws) t):Zd (some ws) h t:=⟨S,x.d,x.o,x.v⟩
theorem Xw{n k j:Nat}(hj:some j∈(List.range' n k).map some):n<=j/\j<n+k:=by
 simp only[List.mem_map,oSi,exists_eq_right,List.mem_range'_1]at hj;exact hj
end
theorem Xf{α:Type}{xs:List α}{i:Nat}{x:α}(h:xs[i]?=some x):i<xs.length:=(gSi.1 h).1
theorem qe1{S S1:List (Option Nat)}{g mid:List qC}{k w:Nat}{vs ts:List AV}{X t:AV}(hO:qo S g vs ts)(hS:∀j,some j∈S->j<g.length)(hk:g[k]?=some (.row w vs true))(hn:some k∉S)
  (hX:qd S1 (g++mid) X t) (hS1:∀j,some j∈S1->g.length<=j/\j<g.length+mid.length):
  ∃G,G=(((g++mid)++[qC.row w [X] true]).set k .dead)++[qC.row w (vs++[X]) true]/\qo (S++S1) G (vs++[X]) (ts++[t])/\(∀j,some j∈S++S1->j<G.length)/\G[g.length+mid.length+1]?=some (.row w (vs++[X]) true)/\some (g.length+mid.length+1)∉S++S1/\
   (∀j,j<g.length->j≠k->G[j]?=g[j]?)/\g.length<=G.length/\∀j,some j∈S++S1->some j∈S\/g.length<=j:=by
 have lk:=Xf hk;have a1:∀j,j<g.length+mid.length->j≠k->((((g++mid)++[qC.row w [X] true]).set k .dead)++[qC.row w (vs++[X]) true])[j]?=(g++mid)[j]?:=λj hj hne=>by
  rw[gAl (by simp;omega),gSn (Ne.symm hne),gAl (by simp;omega)]
 refine⟨_,rfl, ?_,λj hj=>?_, ?_,λq=>?_,λj hj hne=>?_,by simp;omega,λj hj=>?_⟩
 ·refine(hO.heap λj hj=>?_).snoc (hX.heap λj hj=>?_) λj hj hj2=>?_
  ·have:=hS j hj;rw[a1 j (by omega) (by rintro rfl;exact hn hj),gAl this]
  ·have:=hS1 j hj;exact a1 j (by omega) (by omega)
  ·have:=hS j hj;have:=hS1 j hj2;omega
 ·rcases zw.1 hj with q | q
  ·have:=hS j q;simp;omega
  ·have:=hS1 j q;simp;omega
 ·rw[gAr (by simp;omega)];simp only[lLs,lAp,lCo,lNi];rw[show g.length+mid.length+1-(g.length+mid.length+(0+1))=0 by omega];rfl
 ·rcases zw.1 q with q | q
  ·have:=hS _ q;omega
  ·have:=hS1 _ q;omega
 ·rw[a1 j (by omega) hne,gAl hj]
 ·rcases zw.1 hj with q | q
  ·exact .inl q
  ·exact .inr (hS1 j q).1
structure IFs(S0:List (Option Nat))(cs0 ts0:List AV)(w:Nat)(g:List qC)(si:Nat)(S:List (Option Nat))(vs ts:List AV):Prop where
 c:qo S0 g cs0 ts0
 c0:∀j,some j∈S0->j<g.length
 o:qo S g vs ts
 o0:∀j,some j∈S->j<g.length
 r:g[si]?=some (.row w vs true)
 n1:some si∉S
 n2:some si∉S0
 n3:∀j,some j∈S0->some j∉S
section
variable {S0 S S1:List (Option Nat)} {cs0 ts0 vs ts:List AV} {w si:Nat} {g mid:List qC} {X t:AV}
theorem IFs.start(hc:qo S0 g cs0 ts0)(h0:∀j,some j∈S0->j<g.length):IFs S0 cs0 ts0 w (g++[.row w [] true]) g.length [] [] []:=
 ⟨hc.heap λj hj=>gAl (h0 j hj),λj hj=>by have:=h0 j hj;simp;omega,qo.nil,λj hj=>by simp at hj,by simp,by simp,λq=>by have:=h0 _ q;omega,λj _ hj=>by simp at hj⟩
theorem IFs.push(h:IFs S0 cs0 ts0 w g si S vs ts)(hX:qd S1 (g++mid) X t)(hS1:∀j,some j∈S1->g.length<=j/\j<g.length+mid.length):
  IFs S0 cs0 ts0 w ((((g++mid)++[qC.row w [X] true]).set si .dead)++[qC.row w (vs++[X]) true]) (g.length+mid.length+1) (S++S1) (vs++[X]) (ts++[t]):=by
 obtain⟨G,hG,q1,q2,q3,q4,q5,q6,q7⟩:=qe1 h.o h.o0 h.r h.n1 hX hS1;rw[<-hG];refine⟨h.c.heap λj hj=>q5 j (h.c0 j hj) (by rintro rfl;exact h.n2 hj),λj hj=>by have:=h.c0 j hj;omega,q1,q2,q3,q4,λq=>by have:=h.c0 _ q;omega,λj hj hj2=>?_⟩;rcases q7 j hj2 with q | q
 ·exact h.n3 j hj q
 ·have:=h.c0 j hj;omega
theorem IFs.done{n:Nat}(h:IFs S0 cs0 ts0 w g si S vs ts)(hn:ts.length=n):qo (S0++some si::S) g (cs0++[.slice w si 0 n false]) (ts0++[.lst w ts false])/\∀j,some j∈S0++some si::S->j<g.length:=by
 subst hn;refine⟨h.c.snoc (h.o.row h.r h.n1) λj hj hj2=>?_,λj hj=>?_⟩
 ·rcases List.mem_cons.1 hj2 with q | q
  ·cases q;exact h.n2 hj
  ·exact h.n3 j hj q
 ·rcases zw.1 hj with q | q
  ·exact h.c0 j q
  ·rcases List.mem_cons.1 q with q | q
   ·cases q;exact Xf h.r
   ·exact h.o0 j q
end
theorem Xr{h:List qC}{xs:List AV}(hf:∀n,qK xs n=(xs,[]))(hp:AV.pls xs=true)(ht:AV.trees xs=true):qo [] h xs xs:=
 ⟨hp,rfl,by rw[hf];trivial,by rw[hf];exact VR2s.trees ht⟩
mutual
theorem qe0{S:List (Option Nat)}{h:List qC}(hn:none∉S):∀(t:AV)(a:Nat)(v:AV),t.pl=true->t.cn=true->VR2 S v (lay t a).1->(∀i o,(lay t a).2[i]?=some o->∃j,S[a+i]?=some j/\OR2 S h j o)->Cv h v t
 |.lst w xs c,a,v,hp,hc,hv,hh=>by
  simp only[AV.cn,bAt,dTe,bNt]at hc;obtain⟨⟨h0,rfl⟩,hc⟩:=hc;simp only[lay]at hv hh;obtain⟨j,hj,ho⟩:=hh 0 _ rfl;rw[nAz]at hj;have l:=jK xs (a+1);generalize hnn:xs.length=n at hv;cases hv with
  | tree ht=>simp[AV.tree]at ht
  | slice hm=>
   rw[hm]at hj;cases hj;generalize hel:(qK xs (a+1)).1=el at ho;cases ho with
   | row hr he=>
    have le:=he.1;rw[<-hel,l]at le;rw[<-hel]at he;refine .slc hr (by omega) h0 (by rw[List.drop_zero,<-hnn,<-le,lTl]) ?_;rw[List.drop_zero,<-hnn,<-le,lTl];exact Ux hn xs (a+1) _ hp hc he λi o hi=>by
     rw[show a+1+i=a+(i+1) by omega];exact hh (i+1) o (by simpa using hi)
  | ph hm=>exact absurd (lMo hm) hn
  | ph2 hm=>exact absurd (lMo hm) hn
 |.agg xs,a,v,hp,hc,hv,hh=>by
  simp only[lay]at hv hh;obtain⟨cs,rfl,hcs⟩:=hv.aggs;exact .agg (by rw[hcs.1,jK]) (Ux hn xs a cs hp hc hcs hh)
 |.tup xs,a,v,hp,hc,hv,hh=>by
  simp only[lay]at hv hh;obtain⟨cs,rfl,hcs⟩:=hv.tups;exact .tup (by rw[hcs.1,jK]) (Ux hn xs a cs hp hc hcs hh)
 |.bool _,_,_,_,_,hv,_ |.int _ _,_,_,_,_,hv,_ |.str _,_,_,_,_,hv,_ |.nilp,_,_,_,_,hv,_ |.nils,_,_,_,_,hv,_ |.nilm,_,_,_,_,hv,_ |.nilf,_,_,_,_,hv,_ |.nili,_,_,_,_,hv,_=>by
  simp only[lay]at hv;cases hv;exact .refl rfl
 |.any,_,_,hp,_,_,_ |.ptr _ _ _,_,_,hp,_,_,_ |.slice _ _ _ _ _,_,_,hp,_,_,_ |.map _,_,_,hp,_,_,_ |.ept _ _,_,_,hp,_,_,_ |.fn _ _,_,_,hp,_,_,_ |.iface _ _,_,_,hp,_,_,_=>by cases hp
theorem Ux{S:List (Option Nat)}{h:List qC}(hn:none∉S):∀(xs:List AV)(a:Nat)(vs:List AV),AV.pls xs=true->AV.cns xs=true->VR2s S vs (qK xs a).1->(∀i o,(qK xs a).2[i]?=some o->∃j,S[a+i]?=some j/\OR2 S h j o)->∀p∈vs.zip xs,Cv h p.1 p.2
 |[],_,_,_,_,_,_=>λp hp=>by simp at hp
 | x::xs,a,vs,hp,hc,hv,hh=>by
  simp only[AV.pls,bAt]at hp;simp only[AV.cns,bAt]at hc;simp only[qK,qf]at hv hh;cases vs with
  | nil=>exact λp hp=>by simp at hp
  | cons v vs=>
   obtain⟨h1,h2⟩:=hv.hd;refine w9 (qe0 hn x a v hp.1 hc.1 h1 λi o hi=>hh i o (by rw[gAl (gSi.1 hi).1];exact hi)) (Ux hn xs _ vs hp.2 hc.2 h2 λi o hi=>?_);rw[show a+x.rows+i=a+(x.rows+i) by omega];exact hh _ o (by rw[gAr (by rw[qf];omega),qf,Nat.add_sub_cancel_left];exact hi)
end
theorem qd.cv{S:List (Option Nat)}{h:List qC}{v t:AV}(x:qd S h v t)(hn:none∉S)(hc:t.cn=true):Cv h v t:=
 qe0 hn t 0 v x.p hc x.v λi o hi=>by
  obtain⟨j,q1,q2⟩:=Wi x.o i o hi;exact⟨j,by rw[nZa];exact q1,q2⟩
section
variable {E:Ev} {ρ:Ren} {st:VSt} {sr:St}
theorem qqI{o:AOp}{d:Option Nat}{K:VSt->Prop}(hq:o.quiet=true)(hk:wn o d st K):∃v,JP o st=some v/\K (st.put d v):=by
 have key:(match JP o st with | some v=>K (st.put d v) | none=>False)->∃v,JP o st=some v/\K (st.put d v):=λh=>by
  split at h
  ·rename_i v hv;exact⟨v,hv,h⟩
  ·exact h.elim
 cases o<;>first
  | (simp only[AOp.quiet,bFt]at hq;done)
  | exact key hk
theorem qES:∀{l:List qA}{st:VSt}{sr:St}{K:VSt->Prop},(l.all λc=>c.o.ok&&(c.o.quiet&&(c.g.isNone&&c.ck.isEmpty)))=true->zN ρ st sr->xl E l st K->∃k sr' st',Ex E.Γ k (.ops l sr) (.st .nrm sr')/\K st'/\zN ρ st' sr'/\sr'.h=sr.h/\st'.h=st.h
 |[],st,sr,K,_,hS,hx=>⟨0,sr,st,.nil,hx,hS,rfl,rfl⟩
 | c::l,st,sr,K,hl,hS,hx=>by
  simp only[lAc,bAt]at hl;obtain⟨⟨h1,h2,h3,h4⟩,hl⟩:=hl;obtain⟨i,d,g,o,ck⟩:=c;simp only[qA.o,qA.g,qA.ck]at h1 h2 h3 h4;cases g with
  | some g=>cases h3
  | none=>
   cases ck with
   | cons a b=>cases h4
   | nil=>
    simp only[xl]at hx;have n1:¬o.isCall=true:=by cases o<;>first | (simp[AOp.isCall];done) | cases h2
    have n2:¬qA.apC (.mk i d none o [])=true:=by simp[qA.apC,qA.ck]
    have hx1:wa E (.mk i d none o []) st λst'=>xl E l st' K:=hx;unfold wa at hx1;rw[if_neg (show ¬(qA.mk i d none o []).o.isCall=true from n1),if_neg n2]at hx1;obtain⟨v,hv,hk⟩:=qqI h2 hx1;obtain⟨r,q1,q2⟩:=qg3 hS h1 hv;obtain⟨k,sr',st',g1,g2,g3,g4,g5⟩:=qES (st:=st.put d v) (sr:=sr.put d r) hl ⟨hS.s.put q2,hS.l,hS.h⟩ hk;exact⟨k,sr',st',.step rfl (Step.of_val q1) trivial g1,g2,g3,g4,g5⟩
end
section
variable {Γ:Nat->Option AFn} {g:Nat} {vs:List AV} {h:List qC}
theorem SCallP.quiet{F:qJ}{p1 p2:Bool}{l1 l2:List qA}{v:AV}(hg:Γ g=some (.fn F))(hF:F.body=.seq (.reg p1 l1) (.seq (.reg p2 l2) .ret))(h1:(l1.all λc=>c.o.ok&&(c.o.quiet&&(c.g.isNone&&c.ck.isEmpty)))=true)(h2:(l2.all λc=>c.o.ok&&(c.o.quiet&&(c.g.isNone&&c.ck.isEmpty)))=true)
  (hn:vs.length=F.np) (hR:R ⟨Γ,h.length,[],[]⟩ [.code F.body] ⟨qM 0 vs,[],h⟩ (Jq F.res λv' _=>v'=v)):SCallP Γ g vs h λv'=>v'=v:=λρ hr ar hH hv=>by
 have hS:zN ρ ⟨qM 0 vs,[],h⟩ {s:=params 0 ar,l:=Env.empty,h:=hr}:=⟨WA hv,(λn v h=>by cases h),hH⟩;rw[hF]at hR;simp only[qnY,qnW,YK,qnX]at hR;obtain⟨k1,sr1,st1,a1,a2,a3,a4,a5⟩:=qES h1 hS hR;obtain⟨k2,sr2,st2,b1,b2,b3,b4,b5⟩:=qES h2 a3 a2;obtain⟨_,hq⟩:=b2;split at hq
 ·rename_i us hus;obtain⟨rs,q1,q2⟩:=WD b3 hus;have hb:Ex Γ (max k1 k2) (.code F.body {s:=params 0 ar,l:=Env.empty,h:=hr}) (.st .ret sr2):=by
   rw[hF];exact .seqN (.reg (a1.le (Nat.le_max_left _ _)) (.inr rfl)) (.seqN (.reg (b1.le (Nat.le_max_right _ _)) (.inr rfl)) .ret)
  have hx:=Ex.fn hg (by rw[hv.length];exact hn) hb (.inr rfl) q1;have eh:sr2.h=hr:=b4.trans a4;rw[eh]at hx;exact⟨_,_,hr,_,hx,rfl,λ_ q=>q,hq,Wn q2⟩
 ·exact hq.elim
end
section
variable {E:Ev} {l:List qA} {ks:List Fr1} {s m:qv} {h:List qC} {Q:qi->VSt->Prop} {k e:Nat} {vs:List AV} {v:AV}
theorem Vq{ck:Bool}(hp:SCallP E.Γ k vs h λv'=>v'=v)(hr:R E (.ops l::ks) ⟨(e,v)::s,m,h⟩ Q):wR E (some (k,vs)) ck (some e) l ks ⟨s,m,h⟩ Q:=by
 have hp':SCallP E.Γ k vs h λv'=>R E (.ops l::ks) ⟨(e,v')::s,m,h⟩ Q:=λρ hr' ar hH hv=>by
  obtain⟨k,r,hr2,v2,a1,a2,a3,a4,a5⟩:=hp ρ hr' ar hH hv;exact⟨k,r,hr2,v2,a1,a2,a3,a4▸hr,a5⟩
 unfold wR;cases ck
 ·exact SCall.ofP hp'
 ·exact SCallK.ofP hp'
end
theorem qeO{μ:List (Option Nat)}{h:List qC}:∀{r:List (Option Nat)}{a b:List qC},j0 μ h r (a++b)->j0 μ h (r.take a.length) a/\j0 μ h (r.drop a.length) b
 | r,[],b,k=>⟨by simp;trivial,by simpa using k⟩
 |[],o::a,b,k=>k.elim
 | j::r,o::a,b,k=>by
  have:=qeO (r:=r) (a:=a) (b:=b) k.2;exact⟨⟨k.1,this.1⟩,this.2⟩
theorem qBZ:∀{l:List (Option Nat)}{n:Nat},zb l=true->zb (l.take n)=true
 |[],_,_=>by simp[zb]
 | _::_,0,_=>by simp[zb]
 | none::l,n+1,h=>by
  simp only[List.take_succ_cons,zb]at h|-;exact qBZ h
 | some j::l,n+1,h=>by
  simp only[List.take_succ_cons,zb,bAt,lAt]at h|-;exact⟨λx hx=>h.1 x (List.mem_of_mem_take hx),qBZ h.2⟩
theorem V4:∀{l:List (Option Nat)}{n:Nat},zb l=true->zb (l.drop n)=true
 |[],_,_=>by simp[zb]
 | _::_,0,h=>by simpa using h
 | none::l,n+1,h=>by
  simp only[List.drop_succ_cons,zb]at h|-;exact V4 h
 | some j::l,n+1,h=>by
  simp only[List.drop_succ_cons,zb,bAt]at h|-;exact V4 h.2
theorem WT{a b:List (Option Nat)}{j:Nat}(h:zb (a++b)=true)(ha:some j∈a)(hb:some j∈b):False:=by
 obtain⟨i,hi⟩:=List.getElem?_of_mem ha;obtain⟨k,hk⟩:=List.getElem?_of_mem hb;have li:=(gSi.1 hi).1;have:=V6 h i (a.length+k) j (by rw[gAl li];exact hi) (by rw[gAr (by omega),Nat.add_sub_cancel_left];exact hk);omega
section
variable {S:List (Option Nat)} {h h':List qC} {v t:AV} {vs ts:List AV}
theorem qo.uncons(x:qo S h (v::vs) (t::ts)):∃S1 S2,S=S1++S2/\qd S1 h v t/\qo S2 h vs ts:=by
 have l:=x.len;simp only[AV.rowss]at l;have hp:=x.p;simp only[AV.pls,bAt]at hp;have ho:=x.o;simp only[qK]at ho;obtain⟨o1,o2⟩:=qeO ho;rw[qf]at o1 o2;rw[nZa]at o2;have hv:=x.v;simp only[qK]at hv;obtain⟨v1,v2⟩:=hv.hd;rw[qf,nZa]at v2;have m1:∀i,i<t.rows->(S.take t.rows)[0+i]?=S[0+i]?:=λi hi=>by
  rw[nZa,gTk,if_pos hi]
 have m2:∀i,i<AV.rowss ts->(S.drop t.rows)[0+i]?=S[t.rows+i]?:=λi hi=>by
  rw[nZa,gDr]
 refine⟨S.take t.rows,S.drop t.rows,(List.take_append_drop _ _).symm,⟨hp.1,qBZ x.d,qmU hp.1 m1 o1,VR2.move _ _ _ _ hp.1 m1 v1⟩,⟨hp.2,V4 x.d,Yw hp.2 m2 o2,VR2.moves _ _ _ _ hp.2 m2 v2⟩⟩
theorem qo.at:∀{ts vs:List AV}{S:List (Option Nat)}{i:Nat}{t:AV},qo S h vs ts->ts[i]?=some t->∃v S1,vs[i]?=some v/\qd S1 h v t/\∀j,j∈S1->j∈S
 |[],_,_,_,_,_,hi=>by simp at hi
 | t0::ts,vs,S,i,t,x,hi=>by
  have:=x.cnt;cases vs with
  | nil=>simp at this
  | cons v vs=>
   obtain⟨S1,S2,rfl,y1,y2⟩:=x.uncons;cases i with
   | zero=>simp only[List.getElem?_cons_zero,oSi]at hi;subst hi;exact⟨v,S1,rfl,y1,λj hj=>List.mem_append_left _ hj⟩
   | succ i=>
    simp only[List.getElem?_cons_succ]at hi;obtain⟨v',S',q1,q2,q3⟩:=qo.at y2 hi;exact⟨v',S',q1,q2,λj hj=>List.mem_append_right _ (q3 j hj)⟩
theorem qd.lst{w:Nat}{xs:List AV}{c:Bool}(x:qd S h v (.lst w xs c))(hn:none∉S):∃id vs S',S=some id::S'/\v=.slice w id 0 xs.length false/\h[id]?=some (.row w vs true)/\qo S' h vs xs:=by
 have hp:=x.p;simp only[AV.pl]at hp;have ho:=x.o;have hv:=x.v;have l:=x.len;simp only[AV.rows]at l;simp only[lay]at ho hv;cases S with
 | nil=>(simp at l;try omega)
 | cons j S'=>
  cases j with
  | none=>exact absurd (lMs) hn
  | some id=>
   have m:∀i,i<AV.rowss xs->S'[0+i]?=(some id::S')[0+1+i]?:=λi hi=>by
    rw[show 0+1+i=i+1 by omega,List.getElem?_cons_succ,nZa]
   obtain⟨o1,o2⟩:=ho;have l2:=jK xs (0+1);have hd:=x.d;simp only[zb,bAt]at hd;generalize hel:(qK xs (0+1)).1=el at o1;cases o1 with
   | row hr he=>
    rename_i el0;rw[<-hel]at he;refine⟨id,el0,S',rfl, ?_,hr,hp,hd.2,Yw hp m o2,VR2.moves _ _ _ _ hp m he⟩;generalize xs.length=n at hv;cases hv with
    | tree ht=>simp[AV.tree]at ht
    | slice hm=>simp at hm;rw[hm]
    | ph hm=>simp at hm
    | ph2 hm=>simp at hm
theorem VR2.scal{μ:List (Option Nat)}{a:AV}(x:VR2 μ v a)(ha:a.tree=true)(hn:∀w xs c,a≠.lst w xs c)(h1:∀cs,a≠.agg cs)(h2:∀cs,a≠.tup cs)(h3:∀g cs,a≠.fn g cs):v=a:=by
 cases x with
 | tree _=>rfl
 | ptr _=>simp[AV.tree]at ha
 | slice _=>simp[AV.tree]at ha
 | map _=>simp[AV.tree]at ha
 | ph _=>simp[AV.tree]at ha
 | ph2 _=>simp[AV.tree]at ha
 | nilL=>exact absurd rfl (hn _ _ _)
 | clip _=>exact absurd rfl (hn _ _ _)
 | agg _ _=>exact absurd rfl (h1 _)
 | fn _ _=>exact absurd rfl (h3 _ _)
 | tup _ _=>exact absurd rfl (h2 _)
theorem VR2.int{μ:List (Option Nat)}{k:IntKind}{n:Int}(x:VR2 μ v (.int k n)):v=.int k n:=x.scal rfl (by simp) (by simp) (by simp) (by simp)
theorem qd.int{k:IntKind}{n:Int}(x:qd S h v (.int k n)):v=.int k n/\S=[]:=by
 have:=x.v;simp only[lay]at this;have l:=x.len;simp only[AV.rows]at l;exact⟨this.int,lEz l⟩
theorem qo.ints:∀{xs:List Int}{vs:List AV}{S:List (Option Nat)},qo S h vs (xs.map qQ)->vs=xs.map qQ/\S=[]
 |[],vs,S,x=>by
  have l:=x.len;have c:=x.cnt;simp only[List.map_nil,AV.rowss,lNi]at l c;exact⟨by rw[lEz c];rfl,lEz l⟩
 | y::xs,vs,S,x=>by
  have c:=x.cnt;cases vs with
  | nil=>simp at c
  | cons v vs=>
   simp only[lMc]at x;obtain⟨S1,S2,rfl,y1,y2⟩:=x.uncons;obtain⟨e1,rfl⟩:=qd.int (k:=.i64) y1;obtain⟨e2,rfl⟩:=qo.ints y2;exact⟨by rw[e1,e2];rfl,rfl⟩
end
end Go.Ab
