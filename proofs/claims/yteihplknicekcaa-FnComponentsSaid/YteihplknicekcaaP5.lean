/- Texts AbRg .. AbW: the abstract machine, its laws and contracts of functions: lemmas for the statement. No condition. -/
import Derived.Test.YteihplknicekcaaP4
set_option linter.unusedSimpArgs false
set_option linter.unusedVariables false
namespace Go.Ab
open Go
theorem Fm.less{b b':Nat}(h:b<=b'){ρ ρ':Ren}{hr hr':AH}(f:Fm b' ρ hr ρ' hr'):Fm b ρ hr ρ' hr':=⟨f.pres,f.new,f.fr,fun i hi=>f.base i (by omega)⟩
theorem qI7{ρ:Ren}:∀{ns:List Int}{ys:List AV},RelVs ρ (ns.map fun n=>AV.int .i64 n) ys->ys=ns.map fun n=>AV.int .i64 n
 |[],ys,h=>by simpa only [List.map_nil,RelVs]using h
 | n::ns,ys,h=>by
  simp only[lMc,RelVs]at h;obtain⟨u,us,rfl,h1,h2⟩:=h;simp only[RelV]at h1;rw[h1,qI7 h2];rfl
section
variable {E:Ev} {ks:List Fr1} {Q:qT->VSt->Prop}
theorem qON{ρ:Ren}{st:VSt}{sr:St}(hS:qh ρ st sr){n id a:Nat}{w:Nat}{el el':List AV}{v v':AV}(hid:ρ id=some (some a))(ho:st.h[id]?=some (.row w el true))(hro:sr.h a=some (.row w el' true))
  {v0:AV} (hv0:lk sr.s n=some v0) (hc:qd sr.h [a] v0 v') (hv:RelV ρ v v'):
  ∃sr',Frz [a] sr sr'/\qh ρ {s:=(n,v)::st.s,l:=st.l,h:=st.h.set id .dead} sr'/\sr'.h=sr.h.upd a .dead/\lk sr'.s n=some v':=by
 refine⟨{s:=sr.s.set n v',l:=sr.l,h:=sr.h.kill [a]},⟨fun i hi=> ?_,fun t x hx=> ?_,fun t x hx=>⟨x,hx,.refl _⟩,rfl⟩,⟨hS.s.cons hv,hS.l, ?_⟩,WM _ hro,by simp[zu]⟩
 ·have:i=a:=by simpa using hi
  subst this;exact⟨_,hro,rfl⟩
 ·have hx2:lk (sr.s.set n v') t=some x:=hx;rw[zu]at hx2;split at hx2
  ·rename_i e;simp only[oSi]at hx2;rw[<-e,<-hx2];exact⟨v0,hv0,hc⟩
  ·exact⟨x,hx2,.refl _⟩
 ·show qX ρ _ (sr.h.kill [a]);rw[WM _ hro];exact hS.h.write hid ho (by simp) trivial
theorem Sem.rng{x p1 p2 y bid:Nat}{a b:qD}{s m:qR}{h:List qA}{ns:List Int}{cl:Bool}{v1:AV}(I:Nat->List qA->Prop)
  (hok:a.ok=true/\b.ok=true) (hxy:x≠y) (hx:get s x=some (.fn ITR [.ptr bid 0 0])) (hb:h[bid]?=some (.row 1 [.lst 1 (ns.map fun n=>.int .i64 n) cl] true)) (hn:ns.length<=LIM) (hy:get s y=some v1)
  (h0:I 0 (h.set bid .dead))
  (hr:∀k n h',I k h'->k<ns.length->ns[ns.length-1-k]?=some n->
   R ⟨E.Γ,h'.length,[],[]⟩ [.code a,.code b] ⟨(p2,.int .i64 n)::(p1,.int .i64 (ns.length-1-k:Nat))::[(y,v1)],[],h'⟩ fun e st1=>e=.nrm/\I (k+1) st1.h)
  (hd:∀h',I ns.length h'->Sem E ks ⟨(x,.fn ITR [.ept (.lst 1 (ns.map fun n=>.int .i64 n) cl) 0])::s,m,h'⟩ Q):
  Sem E (.code (.rng x [y] p1 p2 a b)::ks) ⟨s,m,h⟩ Q:=by
 intro ρ sr hS hE;obtain⟨xr,hxr,hxv⟩:=hS.s x _ hx;simp only[RelV,RelVs]at hxv;obtain⟨_,rfl,_,_,rfl,⟨ad,had,rfl⟩,rfl⟩:=hxv;rcases hS.h.obj _ _ hb with⟨_,q,_⟩ | ⟨i',el',q1,q2,q3⟩
 ·cases q
 rw[had]at q1;simp only[oSi]at q1;subst q1;simp only[RelVs]at q3;obtain⟨yr,_,rfl,q4,rfl⟩:=q3;obtain⟨c',hc',hcv⟩:∃c',(cl=true->c'=true)/\qd sr.h [ad] yr (.lst 1 (ns.map fun n=>.int .i64 n) c'):=by
  simp only[RelV]at q4;rcases q4 with⟨ys,c,rfl,h1,h2⟩ | ⟨h1,rfl⟩
  ·rw[qI7 h2];exact⟨c,h1,.refl _⟩
  ·rw[h1];exact⟨true,fun _=>rfl,.nils⟩
 obtain⟨sr1,f1,f2,f3,hxf⟩:=qON hS (n:=x) had hb q2 hxr (v':=.fn ITR [.ept (.lst 1 (ns.map fun n=>.int .i64 n) c') 0])
  (.fn rfl (by
   intro p hp;simp only[List.zip_cons_cons,List.zip_nil_right,List.mem_singleton]at hp;subst hp;exact .ptr (by simp) q2 (by omega) rfl hcv))
  (v:=.fn ITR [.ept (.lst 1 (ns.map fun n=>.int .i64 n) cl) 0])
  (by
   simp only[RelV,RelVs];exact⟨_,rfl,_,_,rfl,⟨_,rfl,.inl ⟨_,c',rfl,hc',(hself ρ ns)⟩⟩,rfl⟩)
 have hfm1:Fm E.b ρ sr.h ρ sr1.h:=by rw[f3];exact Fm.write hS.h had
 obtain⟨yr1,hyr,hyv⟩:=f2.s y v1 (by rw[wC,if_neg hxy];exact hy)
 --the rounds
 have rounds:∀(d k:Nat)(ρk:Ren)(h':List qA)(hrk:AH),d=ns.length-k->k<=ns.length->I k h'->qX ρk h' hrk->ρ.le ρk->E.b<=h'.length->
   ∃kk st1 ρ' h'',Ex E.Γ kk (.rnd p1 p2 a b ((wY ns).drop k) {s:=wE [y] sr1.s,l:=Env.empty,h:=hrk}) (.st .nrm st1)/\I ns.length h''/\qX ρ' h'' st1.h/\Fm E.b ρk hrk ρ' st1.h/\ρk.le ρ'/\E.b<=h''.length:=by
  intro d
  induction d with
  | zero=>
   intro k ρk h' hrk hd hk hI hR hle hbl;have:k=ns.length:=by omega
   subst this;refine⟨0,{s:=wE [y] sr1.s,l:=Env.empty,h:=hrk},ρk,h', ?_,hI,hR,Fm.refl _ _ _,fun _ _ h=>h,hbl⟩;rw[List.drop_eq_nil_of_le (by rw[Vw];omega)];exact .rnd0
  | succ d ih=>
   intro k ρk h' hrk hd hk hI hR hle hbl;have hlt:k<ns.length:=by omega
   have hlt2:ns.length-1-k<ns.length:=by omega
   have hnk:ns[ns.length-1-k]?=some (ns[ns.length-1-k]):=gEg hlt2;rw[qKL hlt hnk];have hS2:qh ρk ⟨(p2,.int .i64 (ns[ns.length-1-k]))::(p1,.int .i64 (ns.length-1-k:Nat))::[(y,v1)],[],h'⟩
     {s:=((wE [y] sr1.s).set p1 (.int .i64 (ns.length-1-k:Nat))).set p2 (.int .i64 (ns[ns.length-1-k])),l:=Env.empty,h:=hrk}:=by
    refine⟨?_,fun n v hv=>by simp[get]at hv,hR⟩;refine RelE.cons (RelE.cons ?_ (by simp only[RelV])) (by simp only[RelV]);intro n v hv;rw[wC]at hv;split at hv
    ·rename_i e;subst e;cases hv;exact⟨yr1,by simp only[lk,wE];simpa[lk]using hyr,RelV.mono hle _ _ hyv⟩
    ·simp[get]at hv
   obtain⟨kk,e,sr',ρ',st',g1,⟨rfl,g2⟩,g3,g4,g5⟩:=Sem.of (by simp[Fr1.ok,hok.1,hok.2]) (hr k _ h' hI hlt hnk) ρk _ hS2 (nLr _);have hle':ρk.le ρ':=fun i o hi=>by
    rcases Nat.lt_or_ge i h'.length with hl | hl
    ·rw[g4.base i hl];exact hi
    ·rw[hR.out i hl]at hi;cases hi
   obtain⟨kk2,st1,ρ2,h2,e1,e2,e3,e4,e5,e6⟩:=ih (k+1) ρ' st'.h sr'.h (by omega) (by omega) g2 g3.h (fun i o hi=>hle' i o (hle i o hi)) (nLt hbl g5);have hfin:∃srm,Ex E.Γ kk (.code a {s:=((wE [y] sr1.s).set p1 (.int .i64 (ns.length-1-k:Nat))).set p2 (.int .i64 (ns[ns.length-1-k])),l:=Env.empty,h:=hrk}) (.st .nrm srm)/\Ex E.Γ kk (.code b srm) (.st .nrm sr'):=by
    cases g1 with
    | code q1 q2=>
     refine⟨_,q1, ?_⟩;cases q2 with
     | code q3 q4=>cases q4;exact q3
     | codeX q3 he hx=>cases‹qT›<;>simp[exK]at hx
     | codeE q3 he=>exact absurd rfl he
    | codeX q1 he hx=>cases‹qT›<;>simp[exK]at hx
    | codeE q1 he=>exact absurd rfl he
   obtain⟨srm,w1,w2⟩:=hfin;exact⟨max kk kk2,st1,ρ2,h2,.rndS (st:={s:=wE [y] sr1.s,l:=Env.empty,h:=hrk}) (w1.le (Nat.le_max_left _ _)) (w2.le (Nat.le_max_left _ _)) (e1.le (Nat.le_max_right _ _)),e2,e3,(g4.less hbl).trans e4,fun i o hi=>e5 i o (hle' i o hi),e6⟩
 obtain⟨kk,st1,ρ',h',e1,e2,e3,e4,e5,e6⟩:=rounds ns.length 0 ρ _ sr1.h rfl (nZl _) h0 f2.h (fun _ _ h=>h) (by rw[lLs];exact hE);obtain⟨k2,e,sr2,ρ2,st2,q1,q2,q3,q4,q5⟩:=hd h' e2 ρ' {sr1 with h:=st1.h} ⟨f2.s.mono e5,f2.l.mono e5,e3⟩ e6;have hrng:Ex E.Γ kk (.code (.rng x [y] p1 p2 a b) sr) (.st .nrm {sr1 with h:=st1.h}):=.frz _ f1 (.rng hxf hn e1);exact⟨max kk k2,e,sr2,ρ2,st2,.code (hrng.le (Nat.le_max_left _ _)) (q1.le (Nat.le_max_right _ _)),q2,q3,(hfm1.trans e4).trans q4,q5⟩
where
 hself (ρ:Ren):∀ns:List Int,RelVs ρ (ns.map fun n=>AV.int .i64 n) (ns.map fun n=>AV.int .i64 n)
  |[]=>by simp only[List.map_nil,RelVs]
  | n::ns=>by simp only[lMc,RelVs];exact⟨_,_,rfl,by simp only[RelV],hself ρ ns⟩
end
def Wk(ns:List Nat)(v v':AV):Prop:=∀(ρ:Ren)(r:AV),(∀n∈ns,ρ n=some none)->RelV ρ v r->RelV ρ v' r
inductive Wks(ns:List Nat):List AV->List AV->Prop
 | nil:Wks ns [] []
 | cons {a b:AV} {as bs:List AV} (h:Wk ns a b) (hs:Wks ns as bs):Wks ns (a::as) (b::bs)
section
variable {ns:List Nat}
theorem Wk.refl(v:AV):Wk ns v v:=fun _ _ _ h=>h
theorem Wks.refl:∀vs:List AV,Wks ns vs vs
 |[]=>.nil
 | v::vs=>.cons (.refl v) (Wks.refl vs)
theorem Wks.same{a:AV}{as bs:List AV}(hs:Wks ns as bs):Wks ns (a::as) (a::bs):=.cons (.refl a) hs
theorem Wks.app{as bs cs ds:List AV}(h:Wks ns as bs)(k:Wks ns cs ds):Wks ns (as++cs) (bs++ds):=by
 induction h with
 | nil=>exact k
 | cons h _ ih=>exact .cons h ih
theorem Wks.rel{as bs:List AV}(h:Wks ns as bs){ρ:Ren}(hn:∀n∈ns,ρ n=some none):∀{rs:List AV},RelVs ρ as rs->RelVs ρ bs rs:=by
 induction h with
 | nil=>exact fun h=>h
 | cons h _ ih=>
  intro rs k;simp only[RelVs]at k|-;obtain⟨u,us,rfl,h1,h2⟩:=k;exact⟨u,us,rfl,h ρ u hn h1,ih h2⟩
theorem Wks.len{as bs:List AV}(h:Wks ns as bs):as.length=bs.length:=by
 induction h with
 | nil=>rfl
 | cons _ _ ih=>simp[ih]
theorem Wk.nilL{w:Nat}{c:Bool}:Wk ns .nils (.lst w [] c):=fun ρ r _ h=>by
 simp only[RelV]at h|-;exact .inr ⟨trivial,h⟩
theorem Wk.ph{n w:Nat}{c:Bool}(h:n∈ns):Wk ns .nils (.slice w n 0 0 c):=fun ρ r hn k=>by
 simp only[RelV]at k|-;exact .inr ⟨hn n h,trivial,trivial,.inl k⟩
theorem Wk.agg{as bs:List AV}(h:Wks ns as bs):Wk ns (.agg as) (.agg bs):=fun ρ r hn k=>by
 simp only[RelV]at k|-;obtain⟨ds,h1,h2⟩:=k;exact⟨ds,h1,h.rel hn h2⟩
theorem Wk.tup{as bs:List AV}(h:Wks ns as bs):Wk ns (.tup as) (.tup bs):=fun ρ r hn k=>by
 simp only[RelV]at k|-;obtain⟨ds,h1,h2⟩:=k;exact⟨ds,h1,h.rel hn h2⟩
theorem Wk.clip{w:Nat}{xs:List AV}:Wk ns (.lst w xs true) (.lst w xs false):=fun ρ r _ h=>qLN h
inductive WkO(ns:List Nat):qA->qA->Prop
 | refl (o:qA):WkO ns o o
 | row {w:Nat} {xs ys:List AV} {rw':Bool} (h:Wks ns xs ys):WkO ns (.row w xs rw') (.row w ys rw')
 | dead (o:qA):WkO ns o .dead
def WkH(ns:List Nat)(h h':List qA):Prop:=h.length=h'.length/\∀(i:Nat)(o o':qA),h[i]?=some o->h'[i]?=some o'->WkO ns o o'
theorem WkH.refl(h:List qA):WkH ns h h:=⟨rfl,fun i o o' h1 h2=>by rw[h1]at h2;cases h2;exact .refl o⟩
theorem WkH.set{h:List qA}{i w:Nat}{xs ys:List AV}{rw':Bool}(hw:Wks ns xs ys):WkH ns (h.set i (.row w xs rw')) (h.set i (.row w ys rw')):=by
 refine⟨by simp,fun j o o' h1 h2=> ?_⟩;rw[gSt]at h1 h2;split at h1
 ·rename_i e;rw[if_pos e]at h2;split at h1
  ·rename_i hl;rw[if_pos hl]at h2;cases h1;cases h2;exact .row hw
  ·cases h1
 ·rename_i e;rw[if_neg e]at h2;rw[h1]at h2;cases h2;exact .refl o
theorem WkH.app{h k:List qA}{o o':qA}(hh:WkH ns h k)(ho:WkO ns o o'):WkH ns (h++[o]) (k++[o']):=by
 refine⟨by simp[hh.1],fun j p p' h1 h2=> ?_⟩;rw[gAp]at h1 h2;have hl:=hh.1;split at h1
 ·rename_i e;rw[if_pos (by omega)]at h2;exact hh.2 j p p' h1 h2
 ·rename_i e;rw[if_neg (by omega)]at h2;have e0:j-h.length=0:=by have:=(gSi.1 h1).1;simp at this;omega
  rw[e0]at h1;have e1:j-k.length=0:=by omega
  rw[e1]at h2;cases h1;cases h2;exact ho
theorem WkH.at'{h:List qA}{i w:Nat}{xs ys:List AV}{rw':Bool}(ho:h[i]?=some (.row w xs rw'))(hw:Wks ns xs ys):WkH ns h (h.set i (.row w ys rw')):=by
 refine⟨by simp,fun j o o' h1 h2=> ?_⟩;rw[gSt]at h2;split at h2
 ·rename_i e;subst e;split at h2
  ·rw[ho]at h1;cases h1;cases h2;exact .row hw
  ·cases h2
 ·rw[h1]at h2;cases h2;exact .refl o
theorem WkH.rel{h h':List qA}(hw:WkH ns h h'){ρ:Ren}{hr:AH}(hn:∀n∈ns,ρ n=some none)(hH:qX ρ h hr):qX ρ h' hr:=by
 have get:∀{i:Nat}{o':qA},h'[i]?=some o'->∃o,h[i]?=some o/\WkO ns o o':=fun{i o'} hi=>by
  have hl:i<h.length:=by rw[hw.1];exact(gSi.1 hi).1
  exact⟨h[i],gEg hl,hw.2 i _ _ (gEg hl) hi⟩
 have nd:∀{o o':qA},WkO ns o o'->o'≠.dead->o≠.dead:=fun{o o'} h hd=>by cases h<;>first | exact absurd rfl hd | exact hd | simp
 refine⟨fun i o' hi=> ?_,fun i j a o o' h1 h2 hi hj d1 d2=> ?_,fun i hi=>hH.out i (by rw[hw.1];exact hi),hH.is⟩
 ·obtain⟨o,ho,hk⟩:=get hi;have:=hH.obj i o ho;cases hk with
  | refl=>exact this
  | dead=>trivial
  | row h=>
   rcases this with⟨q1,rfl,q3⟩ | ⟨i',el',q1,q2,q3⟩
   ·cases h;exact .inl ⟨q1,rfl,q3⟩
   ·exact .inr ⟨i',el',q1,q2,h.rel hn q3⟩
 ·obtain⟨p,hp,hk⟩:=get hi;obtain⟨q,hq,hk2⟩:=get hj;exact hH.inj i j a p q h1 h2 hp hq (nd hk d1) (nd hk2 d2)
end
section
variable {Γ:Nat->Option AFn} {g:Nat} {vs vs':List AV} {h:List qA} {K:AV->List qA->Prop}
theorem qJV{ρ:Ren}:∀n∈([]:List Nat),ρ n=some none:=fun n h=>by cases h
theorem SCall.out(hs:SCall Γ g vs h fun v h'=>∃v' h'',Wk [] v v'/\WkH [] h' h''/\K v' h''):SCall Γ g vs h K:=fun ρ hr ar hH hv=>by
 obtain⟨k,r,hr',ρ',v,h',hx,⟨v',h'',w1,w2,hk⟩,g1,g2,g3,g4⟩:=hs ρ hr ar hH hv;exact⟨k,r,hr',ρ',v',h'',hx,hk,w2.rel qJV g1,w1 ρ' r qJV g2,g3,by rw[<-w2.1];exact g4⟩
theorem SCall.ph{w:Nat}{h2:List qA}(hv:Wks [h.length] vs vs')(hh:WkH [h.length] (h++[.row w [] true]) h2)(hs:SCall Γ g vs' h2 K):SCall Γ g vs h K:=fun ρ hr ar hH hv'=>by
 have hle:=Ren.ext_le (x:=none) hH.none_at;have hn:∀n∈[h.length],(ρ.ext h.length none) n=some none:=fun n hn=>by simp at hn;subst hn;exact Ren.ext_same _ _ _
 obtain⟨k,r,hr',ρ',v,h',hx,q,g1,g2,g3,g4⟩:=hs _ hr ar (hh.rel hn hH.nil) (hv.rel hn (RelVs.mono hle _ _ hv'));have hl:=hh.1;simp only[lAp,lCo,lNi]at hl;refine⟨k,r,hr',ρ',v,h',hx,q,g1,g2,⟨fun a o h1 h2=>g3.pres a o h1 fun i hi=> ?_,fun i a hi=> ?_,g3.fr,fun i hi=> ?_⟩,by omega⟩
 ·by_cases e:i=h.length
  ·subst e;rw[Ren.ext_same]at hi;cases hi
  ·rw[Ren.ext_ne _ _ e]at hi;exact h2 i hi
 ·rcases g3.new i a hi with⟨j,hj⟩ | hf
  ·by_cases e:j=h.length
   ·subst e;rw[Ren.ext_same]at hj;cases hj
   ·rw[Ren.ext_ne _ _ e]at hj;exact .inl ⟨j,hj⟩
  ·exact .inr hf
 ·rw[g3.base i (by omega),Ren.ext_ne _ _ (by omega)]
end
section
variable {s s' m m':qR} {h h':List qA}
def WkS(s s':qR):Prop:=∀n v',get s' n=some v'->∃v,get s n=some v/\Wk [] v v'
theorem WkS.nil:WkS s []:=fun n v h=>by cases h
theorem WkS.cons{n:Nat}{v v':AV}(h:get s n=some v)(hw:Wk [] v v')(hs:WkS s s'):WkS s ((n,v')::s'):=fun k u hu=>by
 rw[wC]at hu;split at hu
 ·rename_i e;subst e;cases hu;exact⟨v,h,hw⟩
 ·exact hs k u hu
end
def GvS(H:List qA)(s s':qR):Prop:=∀n v',get s' n=some v'->∃v,get s n=some v/\(v=v'\/Cv H v v'/\v'.tree=true)
theorem GvS.nil{H:List qA}{s:qR}:GvS H s []:=fun n v h=>by cases h
theorem GvS.same{H:List qA}{s s':qR}{n:Nat}{v:AV}(h:get s n=some v)(hs:GvS H s s'):GvS H s ((n,v)::s'):=fun k u hu=>by
 rw[wC]at hu;split at hu
 ·rename_i e;subst e;cases hu;exact⟨_,h,.inl rfl⟩
 ·exact hs k u hu
theorem GvS.cons{H:List qA}{s s':qR}{n:Nat}{v v':AV}(h:get s n=some v)(hc:Cv H v v')(ht:v'.tree=true)(hs:GvS H s s'):GvS H s ((n,v')::s'):=fun k u hu=>by
 rw[wC]at hu;split at hu
 ·rename_i e;subst e;cases hu;exact⟨_,h,.inr ⟨hc,ht⟩⟩
 ·exact hs k u hu
theorem qX.without{ρ:Ren}{h:List qA}{hr:AH}(hH:qX ρ h hr)(ids:List Nat):qX ρ (without ids h) (hr.kill (jg ρ h ids)):=by
 refine⟨fun i o hi=> ?_,fun i j a o o' q1 q2 hi hj d1 d2=>hH.inj i j a o o' q1 q2 (Qi hi d1).2 (Qi hj d2).2 d1 d2,fun i hi=>hH.out i (by simpa[Go.Ab.without]using hi),fun i a hi=> ?_⟩
 ·by_cases hd:o=.dead
  ·subst hd;trivial
  ·obtain⟨q1,q2⟩:=Qi hi hd;refine(hH.obj i o q2).mono (fun _ _ q=>q) fun a o' ha hq=> ?_;rw[<-hq];show (hr.kill _) a=_;rw[AH.kill_at,if_neg];rw[lCm,wX];rintro⟨j,w,el,p1,p2,p3⟩;have:=hH.inj i j a _ _ ha p2 q2 p3 hd (by simp);subst this;have:ids.contains i=true:=by simpa using p1
   rw[this]at q1;cases q1
 ·obtain⟨o,ho⟩:=hH.is i a hi;show ∃o,(hr.kill _) a=some o;rw[AH.kill_at];split
  ·exact⟨_,rfl⟩
  ·exact⟨o,ho⟩
theorem Can.ph{b w:Nat}{s s' m m':qR}{h:List qA}(h1:∀n v',get s' n=some v'->∃v,get s n=some v/\Wk [h.length] v v')(h2:∀n v',get m' n=some v'->∃v,get m n=some v/\Wk [h.length] v v'):Can b ⟨s,m,h⟩ ⟨s',m',h++[.row w [] true]⟩:=fun ρ sr hS hb=>by
 have hle:=Ren.ext_le (x:=none) hS.h.none_at;have hn:∀n∈[h.length],(ρ.ext h.length none) n=some none:=fun n hn=>by simp at hn;subst hn;exact Ren.ext_same _ _ _
 exact⟨sr,ρ.ext h.length none,fun _ _ _ _ h=>h,⟨fun n v hv=>let ⟨u,q1,q2⟩:=h1 n v hv;let ⟨r,q3,q4⟩:=hS.s n u q1;⟨r,q3,q2 _ r hn (RelV.mono hle _ _ q4)⟩,
  fun n v hv=>let ⟨u,q1,q2⟩:=h2 n v hv;let ⟨r,q3,q4⟩:=hS.l n u q1;⟨r,q3,q2 _ r hn (RelV.mono hle _ _ q4)⟩,hS.h.nil⟩,Fm.mkNil hS.h hb,by have:b<=h.length:=hb;simp;omega⟩
theorem Wk.ph2{ns:List Nat}{n w:Nat}{c:Bool}(h:n∈ns):Wk ns (.lst w [] true) (.slice w n 0 0 c):=fun ρ r hn k=>by
 simp only[RelV]at k|-;refine .inr ⟨hn n h,trivial,trivial, ?_⟩;rcases k with⟨ys,c,rfl,h1,h2⟩ | ⟨_,rfl⟩
 ·simp only[RelVs]at h2;subst h2;rw[h1 (by first | rfl | trivial)];exact .inr rfl
 ·exact .inl rfl
def WkN(ns:List Nat)(s s':qR):Prop:=∀n v',get s' n=some v'->∃v,get s n=some v/\Wk ns v v'
theorem WkN.nil{ns:List Nat}{s:qR}:WkN ns s []:=fun n v h=>by cases h
theorem WkN.same{ns:List Nat}{s s':qR}{n:Nat}{v:AV}(h:get s n=some v)(hs:WkN ns s s'):WkN ns s ((n,v)::s'):=fun k u hu=>by
 rw[wC]at hu;split at hu
 ·rename_i e;subst e;cases hu;exact⟨_,h,.refl _⟩
 ·exact hs k u hu
theorem WkN.cons{ns:List Nat}{s s':qR}{n:Nat}{v v':AV}(h:get s n=some v)(hw:Wk ns v v')(hs:WkN ns s s'):WkN ns s ((n,v')::s'):=fun k u hu=>by
 rw[wC]at hu;split at hu
 ·rename_i e;subst e;cases hu;exact⟨v,h,hw⟩
 ·exact hs k u hu
inductive HCv(H:List qA):AV->AV->Prop
 | same (v:AV):HCv H v v
 | cv {v v':AV} (h:Cv H v v') (ht:v'.tree=true):HCv H v v'
 | agg {cs ds:List AV} (hl:cs.length=ds.length) (hc:∀p∈cs.zip ds,HCv H p.1 p.2):HCv H (.agg cs) (.agg ds)
theorem qH4{ρ:Ren}{hr:AH}{K:List Nat}:∀{cs ds rs:List AV},cs.length=ds.length->(∀p∈cs.zip ds,∀{r:AV},RelV ρ p.1 r->∃r',qd hr K r r'/\RelV ρ p.2 r')->RelVs ρ cs rs->
  ∃rs',rs.length=rs'.length/\(∀p∈rs.zip rs',qd hr K p.1 p.2)/\RelVs ρ ds rs'
 |[],ds,rs,hl,_,h=>by
  have:ds=[]:=lEz (by simpa using hl.symm);subst this;simp only[RelVs]at h;subst h;exact⟨[],rfl,fun p hp=>by simp at hp,by simp only[RelVs]⟩
 | c::cs,[],_,hl,_,_=>by simp at hl
 | c::cs,d::ds,rs,hl,hi,h=>by
  simp only[RelVs]at h;obtain⟨r,rs,rfl,h1,h2⟩:=h;obtain⟨r',q1,q2⟩:=hi (c,d) (by simp) h1;obtain⟨rs',q3,q4,q5⟩:=qH4 (by simpa using hl) (fun p hp=>hi p (by simp only[List.zip_cons_cons];exact List.mem_cons_of_mem _ hp)) h2;refine⟨r'::rs',by simp[q3],fun p hp=> ?_,by simp only[RelVs];exact⟨r',rs',rfl,q2,q5⟩⟩;simp only[List.zip_cons_cons,List.mem_cons]at hp;rcases hp with rfl | hp
  ·exact q1
  ·exact q4 p hp
theorem HCv.conv{ρ:Ren}{H:List qA}{hr:AH}(hh:qX ρ H hr){K:List Nat}(hK:∀i a w el,ρ i=some (some a)->H[i]?=some (.row w el true)->K.contains a=true){v t:AV}(hc:HCv H v t):
  ∀{r:AV},RelV ρ v r->∃r',qd hr K r r'/\RelV ρ t r':=by
 induction hc with
 | same v=>exact fun hr=>⟨_,.refl _,hr⟩
 | cv hc ht=>exact fun hr=>let ⟨r',q1,q2⟩:=hc.conv hh hK hr;⟨r',q1,j4 _ _ ht q2⟩
 | @agg cs ds hl hc ih=>
  intro r hr;simp only[RelV]at hr;obtain⟨rs,rfl,hr⟩:=hr;obtain⟨rs',q1,q2,q3⟩:=qH4 hl (fun p hp=>ih p hp) hr;exact⟨.agg rs',.agg q1 q2,by simp only[RelV];exact⟨rs',rfl,q3⟩⟩
theorem HCv.list{H:List qA}{a b:AV}{as bs:List AV}(h:HCv H a b)(hs:as.length=bs.length/\∀p∈as.zip bs,HCv H p.1 p.2):(a::as).length=(b::bs).length/\∀p∈(a::as).zip (b::bs),HCv H p.1 p.2:=⟨by simp[hs.1],fun p hp=>by
 simp only[List.zip_cons_cons,List.mem_cons]at hp;rcases hp with rfl | hp
 ·exact h
 ·exact hs.2 p hp⟩
theorem qLI:∀{as bs:List AV},AV.trees (as++bs)=(AV.trees as&&AV.trees bs)
 |[],_=>by simp[AV.trees]
 | a::as,bs=>by simp[AV.trees,qLI (as:=as),Bool.and_assoc]
section
variable {Γ:Nat->Option AFn} {g:Nat} {v x y:AV} {j:Nat} {sh:Option Nat}
theorem qd.subV{ρ:Ren}{hr:AH}{K:List Nat}{r:AV}(hp:x.part j sh=some y)(hy:0<y.cells.length)(h:RelV ρ (.ept x j) r):∃r',qd hr K r r'/\RelV ρ (.ept y 0) r':=by
 simp only[RelV]at h;obtain⟨z,rfl,hz⟩:=h;obtain⟨u,h1,h2⟩:=hz.part hp;refine⟨.ept u 0,.sub h1 (by rw[h2.cellsLen];exact hy), ?_⟩;simp only[RelV];exact⟨u,rfl,h2⟩
theorem Pure.lk{as bs:List AV}(hx:x.tree=true)(hp:x.part j sh=some y)(hy:0<y.cells.length)(h:Pure Γ g (as++.ept y 0::bs) v):Pure Γ g (as++.ept x j::bs) v:=by
 unfold Pure at h|-;obtain⟨t1,t2,h⟩:=h;refine⟨?_,t2,fun hr ar har=> ?_⟩
 ·rw[qLI]at t1|-;simp only[AV.trees,AV.tree,bAt]at t1|-;exact⟨t1.1,hx,t1.2.2⟩
 ·obtain⟨as',br,rfl,ha,hb⟩:∃as' br,ar=as'++br/\RelVs ρ0 as as'/\RelVs ρ0 (.ept x j::bs) br:=⟨ar.take as.length,ar.drop as.length,(List.take_append_drop _ _).symm,by have:=har.take as.length;rwa[List.take_left]at this,by have:=har.drop as.length;rwa[List.drop_left]at this⟩;simp only[RelVs]at hb;obtain⟨r,bs',rfl,hr1,hb⟩:=hb;obtain⟨r',c1,c2⟩:=qd.subV (hr:=hr) (K:=[]) hp hy hr1;obtain⟨k,w,hr',h1,h2,h3,h4⟩:=h (hr.kill []) (as'++r'::bs') (ha.append (by simp only[RelVs];exact⟨r',bs',rfl,c2,hb⟩));have e:(hr.kill []).f=hr.f:=by funext i;rfl
  refine⟨k,w,hr',.frzA [] (fun id hi=>by cases hi) (as':=as'++r'::bs') (by simp) (fun p hp=> ?_) h1,by rw[h2,e],fun a ha=>(AH.fr_kill (h3 a ha)).1,h4⟩;rw[List.zip_append (by rfl),List.zip_cons_cons]at hp;rcases zM.1 hp with q | q
  ·have:p.1=p.2:=by obtain⟨i,hi,rfl⟩:=List.getElem_of_mem q;simp
   rw[this];exact .refl _
  ·rcases List.mem_cons.1 q with rfl | q
   ·exact c1
   ·have:p.1=p.2:=by obtain⟨i,hi,rfl⟩:=List.getElem_of_mem q;simp
    rw[this];exact .refl _
end
variable {Γ:Nat->Option AFn} {g:Nat} {vs:List AV} {h:List qA}
end Go.Ab
namespace Go.Ab
open Go
section
variable {E:Ev} {ks:List Fr1} {s m:qR} {h:List qA} {st:VSt} {Q:qT->VSt->Prop} {x y z:Ao} {l:List qB} {i:Nat} {d:Option Nat} {v:AV} {g:Option (Nat×Bool)} {ck:List qB}
@[go_sem] theorem qY3{w:Nat}:(AV.map w).part 0 none=some (.map w):=nr rfl
@[go_sem] theorem qY4:AV.nilm.part 0 none=some .nilm:=nr rfl
@[go_sem] theorem qVH:Go1 E (.mk i d g .mkmap ck) l ks ⟨s,m,h⟩ Q=jO E d (.map []) (.map h.length) l ks ⟨s,m,h⟩ Q:=by
 unfold Go1 jL jM;simp[qB.o,qB.d,AOp.isCall,qB.apC,AOp.isApp,jO,jC]
@[go_sem] theorem qVJ:Go1 E (.mk i d g (.mlen x) ck) l ks ⟨s,m,h⟩ Q=Put E (((ev (toE s) x).bind (zr (toH h))).map fun es=>.int .i64 es.length) d l ks ⟨s,m,h⟩ Q:=zS rfl fun _=>rfl
theorem qOA{id:Nat}{es:List (AV×AV)}(ho:h[id]?=some (.map es)):zr (toH h) (.map id)=some es:=by
 have:(toH h).f id=some (.map es):=ho;simp only[zr];show (match toH h id with | some (.map es)=>some es | _=>none)=some es;rw[show toH h id=some (.map es)from ho]
def lku(z:AV)(ok:Bool)(k:AV)(es:List (AV×AV)):Option AV:=match zO k es 0 with
 | some (some (_,v))=>some (if ok then .tup [v,.bool true]else v)
 | some none=>some (if ok then .tup [z,.bool false]else z)
 | none=>none
def lkE(h:List qA)(z:AV)(ok:Bool)(a b:Option AV):Option AV:=match a,b with
 | some m,some k=>match zr (toH h) m with
  | some es=>lku z ok k es
  | none=>none
 | _,_=>none
@[go_sem] theorem qVD{z:AV}{ok:Bool}:Go1 E (.mk i d g (.look z x y ok) ck) l ks ⟨s,m,h⟩ Q=Put E (lkE h z ok (ev (toE s) x) (ev (toE s) y)) d l ks ⟨s,m,h⟩ Q:=by
 rw[zS rfl fun _=>rfl];rfl
theorem qJG{z k:AV}{ok:Bool}{id:Nat}{es:List (AV×AV)}(ho:h[id]?=some (.map es)):lkE h z ok (some (.map id)) (some k)=lku z ok k es:=by simp only[lkE,qOA ho]
def Mup(E:Ev)(a b c:Option AV)(l:List qB)(ks:List Fr1)(st:VSt)(Q:qT->VSt->Prop):Prop:=match a,b,c with
 | some (.map id),some k',some v'=>(match st.h[id]? with
  | some (.map es)=>(match zO k' es 0 with
   | some (some (i,_))=>R E (.ops l::ks) {st with h:=st.h.set id (.map (es.set i (k',v')))} Q
   | some none=>R E (.ops l::ks) {st with h:=st.h.set id (.map (es++[(k',v')]))} Q
   | none=>False)
  | _=>False)
 | _,_,_=>False
@[go_sem] theorem qVL:Go1 E (.mk i d g (.mupd x y z) ck) l ks ⟨s,m,h⟩ Q=Mup E (ev (toE s) x) (ev (toE s) y) (ev (toE s) z) l ks ⟨s,m,h⟩ Q:=by
 unfold Go1 jL jM Mup;simp only[qB.o,qB.d,AOp.isCall,qB.apC,AOp.isApp,Bool.false_and,bFt,if_false]
 all_goals rfl
theorem VS{id:Nat}{es:List (AV×AV)}{k v:AV}(ho:h[id]?=some (.map es))(hf:zO k es 0=some none)(hr:R E (.ops l::ks) ⟨s,m,h.set id (.map (es++[(k,v)]))⟩ Q):Mup E (some (.map id)) (some k) (some v) l ks ⟨s,m,h⟩ Q:=by
 simp only[Mup,ho,hf];exact hr
end
def kI(n:Nat):AV:=.int .i64 (n:Nat)
theorem WE{n:Nat}{v:Nat->AV}:∀{ks:List Nat}{i:Nat},n∉ks->zO (kI n) (ks.map fun k=>(kI k,v k)) i=some none
 |[],_,_=>rfl
 | k::ks,i,h=>by
  have h1:¬n=k:=fun e=>h (e▸lMs);have:((n:Int)==(k:Int))=false:=by simp;omega
  simp only[lMc,zO,kI,wF,if_true,this];exact WE fun q=>h (List.mem_cons_of_mem _ q)
theorem qIU{n:Nat}{v:Nat->AV}:∀{ks:List Nat}{i:Nat},n∈ks->∃j,zO (kI n) (ks.map fun k=>(kI k,v k)) i=some (some (j,v n))
 | k::ks,i,h=>by
  by_cases e:n=k
  ·subst e;exact⟨i,by simp[zO,kI,wF]⟩
  ·have:((n:Int)==(k:Int))=false:=by simp;omega
   simp only[lMc,zO,kI,wF,if_true,this];exact qIU (by simpa[e]using h)
section
variable {μ μ':List (Option Nat)} {h h':List qA}
theorem VR2s.hd{a b:AV}{as bs:List AV}(x:VR2s μ (a::as) (b::bs)):VR2 μ a b/\VR2s μ as bs:=
 ⟨x.2 (a,b) (by simp),by have:=x.1;simpa using this,fun p hp=>x.2 p (by simp only[List.zip_cons_cons];exact List.mem_cons_of_mem _ hp)⟩
theorem VR2.aggs{v:AV}{ds:List AV}(x:VR2 μ v (.agg ds)):∃cs,v=.agg cs/\VR2s μ cs ds:=by
 cases x with
 | tree ht=>exact⟨ds,rfl,VR2s.trees (by simpa only [AV.tree]using ht)⟩
 | agg hl hc=>exact⟨_,rfl,hl,hc⟩
theorem VR2.tups{v:AV}{ds:List AV}(x:VR2 μ v (.tup ds)):∃cs,v=.tup cs/\VR2s μ cs ds:=by
 cases x with
 | tree ht=>exact⟨ds,rfl,VR2s.trees (by simpa only [AV.tree]using ht)⟩
 | tup hl hc=>exact⟨_,rfl,hl,hc⟩
theorem VR2.slc0{v:AV}{w a b n:Nat}(h:μ'[b]?=μ[a]?)(x:VR2 μ v (.slice w a 0 n false)):VR2 μ' v (.slice w b 0 n false):=by
 cases x with
 | tree ht=>simp[AV.tree]at ht
 | slice hm=>exact .slice (h.trans hm)
 | ph hm=>exact .ph (h.trans hm)
 | ph2 hm=>exact .ph2 (h.trans hm)
mutual
theorem VR2.move:∀(t:AV)(a b:Nat)(v:AV),t.pl=true->(∀i,i<t.rows->μ'[b+i]?=μ[a+i]?)->VR2 μ v (lay t a).1->VR2 μ' v (lay t b).1
 |.lst w xs c,a,b,v,hp,hm,hv=>by
  simp only[lay]at hv|-;exact hv.slc0 (by have:=hm 0 (by simp only[AV.rows];omega);simpa using this)
 |.agg xs,a,b,v,hp,hm,hv=>by
  simp only[lay]at hv|-;obtain⟨cs,rfl,hc⟩:=hv.aggs;have:=VR2.moves xs a b cs hp hm hc;exact .agg this.1 this.2
 |.tup xs,a,b,v,hp,hm,hv=>by
  simp only[lay]at hv|-;obtain⟨cs,rfl,hc⟩:=hv.tups;have:=VR2.moves xs a b cs hp hm hc;exact .tup this.1 this.2
 |.bool _,_,_,_,_,_,hv |.int _ _,_,_,_,_,_,hv |.str _,_,_,_,_,_,hv |.nilp,_,_,_,_,_,hv |.nils,_,_,_,_,_,hv |.nilm,_,_,_,_,_,hv |.nilf,_,_,_,_,_,hv |.nili,_,_,_,_,_,hv=>by
  simp only[lay]at hv|-;cases hv;exact .tree (by rfl)
 |.any,_,_,_,hp,_,_ |.ptr _ _ _,_,_,_,hp,_,_ |.slice _ _ _ _ _,_,_,_,hp,_,_ |.map _,_,_,_,hp,_,_ |.ept _ _,_,_,_,hp,_,_ |.fn _ _,_,_,_,hp,_,_ |.iface _ _,_,_,_,hp,_,_=>by cases hp
theorem VR2.moves:∀(xs:List AV)(a b:Nat)(vs:List AV),AV.pls xs=true->(∀i,i<AV.rowss xs->μ'[b+i]?=μ[a+i]?)->VR2s μ vs (qN xs a).1->VR2s μ' vs (qN xs b).1
 |[],a,b,vs,_,_,hv=>by
  have:vs=[]:=lEz hv.1;subst this;exact VR2s.nil
 | x::xs,a,b,vs,hp,hm,hv=>by
  simp only[AV.pls,bAt]at hp;simp only[AV.rowss]at hm;simp only[qN,qr]at hv|-;cases vs with
  | nil=>have:=hv.1;simp at this
  | cons v vs=>
   obtain⟨h1,h2⟩:=hv.hd;refine .cons (VR2.move x a b v hp.1 (fun i hi=>hm i (by omega)) h1) (VR2.moves xs _ _ vs hp.2 (fun i hi=> ?_) h2);rw[show b+x.rows+i=b+(x.rows+i) by omega,show a+x.rows+i=a+(x.rows+i) by omega];exact hm _ (by omega)
end
mutual
theorem OR2.move:∀(t:AV)(a b:Nat),t.pl=true->(∀i,i<t.rows->μ'[b+i]?=μ[a+i]?)->∀(i:Nat)(j:Option Nat)(o o':qA),(lay t a).2[i]?=some o->(lay t b).2[i]?=some o'->OR2 μ h j o->OR2 μ' h j o'
 |.lst w xs c,a,b,hp,hm,i,j,o,o',h1,h2,ho=>by
  simp only[lay]at h1 h2;simp only[AV.rows]at hm;have hm':∀i,i<AV.rowss xs->μ'[b+1+i]?=μ[a+1+i]?:=fun i hi=>by
   rw[show b+1+i=b+(i+1) by omega,show a+1+i=a+(i+1) by omega];exact hm _ (by omega)
  cases i with
  | zero=>
   simp only[List.getElem?_cons_zero,oSi]at h1 h2;subst h1 h2;generalize he:(qN xs (a+1)).1=el at ho;cases ho with
   | ph=>
    have:xs=[]:=lEz (by rw[<-JG xs (a+1),he];rfl);subst this;exact .ph
   | row hr hv=>
    rw[<-he]at hv;exact .row hr (VR2.moves xs _ _ _ hp hm' hv)
  | succ i=>
   simp only[List.getElem?_cons_succ]at h1 h2;exact OR2.moves xs (a+1) (b+1) hp hm' i j o o' h1 h2 ho
 |.agg xs,a,b,hp,hm,i,j,o,o',h1,h2,ho=>by
  simp only[lay]at h1 h2;exact OR2.moves xs a b hp hm i j o o' h1 h2 ho
 |.tup xs,a,b,hp,hm,i,j,o,o',h1,h2,ho=>by
  simp only[lay]at h1 h2;exact OR2.moves xs a b hp hm i j o o' h1 h2 ho
 |.bool _,_,_,_,_,_,_,_,_,h1,_,_ |.int _ _,_,_,_,_,_,_,_,_,h1,_,_ |.str _,_,_,_,_,_,_,_,_,h1,_,_ |.nilp,_,_,_,_,_,_,_,_,h1,_,_ |.nils,_,_,_,_,_,_,_,_,h1,_,_ |.nilm,_,_,_,_,_,_,_,_,h1,_,_ |.nilf,_,_,_,_,_,_,_,_,h1,_,_ |.nili,_,_,_,_,_,_,_,_,h1,_,_=>by
  simp[lay]at h1
 |.any,_,_,hp,_,_,_,_,_,_,_,_ |.ptr _ _ _,_,_,hp,_,_,_,_,_,_,_,_ |.slice _ _ _ _ _,_,_,hp,_,_,_,_,_,_,_,_ |.map _,_,_,hp,_,_,_,_,_,_,_,_ |.ept _ _,_,_,hp,_,_,_,_,_,_,_,_ |.fn _ _,_,_,hp,_,_,_,_,_,_,_,_ |.iface _ _,_,_,hp,_,_,_,_,_,_,_,_=>by cases hp
theorem OR2.moves:∀(xs:List AV)(a b:Nat),AV.pls xs=true->(∀i,i<AV.rowss xs->μ'[b+i]?=μ[a+i]?)->∀(i:Nat)(j:Option Nat)(o o':qA),(qN xs a).2[i]?=some o->(qN xs b).2[i]?=some o'->OR2 μ h j o->OR2 μ' h j o'
 |[],_,_,_,_,_,_,_,_,h1,_,_=>by simp[qN]at h1
 | x::xs,a,b,hp,hm,i,j,o,o',h1,h2,ho=>by
  simp only[AV.pls,bAt]at hp;simp only[AV.rowss]at hm;simp only[qN,qr]at h1 h2;rcases Nat.lt_or_ge i x.rows with q | q
  ·rw[gAl (by rw[qr];exact q)]at h1 h2;exact OR2.move x a b hp.1 (fun i hi=>hm i (by omega)) i j o o' h1 h2 ho
  ·rw[gAr (by rw[qr];exact q),qr]at h1 h2;refine OR2.moves xs (a+x.rows) (b+x.rows) hp.2 (fun i hi=> ?_) (i-x.rows) j o o' h1 h2 ho;rw[show b+x.rows+i=b+(x.rows+i) by omega,show a+x.rows+i=a+(x.rows+i) by omega];exact hm _ (by omega)
end
theorem VZ{r:List (Option Nat)}{xs:List AV}{a b:Nat}(hp:AV.pls xs=true)(hm:∀i,i<AV.rowss xs->μ'[b+i]?=μ[a+i]?)(ho:jB μ h r (qN xs a).2):jB μ' h r (qN xs b).2:=by
 have hl:=ZO ho;rw[jE]at hl;refine ZP (by rw[hl,jE]) fun i j o' h1 h2=> ?_;have hi:i<(qN xs a).2.length:=by have:=(gSi.1 h2).1;rw[jE]at this|-;exact this
 obtain⟨j',hj,hor⟩:=QU ho i _ (gEg hi);rw[h1]at hj;cases hj;exact OR2.moves xs a b hp hm i j _ o' (gEg hi) h2 hor
theorem VX:∀{r:List (Option Nat)}{os:List qA},(∀j,some j∈r->h'[j]?=h[j]?)->jB μ h r os->jB μ h' r os
 |[],[],_,k=>k
 | j::r,o::os,hh,k=>by
  refine⟨?_,VX (fun i hi=>hh i (List.mem_cons_of_mem _ hi)) k.2⟩;have k1:=k.1;cases k1 with
  | dead=>exact .dead
  | ph=>exact .ph
  | row ho he=>exact .row ((hh _ (by simp)).trans ho) he
  | map ho hk hv=>exact .map ((hh _ (by simp)).trans ho) hk hv
 |[],_::_,_,k=>k.elim
 | _::_,[],_,k=>k.elim
theorem Z4:∀{a b:List (Option Nat)},zU a=true->zU b=true->(∀j,some j∈a->some j∉b)->zU (a++b)=true
 |[],b,_,hb,_=>hb
 | none::a,b,ha,hb,hn=>by
  simp only[lCa,zU]at ha|-;exact Z4 ha hb fun j hj=>hn j (List.mem_cons_of_mem _ hj)
 | some j::a,b,ha,hb,hn=>by
  simp only[lCa,zU,bAt,lAt]at ha|-;refine⟨fun x hx=> ?_,Z4 ha.2 hb fun j hj=>hn j (List.mem_cons_of_mem _ hj)⟩;rcases zM.1 hx with hx | hx
  ·exact ha.1 x hx
  ·cases x with
   | none=>rfl
   | some k=>
    have:j≠k:=by rintro rfl;exact hn j (by simp) hx
    have hb:Nat.beq j k=false:=by rw[<-Bool.not_eq_true];intro q;exact this (Nat.eq_of_beq_eq_true q)
    simp only[hb];rfl
theorem qN1{k:Nat}{b:List (Option Nat)}(hb:zU b=true)(hn:some k∉b):zU (some k::b)=true:=by
 have:=Z4 (a:=[some k]) (b:=b) rfl hb (fun j hj=>by simp at hj;subst hj;exact hn);exact this
end
theorem VR2s.app{μ:List (Option Nat)}:∀{as bs cs ds:List AV},VR2s μ as bs->VR2s μ cs ds->VR2s μ (as++cs) (bs++ds)
 |[],[],_,_,_,k=>k
 | a::as,b::bs,_,_,j,k=>VR2s.cons j.hd.1 (VR2s.app j.hd.2 k)
 |[],_::_,_,_,j,_=>by have:=j.1;simp at this
 | _::_,[],_,_,j,_=>by have:=j.1;simp at this
structure zK(S:List (Option Nat))(h:List qA)(v t:AV):Prop where
 p:t.pl=true
 d:zU S=true
 o:jB S h S (lay t 0).2
 v:VR2 S v (lay t 0).1
structure qm(S:List (Option Nat))(h:List qA)(vs ts:List AV):Prop where
 p:AV.pls ts=true
 d:zU S=true
 o:jB S h S (qN ts 0).2
 v:VR2s S vs (qN ts 0).1
theorem qJ8:∀{as bs:List AV},AV.pls (as++bs)=(AV.pls as&&AV.pls bs)
 |[],_=>by simp[AV.pls]
 | a::as,bs=>by simp[AV.pls,qJ8 (as:=as),Bool.and_assoc]
section
variable {S S':List (Option Nat)} {h h':List qA} {v t:AV} {vs ts vs' ts':List AV}
theorem zK.len(x:zK S h v t):S.length=t.rows:=by rw[ZO x.o,qr]
theorem qm.len(x:qm S h vs ts):S.length=AV.rowss ts:=by rw[ZO x.o,jE]
theorem qm.cnt(x:qm S h vs ts):vs.length=ts.length:=by rw[x.v.1,JG]
theorem zK.heap(x:zK S h v t)(hh:∀j,some j∈S->h'[j]?=h[j]?):zK S h' v t:=⟨x.p,x.d,VX hh x.o,x.v⟩
theorem qm.heap(x:qm S h vs ts)(hh:∀j,some j∈S->h'[j]?=h[j]?):qm S h' vs ts:=⟨x.p,x.d,VX hh x.o,x.v⟩
theorem qm.nil:qm [] h [] []:=⟨rfl,rfl,trivial,VR2s.nil⟩
theorem qm.app(x:qm S h vs ts)(y:qm S' h vs' ts')(hn:∀j,some j∈S->some j∉S'):qm (S++S') h (vs++vs') (ts++ts'):=by
 have l1:=x.len;have l2:=y.len;have m1:∀i,i<AV.rowss ts->(S++S')[0+i]?=S[0+i]?:=fun i hi=>gAl (by omega);have m2:∀i,i<AV.rowss ts'->(S++S')[0+AV.rowss ts+i]?=S'[0+i]?:=fun i hi=>by
  rw[gAr (by omega)];congr 1;omega
 refine⟨by rw[qJ8,x.p,y.p];rfl,Z4 x.d y.d hn, ?_, ?_⟩
 ·rw[WO];exact Wj (VZ x.p m1 x.o) (VZ y.p m2 y.o)
 ·rw[WO];exact VR2s.app (VR2.moves _ _ _ _ x.p m1 x.v) (VR2.moves _ _ _ _ y.p m2 y.v)
theorem zK.one(x:zK S h v t):qm S h [v] [t]:=by
 refine⟨by simp[AV.pls,x.p],x.d, ?_, ?_⟩
 ·simp only[qN,lAn];exact x.o
 ·simp only[qN];exact VR2s.cons x.v VR2s.nil
theorem qm.snoc(x:qm S h vs ts)(y:zK S' h v t)(hn:∀j,some j∈S->some j∉S'):qm (S++S') h (vs++[v]) (ts++[t]):=x.app y.one hn
theorem qm.scal(x:qm S h vs ts){a:AV}(ha:∀n,lay a n=(a,[]))(hp:a.pl=true)(ht:a.tree=true):qm S h (vs++[a]) (ts++[a]):=by
 have y:qm [] h [a] [a]:=⟨by simp[AV.pls,hp],rfl,by simp only[qN,ha];trivial,by simp only[qN,ha];exact VR2s.cons (.tree ht) VR2s.nil⟩;have:=x.app y (fun j hj=>by simp);rwa[lAn]at this
theorem qm.agg(x:qm S h vs ts):zK S h (.agg vs) (.agg ts):=⟨by simp only[AV.pl];exact x.p,x.d,by simp only[lay];exact x.o,by simp only[lay];exact .agg x.v.1 x.v.2⟩
theorem qm.tup(x:qm S h vs ts):zK S h (.tup vs) (.tup ts):=⟨by simp only[AV.pl];exact x.p,x.d,by simp only[lay];exact x.o,by simp only[lay];exact .tup x.v.1 x.v.2⟩
theorem zK.aggs{w:AV}(x:zK S h w (.agg ts)):∃vs,w=.agg vs/\qm S h vs ts:=by
 have hv:=x.v;simp only[lay]at hv;obtain⟨cs,rfl,hc⟩:=hv.aggs;exact⟨cs,rfl,by have:=x.p;simp only[AV.pl]at this;exact this,x.d,by have:=x.o;simp only[lay]at this;exact this,hc⟩
theorem qm.row{k w:Nat}(x:qm S h vs ts)(hr:h[k]?=some (.row w vs true))(hn:some k∉S):zK (some k::S) h (.slice w k 0 ts.length false) (.lst w ts false):=by
 have m:∀i,i<AV.rowss ts->(some k::S)[0+1+i]?=S[0+i]?:=fun i hi=>by
  rw[show 0+1+i=i+1 by omega,List.getElem?_cons_succ,nZa]
 refine⟨by simp only[AV.pl];exact x.p,qN1 x.d hn, ?_, ?_⟩
 ·simp only[lay];exact⟨.row hr (VR2.moves _ _ _ _ x.p m x.v),VZ x.p m x.o⟩
 ·simp only[lay];exact .slice (by simp)
theorem zK.nils{w:Nat}{c:Bool}:zK [none] h .nils (.lst w [] false):=by
 refine⟨rfl,rfl, ?_, ?_⟩
 ·simp only[lay,qN];exact⟨.ph,trivial⟩
 ·simp only[lay,qN,lNi];exact .ph rfl
theorem zK.new{pre post:List qA}{n:Nat}(hp:t.pl=true)(hn:pre.length=n)(hh:h=pre++((lay t n).2++post)):zK ((List.range' n t.rows).map some) h (lay t n).1 t:=by
 subst hn;have hm:∀i,i<t.rows->((List.range' pre.length t.rows).map some)[0+i]?=some (some (pre.length+i)):=fun i hi=>by
  rw[gMp,List.getElem?_range' (by omega)];simp
 refine⟨hp,Q7 (List.nodup_range'),ZP (by simp[qr]) fun i j o h1 h2=> ?_,VE t _ _ hp hm⟩;have hi:i<t.rows:=by have:=(gSi.1 h2).1;rw[qr]at this;exact this
 have:=hm i hi;rw[nZa]at this;rw[this]at h1;cases h1;refine VD t pre.length 0 hp hm (fun i o hi=> ?_) i o h2;rw[hh,gAr (by omega),Nat.add_sub_cancel_left,gAl (gSi.1 hi).1];exact hi
theorem zK.fin{ws:List AV}(x:zK S h (zN ws) t):J5 (some ws) h t:=⟨S,x.d,x.o,x.v⟩
end
theorem qJM{α:Type}{xs:List α}{i:Nat}{x:α}(h:xs[i]?=some x):i<xs.length:=(gSi.1 h).1
theorem Vi{S S1:List (Option Nat)}{g mid:List qA}{k w:Nat}{vs ts:List AV}{X t:AV}(hO:qm S g vs ts)(hS:∀j,some j∈S->j<g.length)(hk:g[k]?=some (.row w vs true))(hn:some k∉S)
  (hX:zK S1 (g++mid) X t) (hS1:∀j,some j∈S1->g.length<=j/\j<g.length+mid.length):
  ∃G,G=(((g++mid)++[qA.row w [X] true]).set k .dead)++[qA.row w (vs++[X]) true]/\qm (S++S1) G (vs++[X]) (ts++[t])/\(∀j,some j∈S++S1->j<G.length)/\G[g.length+mid.length+1]?=some (.row w (vs++[X]) true)/\some (g.length+mid.length+1)∉S++S1/\
   (∀j,j<g.length->j≠k->G[j]?=g[j]?)/\g.length<=G.length/\∀j,some j∈S++S1->some j∈S\/g.length<=j:=by
 have lk:=qJM hk;have a1:∀j,j<g.length+mid.length->j≠k->((((g++mid)++[qA.row w [X] true]).set k .dead)++[qA.row w (vs++[X]) true])[j]?=(g++mid)[j]?:=fun j hj hne=>by
  rw[gAl (by simp;omega),gSn (Ne.symm hne),gAl (by simp;omega)]
 refine⟨_,rfl, ?_,fun j hj=> ?_, ?_,fun q=> ?_,fun j hj hne=> ?_,by simp;omega,fun j hj=> ?_⟩
 ·refine(hO.heap fun j hj=> ?_).snoc (hX.heap fun j hj=> ?_) fun j hj hj2=> ?_
  ·have:=hS j hj;rw[a1 j (by omega) (by rintro rfl;exact hn hj),gAl this]
  ·have:=hS1 j hj;exact a1 j (by omega) (by omega)
  ·have:=hS j hj;have:=hS1 j hj2;omega
 ·rcases zM.1 hj with q | q
  ·have:=hS j q;simp;omega
  ·have:=hS1 j q;simp;omega
 ·rw[gAr (by simp;omega)];simp only[lLs,lAp,lCo,lNi];rw[show g.length+mid.length+1-(g.length+mid.length+(0+1))=0 by omega];rfl
 ·rcases zM.1 q with q | q
  ·have:=hS _ q;omega
  ·have:=hS1 _ q;omega
 ·rw[a1 j (by omega) hne,gAl hj]
 ·rcases zM.1 hj with q | q
  ·exact .inl q
  ·exact .inr (hS1 j q).1
structure IFs(S0:List (Option Nat))(cs0 ts0:List AV)(w:Nat)(g:List qA)(si:Nat)(S:List (Option Nat))(vs ts:List AV):Prop where
 c:qm S0 g cs0 ts0
 c0:∀j,some j∈S0->j<g.length
 o:qm S g vs ts
 o0:∀j,some j∈S->j<g.length
 r:g[si]?=some (.row w vs true)
 n1:some si∉S
 n2:some si∉S0
 n3:∀j,some j∈S0->some j∉S
section
variable {S0 S S1:List (Option Nat)} {cs0 ts0 vs ts:List AV} {w si:Nat} {g mid:List qA} {X t:AV}
theorem IFs.start(hc:qm S0 g cs0 ts0)(h0:∀j,some j∈S0->j<g.length):IFs S0 cs0 ts0 w (g++[.row w [] true]) g.length [] [] []:=
 ⟨hc.heap fun j hj=>gAl (h0 j hj),fun j hj=>by have:=h0 j hj;simp;omega,qm.nil,fun j hj=>by simp at hj,by simp,by simp,fun q=>by have:=h0 _ q;omega,fun j _ hj=>by simp at hj⟩
theorem IFs.push(h:IFs S0 cs0 ts0 w g si S vs ts)(hX:zK S1 (g++mid) X t)(hS1:∀j,some j∈S1->g.length<=j/\j<g.length+mid.length):
  IFs S0 cs0 ts0 w ((((g++mid)++[qA.row w [X] true]).set si .dead)++[qA.row w (vs++[X]) true]) (g.length+mid.length+1) (S++S1) (vs++[X]) (ts++[t]):=by
 obtain⟨G,hG,q1,q2,q3,q4,q5,q6,q7⟩:=Vi h.o h.o0 h.r h.n1 hX hS1;rw[<-hG];refine⟨h.c.heap fun j hj=>q5 j (h.c0 j hj) (by rintro rfl;exact h.n2 hj),fun j hj=>by have:=h.c0 j hj;omega,q1,q2,q3,q4,fun q=>by have:=h.c0 _ q;omega,fun j hj hj2=> ?_⟩;rcases q7 j hj2 with q | q
 ·exact h.n3 j hj q
 ·have:=h.c0 j hj;omega
theorem IFs.done{n:Nat}(h:IFs S0 cs0 ts0 w g si S vs ts)(hn:ts.length=n):qm (S0++some si::S) g (cs0++[.slice w si 0 n false]) (ts0++[.lst w ts false])/\∀j,some j∈S0++some si::S->j<g.length:=by
 subst hn;refine⟨h.c.snoc (h.o.row h.r h.n1) fun j hj hj2=> ?_,fun j hj=> ?_⟩
 ·rcases List.mem_cons.1 hj2 with q | q
  ·cases q;exact h.n2 hj
  ·exact h.n3 j hj q
 ·rcases zM.1 hj with q | q
  ·exact h.c0 j q
  ·rcases List.mem_cons.1 q with q | q
   ·cases q;exact qJM h.r
   ·exact h.o0 j q
end
theorem Vh{h:List qA}{xs:List AV}(hf:∀n,qN xs n=(xs,[]))(hp:AV.pls xs=true)(ht:AV.trees xs=true):qm [] h xs xs:=
 ⟨hp,rfl,by rw[hf];trivial,by rw[hf];exact VR2s.trees ht⟩
mutual
theorem qJ4{S:List (Option Nat)}{h:List qA}(hn:none∉S):∀(t:AV)(a:Nat)(v:AV),t.pl=true->t.cn=true->VR2 S v (lay t a).1->(∀i o,(lay t a).2[i]?=some o->∃j,S[a+i]?=some j/\OR2 S h j o)->Cv h v t
 |.lst w xs c,a,v,hp,hc,hv,hh=>by
  simp only[AV.cn,bAt,dTe,bNt]at hc;obtain⟨⟨h0,rfl⟩,hc⟩:=hc;simp only[lay]at hv hh;obtain⟨j,hj,ho⟩:=hh 0 _ rfl;rw[nAz]at hj;have l:=JG xs (a+1);generalize hnn:xs.length=n at hv;cases hv with
  | tree ht=>simp[AV.tree]at ht
  | slice hm=>
   rw[hm]at hj;cases hj;generalize hel:(qN xs (a+1)).1=el at ho;cases ho with
   | row hr he=>
    have le:=he.1;rw[<-hel,l]at le;rw[<-hel]at he;refine .slc hr (by omega) h0 (by rw[List.drop_zero,<-hnn,<-le,lTl]) ?_;rw[List.drop_zero,<-hnn,<-le,lTl];exact Wn hn xs (a+1) _ hp hc he fun i o hi=>by
     rw[show a+1+i=a+(i+1) by omega];exact hh (i+1) o (by simpa using hi)
  | ph hm=>exact absurd (lMo hm) hn
  | ph2 hm=>exact absurd (lMo hm) hn
 |.agg xs,a,v,hp,hc,hv,hh=>by
  simp only[lay]at hv hh;obtain⟨cs,rfl,hcs⟩:=hv.aggs;exact .agg (by rw[hcs.1,JG]) (Wn hn xs a cs hp hc hcs hh)
 |.tup xs,a,v,hp,hc,hv,hh=>by
  simp only[lay]at hv hh;obtain⟨cs,rfl,hcs⟩:=hv.tups;exact .tup (by rw[hcs.1,JG]) (Wn hn xs a cs hp hc hcs hh)
 |.bool _,_,_,_,_,hv,_ |.int _ _,_,_,_,_,hv,_ |.str _,_,_,_,_,hv,_ |.nilp,_,_,_,_,hv,_ |.nils,_,_,_,_,hv,_ |.nilm,_,_,_,_,hv,_ |.nilf,_,_,_,_,hv,_ |.nili,_,_,_,_,hv,_=>by
  simp only[lay]at hv;cases hv;exact .refl rfl
 |.any,_,_,hp,_,_,_ |.ptr _ _ _,_,_,hp,_,_,_ |.slice _ _ _ _ _,_,_,hp,_,_,_ |.map _,_,_,hp,_,_,_ |.ept _ _,_,_,hp,_,_,_ |.fn _ _,_,_,hp,_,_,_ |.iface _ _,_,_,hp,_,_,_=>by cases hp
theorem Wn{S:List (Option Nat)}{h:List qA}(hn:none∉S):∀(xs:List AV)(a:Nat)(vs:List AV),AV.pls xs=true->AV.cns xs=true->VR2s S vs (qN xs a).1->(∀i o,(qN xs a).2[i]?=some o->∃j,S[a+i]?=some j/\OR2 S h j o)->∀p∈vs.zip xs,Cv h p.1 p.2
 |[],_,_,_,_,_,_=>fun p hp=>by simp at hp
 | x::xs,a,vs,hp,hc,hv,hh=>by
  simp only[AV.pls,bAt]at hp;simp only[AV.cns,bAt]at hc;simp only[qN,qr]at hv hh;cases vs with
  | nil=>exact fun p hp=>by simp at hp
  | cons v vs=>
   obtain⟨h1,h2⟩:=hv.hd;refine UM (qJ4 hn x a v hp.1 hc.1 h1 fun i o hi=>hh i o (by rw[gAl (gSi.1 hi).1];exact hi)) (Wn hn xs _ vs hp.2 hc.2 h2 fun i o hi=> ?_);rw[show a+x.rows+i=a+(x.rows+i) by omega];exact hh _ o (by rw[gAr (by rw[qr];omega),qr,Nat.add_sub_cancel_left];exact hi)
end
theorem zK.cv{S:List (Option Nat)}{h:List qA}{v t:AV}(x:zK S h v t)(hn:none∉S)(hc:t.cn=true):Cv h v t:=
 qJ4 hn t 0 v x.p hc x.v fun i o hi=>by
  obtain⟨j,q1,q2⟩:=QU x.o i o hi;exact⟨j,by rw[nZa];exact q1,q2⟩
end Go.Ab
