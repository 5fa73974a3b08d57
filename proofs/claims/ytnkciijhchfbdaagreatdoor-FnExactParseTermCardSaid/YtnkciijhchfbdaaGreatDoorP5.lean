/- Texts AbO .. AbK: the abstract machine, its laws and contracts of functions: lemmas for the statement. No condition. -/
import Derived.Test.YtnkciijhchfbdaaGreatDoorP4
set_option linter.unusedSimpArgs false
set_option linter.unusedVariables false
namespace Go.Ab
open Go
mutual
def lay:AV->Nat->AV×List qD
 |.lst w xs _,n=>(.slice w n 0 xs.length false,.row w (qP xs (n+1)).1 true::(qP xs (n+1)).2)
 |.agg xs,n=>(.agg (qP xs n).1,(qP xs n).2)
 |.tup xs,n=>(.tup (qP xs n).1,(qP xs n).2)
 | v,_=>(v,[])
def qP:List AV->Nat->List AV×List qD
 |[],_=>([],[])
 | x::xs,n=>((lay x n).1::(qP xs (n+(lay x n).2.length)).1,(lay x n).2++(qP xs (n+(lay x n).2.length)).2)
end
mutual
def AV.pl:AV->Bool
 |.lst _ xs _ |.agg xs |.tup xs=>AV.pls xs
 |.bool _ |.int _ _ |.str _ |.nilp |.nils |.nilm |.nilf |.nili=>true
 | _=>false
def AV.pls:List AV->Bool
 |[]=>true
 | x::xs=>AV.pl x&&AV.pls xs
end
mutual
def AV.rows:AV->Nat
 |.lst _ xs _=>AV.rowss xs+1
 |.agg xs |.tup xs=>AV.rowss xs
 | _=>0
def AV.rowss:List AV->Nat
 |[]=>0
 | x::xs=>AV.rows x+AV.rowss xs
end
mutual
theorem qn:∀(t:AV)(n:Nat),(lay t n).2.length=t.rows
 |.lst _ xs _,n=>by simp only[lay,lCo,AV.rows,jT xs]
 |.agg xs,n=>by simp only[lay,AV.rows,jT xs]
 |.tup xs,n=>by simp only[lay,AV.rows,jT xs]
 |.bool _,_ |.int _ _,_ |.str _,_ |.nilp,_ |.nils,_ |.nilm,_ |.nilf,_ |.nili,_ |.any,_=>rfl
 |.ptr _ _ _,_ |.slice _ _ _ _ _,_ |.map _,_ |.ept _ _,_ |.fn _ _,_ |.iface _ _,_=>rfl
theorem jT:∀(xs:List AV)(n:Nat),(qP xs n).2.length=AV.rowss xs
 |[],_=>rfl
 | x::xs,n=>by simp only[qP,lAp,qn x,jT xs,AV.rowss]
end
theorem jm:∀(xs:List AV)(n:Nat),(qP xs n).1.length=xs.length
 |[],_=>rfl
 | x::xs,n=>by simp only[qP,lCo,jm xs]
theorem ZK:∀(xs ys:List AV)(n:Nat),qP (xs++ys) n=((qP xs n).1++(qP ys (n+AV.rowss xs)).1,(qP xs n).2++(qP ys (n+AV.rowss xs)).2)
 |[],ys,n=>by simp[qP,AV.rowss]
 | x::xs,ys,n=>by
  simp only[lCa,qP,ZK xs ys,AV.rowss,qn,Nat.add_assoc,lAa]
theorem qQ4:∀(xs ys:List AV),AV.rowss (xs++ys)=AV.rowss xs+AV.rowss ys
 |[],ys=>by simp[AV.rowss]
 | x::xs,ys=>by simp only[lCa,AV.rowss,qQ4 xs ys];omega
section
variable {ρ ρ':Ren}
def Sh2(ρ:Ren)(a:Nat)(ρ':Ren)(b n:Nat):Prop:=∀i,i<n->ρ' (b+i)=ρ (a+i)
theorem Sh2.sub{a b n:Nat}(h:Sh2 ρ a ρ' b n)(k m:Nat)(hk:k+m<=n):Sh2 ρ (a+k) ρ' (b+k) m:=fun i hi=>by
 have:=h (k+i) (by omega);rw[show a+k+i=a+(k+i) by omega,show b+k+i=b+(k+i) by omega];exact this
mutual
theorem KM:∀(t:AV)(a b:Nat)(r:AV),t.pl=true->Sh2 ρ a ρ' b t.rows->RelV ρ (lay t a).1 r->RelV ρ' (lay t b).1 r
 |.lst w xs _,a,b,r,_,hs,h=>by
  have h0:=hs 0 (by simp only[AV.rows];omega);simp only[nAz]at h0;simp only[lay,RelV]at h|-;rw[h0];exact h
 |.agg xs,a,b,r,hp,hs,h=>by
  simp only[lay,RelV]at h|-;obtain⟨ds,h1,h2⟩:=h;exact⟨ds,h1,Va xs a b ds hp hs h2⟩
 |.tup xs,a,b,r,hp,hs,h=>by
  simp only[lay,RelV]at h|-;obtain⟨ds,h1,h2⟩:=h;exact⟨ds,h1,Va xs a b ds hp hs h2⟩
 |.bool _,_,_,_,_,_,h |.int _ _,_,_,_,_,_,h |.str _,_,_,_,_,_,h |.nilp,_,_,_,_,_,h |.nils,_,_,_,_,_,h |.nilm,_,_,_,_,_,h |.nilf,_,_,_,_,_,h |.nili,_,_,_,_,_,h=>by
  simpa only [lay,RelV]using h
 |.any,_,_,_,hp,_,_ |.ptr _ _ _,_,_,_,hp,_,_ |.slice _ _ _ _ _,_,_,_,hp,_,_ |.map _,_,_,_,hp,_,_ |.ept _ _,_,_,_,hp,_,_ |.fn _ _,_,_,_,hp,_,_ |.iface _ _,_,_,_,hp,_,_=>by cases hp
theorem Va:∀(xs:List AV)(a b:Nat)(rs:List AV),AV.pls xs=true->Sh2 ρ a ρ' b (AV.rowss xs)->RelVs ρ (qP xs a).1 rs->RelVs ρ' (qP xs b).1 rs
 |[],_,_,_,_,_,h=>by simpa only [qP,RelVs]using h
 | x::xs,a,b,rs,hp,hs,h=>by
  simp only[AV.pls,bAt]at hp;simp only[qP,RelVs,qn]at h|-;obtain⟨u,us,h1,h2,h3⟩:=h;simp only[AV.rowss]at hs;exact⟨u,us,h1,KM x a b u hp.1 (by simpa using hs.sub 0 x.rows (by omega)) h2,Va xs _ _ us hp.2 (hs.sub x.rows (AV.rowss xs) (by omega)) h3⟩
end
def Lies(ρ:Ren)(a:Nat)(os:List qD)(hr:AH):Prop:=∀i o,os[i]?=some o->RelO ρ (a+i) hr o
theorem Lies.app{a:Nat}{os os':List qD}{hr:AH}:Lies ρ a (os++os') hr↔Lies ρ a os hr/\Lies ρ (a+os.length) os' hr:=by
 constructor
 ·intro h;refine⟨fun i o hi=>h i o ?_,fun i o hi=> ?_⟩
  ·rw[gAl (gSi.1 hi).1];exact hi
  ·have:=h (os.length+i) o (by rw[gAr (by omega)];simpa using hi);rw[show a+os.length+i=a+(os.length+i) by omega];exact this
 ·rintro⟨h1,h2⟩ i o hi;rcases Nat.lt_or_ge i os.length with q | q
  ·rw[gAl q]at hi;exact h1 i o hi
  ·rw[gAr q]at hi;have:=h2 _ _ hi;rw[show a+os.length+(i-os.length)=a+i by omega]at this;exact this
theorem Lies.cons{a:Nat}{o:qD}{os:List qD}{hr:AH}:Lies ρ a (o::os) hr↔RelO ρ a hr o/\Lies ρ (a+1) os hr:=by
 have:=Lies.app (ρ:=ρ) (a:=a) (os:=[o]) (os':=os) (hr:=hr);rw[List.singleton_append]at this;rw[this];constructor
 ·rintro⟨h1,h2⟩;exact⟨h1 0 o rfl,h2⟩
 ·rintro⟨h1,h2⟩;refine⟨fun i x hi=> ?_,h2⟩;cases i with
  | zero=>simp at hi;subst hi;exact h1
  | succ i=>simp at hi
mutual
theorem VW{hr hr':AH}:∀(t:AV)(a b:Nat),t.pl=true->Sh2 ρ a ρ' b t.rows->(∀i x o,i<t.rows->ρ (a+i)=some (some x)->hr x=some o->hr' x=some o)->Lies ρ a (lay t a).2 hr->Lies ρ' b (lay t b).2 hr'
 |.lst w xs _,a,b,hp,hs,hh,h=>by
  simp only[lay,Lies.cons]at h|-;simp only[AV.rows]at hs hh;obtain⟨h1,h2⟩:=h;refine⟨?_,VZ xs (a+1) (b+1) hp (hs.sub 1 _ (by omega)) (fun i x o hi hx hx2=>hh (1+i) x o (by omega) (by rw[<-Nat.add_assoc];exact hx) hx2) h2⟩;have h0:=hs 0 (by omega);simp only[nAz]at h0;rcases h1 with⟨q1,q2,q3⟩ | ⟨i',el',q1,q2,q3⟩
  ·refine .inl ⟨by rw[h0];exact q1, ?_,q3⟩;have l1:=jm xs (a+1);have l2:=jm xs (b+1);rw[q2]at l1;exact lEz (by rw[l2,<-l1];rfl)
  ·exact .inr ⟨i',el',by rw[h0];exact q1,hh 0 i' _ (by omega) q1 q2,Va xs _ _ _ hp (hs.sub 1 _ (by omega)) q3⟩
 |.agg xs,a,b,hp,hs,hh,h=>by
  simp only[lay]at h|-;exact VZ xs a b hp hs hh h
 |.tup xs,a,b,hp,hs,hh,h=>by
  simp only[lay]at h|-;exact VZ xs a b hp hs hh h
 |.bool _,_,_,_,_,_,_ |.int _ _,_,_,_,_,_,_ |.str _,_,_,_,_,_,_ |.nilp,_,_,_,_,_,_ |.nils,_,_,_,_,_,_ |.nilm,_,_,_,_,_,_ |.nilf,_,_,_,_,_,_ |.nili,_,_,_,_,_,_=>by
  intro i o hi;simp[lay]at hi
 |.any,_,_,hp,_,_,_ |.ptr _ _ _,_,_,hp,_,_,_ |.slice _ _ _ _ _,_,_,hp,_,_,_ |.map _,_,_,hp,_,_,_ |.ept _ _,_,_,hp,_,_,_ |.fn _ _,_,_,hp,_,_,_ |.iface _ _,_,_,hp,_,_,_=>by cases hp
theorem VZ{hr hr':AH}:∀(xs:List AV)(a b:Nat),AV.pls xs=true->Sh2 ρ a ρ' b (AV.rowss xs)->(∀i x o,i<AV.rowss xs->ρ (a+i)=some (some x)->hr x=some o->hr' x=some o)->Lies ρ a (qP xs a).2 hr->Lies ρ' b (qP xs b).2 hr'
 |[],_,_,_,_,_,_=>by intro i o hi;simp[qP]at hi
 | x::xs,a,b,hp,hs,hh,h=>by
  simp only[AV.pls,bAt]at hp;simp only[AV.rowss]at hs hh;simp only[qP,Lies.app,qn]at h|-;exact⟨VW x a b hp.1 (by simpa using hs.sub 0 x.rows (by omega)) (fun i y o hi=>hh i y o (by omega)) h.1,
   VZ xs _ _ hp.2 (hs.sub x.rows _ (by omega)) (fun i y o hi hy=>hh (x.rows+i) y o (by omega) (by rw[<-Nat.add_assoc];exact hy)) h.2⟩
end
mutual
theorem KN:∀(t:AV)(a i:Nat)(o:qD),t.pl=true->(lay t a).2[i]?=some o->∃w xs b,o=.row w (qP xs b).1 true/\AV.pls xs=true
 |.lst w xs _,a,i,o,hp,h=>by
  simp only[lay]at h;cases i with
  | zero=>simp at h;subst h;exact⟨w,xs,a+1,rfl,hp⟩
  | succ i=>exact Vb xs (a+1) i o hp (by simpa using h)
 |.agg xs,a,i,o,hp,h=>by simp only[lay]at h;exact Vb xs a i o hp h
 |.tup xs,a,i,o,hp,h=>by simp only[lay]at h;exact Vb xs a i o hp h
 |.bool _,_,_,_,_,h |.int _ _,_,_,_,_,h |.str _,_,_,_,_,h |.nilp,_,_,_,_,h |.nils,_,_,_,_,h |.nilm,_,_,_,_,h |.nilf,_,_,_,_,h |.nili,_,_,_,_,h=>by
  simp[lay]at h
 |.any,_,_,_,hp,_ |.ptr _ _ _,_,_,_,hp,_ |.slice _ _ _ _ _,_,_,_,hp,_ |.map _,_,_,_,hp,_ |.ept _ _,_,_,_,hp,_ |.fn _ _,_,_,_,hp,_ |.iface _ _,_,_,_,hp,_=>by cases hp
theorem Vb:∀(xs:List AV)(a i:Nat)(o:qD),AV.pls xs=true->(qP xs a).2[i]?=some o->∃w ys b,o=.row w (qP ys b).1 true/\AV.pls ys=true
 |[],_,_,_,_,h=>by simp[qP]at h
 | x::xs,a,i,o,hp,h=>by
  simp only[AV.pls,bAt]at hp;simp only[qP]at h;rcases Nat.lt_or_ge i (lay x a).2.length with q | q
  ·rw[gAl q]at h;exact KN x a i o hp.1 h
  ·rw[gAr q]at h;exact Vb xs _ _ o hp.2 h
end
end
variable {Γ:Nat->Option AFn} {g:Nat} {vs vs' as:List AV} {h:List qD} {t t':AV}
def Fresh(Γ:Nat->Option AFn)(g:Nat)(as:List AV)(t:AV):Prop:=
 AV.trees as=true/\t.pl=true/\∀hr ar,RelVs ρ0 as ar->∃k r hr' ρ',Ex Γ k (.call g ar hr) (.res (.ok r) hr')/\qp ρ' (lay t 0).2 hr'/\RelV ρ' (lay t 0).1 r/\Fm 0 ρ0 hr ρ' hr'
def wg(ρ:Ren)(n:Nat)(ρ':Ren):Ren:=fun i=>if i<n then ρ i else ρ' (i-n)
theorem qOA{ρ ρ':Ren}{hr h1 h2:AH}{r:AV}(hp:t.pl=true)(hH:qp ρ h hr)(hH':qp ρ' (lay t 0).2 h1)(hv:RelV ρ' (lay t 0).1 r)
  (hnew:∀i a,ρ' i=some (some a)->hr.fr a) (hold:∀a o,hr a=some o->h2 a=some o) (hsame:∀i a o,ρ' i=some (some a)->h1 a=some o->h2 a=some o) (hfr:∀a,h2.fr a->hr.fr a):
  qp (wg ρ h.length ρ') (h++(lay t h.length).2) h2/\RelV (wg ρ h.length ρ') (lay t h.length).1 r/\Fm h.length ρ hr (wg ρ h.length ρ') h2:=by
 have sh:Sh2 ρ' 0 (wg ρ h.length ρ') h.length t.rows:=fun i hi=>by
  simp only[wg,nZa];rw[if_neg (by omega),Nat.add_sub_cancel_left]
 have lies:Lies ρ' 0 (lay t 0).2 h1:=fun i o hi=>by rw[nZa];exact hH'.obj i o hi
 have lies2:Lies (wg ρ h.length ρ') h.length (lay t h.length).2 h2:=VW t 0 h.length hp sh (fun i x o _ hx ho=>hsame _ x o hx ho) lies;have lo:∀i,i<h.length->wg ρ h.length ρ' i=ρ i:=fun i hi=>by simp only[wg,if_pos hi]
 have hi':∀i,h.length<=i->wg ρ h.length ρ' i=ρ' (i-h.length):=fun i hi=>by simp only[wg];rw[if_neg (by omega)]
 have le:ρ.le (wg ρ h.length ρ'):=fun i a hia=>by
  have:i<h.length:=by
   rcases Nat.lt_or_ge i h.length with q | q
   ·exact q
   ·rw[hH.out i q]at hia;cases hia
  rw[lo i this];exact hia
 refine⟨⟨fun i o hi=> ?_,fun i j a o o' h1' h2' hi hj d1 d2=> ?_,fun i hi=> ?_,fun i a ha=> ?_⟩,KM t 0 h.length r hp sh hv,⟨fun a o ho _=>hold a o ho,fun i a ha=> ?_,hfr,fun i hi=>lo i hi⟩⟩
 ·rcases Nat.lt_or_ge i h.length with q | q
  ·rw[gAl q]at hi;exact(hH.obj i o hi).mono le fun a o' _ ho=>hold a o' ho
  ·rw[gAr q]at hi;have:=lies2 _ _ hi;rwa[show h.length+(i-h.length)=i by omega]at this
 ·have get0:∀{i:Nat}{o:qD},(lay t h.length).2[i]?=some o->∃o2,(lay t 0).2[i]?=some o2/\o2≠.dead:=fun{i o} hio=>by
   have hl:i<(lay t 0).2.length:=by
    have:=(gSi.1 hio).1;rw[qn]at this|-;exact this
   refine⟨_,gEg hl, ?_⟩;obtain⟨w,xs,b,e,_⟩:=KN t 0 i _ hp (gEg hl);rw[e];simp
  rcases Nat.lt_or_ge i h.length with q1 | q1<;>rcases Nat.lt_or_ge j h.length with q2 | q2
  ·rw[lo i q1]at h1';rw[lo j q2]at h2';rw[gAl q1]at hi;rw[gAl q2]at hj;exact hH.inj i j a o o' h1' h2' hi hj d1 d2
  ·rw[lo i q1]at h1';rw[hi' j q2]at h2';obtain⟨x,hx⟩:=hH.is i a h1';have:=(hnew _ a h2').1;rw[this]at hx;cases hx
  ·rw[hi' i q1]at h1';rw[lo j q2]at h2';obtain⟨x,hx⟩:=hH.is j a h2';have:=(hnew _ a h1').1;rw[this]at hx;cases hx
  ·rw[hi' i q1]at h1';rw[hi' j q2]at h2';rw[gAr q1]at hi;rw[gAr q2]at hj;obtain⟨o2,g1,g2⟩:=get0 hi;obtain⟨o3,g3,g4⟩:=get0 hj;have:=hH'.inj _ _ a o2 o3 h1' h2' g1 g3 g2 g4;omega
 ·simp only[lAp,qn]at hi;rw[hi' i (by omega)];exact hH'.out _ (by rw[qn];omega)
 ·rcases Nat.lt_or_ge i h.length with q | q
  ·rw[lo i q]at ha;obtain⟨o,ho⟩:=hH.is i a ha;exact⟨o,hold a o ho⟩
  ·rw[hi' i q]at ha;obtain⟨o,ho⟩:=hH'.is _ a ha;exact⟨o,hsame _ a o ha ho⟩
 ·rcases Nat.lt_or_ge i h.length with q | q
  ·rw[lo i q]at ha;exact .inl ⟨i,ha⟩
  ·rw[hi' i q]at ha;exact .inr (hnew _ a ha)
theorem Fm.new0{ρ':Ren}{hr hr':AH}(h:Fm 0 ρ0 hr ρ' hr'){i a:Nat}(ha:ρ' i=some (some a)):hr.fr a:=by
 rcases h.new i a ha with⟨j,hj⟩ | q
 ·cases hj
 ·exact q
theorem SCallK.fresh{K:AV->List qD->Prop}(hp:Fresh Γ g vs t)(hk:K (lay t h.length).1 (h++(lay t h.length).2)):SCallK Γ g vs h K:=fun ρ hr ar hH hv=>by
 unfold Fresh at hp;obtain⟨t1,t2,hp⟩:=hp;obtain⟨k,r,hr',ρ',h1,h2,h3,h4⟩:=hp hr ar (JB _ _ t1 hv);obtain⟨q1,q2,q3⟩:=qOA (h2:=hr') t2 hH h2 h3 (fun i a ha=>h4.new0 ha) (fun a o ho=>h4.pres a o ho (fun i hi=>by cases hi)) (fun _ _ _ _ ho=>ho) h4.fr;exact⟨k,r,hr',_,_,_,h1,hk,q1,q2,q3,by simp,fun a o ho=>h4.pres a o ho (fun i hi=>by cases hi)⟩
theorem SCall.fresh{K:AV->List qD->Prop}(hp:Fresh Γ g vs t)(hk:K (lay t h.length).1 (h++(lay t h.length).2)):SCall Γ g vs h K:=fun ρ hr ar hH hv=>by
 unfold Fresh at hp;obtain⟨t1,t2,hp⟩:=hp;obtain⟨k,r,hr',ρ',h1,h2,h3,h4⟩:=hp hr ar (JB _ _ t1 hv);obtain⟨q1,q2,q3⟩:=qOA (h2:=hr') t2 hH h2 h3 (fun i a ha=>h4.new0 ha) (fun a o ho=>h4.pres a o ho (fun i hi=>by cases hi)) (fun _ _ _ _ ho=>ho) h4.fr;exact⟨k,r,hr',_,_,_,h1,hk,q1,q2,q3,by simp⟩
end Go.Ab
namespace Go.Ab
open Go
section
variable {Γ:Nat->Option AFn} {g:Nat}
def FinF(vs:Option (List AV))(h:List qD)(t:AV):Prop:=match vs with
 | some vs=>∃μ,zK μ=true/\jN μ h μ (lay t 0).2/\VR2 μ (zS vs) (lay t 0).1
 | none=>False
def WA(res:List zI)(t:AV):qS->VSt->Prop:=fun e st=>(e=.nrm\/e=.ret)/\FinF (qq (zQ st) res) st.h t
@[go_sem] theorem qeL{res:List zI}{t:AV}{s m:qf}{h:List qD}:WA res t .ret ⟨s,m,h⟩=FinF (qq (zQ ⟨s,m,h⟩) res) h t:=by
 simp[WA]
@[go_sem] theorem qeK{res:List zI}{t:AV}{s m:qf}{h:List qD}:WA res t .nrm ⟨s,m,h⟩=FinF (qq (zQ ⟨s,m,h⟩) res) h t:=by
 simp[WA]
theorem Fresh.intro{F:qJ}{as:List AV}{t:AV}(fz bp:List Nat)(hg:Γ g=some (.fn F))(hok:F.body.ok=true)(hn:as.length=F.np)(ht:AV.trees as=true)(hp:t.pl=true)
  (hR:R ⟨Γ,0,fz,bp⟩ [.code F.body] ⟨qI 0 as,[],[]⟩ (WA F.res t)):Fresh Γ g as t:=by
 unfold Fresh;refine⟨ht,hp,fun hr ar har=> ?_⟩;have hS:qo ρ0 ⟨qI 0 as,[],[]⟩ {s:=params 0 ar,l:=Env.empty,h:=hr}:=⟨Jk har,(fun n v h=>by cases h),⟨(fun i o h=>by simp at h),(fun i j a o o' h=>by cases h),(fun _ _=>rfl),(fun i a h=>by cases h)⟩⟩;obtain⟨k,e,sr',ρ',st',g1,⟨he,hq⟩,g3,g4,_⟩:=Sem.of (by simpa only [lAc,List.all_nil,Bool.and_true,Fr1.ok]using hok) hR ρ0 _ hS (nZl _);have hb:Ex Γ k (.code F.body {s:=params 0 ar,l:=Env.empty,h:=hr}) (.st e sr'):=by
  cases g1 with
  | code h h'=>cases h';exact h
  | codeX h he' hx h'=>cases e<;>simp[exK]at hx
  | codeE h he' hx=>exact h
 unfold FinF at hq;split at hq
 ·rename_i vs hvs;obtain⟨μ,m1,m2,m3⟩:=hq;obtain⟨rs,q1,q2⟩:=wv g3 hvs;have hx:=Ex.fn hg (by rw[har.length];exact hn) hb he q1;obtain⟨r1,r2⟩:=K1 m1 m2 g3.h;exact⟨k+1,_,_,_,hx,r1,m3.rel (JK q2),g4.trans r2⟩
 ·exact hq.elim
mutual
theorem qPF{μ:List (Option Nat)}:∀(t:AV)(a b:Nat),t.pl=true->(∀i,i<t.rows->μ[b+i]?=some (some (a+i)))->VR2 μ (lay t a).1 (lay t b).1
 |.lst w xs _,a,b,_,h=>by
  simp only[lay];exact .slice (by have:=h 0 (by simp only[AV.rows];omega);simpa using this)
 |.agg xs,a,b,hp,h=>by
  simp only[lay];have:=WK xs a b hp h;exact .agg this.1 this.2
 |.tup xs,a,b,hp,h=>by
  simp only[lay];have:=WK xs a b hp h;exact .tup this.1 this.2
 |.bool _,_,_,_,_ |.int _ _,_,_,_,_ |.str _,_,_,_,_ |.nilp,_,_,_,_ |.nils,_,_,_,_ |.nilm,_,_,_,_ |.nilf,_,_,_,_ |.nili,_,_,_,_=>by
  simp only[lay];exact .tree rfl
 |.any,_,_,hp,_ |.ptr _ _ _,_,_,hp,_ |.slice _ _ _ _ _,_,_,hp,_ |.map _,_,_,hp,_ |.ept _ _,_,_,hp,_ |.fn _ _,_,_,hp,_ |.iface _ _,_,_,hp,_=>by cases hp
theorem WK{μ:List (Option Nat)}:∀(xs:List AV)(a b:Nat),AV.pls xs=true->(∀i,i<AV.rowss xs->μ[b+i]?=some (some (a+i)))->VR2s μ (qP xs a).1 (qP xs b).1
 |[],_,_,_,_=>VR2s.nil
 | x::xs,a,b,hp,h=>by
  simp only[AV.pls,bAt]at hp;simp only[AV.rowss]at h;simp only[qP,qn];refine .cons (qPF x a b hp.1 fun i hi=>h i (by omega)) (WK xs _ _ hp.2 fun i hi=> ?_);rw[show b+x.rows+i=b+(x.rows+i) by omega,show a+x.rows+i=a+(x.rows+i) by omega];exact h _ (by omega)
end
mutual
theorem qPE{μ:List (Option Nat)}{h:List qD}:∀(t:AV)(a b:Nat),t.pl=true->(∀i,i<t.rows->μ[b+i]?=some (some (a+i)))->(∀i o,(lay t a).2[i]?=some o->h[a+i]?=some o)->
  ∀i o,(lay t b).2[i]?=some o->OR2 μ h (some (a+i)) o
 |.lst w xs _,a,b,hp,hm,hh,i,o,hi=>by
  simp only[lay]at hi hh;simp only[AV.rows]at hm;have hm':∀i,i<AV.rowss xs->μ[b+1+i]?=some (some (a+1+i)):=fun i hi=>by
   rw[show b+1+i=b+(i+1) by omega,show a+1+i=a+(i+1) by omega];exact hm _ (by omega)
  cases i with
  | zero=>
   simp only[List.getElem?_cons_zero,oSi]at hi;subst hi;exact .row (hh 0 _ rfl) (WK xs _ _ hp hm')
  | succ i=>
   have:=WJ xs (a+1) (b+1) hp hm' (fun i o hi=>by
    rw[show a+1+i=a+(i+1) by omega];exact hh (i+1) o (by simpa using hi)) i o (by simpa using hi)
   rw[show a+1+i=a+(i+1) by omega]at this;exact this
 |.agg xs,a,b,hp,hm,hh,i,o,hi=>by
  simp only[lay]at hi hh;exact WJ xs a b hp hm hh i o hi
 |.tup xs,a,b,hp,hm,hh,i,o,hi=>by
  simp only[lay]at hi hh;exact WJ xs a b hp hm hh i o hi
 |.bool _,_,_,_,_,_,_,_,h |.int _ _,_,_,_,_,_,_,_,h |.str _,_,_,_,_,_,_,_,h |.nilp,_,_,_,_,_,_,_,h |.nils,_,_,_,_,_,_,_,h |.nilm,_,_,_,_,_,_,_,h |.nilf,_,_,_,_,_,_,_,h |.nili,_,_,_,_,_,_,_,h=>by
  simp[lay]at h
 |.any,_,_,hp,_,_,_,_,_ |.ptr _ _ _,_,_,hp,_,_,_,_,_ |.slice _ _ _ _ _,_,_,hp,_,_,_,_,_ |.map _,_,_,hp,_,_,_,_,_ |.ept _ _,_,_,hp,_,_,_,_,_ |.fn _ _,_,_,hp,_,_,_,_,_ |.iface _ _,_,_,hp,_,_,_,_,_=>by cases hp
theorem WJ{μ:List (Option Nat)}{h:List qD}:∀(xs:List AV)(a b:Nat),AV.pls xs=true->(∀i,i<AV.rowss xs->μ[b+i]?=some (some (a+i)))->(∀i o,(qP xs a).2[i]?=some o->h[a+i]?=some o)->
  ∀i o,(qP xs b).2[i]?=some o->OR2 μ h (some (a+i)) o
 |[],_,_,_,_,_,_,_,hi=>by simp[qP]at hi
 | x::xs,a,b,hp,hm,hh,i,o,hi=>by
  simp only[AV.pls,bAt]at hp;simp only[AV.rowss]at hm;simp only[qP,qn]at hi hh;rcases Nat.lt_or_ge i x.rows with q | q
  ·rw[gAl (by rw[qn];exact q)]at hi;exact qPE x a b hp.1 (fun i hi=>hm i (by omega)) (fun i o hi=>hh i o (by rw[gAl (gSi.1 hi).1];exact hi)) i o hi
  ·rw[gAr (by rw[qn];exact q),qn]at hi;have:=WJ xs (a+x.rows) (b+x.rows) hp.2 (fun i hi=>by
    rw[show b+x.rows+i=b+(x.rows+i) by omega,show a+x.rows+i=a+(x.rows+i) by omega];exact hm _ (by omega)) (fun i o hi=>by
    rw[show a+x.rows+i=a+(x.rows+i) by omega];exact hh _ o (by rw[gAr (by rw[qn];omega),qn,Nat.add_sub_cancel_left];exact hi)) (i-x.rows) o hi
   rw[show a+x.rows+(i-x.rows)=a+i by omega]at this;exact this
end
theorem WW{μ:List (Option Nat)}{h:List qD}:∀{r:List (Option Nat)}{h':List qD},r.length=h'.length->(∀(i:Nat)(j:Option Nat)(o:qD),r[i]?=some j->h'[i]?=some o->OR2 μ h j o)->jN μ h r h'
 |[],[],_,_=>trivial
 | j::r,o::h',hl,hh=>⟨hh 0 j o rfl rfl,WW (by simpa using hl) fun i j o h1 h2=>hh (i+1) j o (by simpa using h1) (by simpa using h2)⟩
 |[],_::_,hl,_=>by simp at hl
 | _::_,[],hl,_=>by simp at hl
theorem ZF:∀{l:List Nat},l.Nodup->zK (l.map some)=true
 |[],_=>rfl
 | x::l,h=>by
  rw[List.nodup_cons]at h;simp only[lMc,zK,bAt,lAt];refine⟨fun y hy=> ?_,ZF h.2⟩;obtain⟨z,hz,rfl⟩:=List.mem_map.1 hy;have:x≠z:=fun e=>h.1 (by rw[e];exact hz);have hb:Nat.beq x z=false:=by
   rw[<-Bool.not_eq_true];intro q;exact this (Nat.eq_of_beq_eq_true q)
  show (!Nat.beq x z)=true;rw[hb];rfl
def Mark(Γ:Nat->Option AFn)(g:Nat)(t t':AV)(k k':Int):Prop:=
 t.pl=true/\t'.pl=true/\t'.rows=t.rows/\∀ρ hr r,qp ρ (lay t 0).2 hr->RelV ρ (lay t 0).1 r->∃kk hr' ρ',Ex Γ kk (.call g [r,.int .i64 k] hr) (.res (.ok (.int .i64 k')) hr')/\qp ρ' (lay t' 0).2 hr'/\Fm t.rows ρ hr ρ' hr'
def Yw(vs:Option (List AV))(h:List qD)(k:Int)(os:List qD):Prop:=vs=some [.int .i64 k]/\h=os
def WB(res:List zI)(k:Int)(os:List qD):qS->VSt->Prop:=fun e st=>(e=.nrm\/e=.ret)/\Yw (qq (zQ st) res) st.h k os
@[go_sem] theorem qeP{res:List zI}{k:Int}{os:List qD}{s m:qf}{h:List qD}:WB res k os .ret ⟨s,m,h⟩=Yw (qq (zQ ⟨s,m,h⟩) res) h k os:=by
 simp[WB]
@[go_sem] theorem qeO{res:List zI}{k:Int}{os:List qD}{s m:qf}{h:List qD}:WB res k os .nrm ⟨s,m,h⟩=Yw (qq (zQ ⟨s,m,h⟩) res) h k os:=by
 simp[WB]
theorem WC{h os:List qD}{k k':Int}(hk:k=k')(hh:h=os):Yw (some [.int .i64 k]) h k' os:=⟨by rw[hk],hh⟩
theorem Mark.intro{F:qJ}{t t':AV}{k k':Int}(hg:Γ g=some (.fn F))(hok:F.body.ok=true)(hn:F.np=2)(hp:t.pl=true)(hp':t'.pl=true)(hl:t'.rows=t.rows)
  (hR:R ⟨Γ,t.rows,[],[]⟩ [.code F.body] ⟨qI 0 [(lay t 0).1,.int .i64 k],[],(lay t 0).2⟩ (WB F.res k' (lay t' 0).2)):Mark Γ g t t' k k':=by
 refine⟨hp,hp',hl,fun ρ hr r hH hv=> ?_⟩;have hS:qo ρ ⟨qI 0 [(lay t 0).1,.int .i64 k],[],(lay t 0).2⟩ {s:=params 0 [r,.int .i64 k],l:=Env.empty,h:=hr}:=
  ⟨Jk (by simp only[RelVs];exact⟨_,_,rfl,hv,_,_,rfl,by simp only[RelV],rfl⟩),(fun n v h=>by cases h),hH⟩
 obtain⟨kk,e,sr',ρ',st',g1,⟨he,hq⟩,g3,g4,_⟩:=Sem.of (by simpa only [lAc,List.all_nil,Bool.and_true,Fr1.ok]using hok) hR ρ _ hS (by rw[qn];exact nLr _);have hb:Ex Γ kk (.code F.body {s:=params 0 [r,.int .i64 k],l:=Env.empty,h:=hr}) (.st e sr'):=by
  cases g1 with
  | code h h'=>cases h';exact h
  | codeX h he' hx h'=>cases e<;>simp[exK]at hx
  | codeE h he' hx=>exact h
 obtain⟨q1,q2⟩:=hq;obtain⟨rs,q3,q4⟩:=wv g3 q1;have hx:=Ex.fn hg (by rw[hn];rfl) hb he q3;have hr1:RelV ρ' (.int .i64 k') (zS rs):=JK q4;simp only[RelV]at hr1;rw[hr1]at hx;exact⟨kk+1,_,ρ',hx,by rw[<-q2];exact g3.h,g4⟩
theorem SCall.mark{K:AV->List qD->Prop}{pre post h:List qD}{t t':AV}{k k':Int}{v:AV}(hm:Mark Γ g t t' k k')(hh:h=pre++((lay t pre.length).2++post))(hva:v=(lay t pre.length).1)
  (hk:K (.int .i64 k') (pre++((lay t' pre.length).2++post))):SCall Γ g [v,.int .i64 k] h K:=fun ρ hr ar hH hv=>by
 obtain⟨hp,hp',hl,hm⟩:=hm;subst hh;subst hva;simp only[RelVs,RelV]at hv;obtain⟨r,rs,rfl,hv,_,_,rfl,rfl,rfl⟩:=hv;obtain⟨n,hn⟩:∃n,n=pre.length:=⟨_,rfl⟩;rw[<-hn]at hH hv hk;have mid:∀i,(hi:i<t.rows)->∃w xs b,(pre++((lay t n).2++post))[n+i]?=some (.row w (qP xs b).1 true)/\(lay t n).2[i]?=some (.row w (qP xs b).1 true):=fun i hi=>by
  have hlt:i<(lay t n).2.length:=by rw[qn];exact hi
  obtain⟨w,xs,b,e,_⟩:=KN t n i _ hp (gEg hlt);refine⟨w,xs,b, ?_,by rw[gEg hlt,e]⟩;rw[gAr (by omega),<-hn,Nat.add_sub_cancel_left,gAl hlt,gEg hlt,e]
 have sh:Sh2 ρ n (fun i=>if i<t.rows then ρ (n+i)else none) 0 t.rows:=fun i hi=>by
  simp only[nZa];rw[if_pos hi]
 have lies:Lies ρ n (lay t n).2 hr:=fun i o hi=>hH.obj (n+i) o (by
  rw[gAr (by omega),<-hn,Nat.add_sub_cancel_left,gAl (gSi.1 hi).1];exact hi)
 have lies0:=VW t n 0 hp sh (fun _ _ _ _ _ h=>h) lies;have hH0:qp (fun i=>if i<t.rows then ρ (n+i)else none) (lay t 0).2 hr:=by
  refine⟨fun i o hi=>by have:=lies0 i o hi;rwa[nZa]at this,fun i j a o o' h1 h2 _ _ _ _=> ?_,fun i hi=> ?_,fun i a ha=> ?_⟩
  ·try simp only at h1 h2
   split at h1
   ·rename_i q1;split at h2
    ·rename_i q2;obtain⟨w1,x1,b1,e1,_⟩:=mid i q1;obtain⟨w2,x2,b2,e2,_⟩:=mid j q2;have:=hH.inj _ _ a _ _ h1 h2 e1 e2 (by simp) (by simp);omega
    ·cases h2
   ·cases h1
  ·rw[qn]at hi;show (if i<t.rows then ρ (n+i)else none)=none;rw[if_neg (by omega)]
  ·try simp only at ha
   split at ha
   ·exact hH.is _ a ha
   ·cases ha
 obtain⟨kk,hr',ρ',hx,hH',hF⟩:=hm _ hr r hH0 (KM t n 0 r hp sh hv);have hρ:∀i,ρ' i=if i<t.rows then ρ (n+i)else none:=fun i=>by
  by_cases q:i<t.rows
  ·exact hF.base i q
  ·rw[if_neg q];exact hH'.out i (by rw[qn];omega)
 have sh':Sh2 ρ' 0 ρ n t'.rows:=fun i hi=>by
  rw[nZa,hρ,if_pos (by omega)]
 have lies':Lies ρ n (lay t' n).2 hr':=VW t' 0 n hp' sh' (fun _ _ _ _ _ h=>h) (fun i o hi=>by rw[nZa];exact hH'.obj i o hi);have out:∀(i a:Nat)(o:qD),(i<n\/n+t.rows<=i)->(pre++((lay t n).2++post))[i]?=some o->o≠.dead->ρ i=some (some a)->∀x,hr a=some x->hr' a=some x:=fun i a o hi ho hd ha x hxx=>by
  refine hF.pres a x hxx fun j hj=> ?_
  try simp only at hj
  split at hj
  ·rename_i q;obtain⟨w,xs,b,e,_⟩:=mid j q;have:=hH.inj _ _ a _ _ ha hj ho e hd (by simp);omega
  ·cases hj
 have hlen:(lay t' n).2.length=t.rows:=by rw[qn,hl]
 have hlen0:(lay t n).2.length=t.rows:=by rw[qn]
 have oldAt:∀(i:Nat)(o:qD),(pre++((lay t' n).2++post))[i]?=some o->(i<n\/n+t.rows<=i)->(pre++((lay t n).2++post))[i]?=some o:=fun i o ho hi=>by
  rcases hi with q | q
  ·rw[gAl (by omega)]at ho|-;exact ho
  ·rw[gAr (by omega),gAr (by omega)]at ho|-;rw[hlen]at ho;rw[hlen0];exact ho
 refine⟨kk,_,hr',ρ,_,_,hx,hk,⟨fun i o hi=> ?_,fun i j a o o' h1 h2 hi hj d1 d2=> ?_,fun i hi=>hH.out i (by simp only[lAp,hlen,hlen0]at hi|-;exact hi),fun i a ha=> ?_⟩,by simp only[RelV],⟨fun a o ho hno=>hF.pres a o ho fun j hj=> ?_,fun i a ha=>.inl ⟨i,ha⟩,hF.fr,fun _ _=>rfl⟩,by simp only[lAp,qn,hl];omega⟩
 ·by_cases q:i<n\/n+t.rows<=i
  ·have ho:=oldAt i o hi q;by_cases hd:o=.dead
   ·subst hd;trivial
   ·exact(hH.obj i o ho).mono (fun _ _ h=>h) fun a x ha hxx=>out i a o q ho hd ha x hxx
  ·have q1:n<=i:=by omega
   have:=lies' (i-n) o (by
    rw[gAr (by omega),gAl (by rw[hlen];omega),<-hn]at hi;exact hi)
   rwa[show n+(i-n)=i by omega]at this
 ·have back:∀(i:Nat)(o:qD),(pre++((lay t' n).2++post))[i]?=some o->o≠.dead->∃o2,(pre++((lay t n).2++post))[i]?=some o2/\o2≠.dead:=fun i o ho hd=>by
   by_cases q:i<n\/n+t.rows<=i
   ·exact⟨o,oldAt i o ho q,hd⟩
   ·obtain⟨w,xs,b,e,_⟩:=mid (i-n) (by omega);rw[show n+(i-n)=i by omega]at e;exact⟨_,e,by simp⟩
  obtain⟨o2,e1,e2⟩:=back i o hi d1;obtain⟨o3,e3,e4⟩:=back j o' hj d2;exact hH.inj i j a o2 o3 h1 h2 e1 e3 e2 e4
 ·obtain⟨o,ho⟩:=hH.is i a ha;by_cases q:∃j,ρ' j=some (some a)
  ·obtain⟨j,hj⟩:=q;exact hH'.is j a hj
  ·refine⟨o,hF.pres a o ho fun j hj=>q ⟨j, ?_⟩⟩;rw[hρ];exact hj
 ·try simp only at hj
  split at hj
  ·exact hno _ hj
  ·cases hj
mutual
def AV.cn:AV->Bool
 |.lst w xs c=>decide (0<w)&& !c&&AV.cns xs
 |.agg xs |.tup xs=>AV.cns xs
 | _=>true
def AV.cns:List AV->Bool
 |[]=>true
 | x::xs=>AV.cn x&&AV.cns xs
end
theorem qSC{h:List qD}{a b:AV}{as bs:List AV}(x:Cv h a b)(y:∀p∈as.zip bs,Cv h p.1 p.2):∀p∈(a::as).zip (b::bs),Cv h p.1 p.2:=fun p hp=>by
 simp only[List.zip_cons_cons,List.mem_cons]at hp;rcases hp with rfl | hp
 ·exact x
 ·exact y p hp
mutual
theorem KJ{h:List qD}:∀(t:AV)(a:Nat),t.pl=true->t.cn=true->(∀i o,(lay t a).2[i]?=some o->h[a+i]?=some o)->Cv h (lay t a).1 t
 |.lst w xs c,a,hp,hc,hh=>by
  simp only[AV.cn,bAt,dTe,bNt]at hc;obtain⟨⟨h0,rfl⟩,hc⟩:=hc;simp only[lay]at hh|-;have l:=jm xs (a+1);refine .slc (hh 0 _ rfl) (by omega) h0 (by rw[List.drop_zero,<-l,lTl,l]) ?_;rw[List.drop_zero,<-l,lTl];exact VY xs (a+1) hp hc fun i o hi=>by
   rw[show a+1+i=a+(i+1) by omega];exact hh (i+1) o (by simpa using hi)
 |.agg xs,a,hp,hc,hh=>by
  simp only[lay]at hh|-;exact .agg (jm xs a) (VY xs a hp hc hh)
 |.tup xs,a,hp,hc,hh=>by
  simp only[lay]at hh|-;exact .tup (jm xs a) (VY xs a hp hc hh)
 |.bool _,_,_,_,_ |.int _ _,_,_,_,_ |.str _,_,_,_,_ |.nilp,_,_,_,_ |.nils,_,_,_,_ |.nilm,_,_,_,_ |.nilf,_,_,_,_ |.nili,_,_,_,_=>by
  simp only[lay];exact .refl rfl
 |.any,_,hp,_,_ |.ptr _ _ _,_,hp,_,_ |.slice _ _ _ _ _,_,hp,_,_ |.map _,_,hp,_,_ |.ept _ _,_,hp,_,_ |.fn _ _,_,hp,_,_ |.iface _ _,_,hp,_,_=>by cases hp
theorem VY{h:List qD}:∀(xs:List AV)(a:Nat),AV.pls xs=true->AV.cns xs=true->(∀i o,(qP xs a).2[i]?=some o->h[a+i]?=some o)->∀p∈(qP xs a).1.zip xs,Cv h p.1 p.2
 |[],_,_,_,_=>fun p hp=>by simp at hp
 | x::xs,a,hp,hc,hh=>by
  simp only[AV.pls,bAt]at hp;simp only[AV.cns,bAt]at hc;simp only[qP,qn]at hh|-;refine qSC (KJ x a hp.1 hc.1 fun i o hi=>hh i o (by rw[gAl (gSi.1 hi).1];exact hi)) (VY xs _ hp.2 hc.2 fun i o hi=> ?_);rw[show a+x.rows+i=a+(x.rows+i) by omega];exact hh _ o (by rw[gAr (by rw[qn];omega),qn,Nat.add_sub_cancel_left];exact hi)
end
theorem KI{pre post h:List qD}{t:AV}(hp:t.pl=true)(hc:t.cn=true)(hh:h=pre++((lay t pre.length).2++post)):Cv h (lay t pre.length).1 t:=
 KJ t _ hp hc fun i o hi=>by
  rw[hh,gAr (by omega),Nat.add_sub_cancel_left,gAl (gSi.1 hi).1];exact hi
end
section
variable {E:Ev} {ks:List Fr1} {s m:qf} {h:List qD} {Q:qS->VSt->Prop} {l:List qC}
theorem qNP{ck:List qC}{k e:Nat}{vs:List AV}{t:AV}(hp:Fresh E.Γ k vs t)(hr:R E (.ops l::ks) ⟨(e,(lay t h.length).1)::s,m,h++(lay t h.length).2⟩ Q):jW E (some (k,vs)) ck (some e) l ks ⟨s,m,h⟩ Q:=by
 unfold jW;cases ck
 ·exact SCallX.of (SCall.fresh hp hr)
 ·exact Or.inl (SCallK.fresh hp hr)
theorem qTD{k e:Nat}{pre post:List qD}{t t':AV}{a b:Int}{v:AV}(hm:Mark E.Γ k t t' a b)(hh:h=pre++((lay t pre.length).2++post))(hv:v=(lay t pre.length).1)
  (hr:R E (.ops l::ks) ⟨(e,.int .i64 b)::s,m,pre++((lay t' pre.length).2++post)⟩ Q):jW E (some (k,[v,.int .i64 a])) [] (some e) l ks ⟨s,m,h⟩ Q:=by
 unfold jW;exact SCallX.of (SCall.mark hm hh hv hr)
end
end Go.Ab
namespace Go.Ab
open Go
section
variable {α:Type} {enc:α->AV} {w:Nat} {sh:Option Nat} {Γ:Nat->Option AFn} {g gc:Nat}
theorem Qp(h:∀x,(enc x).pl=true):∀xs:List α,AV.pls (xs.map enc)=true
 |[]=>rfl
 | x::xs=>by simp only[lMc,AV.pls,h x,Qp h xs,Bool.and_self]
theorem qXU{t:AV}{n:Nat}(hp:t.pl=true):(lay t n).1.cells.length=t.cells.length:=by
 cases t<;>first
  | rfl
  | (cases hp;done)
  | (simp only[lay,AV.cells];exact jm _ _)
theorem qXW{t:AV}{n k:Nat}(hp:t.pl=true)(ha:∃cs,t=.agg cs)(hk:t.cells.length=k):(lay t n).1.part 0 (some k)=some (lay t n).1:=by
 obtain⟨cs,rfl⟩:=ha;simp only[AV.cells]at hk;simp only[lay,AV.part,AV.cells,jm,hk,nZa,nLr,if_true,List.drop_zero];rw[List.take_of_length_le (by rw[jm];omega)]
def mkL(f:α->Int->α)(c:α->Nat):List α->Int->List α
 |[],_=>[]
 | x::xs,k=>f x k::mkL f c xs (k+c x)
theorem jz(f:α->Int->α)(c:α->Nat):∀(xs:List α)(k:Int),(mkL f c xs k).length=xs.length
 |[],_=>rfl
 | x::xs,k=>by simp only[mkL,lCo,jz f c xs]
theorem Ke(f:α->Int->α)(c:α->Nat):∀(xs ys:List α)(k:Int),mkL f c (xs++ys) k=mkL f c xs k++mkL f c ys (k+qF c xs)
 |[],ys,k=>by simp[mkL,qF]
 | x::xs,ys,k=>by
  simp only[lCa,mkL,Ke f c xs ys,qF];congr 3;omega
theorem Kg(f:α->Int->α)(c:α->Nat){xs:List α}{i:Nat}(h:i<xs.length)(k:Int):mkL f c (xs.take (i+1)) k=mkL f c (xs.take i) k++[f xs[i] (k+qF c (xs.take i))]:=by
 rw[List.take_succ_eq_append_getElem h,Ke];rfl
theorem Kf(f:α->Int->α)(c:α->Nat){xs:List α}{i:Nat}(h:i<xs.length)(k:Int):(mkL f c xs k)[i]?=some (f xs[i] (k+qF c (xs.take i))):=by
 have e:xs=xs.take i++xs[i]::xs.drop (i+1):=by rw[<-lDc h,List.take_append_drop]
 have:mkL f c xs k=mkL f c (xs.take i) k++mkL f c (xs[i]::xs.drop (i+1)) (k+qF c (xs.take i)):=by
  rw[<-Ke,<-e]
 rw[this,gAr (by rw[jz];simp;omega),jz];simp[mkL,show min i xs.length=i by omega]
theorem UB(c:α->Nat){xs:List α}{i:Nat}(h:i<xs.length):qF c (xs.take (i+1))=qF c (xs.take i)+c xs[i]:=by
 have:∀(xs ys:List α),qF c (xs++ys)=qF c xs+qF c ys:=by
  intro xs ys;induction xs with
  | nil=>simp[qF]
  | cons x xs ih=>simp only[lCa,qF,ih];omega
 rw[List.take_succ_eq_append_getElem h,this];simp[qF]
theorem UA(c:α->Nat)(xs:List α)(i:Nat):qF c (xs.take i)<=qF c xs:=by
 have:∀(xs ys:List α),qF c (xs++ys)=qF c xs+qF c ys:=by
  intro xs ys;induction xs with
  | nil=>simp[qF]
  | cons x xs ih=>simp only[lCa,qF,ih];omega
 have h:=this (xs.take i) (xs.drop i);rw[List.take_append_drop]at h;omega
theorem zX{A B:List AV}{e:AV}{i:Nat}(h:A.length=i):(A++e::B)[i]?=some e:=by
 rw[gAr (by omega),h,nSs];rfl
theorem jE{A B:List AV}{e v:AV}{i:Nat}(h:A.length=i):(A++e::B).set i v=A++v::B:=by
 rw[List.set_append_right _ _ (by omega),h,nSs,lSz]
theorem Jc{xs:List AV}{c:Bool}{n:Nat}:(lay (.lst w xs c) n).1=.slice w n 0 xs.length false:=nr rfl
theorem qXV{A B:List AV}{t:AV}{c:Bool}:(lay (.lst w (A++t::B) c) 0).2=.row w ((qP A 1).1++(lay t (1+AV.rowss A)).1::(qP B (1+AV.rowss A+t.rows)).1) true::((qP A 1).2++((lay t (1+AV.rowss A)).2++(qP B (1+AV.rowss A+t.rows)).2)):=by
 simp only[lay,ZK,qP,qn,nZa]
theorem VX{A B:List α}{z:α}{c:Bool}:(lay (.lst w ((A++z::B).map enc) c) 0).2=.row w ((qP (A.map enc) 1).1++(lay (enc z) (1+AV.rowss (A.map enc))).1::(qP (B.map enc) (1+AV.rowss (A.map enc)+(enc z).rows)).1) true::((qP (A.map enc) 1).2++((lay (enc z) (1+AV.rowss (A.map enc))).2++(qP (B.map enc) (1+AV.rowss (A.map enc)+(enc z).rows)).2)):=by
 rw[lMa,lMc];exact qXV
theorem qt(f:α->Int->α)(c:α->Nat)(h:∀x k,(enc (f x k)).rows=(enc x).rows):∀(xs:List α)(k:Int),AV.rowss ((mkL f c xs k).map enc)=AV.rowss (xs.map enc)
 |[],_=>rfl
 | x::xs,k=>by simp only[mkL,lMc,AV.rowss,h,qt f c h xs]
section
variable {E:Ev} {ks:List Fr1} {s m:qf} {h:List qD} {Q:qS->VSt->Prop} {l:List qC}
theorem JV{k e n:Nat}{pre post:List qD}{t t':AV}{a b:Int}{v:AV}(hm:Mark E.Γ k t t' a b)(hn:pre.length=n)(hh:h=pre++((lay t n).2++post))(hv:v=(lay t n).1)
  (hr:R E (.ops l::ks) ⟨(e,.int .i64 b)::s,m,pre++((lay t' n).2++post)⟩ Q):jW E (some (k,[v,.int .i64 a])) [] (some e) l ks ⟨s,m,h⟩ Q:=by
 subst hn;exact qTD hm hh hv hr
end
end
end Go.Ab
namespace Go.Ab
open Go
section
variable {Γ:Nat->Option AFn} {g:Nat} {w:Nat} {z:AV}
theorem Qk{μ:List (Option Nat)}{h:List qD}:∀{r1 r2:List (Option Nat)}{h1 h2:List qD},jN μ h r1 h1->jN μ h r2 h2->jN μ h (r1++r2) (h1++h2)
 |[],_,[],_,_,k=>k
 | _::_,_,_::_,_,j,k=>⟨j.1,Qk j.2 k⟩
 |[],_,_::_,_,j,_=>j.elim
 | _::_,_,[],_,j,_=>j.elim
theorem QI{μ:List (Option Nat)}{h:List qD}{xs:List AV}{a b:Nat}(hp:AV.pls xs=true)(hm:∀i,i<AV.rowss xs->μ[b+i]?=some (some (a+i)))(hh:∀i o,(qP xs a).2[i]?=some o->h[a+i]?=some o):
  jN μ h ((List.range' a (AV.rowss xs)).map some) (qP xs b).2:=by
 refine WW (by simp[jT]) fun i j o h1 h2=> ?_;have hi:i<AV.rowss xs:=by have:=(gSi.1 h2).1;rw[jT]at this;exact this
 rw[gMp,List.getElem?_range' (by omega)]at h1;simp only[Nat.one_mul,oMs,oSi]at h1;subst h1;exact WJ xs a b hp hm hh i o h2
def rmu(b n:Nat):List (Option Nat):=(List.range' 0 b).map some++some (b+n+2)::(List.range' (b+1) n).map some
theorem qbF{b n i:Nat}(hi:i<b):(rmu b n)[i]?=some (some i):=by
 unfold rmu;rw[gAl (by simpa using hi),gMp,List.getElem?_range' (by omega)];simp
theorem qQ0{b n i:Nat}(hi:i<n):(rmu b n)[b+1+i]?=some (some (b+1+i)):=by
 unfold rmu;rw[gAr (by simp;omega)];have e:b+1+i-((List.range' 0 b).map some).length=i+1:=by simp;omega
 rw[e,List.getElem?_cons_succ,gMp,List.getElem?_range' (by omega)];simp
theorem qbE{b n:Nat}:zK (rmu b n)=true:=by
 have e:rmu b n=(List.range' 0 b++(b+n+2)::List.range' (b+1) n).map some:=by simp[rmu]
 rw[e];refine ZF ?_;rw[List.nodup_append];refine⟨List.nodup_range', ?_, ?_⟩
 ·rw[List.nodup_cons];refine⟨?_,List.nodup_range'⟩;simp only[List.mem_range'_1];omega
 ·intro x hx y hy;simp only[List.mem_range'_1,List.mem_cons]at hx hy;rcases hy with rfl | hy<;>omega
theorem Can.round{ps ts:List AV}{x:qD}{s s' m m':qf}{b n:Nat}(hps:AV.pls ps=true)(hts:AV.pls ts=true)(hb:AV.rowss ps=b)(hn:AV.rowss ts=n)(h1:JN (rmu b n) s s')(h2:JN (rmu b n) m m'):
  Can 0 ⟨s,m,(qP ps 0).2++.dead::((qP ts (b+1)).2++[x,.row w (qP ts (b+1)).1 true])⟩ ⟨s',m',(qP ps 0).2++.row w (qP ts (b+1)).1 true::(qP ts (b+1)).2⟩:=by
 subst hb hn;have hlp:=jT ps 0;have hlt:=jT ts (AV.rowss ps+1);refine Can.renum (rmu (AV.rowss ps) (AV.rowss ts)) qbE (Qk (QI hps (fun i hi=>by rw[nZa];exact qbF hi) fun i o hi=> ?_) ⟨?_,QI hts (fun i hi=>qQ0 hi) fun i o hi=> ?_⟩) h1 h2
 ·rw[nZa,gAl (gSi.1 hi).1];exact hi
 ·refine .row (el:=(qP ts (AV.rowss ps+1)).1) (rw':=true) ?_ ⟨rfl,fun p hp=> ?_⟩
  ·rw[gAr (by omega),show AV.rowss ps+AV.rowss ts+2-(qP ps 0).2.length=AV.rowss ts+1+1 by omega,List.getElem?_cons_succ,gAr (by omega),hlt,
    show AV.rowss ts+1-AV.rowss ts=1 by omega]
   rfl
  ·exact(WK ts (AV.rowss ps+1) (AV.rowss ps+1) hts (fun i hi=>qQ0 hi)).2 p hp
 ·have hi':=(gSi.1 hi).1;rw[gAr (by omega),show AV.rowss ps+1+i-(qP ps 0).2.length=i+1 by omega,List.getElem?_cons_succ,gAl hi'];exact hi
theorem Can.push{ps A:List AV}{t:AV}{s s' m m':qf}{h h':List qD}{b n:Nat}(hps:AV.pls ps=true)(hA:AV.pls A=true)(ht:t.pl=true)(hb:AV.rowss ps=b)(hn:AV.rowss A+t.rows=n)
  (hh:h=(qP ps 0).2++.dead::((qP A (b+1)).2++((lay t (b+1+AV.rowss A)).2++[.row w [(lay t (b+1+AV.rowss A)).1] true,.row w ((qP A (b+1)).1++[(lay t (b+1+AV.rowss A)).1]) true])))
  (hh':h'=(qP ps 0).2++.row w (qP (A++[t]) (b+1)).1 true::(qP (A++[t]) (b+1)).2) (h1:JN (rmu b n) s s') (h2:JN (rmu b n) m m'):Can 0 ⟨s,m,h⟩ ⟨s',m',h'⟩:=by
 have hp:AV.pls (A++[t])=true:=by
  have:∀B:List AV,AV.pls B=true->AV.pls (B++[t])=true:=by
   intro B
   induction B with
   | nil=>intro _;simp only[lNa,AV.pls,ht,Bool.and_true]
   | cons y B ih=>
    intro hB;simp only[AV.pls,bAt]at hB;simp only[lCa,AV.pls,hB.1,ih hB.2,Bool.and_self]
  exact this A hA
 have r:=Can.round (w:=w) (x:=.row w [(lay t (b+1+AV.rowss A)).1] true) (s:=s) (s':=s') (m:=m) (m':=m') (b:=b) (n:=n) hps hp hb (by rw[qQ4];simp only[AV.rowss,nAz];exact hn) h1 h2;subst hh hh';simp only[ZK,qP,lAn,lAa]at r|-;exact r
def smu(b:Nat):List (Option Nat):=(List.range' 0 b).map some++[none]
theorem qcC{b i:Nat}(hi:i<b):(smu b)[i]?=some (some i):=by
 unfold smu;rw[gAl (by simpa using hi),gMp,List.getElem?_range' (by omega)];simp
theorem Uv:∀{l:List (Option Nat)},zK l=true->zK (l++[none])=true
 |[],_=>rfl
 | none::l,h=>by simp only[lCa,zK]at h|-;exact Uv h
 | some j::l,h=>by
  simp only[lCa,zK,bAt,List.all_append,lAc,List.all_nil,Bool.and_true]at h|-;exact⟨h.1,Uv h.2⟩
theorem Can.start{ps:List AV}{s s' m m':qf}{h:List qD}{b:Nat}(hps:AV.pls ps=true)(hb:AV.rowss ps=b)(hh:h=(qP ps 0).2)(h1:JN (smu b) s s')(h2:JN (smu b) m m'):
  Can 0 ⟨s,m,h⟩ ⟨s',m',(qP ps 0).2++[.row w [] true]⟩:=by
 subst hb hh;refine Can.renum (smu (AV.rowss ps)) (Uv (ZF List.nodup_range')) (Qk (QI hps (fun i hi=>by rw[nZa];exact qcC hi) fun i o hi=>by rw[nZa];exact hi) ⟨.ph,trivial⟩) h1 h2
end
end Go.Ab
namespace Go.Ab
open Go
section
variable {μ μ':List (Option Nat)} {h h':List qD}
theorem VR2s.hd{a b:AV}{as bs:List AV}(x:VR2s μ (a::as) (b::bs)):VR2 μ a b/\VR2s μ as bs:=
 ⟨x.2 (a,b) (by simp),by have:=x.1;simpa using this,fun p hp=>x.2 p (by simp only[List.zip_cons_cons];exact List.mem_cons_of_mem _ hp)⟩
theorem VR2.aggs{v:AV}{ds:List AV}(x:VR2 μ v (.agg ds)):∃cs,v=.agg cs/\VR2s μ cs ds:=by
 cases x with
 | tree ht=>exact⟨ds,rfl,VR2s.trees (by simpa only [AV.tree]using ht)⟩
 | agg hl hc=>exact⟨_,rfl,hl,hc⟩
theorem VR2.tups{v:AV}{ds:List AV}(x:VR2 μ v (.tup ds)):∃cs,v=.tup cs/\VR2s μ cs ds:=by
 cases x with
 | tree ht=>exact⟨ds,rfl,VR2s.trees (by simpa only [AV.tree]using ht)⟩
 | tup hl hc=>exact⟨_,rfl,hl,hc⟩
theorem VR2.slc0{v:AV}{w a b n:Nat}(h:μ'[b]?=μ[a]?)(x:VR2 μ v (.slice w a 0 n false)):VR2 μ' v (.slice w b 0 n false):=by
 cases x with
 | tree ht=>simp[AV.tree]at ht
 | slice hm=>exact .slice (h.trans hm)
 | ph hm=>exact .ph (h.trans hm)
 | ph2 hm=>exact .ph2 (h.trans hm)
mutual
theorem VR2.move:∀(t:AV)(a b:Nat)(v:AV),t.pl=true->(∀i,i<t.rows->μ'[b+i]?=μ[a+i]?)->VR2 μ v (lay t a).1->VR2 μ' v (lay t b).1
 |.lst w xs c,a,b,v,hp,hm,hv=>by
  simp only[lay]at hv|-;exact hv.slc0 (by have:=hm 0 (by simp only[AV.rows];omega);simpa using this)
 |.agg xs,a,b,v,hp,hm,hv=>by
  simp only[lay]at hv|-;obtain⟨cs,rfl,hc⟩:=hv.aggs;have:=VR2.moves xs a b cs hp hm hc;exact .agg this.1 this.2
 |.tup xs,a,b,v,hp,hm,hv=>by
  simp only[lay]at hv|-;obtain⟨cs,rfl,hc⟩:=hv.tups;have:=VR2.moves xs a b cs hp hm hc;exact .tup this.1 this.2
 |.bool _,_,_,_,_,_,hv |.int _ _,_,_,_,_,_,hv |.str _,_,_,_,_,_,hv |.nilp,_,_,_,_,_,hv |.nils,_,_,_,_,_,hv |.nilm,_,_,_,_,_,hv |.nilf,_,_,_,_,_,hv |.nili,_,_,_,_,_,hv=>by
  simp only[lay]at hv|-;cases hv;exact .tree (by rfl)
 |.any,_,_,_,hp,_,_ |.ptr _ _ _,_,_,_,hp,_,_ |.slice _ _ _ _ _,_,_,_,hp,_,_ |.map _,_,_,_,hp,_,_ |.ept _ _,_,_,_,hp,_,_ |.fn _ _,_,_,_,hp,_,_ |.iface _ _,_,_,_,hp,_,_=>by cases hp
theorem VR2.moves:∀(xs:List AV)(a b:Nat)(vs:List AV),AV.pls xs=true->(∀i,i<AV.rowss xs->μ'[b+i]?=μ[a+i]?)->VR2s μ vs (qP xs a).1->VR2s μ' vs (qP xs b).1
 |[],a,b,vs,_,_,hv=>by
  have:vs=[]:=lEz hv.1;subst this;exact VR2s.nil
 | x::xs,a,b,vs,hp,hm,hv=>by
  simp only[AV.pls,bAt]at hp;simp only[AV.rowss]at hm;simp only[qP,qn]at hv|-;cases vs with
  | nil=>have:=hv.1;simp at this
  | cons v vs=>
   obtain⟨h1,h2⟩:=hv.hd;refine .cons (VR2.move x a b v hp.1 (fun i hi=>hm i (by omega)) h1) (VR2.moves xs _ _ vs hp.2 (fun i hi=> ?_) h2);rw[show b+x.rows+i=b+(x.rows+i) by omega,show a+x.rows+i=a+(x.rows+i) by omega];exact hm _ (by omega)
end
mutual
theorem OR2.move:∀(t:AV)(a b:Nat),t.pl=true->(∀i,i<t.rows->μ'[b+i]?=μ[a+i]?)->∀(i:Nat)(j:Option Nat)(o o':qD),(lay t a).2[i]?=some o->(lay t b).2[i]?=some o'->OR2 μ h j o->OR2 μ' h j o'
 |.lst w xs c,a,b,hp,hm,i,j,o,o',h1,h2,ho=>by
  simp only[lay]at h1 h2;simp only[AV.rows]at hm;have hm':∀i,i<AV.rowss xs->μ'[b+1+i]?=μ[a+1+i]?:=fun i hi=>by
   rw[show b+1+i=b+(i+1) by omega,show a+1+i=a+(i+1) by omega];exact hm _ (by omega)
  cases i with
  | zero=>
   simp only[List.getElem?_cons_zero,oSi]at h1 h2;subst h1 h2;generalize he:(qP xs (a+1)).1=el at ho;cases ho with
   | ph=>
    have:xs=[]:=lEz (by rw[<-jm xs (a+1),he];rfl);subst this;exact .ph
   | row hr hv=>
    rw[<-he]at hv;exact .row hr (VR2.moves xs _ _ _ hp hm' hv)
  | succ i=>
   simp only[List.getElem?_cons_succ]at h1 h2;exact OR2.moves xs (a+1) (b+1) hp hm' i j o o' h1 h2 ho
 |.agg xs,a,b,hp,hm,i,j,o,o',h1,h2,ho=>by
  simp only[lay]at h1 h2;exact OR2.moves xs a b hp hm i j o o' h1 h2 ho
 |.tup xs,a,b,hp,hm,i,j,o,o',h1,h2,ho=>by
  simp only[lay]at h1 h2;exact OR2.moves xs a b hp hm i j o o' h1 h2 ho
 |.bool _,_,_,_,_,_,_,_,_,h1,_,_ |.int _ _,_,_,_,_,_,_,_,_,h1,_,_ |.str _,_,_,_,_,_,_,_,_,h1,_,_ |.nilp,_,_,_,_,_,_,_,_,h1,_,_ |.nils,_,_,_,_,_,_,_,_,h1,_,_ |.nilm,_,_,_,_,_,_,_,_,h1,_,_ |.nilf,_,_,_,_,_,_,_,_,h1,_,_ |.nili,_,_,_,_,_,_,_,_,h1,_,_=>by
  simp[lay]at h1
 |.any,_,_,hp,_,_,_,_,_,_,_,_ |.ptr _ _ _,_,_,hp,_,_,_,_,_,_,_,_ |.slice _ _ _ _ _,_,_,hp,_,_,_,_,_,_,_,_ |.map _,_,_,hp,_,_,_,_,_,_,_,_ |.ept _ _,_,_,hp,_,_,_,_,_,_,_,_ |.fn _ _,_,_,hp,_,_,_,_,_,_,_,_ |.iface _ _,_,_,hp,_,_,_,_,_,_,_,_=>by cases hp
theorem OR2.moves:∀(xs:List AV)(a b:Nat),AV.pls xs=true->(∀i,i<AV.rowss xs->μ'[b+i]?=μ[a+i]?)->∀(i:Nat)(j:Option Nat)(o o':qD),(qP xs a).2[i]?=some o->(qP xs b).2[i]?=some o'->OR2 μ h j o->OR2 μ' h j o'
 |[],_,_,_,_,_,_,_,_,h1,_,_=>by simp[qP]at h1
 | x::xs,a,b,hp,hm,i,j,o,o',h1,h2,ho=>by
  simp only[AV.pls,bAt]at hp;simp only[AV.rowss]at hm;simp only[qP,qn]at h1 h2;rcases Nat.lt_or_ge i x.rows with q | q
  ·rw[gAl (by rw[qn];exact q)]at h1 h2;exact OR2.move x a b hp.1 (fun i hi=>hm i (by omega)) i j o o' h1 h2 ho
  ·rw[gAr (by rw[qn];exact q),qn]at h1 h2;refine OR2.moves xs (a+x.rows) (b+x.rows) hp.2 (fun i hi=> ?_) (i-x.rows) j o o' h1 h2 ho;rw[show b+x.rows+i=b+(x.rows+i) by omega,show a+x.rows+i=a+(x.rows+i) by omega];exact hm _ (by omega)
end
theorem qaL{r:List (Option Nat)}{t:AV}{a b:Nat}(hp:t.pl=true)(hm:∀i,i<t.rows->μ'[b+i]?=μ[a+i]?)(ho:jN μ h r (lay t a).2):jN μ' h r (lay t b).2:=by
 have hl:=ZX ho;rw[qn]at hl;refine WW (by rw[hl,qn]) fun i j o' h1 h2=> ?_;have hi:i<(lay t a).2.length:=by have:=(gSi.1 h2).1;rw[qn]at this|-;exact this
 obtain⟨j',hj,hor⟩:=Ql ho i _ (gEg hi);rw[h1]at hj;cases hj;exact OR2.move t a b hp hm i j _ o' (gEg hi) h2 hor
theorem WV{r:List (Option Nat)}{xs:List AV}{a b:Nat}(hp:AV.pls xs=true)(hm:∀i,i<AV.rowss xs->μ'[b+i]?=μ[a+i]?)(ho:jN μ h r (qP xs a).2):jN μ' h r (qP xs b).2:=by
 have hl:=ZX ho;rw[jT]at hl;refine WW (by rw[hl,jT]) fun i j o' h1 h2=> ?_;have hi:i<(qP xs a).2.length:=by have:=(gSi.1 h2).1;rw[jT]at this|-;exact this
 obtain⟨j',hj,hor⟩:=Ql ho i _ (gEg hi);rw[h1]at hj;cases hj;exact OR2.moves xs a b hp hm i j _ o' (gEg hi) h2 hor
theorem Km:∀{r:List (Option Nat)}{os:List qD},(∀j,some j∈r->h'[j]?=h[j]?)->jN μ h r os->jN μ h' r os
 |[],[],_,k=>k
 | j::r,o::os,hh,k=>by
  refine⟨?_,Km (fun i hi=>hh i (List.mem_cons_of_mem _ hi)) k.2⟩;have k1:=k.1;cases k1 with
  | dead=>exact .dead
  | ph=>exact .ph
  | row ho he=>exact .row ((hh _ (by simp)).trans ho) he
  | map ho hk hv=>exact .map ((hh _ (by simp)).trans ho) hk hv
 |[],_::_,_,k=>k.elim
 | _::_,[],_,k=>k.elim
theorem VI:∀{a b:List (Option Nat)},zK a=true->zK b=true->(∀j,some j∈a->some j∉b)->zK (a++b)=true
 |[],b,_,hb,_=>hb
 | none::a,b,ha,hb,hn=>by
  simp only[lCa,zK]at ha|-;exact VI ha hb fun j hj=>hn j (List.mem_cons_of_mem _ hj)
 | some j::a,b,ha,hb,hn=>by
  simp only[lCa,zK,bAt,lAt]at ha|-;refine⟨fun x hx=> ?_,VI ha.2 hb fun j hj=>hn j (List.mem_cons_of_mem _ hj)⟩;rcases jG.1 hx with hx | hx
  ·exact ha.1 x hx
  ·cases x with
   | none=>rfl
   | some k=>
    have:j≠k:=by rintro rfl;exact hn j (by simp) hx
    have hb:Nat.beq j k=false:=by rw[<-Bool.not_eq_true];intro q;exact this (Nat.eq_of_beq_eq_true q)
    simp only[hb];rfl
theorem qUF{k:Nat}{b:List (Option Nat)}(hb:zK b=true)(hn:some k∉b):zK (some k::b)=true:=by
 have:=VI (a:=[some k]) (b:=b) rfl hb (fun j hj=>by simp at hj;subst hj;exact hn);exact this
end
theorem VR2s.app{μ:List (Option Nat)}:∀{as bs cs ds:List AV},VR2s μ as bs->VR2s μ cs ds->VR2s μ (as++cs) (bs++ds)
 |[],[],_,_,_,k=>k
 | a::as,b::bs,_,_,j,k=>VR2s.cons j.hd.1 (VR2s.app j.hd.2 k)
 |[],_::_,_,_,j,_=>by have:=j.1;simp at this
 | _::_,[],_,_,j,_=>by have:=j.1;simp at this
structure qj(S:List (Option Nat))(h:List qD)(v t:AV):Prop where
 p:t.pl=true
 d:zK S=true
 o:jN S h S (lay t 0).2
 v:VR2 S v (lay t 0).1
structure q9(S:List (Option Nat))(h:List qD)(vs ts:List AV):Prop where
 p:AV.pls ts=true
 d:zK S=true
 o:jN S h S (qP ts 0).2
 v:VR2s S vs (qP ts 0).1
theorem qQO:∀{as bs:List AV},AV.pls (as++bs)=(AV.pls as&&AV.pls bs)
 |[],_=>by simp[AV.pls]
 | a::as,bs=>by simp[AV.pls,qQO (as:=as),Bool.and_assoc]
section
variable {S S':List (Option Nat)} {h h':List qD} {v t:AV} {vs ts vs' ts':List AV}
theorem qj.len(x:qj S h v t):S.length=t.rows:=by rw[ZX x.o,qn]
theorem q9.len(x:q9 S h vs ts):S.length=AV.rowss ts:=by rw[ZX x.o,jT]
theorem q9.cnt(x:q9 S h vs ts):vs.length=ts.length:=by rw[x.v.1,jm]
theorem qj.heap(x:qj S h v t)(hh:∀j,some j∈S->h'[j]?=h[j]?):qj S h' v t:=⟨x.p,x.d,Km hh x.o,x.v⟩
theorem q9.heap(x:q9 S h vs ts)(hh:∀j,some j∈S->h'[j]?=h[j]?):q9 S h' vs ts:=⟨x.p,x.d,Km hh x.o,x.v⟩
theorem q9.nil:q9 [] h [] []:=⟨rfl,rfl,trivial,VR2s.nil⟩
theorem q9.app(x:q9 S h vs ts)(y:q9 S' h vs' ts')(hn:∀j,some j∈S->some j∉S'):q9 (S++S') h (vs++vs') (ts++ts'):=by
 have l1:=x.len;have l2:=y.len;have m1:∀i,i<AV.rowss ts->(S++S')[0+i]?=S[0+i]?:=fun i hi=>gAl (by omega);have m2:∀i,i<AV.rowss ts'->(S++S')[0+AV.rowss ts+i]?=S'[0+i]?:=fun i hi=>by
  rw[gAr (by omega)];congr 1;omega
 refine⟨by rw[qQO,x.p,y.p];rfl,VI x.d y.d hn, ?_, ?_⟩
 ·rw[ZK];exact Qk (WV x.p m1 x.o) (WV y.p m2 y.o)
 ·rw[ZK];exact VR2s.app (VR2.moves _ _ _ _ x.p m1 x.v) (VR2.moves _ _ _ _ y.p m2 y.v)
theorem qj.one(x:qj S h v t):q9 S h [v] [t]:=by
 refine⟨by simp[AV.pls,x.p],x.d, ?_, ?_⟩
 ·simp only[qP,lAn];exact x.o
 ·simp only[qP];exact VR2s.cons x.v VR2s.nil
theorem q9.snoc(x:q9 S h vs ts)(y:qj S' h v t)(hn:∀j,some j∈S->some j∉S'):q9 (S++S') h (vs++[v]) (ts++[t]):=x.app y.one hn
theorem q9.scal(x:q9 S h vs ts){a:AV}(ha:∀n,lay a n=(a,[]))(hp:a.pl=true)(ht:a.tree=true):q9 S h (vs++[a]) (ts++[a]):=by
 have y:q9 [] h [a] [a]:=⟨by simp[AV.pls,hp],rfl,by simp only[qP,ha];trivial,by simp only[qP,ha];exact VR2s.cons (.tree ht) VR2s.nil⟩;have:=x.app y (fun j hj=>by simp);rwa[lAn]at this
theorem q9.agg(x:q9 S h vs ts):qj S h (.agg vs) (.agg ts):=⟨by simp only[AV.pl];exact x.p,x.d,by simp only[lay];exact x.o,by simp only[lay];exact .agg x.v.1 x.v.2⟩
theorem q9.tup(x:q9 S h vs ts):qj S h (.tup vs) (.tup ts):=⟨by simp only[AV.pl];exact x.p,x.d,by simp only[lay];exact x.o,by simp only[lay];exact .tup x.v.1 x.v.2⟩
theorem qj.aggs{w:AV}(x:qj S h w (.agg ts)):∃vs,w=.agg vs/\q9 S h vs ts:=by
 have hv:=x.v;simp only[lay]at hv;obtain⟨cs,rfl,hc⟩:=hv.aggs;exact⟨cs,rfl,by have:=x.p;simp only[AV.pl]at this;exact this,x.d,by have:=x.o;simp only[lay]at this;exact this,hc⟩
theorem q9.row{k w:Nat}(x:q9 S h vs ts)(hr:h[k]?=some (.row w vs true))(hn:some k∉S):qj (some k::S) h (.slice w k 0 ts.length false) (.lst w ts false):=by
 have m:∀i,i<AV.rowss ts->(some k::S)[0+1+i]?=S[0+i]?:=fun i hi=>by
  rw[show 0+1+i=i+1 by omega,List.getElem?_cons_succ,nZa]
 refine⟨by simp only[AV.pl];exact x.p,qUF x.d hn, ?_, ?_⟩
 ·simp only[lay];exact⟨.row hr (VR2.moves _ _ _ _ x.p m x.v),WV x.p m x.o⟩
 ·simp only[lay];exact .slice (by simp)
theorem qj.nils{w:Nat}{c:Bool}:qj [none] h .nils (.lst w [] false):=by
 refine⟨rfl,rfl, ?_, ?_⟩
 ·simp only[lay,qP];exact⟨.ph,trivial⟩
 ·simp only[lay,qP,lNi];exact .ph rfl
theorem qj.new{pre post:List qD}{n:Nat}(hp:t.pl=true)(hn:pre.length=n)(hh:h=pre++((lay t n).2++post)):qj ((List.range' n t.rows).map some) h (lay t n).1 t:=by
 subst hn;have hm:∀i,i<t.rows->((List.range' pre.length t.rows).map some)[0+i]?=some (some (pre.length+i)):=fun i hi=>by
  rw[gMp,List.getElem?_range' (by omega)];simp
 refine⟨hp,ZF (List.nodup_range'),WW (by simp[qn]) fun i j o h1 h2=> ?_,qPF t _ _ hp hm⟩;have hi:i<t.rows:=by have:=(gSi.1 h2).1;rw[qn]at this;exact this
 have:=hm i hi;rw[nZa]at this;rw[this]at h1;cases h1;refine qPE t pre.length 0 hp hm (fun i o hi=> ?_) i o h2;rw[hh,gAr (by omega),Nat.add_sub_cancel_left,gAl (gSi.1 hi).1];exact hi
theorem qj.fin{ws:List AV}(x:qj S h (zS ws) t):FinF (some ws) h t:=⟨S,x.d,x.o,x.v⟩
end
theorem qPO{α:Type}{xs:List α}{i:Nat}{x:α}(h:xs[i]?=some x):i<xs.length:=(gSi.1 h).1
theorem qaP{S S1:List (Option Nat)}{g mid:List qD}{k w:Nat}{vs ts:List AV}{X t:AV}(hO:q9 S g vs ts)(hS:∀j,some j∈S->j<g.length)(hk:g[k]?=some (.row w vs true))(hn:some k∉S)
  (hX:qj S1 (g++mid) X t) (hS1:∀j,some j∈S1->g.length<=j/\j<g.length+mid.length):
  ∃G,G=(((g++mid)++[qD.row w [X] true]).set k .dead)++[qD.row w (vs++[X]) true]/\q9 (S++S1) G (vs++[X]) (ts++[t])/\(∀j,some j∈S++S1->j<G.length)/\G[g.length+mid.length+1]?=some (.row w (vs++[X]) true)/\some (g.length+mid.length+1)∉S++S1/\
   (∀j,j<g.length->j≠k->G[j]?=g[j]?)/\g.length<=G.length/\∀j,some j∈S++S1->some j∈S\/g.length<=j:=by
 have lk:=qPO hk;have a1:∀j,j<g.length+mid.length->j≠k->((((g++mid)++[qD.row w [X] true]).set k .dead)++[qD.row w (vs++[X]) true])[j]?=(g++mid)[j]?:=fun j hj hne=>by
  rw[gAl (by simp;omega),gSn (Ne.symm hne),gAl (by simp;omega)]
 refine⟨_,rfl, ?_,fun j hj=> ?_, ?_,fun q=> ?_,fun j hj hne=> ?_,by simp;omega,fun j hj=> ?_⟩
 ·refine(hO.heap fun j hj=> ?_).snoc (hX.heap fun j hj=> ?_) fun j hj hj2=> ?_
  ·have:=hS j hj;rw[a1 j (by omega) (by rintro rfl;exact hn hj),gAl this]
  ·have:=hS1 j hj;exact a1 j (by omega) (by omega)
  ·have:=hS j hj;have:=hS1 j hj2;omega
 ·rcases jG.1 hj with q | q
  ·have:=hS j q;simp;omega
  ·have:=hS1 j q;simp;omega
 ·rw[gAr (by simp;omega)];simp only[lLs,lAp,lCo,lNi];rw[show g.length+mid.length+1-(g.length+mid.length+(0+1))=0 by omega];rfl
 ·rcases jG.1 q with q | q
  ·have:=hS _ q;omega
  ·have:=hS1 _ q;omega
 ·rw[a1 j (by omega) hne,gAl hj]
 ·rcases jG.1 hj with q | q
  ·exact .inl q
  ·exact .inr (hS1 j q).1
structure IFs(S0:List (Option Nat))(cs0 ts0:List AV)(w:Nat)(g:List qD)(si:Nat)(S:List (Option Nat))(vs ts:List AV):Prop where
 c:q9 S0 g cs0 ts0
 c0:∀j,some j∈S0->j<g.length
 o:q9 S g vs ts
 o0:∀j,some j∈S->j<g.length
 r:g[si]?=some (.row w vs true)
 n1:some si∉S
 n2:some si∉S0
 n3:∀j,some j∈S0->some j∉S
section
variable {S0 S S1:List (Option Nat)} {cs0 ts0 vs ts:List AV} {w si:Nat} {g mid:List qD} {X t:AV}
theorem IFs.start(hc:q9 S0 g cs0 ts0)(h0:∀j,some j∈S0->j<g.length):IFs S0 cs0 ts0 w (g++[.row w [] true]) g.length [] [] []:=
 ⟨hc.heap fun j hj=>gAl (h0 j hj),fun j hj=>by have:=h0 j hj;simp;omega,q9.nil,fun j hj=>by simp at hj,by simp,by simp,fun q=>by have:=h0 _ q;omega,fun j _ hj=>by simp at hj⟩
theorem IFs.push(h:IFs S0 cs0 ts0 w g si S vs ts)(hX:qj S1 (g++mid) X t)(hS1:∀j,some j∈S1->g.length<=j/\j<g.length+mid.length):
  IFs S0 cs0 ts0 w ((((g++mid)++[qD.row w [X] true]).set si .dead)++[qD.row w (vs++[X]) true]) (g.length+mid.length+1) (S++S1) (vs++[X]) (ts++[t]):=by
 obtain⟨G,hG,q1,q2,q3,q4,q5,q6,q7⟩:=qaP h.o h.o0 h.r h.n1 hX hS1;rw[<-hG];refine⟨h.c.heap fun j hj=>q5 j (h.c0 j hj) (by rintro rfl;exact h.n2 hj),fun j hj=>by have:=h.c0 j hj;omega,q1,q2,q3,q4,fun q=>by have:=h.c0 _ q;omega,fun j hj hj2=> ?_⟩;rcases q7 j hj2 with q | q
 ·exact h.n3 j hj q
 ·have:=h.c0 j hj;omega
theorem IFs.done{n:Nat}(h:IFs S0 cs0 ts0 w g si S vs ts)(hn:ts.length=n):q9 (S0++some si::S) g (cs0++[.slice w si 0 n false]) (ts0++[.lst w ts false])/\∀j,some j∈S0++some si::S->j<g.length:=by
 subst hn;refine⟨h.c.snoc (h.o.row h.r h.n1) fun j hj hj2=> ?_,fun j hj=> ?_⟩
 ·rcases List.mem_cons.1 hj2 with q | q
  ·cases q;exact h.n2 hj
  ·exact h.n3 j hj q
 ·rcases jG.1 hj with q | q
  ·exact h.c0 j q
  ·rcases List.mem_cons.1 q with q | q
   ·cases q;exact qPO h.r
   ·exact h.o0 j q
end
mutual
theorem qQH{S:List (Option Nat)}{h:List qD}:∀(t:AV)(a:Nat)(v:AV),t.pl=true->t.cn=true->VR2 S v (lay t a).1->(∀i o,(lay t a).2[i]?=some o->∃j,S[a+i]?=some j/\OR2 S h j o)->Cv h v t
 |.lst w xs c,a,v,hp,hc,hv,hh=>by
  simp only[AV.cn,bAt,dTe,bNt]at hc;obtain⟨⟨h0,rfl⟩,hc⟩:=hc;simp only[lay]at hv hh;obtain⟨j,hj,ho⟩:=hh 0 _ rfl;rw[nAz]at hj;have l:=jm xs (a+1);generalize hnn:xs.length=n at hv;cases hv with
  | tree ht=>simp[AV.tree]at ht
  | slice hm=>
   rw[hm]at hj;cases hj;generalize hel:(qP xs (a+1)).1=el at ho;cases ho with
   | row hr he=>
    have le:=he.1;rw[<-hel,l]at le;rw[<-hel]at he;refine .slc hr (by omega) h0 (by rw[List.drop_zero,<-hnn,<-le,lTl]) ?_;rw[List.drop_zero,<-hnn,<-le,lTl];exact Vv xs (a+1) _ hp hc he fun i o hi=>by
     rw[show a+1+i=a+(i+1) by omega];exact hh (i+1) o (by simpa using hi)
  | ph hm=>
   have:xs=[]:=lEz hnn;subst this;exact .nils
  | ph2 hm=>
   have:xs=[]:=lEz hnn;subst this;exact .clip
 |.agg xs,a,v,hp,hc,hv,hh=>by
  simp only[lay]at hv hh;obtain⟨cs,rfl,hcs⟩:=hv.aggs;exact .agg (by rw[hcs.1,jm]) (Vv xs a cs hp hc hcs hh)
 |.tup xs,a,v,hp,hc,hv,hh=>by
  simp only[lay]at hv hh;obtain⟨cs,rfl,hcs⟩:=hv.tups;exact .tup (by rw[hcs.1,jm]) (Vv xs a cs hp hc hcs hh)
 |.bool _,_,_,_,_,hv,_ |.int _ _,_,_,_,_,hv,_ |.str _,_,_,_,_,hv,_ |.nilp,_,_,_,_,hv,_ |.nils,_,_,_,_,hv,_ |.nilm,_,_,_,_,hv,_ |.nilf,_,_,_,_,hv,_ |.nili,_,_,_,_,hv,_=>by
  simp only[lay]at hv;cases hv;exact .refl rfl
 |.any,_,_,hp,_,_,_ |.ptr _ _ _,_,_,hp,_,_,_ |.slice _ _ _ _ _,_,_,hp,_,_,_ |.map _,_,_,hp,_,_,_ |.ept _ _,_,_,hp,_,_,_ |.fn _ _,_,_,hp,_,_,_ |.iface _ _,_,_,hp,_,_,_=>by cases hp
theorem Vv{S:List (Option Nat)}{h:List qD}:∀(xs:List AV)(a:Nat)(vs:List AV),AV.pls xs=true->AV.cns xs=true->VR2s S vs (qP xs a).1->(∀i o,(qP xs a).2[i]?=some o->∃j,S[a+i]?=some j/\OR2 S h j o)->∀p∈vs.zip xs,Cv h p.1 p.2
 |[],_,_,_,_,_,_=>fun p hp=>by simp at hp
 | x::xs,a,vs,hp,hc,hv,hh=>by
  simp only[AV.pls,bAt]at hp;simp only[AV.cns,bAt]at hc;simp only[qP,qn]at hv hh;cases vs with
  | nil=>exact fun p hp=>by simp at hp
  | cons v vs=>
   obtain⟨h1,h2⟩:=hv.hd;refine qSC (qQH x a v hp.1 hc.1 h1 fun i o hi=>hh i o (by rw[gAl (gSi.1 hi).1];exact hi)) (Vv xs _ vs hp.2 hc.2 h2 fun i o hi=> ?_);rw[show a+x.rows+i=a+(x.rows+i) by omega];exact hh _ o (by rw[gAr (by rw[qn];omega),qn,Nat.add_sub_cancel_left];exact hi)
end
theorem qj.cv{S:List (Option Nat)}{h:List qD}{v t:AV}(x:qj S h v t)(hc:t.cn=true):Cv h v t:=
 qQH t 0 v x.p hc x.v fun i o hi=>by
  obtain⟨j,q1,q2⟩:=Ql x.o i o hi;exact⟨j,by rw[nZa];exact q1,q2⟩
end Go.Ab
namespace Go.Ab
attribute [go_sem] Bool.not_true Bool.not_false bFt lCo lNi List.getElem?_cons_zero List.getElem?_cons_succ decide_true eq_self lMp
attribute [go_sem] reduceIte Nat.reduceAdd Nat.reduceEqDiff
end Go.Ab
namespace Go.Ab
open Go
theorem qP8{μ:List (Option Nat)}{h:List qD}:∀{r:List (Option Nat)}{a b:List qD},jN μ h r (a++b)->jN μ h (r.take a.length) a/\jN μ h (r.drop a.length) b
 | r,[],b,k=>⟨by simp;trivial,by simpa using k⟩
 |[],o::a,b,k=>k.elim
 | j::r,o::a,b,k=>by
  have:=qP8 (r:=r) (a:=a) (b:=b) k.2;exact⟨⟨k.1,this.1⟩,this.2⟩
theorem Uw:∀{l:List (Option Nat)}{n:Nat},zK l=true->zK (l.take n)=true
 |[],_,_=>by simp[zK]
 | _::_,0,_=>by simp[zK]
 | none::l,n+1,h=>by
  simp only[List.take_succ_cons,zK]at h|-;exact Uw h
 | some j::l,n+1,h=>by
  simp only[List.take_succ_cons,zK,bAt,lAt]at h|-;exact⟨fun x hx=>h.1 x (List.mem_of_mem_take hx),Uw h.2⟩
theorem Ut:∀{l:List (Option Nat)}{n:Nat},zK l=true->zK (l.drop n)=true
 |[],_,_=>by simp[zK]
 | _::_,0,h=>by simpa using h
 | none::l,n+1,h=>by
  simp only[List.drop_succ_cons,zK]at h|-;exact Ut h
 | some j::l,n+1,h=>by
  simp only[List.drop_succ_cons,zK,bAt]at h|-;exact Ut h.2
section
variable {S:List (Option Nat)} {h h':List qD} {v t:AV} {vs ts:List AV}
theorem q9.uncons(x:q9 S h (v::vs) (t::ts)):∃S1 S2,S=S1++S2/\qj S1 h v t/\q9 S2 h vs ts:=by
 have l:=x.len;simp only[AV.rowss]at l;have hp:=x.p;simp only[AV.pls,bAt]at hp;have ho:=x.o;simp only[qP]at ho;obtain⟨o1,o2⟩:=qP8 ho;rw[qn]at o1 o2;rw[nZa]at o2;have hv:=x.v;simp only[qP]at hv;obtain⟨v1,v2⟩:=hv.hd;rw[qn,nZa]at v2;have m1:∀i,i<t.rows->(S.take t.rows)[0+i]?=S[0+i]?:=fun i hi=>by
  rw[nZa,gTk,if_pos hi]
 have m2:∀i,i<AV.rowss ts->(S.drop t.rows)[0+i]?=S[t.rows+i]?:=fun i hi=>by
  rw[nZa,gDr]
 refine⟨S.take t.rows,S.drop t.rows,(List.take_append_drop _ _).symm,⟨hp.1,Uw x.d,qaL hp.1 m1 o1,VR2.move _ _ _ _ hp.1 m1 v1⟩,⟨hp.2,Ut x.d,WV hp.2 m2 o2,VR2.moves _ _ _ _ hp.2 m2 v2⟩⟩
theorem q9.at:∀{ts vs:List AV}{S:List (Option Nat)}{i:Nat}{t:AV},q9 S h vs ts->ts[i]?=some t->∃v S1,vs[i]?=some v/\qj S1 h v t/\∀j,j∈S1->j∈S
 |[],_,_,_,_,_,hi=>by simp at hi
 | t0::ts,vs,S,i,t,x,hi=>by
  have:=x.cnt;cases vs with
  | nil=>simp at this
  | cons v vs=>
   obtain⟨S1,S2,rfl,y1,y2⟩:=x.uncons;cases i with
   | zero=>simp only[List.getElem?_cons_zero,oSi]at hi;subst hi;exact⟨v,S1,rfl,y1,fun j hj=>List.mem_append_left _ hj⟩
   | succ i=>
    simp only[List.getElem?_cons_succ]at hi;obtain⟨v',S',q1,q2,q3⟩:=q9.at y2 hi;exact⟨v',S',q1,q2,fun j hj=>List.mem_append_right _ (q3 j hj)⟩
theorem qj.lst{w:Nat}{xs:List AV}{c:Bool}(x:qj S h v (.lst w xs c))(hn:none∉S):∃id vs S',S=some id::S'/\v=.slice w id 0 xs.length false/\h[id]?=some (.row w vs true)/\q9 S' h vs xs:=by
 have hp:=x.p;simp only[AV.pl]at hp;have ho:=x.o;have hv:=x.v;have l:=x.len;simp only[AV.rows]at l;simp only[lay]at ho hv;cases S with
 | nil=>(simp at l;try omega)
 | cons j S'=>
  cases j with
  | none=>exact absurd (lMs) hn
  | some id=>
   have m:∀i,i<AV.rowss xs->S'[0+i]?=(some id::S')[0+1+i]?:=fun i hi=>by
    rw[show 0+1+i=i+1 by omega,List.getElem?_cons_succ,nZa]
   obtain⟨o1,o2⟩:=ho;have l2:=jm xs (0+1);have hd:=x.d;simp only[zK,bAt]at hd;generalize hel:(qP xs (0+1)).1=el at o1;cases o1 with
   | row hr he=>
    rename_i el0;rw[<-hel]at he;refine⟨id,el0,S',rfl, ?_,hr,hp,hd.2,WV hp m o2,VR2.moves _ _ _ _ hp m he⟩;generalize xs.length=n at hv;cases hv with
    | tree ht=>simp[AV.tree]at ht
    | slice hm=>simp at hm;rw[hm]
    | ph hm=>simp at hm
    | ph2 hm=>simp at hm
theorem VR2.scal{μ:List (Option Nat)}{a:AV}(x:VR2 μ v a)(ha:a.tree=true)(hn:∀w xs c,a≠.lst w xs c)(h1:∀cs,a≠.agg cs)(h2:∀cs,a≠.tup cs)(h3:∀g cs,a≠.fn g cs):v=a:=by
 cases x with
 | tree _=>rfl
 | ptr _=>simp[AV.tree]at ha
 | slice _=>simp[AV.tree]at ha
 | map _=>simp[AV.tree]at ha
 | ph _=>simp[AV.tree]at ha
 | ph2 _=>simp[AV.tree]at ha
 | nilL=>exact absurd rfl (hn _ _ _)
 | clip _=>exact absurd rfl (hn _ _ _)
 | agg _ _=>exact absurd rfl (h1 _)
 | fn _ _=>exact absurd rfl (h3 _ _)
 | tup _ _=>exact absurd rfl (h2 _)
theorem VR2.int{μ:List (Option Nat)}{k:IntKind}{n:Int}(x:VR2 μ v (.int k n)):v=.int k n:=x.scal rfl (by simp) (by simp) (by simp) (by simp)
theorem qj.int{k:IntKind}{n:Int}(x:qj S h v (.int k n)):v=.int k n/\S=[]:=by
 have:=x.v;simp only[lay]at this;have l:=x.len;simp only[AV.rows]at l;exact⟨this.int,lEz l⟩
end
end Go.Ab
namespace Go.Ab
open Go
def pmu(x y w:Nat):List (Option Nat):=(List.range' x y).map some++((List.range' 0 x).map some++(List.range' (x+y) w).map some)
theorem Ky{x y w j k:Nat}(h:(j<y/\k=x+j)\/(y<=j/\j<x+y/\k+y=j)\/(x+y<=j/\j<x+y+w/\k=j)):(pmu x y w)[j]?=some (some k):=by
 unfold pmu;rcases h with⟨h1,rfl⟩ | ⟨h1,h2,h3⟩ | ⟨h1,h2,rfl⟩
 ·rw[gAl (by simpa using h1),gMp,List.getElem?_range' h1];simp
 ·rw[gAr (by simpa using h1),gAl (by simp;omega),gMp,List.getElem?_range' (by simp;omega)];simp;omega
 ·rw[gAr (by simp;omega),gAr (by simp;omega),gMp,List.getElem?_range' (by simp;omega)];simp;omega
theorem qa2{x y w:Nat}:zK (pmu x y w)=true:=by
 have e:pmu x y w=(List.range' x y++(List.range' 0 x++List.range' (x+y) w)).map some:=by simp[pmu]
 rw[e];refine ZF ?_;rw[List.nodup_append];refine⟨List.nodup_range', ?_,fun a ha b hb=> ?_⟩
 ·rw[List.nodup_append];refine⟨List.nodup_range',List.nodup_range',fun a ha b hb=> ?_⟩;simp only[List.mem_range'_1]at ha hb;omega
 ·simp only[jG,List.mem_range'_1]at ha hb;omega
theorem FinF.swap{X Y W:List AV}{t v:AV}{h:List qD}(hX:AV.pls X=true)(hY:AV.pls Y=true)(hW:AV.pls W=true)(hh:h=(qP (X++(Y++W)) 0).2)(ht:(lay t 0).2=(qP (Y++(X++W)) 0).2)
  (hv:VR2 (pmu (AV.rowss X) (AV.rowss Y) (AV.rowss W)) v (lay t 0).1):FinF (some [v]) h t:=by
 refine⟨pmu (AV.rowss X) (AV.rowss Y) (AV.rowss W),qa2, ?_,hv⟩;rw[ht];subst hh;have lX:=jT X 0;have lY:=jT Y (0+AV.rowss X);simp only[ZK];have hx:(qP X 0).2.length=AV.rowss X:=lX;refine Qk (QI hY (fun i hi=>Ky (by omega)) fun i o hi=> ?_) (Qk (QI hX (fun i hi=>Ky (by omega)) fun i o hi=> ?_) (QI hW (fun i hi=>Ky (by omega)) fun i o hi=> ?_))
 ·have hi':=(gSi.1 hi).1;rw[gAr (by omega),show AV.rowss X+i-(qP X 0).2.length=i by omega,gAl (by simpa[jT]using hi')];simpa only [nZa]using hi
 ·rw[show 0+i=i from nZa i,gAl (gSi.1 hi).1];exact hi
 ·have hi':=(gSi.1 hi).1;rw[gAr (by omega),gAr (by omega),show AV.rowss X+AV.rowss Y+i-(qP X 0).2.length-(qP Y (0+AV.rowss X)).2.length=i by omega];simpa only [nZa]using hi
end Go.Ab
namespace Go.Ab
open Go
def emu(c b n:Nat):List (Option Nat):=(List.range' c b).map some++some (c+b+n+2)::(List.range' (c+b+1) n).map some
theorem qOB{c b n j k:Nat}(h:(j<b/\k=c+j)\/(j=b/\k=c+b+n+2)\/(b<j/\j<b+n+1/\k=c+j)):(emu c b n)[j]?=some (some k):=by
 unfold emu;rcases h with⟨h1,rfl⟩ | ⟨rfl,rfl⟩ | ⟨h1,h2,rfl⟩
 ·rw[gAl (by simpa using h1),gMp,List.getElem?_range' h1];simp
 ·rw[gAr (by simp)];simp
 ·rw[gAr (by simp;omega)];have e:j-((List.range' c b).map some).length=(j-b-1)+1:=by simp;omega
  rw[e,List.getElem?_cons_succ,gMp,List.getElem?_range' (by omega)];simp;omega
theorem qUI{c b n:Nat}:zK (emu c b n)=true:=by
 have e:emu c b n=(List.range' c b++(c+b+n+2)::List.range' (c+b+1) n).map some:=by simp[emu]
 rw[e];refine ZF ?_;rw[List.nodup_append];refine⟨List.nodup_range', ?_, ?_⟩
 ·rw[List.nodup_cons];refine⟨?_,List.nodup_range'⟩;simp only[List.mem_range'_1];omega
 ·intro x hx y hy;simp only[List.mem_range'_1,List.mem_cons]at hx hy;rcases hy with rfl | hy<;>omega
theorem FinF.grow{c w:Nat}{pre h:List qD}{X W el vs:List AV}{x:qD}{t:AV}(hpre:pre.length=c)(hX:AV.pls X=true)(hW:AV.pls W=true)(hel:AV.trees el=true)
  (hh:h=pre++((qP X c).2++.dead::((qP W (c+AV.rowss X+1)).2++[x,.row w el true]))) (ht:(lay t 0).2=(qP X 0).2++.row w el true::(qP W (AV.rowss X+1)).2)
  (hv:VR2 (emu c (AV.rowss X) (AV.rowss W)) (zS vs) (lay t 0).1):FinF (some vs) h t:=by
 refine⟨emu c (AV.rowss X) (AV.rowss W),qUI, ?_,hv⟩;rw[ht];subst hh hpre;have lX:=jT X pre.length;have lW:=jT W (pre.length+AV.rowss X+1);refine Qk (QI hX (fun i hi=>qOB (by omega)) fun i o hi=> ?_) ⟨?_,QI hW (fun i hi=>qOB (by omega)) fun i o hi=> ?_⟩
 ·rw[gAr (by omega),Nat.add_sub_cancel_left,gAl (gSi.1 hi).1];exact hi
 ·refine .row (el:=el) (rw':=true) ?_ (VR2s.trees hel);rw[gAr (by omega),gAr (by omega),show pre.length+AV.rowss X+AV.rowss W+2-pre.length-(qP X pre.length).2.length=AV.rowss W+1+1 by omega,List.getElem?_cons_succ,
   gAr (by omega),show AV.rowss W+1-(qP W (pre.length+AV.rowss X+1)).2.length=1 by omega]
  rfl
 ·have hi':=(gSi.1 hi).1;rw[gAr (by omega),gAr (by omega),show pre.length+AV.rowss X+1+i-pre.length-(qP X pre.length).2.length=i+1 by omega,List.getElem?_cons_succ,gAl hi'];exact hi
end Go.Ab
namespace Go.Ab
open Go
theorem Fresh.pure{Γ:Nat->Option AFn}{g:Nat}{vs:List AV}{t:AV}(hp:Fresh Γ g vs t)(hc:t.cn=true)(ht:t.tree=true):Pure Γ g vs t:=by
 unfold Fresh at hp;unfold Pure;obtain⟨t1,t2,hp⟩:=hp;refine⟨t1,ht,fun hr ar har=> ?_⟩;obtain⟨k,r,hr',ρ',h1,h2,h3,h4⟩:=hp hr ar har;obtain⟨r',q1,q2⟩:=(KJ (h:=(lay t 0).2) t 0 t2 hc (fun i o hi=>by rw[nZa];exact hi)).conv h2 (K:=wE ρ' (lay t 0).2 (List.range t.rows)) (fun i a w el ha ho=>by
  rw[lCm,Jm];exact⟨i,w,el,lMr.2 (by have:=(gSi.1 ho).1;rw[qn]at this;exact this),ha,ho⟩) h3
 have hrow:Rows hr' (wE ρ' (lay t 0).2 (List.range t.rows)):=fun a ha=>by
  rw[lCm,Jm]at ha;obtain⟨i,w,el,_,q2,q3⟩:=ha;rcases h2.obj i _ q3 with⟨q,_⟩ | ⟨i',el',p1,p2,p3⟩
  ·rw[q]at q2;cases q2
  ·rw[p1]at q2;cases q2;exact⟨_,p2,rfl⟩
 have hx:=Ex.frzR _ hrow q1 h1;have hkeep:∀id o,hr id=some o->(hr'.kill (wE ρ' (lay t 0).2 (List.range t.rows))) id=some o:=fun id o ho=>by
  rw[AH.kill_at];have:(wE ρ' (lay t 0).2 (List.range t.rows)).contains id=false:=by
   rw[<-Bool.not_eq_true,lCm,Jm];rintro⟨i,w,el,_,q,_⟩;have:=(h4.new0 q).1;rw[ho]at this;cases this
  rw[this];simpa using h4.pres id o ho (fun i hi=>by cases hi)
 exact⟨k,r',_,.drop hkeep (Zj _ _ ht q2) hx,rfl,fun a ha=>AH.fr_of_tomb ha,q2⟩
end Go.Ab
namespace Go.Ab
open Go
end Go.Ab
namespace Go.Ab
open Go
section
variable {E:Ev} {ks:List Fr1} {Q:qS->VSt->Prop}
def outJ{β:Type}(E:Ev)(J:β->Prop)(sttJ:β->VSt)(s:VSt):Prop:=∃b,J b/\Can E.b s (sttJ b)
def qPN{α β:Type}(E:Ev)(I:α->Prop)(stt:α->VSt)(m:α->Nat)(a:α)(n:Nat)(J:β->Prop)(sttJ:β->VSt)(ks:List Fr1)(Q:qS->VSt->Prop):qS->VSt->Prop
 |.nrm,s=>∃a',I a'/\m a'<m a/\Can E.b s (stt a')
 |.exit k,s=>if k=n then outJ E J sttJ s else Jw E (.exit k) (exK (.exit k) ks) s Q
 |.ret,s=>Q .ret s
 |.pan v,s=>Q (.pan v) s
@[go_sem] theorem qhZ{α β:Type}{I:α->Prop}{stt:α->VSt}{me:α->Nat}{a:α}{n k:Nat}{J:β->Prop}{sttJ:β->VSt}{st:VSt}:qPN E I stt me a n J sttJ ks Q (.exit k) st=if k=n then outJ E J sttJ st else Jw E (.exit k) (exK (.exit k) ks) st Q:=nr rfl
@[go_sem] theorem qh0{α β:Type}{I:α->Prop}{stt:α->VSt}{me:α->Nat}{a:α}{n:Nat}{J:β->Prop}{sttJ:β->VSt}{st:VSt}:qPN E I stt me a n J sttJ ks Q .ret st=Q .ret st:=nr rfl
end
end Go.Ab
namespace Go.Ab
open Go
def PureR(Γ:Nat->Option AFn)(g:Nat)(as:List AV)(P:AV->Prop):Prop:=
 AV.trees as=true/\(∀v,P v->v.tree=true)/\∀hr ar,RelVs ρ0 as ar->∃v,P v/\∃k r hr',Ex Γ k (.call g ar hr) (.res (.ok r) hr')/\hr'.f=hr.f/\(∀a,hr'.fr a->hr.fr a)/\RelV ρ0 v r
section
variable {Γ:Nat->Option AFn} {g:Nat} {vs vs':List AV} {h:List qD}
def WE(res:List zI)(P:AV->Prop):qS->VSt->Prop:=fun e st=>(e=.nrm\/e=.ret)/\match qq (zQ st) res with
 | some vs=>∃v,P v/\Cv st.h (zS vs) v
 | none=>False
theorem PureR.intro{F:qJ}{as:List AV}{P:AV->Prop}(fz bp:List Nat)(hg:Γ g=some (.fn F))(hok:F.body.ok=true)(hn:as.length=F.np)(ht:AV.trees as=true)(hv:∀v,P v->v.tree=true)
  (hR:R ⟨Γ,0,fz,bp⟩ [.code F.body] ⟨qI 0 as,[],[]⟩ (WE F.res P)):PureR Γ g as P:=by
 refine⟨ht,hv,fun hr ar har=> ?_⟩;have hS:qo ρ0 ⟨qI 0 as,[],[]⟩ {s:=params 0 ar,l:=Env.empty,h:=hr}:=⟨Jk har,(fun n v h=>by cases h),⟨(fun i o h=>by simp at h),(fun i j a o o' h=>by cases h),(fun _ _=>rfl),(fun i a h=>by cases h)⟩⟩;obtain⟨k,e,sr',ρ',st',g1,⟨he,hq⟩,g3,g4,_⟩:=Sem.of (by simpa only [lAc,List.all_nil,Bool.and_true,Fr1.ok]using hok) hR ρ0 _ hS (nZl _);have hb:Ex Γ k (.code F.body {s:=params 0 ar,l:=Env.empty,h:=hr}) (.st e sr'):=by
  cases g1 with
  | code h h'=>cases h';exact h
  | codeX h he' hx h'=>cases e<;>simp[exK]at hx
  | codeE h he' hx=>exact h
 split at hq
 ·rename_i vs hvs;obtain⟨v,hv1,hq⟩:=hq;obtain⟨rs,q1,q2⟩:=wv g3 hvs;have hx:=Ex.fn hg (by rw[har.length];exact hn) hb he q1;obtain⟨r',c1,c2⟩:=Cv.conv g3.h (K:=wE ρ' st'.h (List.range st'.h.length)) (fun i a w el ha ho=>by
   rw[lCm,Jm];exact⟨i,w,el,lMr.2 (Je ho),ha,ho⟩) hq (JK q2)
  have hx2:=Ex.frzR _ (g3.h.rows _) c1 hx;have hold:∀id o,hr id=some o->(sr'.h.kill (wE ρ' st'.h (List.range st'.h.length))) id=some o:=fun id o ho=>by
   rw[AH.kill_at,if_neg]
   ·exact g4.pres id o ho (fun i hi=>by cases hi)
   ·rw[lCm,Jm];rintro⟨i,w,el,_,p2,_⟩;rcases g4.new i id p2 with⟨j,hj⟩ | hf
    ·cases hj
    ·have:hr id=none:=hf.1;rw[this]at ho;cases ho
  exact⟨v,hv1,k+1,r',_,.drop hold (Zj _ _ (hv v hv1) c2) hx2,rfl,fun a ha=>AH.fr_of_tomb ha,c2⟩
 ·exact hq.elim
end
section
variable {E:Ev} {l:List qC} {ks:List Fr1} {s m:qf} {h:List qD} {Q:qS->VSt->Prop}
def Zq(vs:Option (List AV))(h:List qD)(P:AV->Prop):Prop:=match vs with
 | some vs=>∃v,P v/\Cv h (zS vs) v
 | none=>False
@[go_sem] theorem qeR{res:List zI}{P:AV->Prop}:WE res P .ret ⟨s,m,h⟩=Zq (qq (zQ ⟨s,m,h⟩) res) h P:=by
 simp[WE,Zq];all_goals rfl
@[go_sem] theorem qeQ{res:List zI}{P:AV->Prop}:WE res P .nrm ⟨s,m,h⟩=Zq (qq (zQ ⟨s,m,h⟩) res) h P:=by
 simp[WE,Zq];all_goals rfl
end
attribute [irreducible] PureR Zq
end Go.Ab
