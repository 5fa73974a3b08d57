/- Texts AbO .. AbU: the abstract machine, its laws and contracts of functions: lemmas for the statement. No condition. -/
import Derived.Test.YteekllacfpafoaaGreatP3
set_option linter.unusedSimpArgs false
set_option linter.unusedVariables false
namespace Go.Ab
open Go
mutual
def lay:AV→Nat→AV×List qC
  |.lst w xs _,n=>(.slice w n 0 xs.length false,.row w (qP xs (n+1)).1 true::(qP xs (n+1)).2)
  |.agg xs,n=>(.agg (qP xs n).1,(qP xs n).2)
  |.tup xs,n=>(.tup (qP xs n).1,(qP xs n).2)
  | v,_=>(v,[])
def qP:List AV→Nat→List AV×List qC
  |[],_=>([],[])
  | x::xs,n=>((lay x n).1::(qP xs (n+(lay x n).2.length)).1,(lay x n).2++(qP xs (n+(lay x n).2.length)).2)
end
mutual
def AV.pl:AV→Bool
  |.lst _ xs _ |.agg xs |.tup xs=>AV.pls xs
  |.bool _ |.int _ _ |.str _ |.nilp |.nils |.nilm |.nilf |.nili=>true
  | _=>false
def AV.pls:List AV→Bool
  |[]=>true
  | x::xs=>AV.pl x&&AV.pls xs
end
mutual
def AV.rows:AV→Nat
  |.lst _ xs _=>AV.rowss xs+1
  |.agg xs |.tup xs=>AV.rowss xs
  | _=>0
def AV.rowss:List AV→Nat
  |[]=>0
  | x::xs=>AV.rows x+AV.rowss xs
end
mutual
theorem qt:∀(t:AV) (n:Nat),(lay t n).2.length=t.rows
  |.lst _ xs _,n=>by simp only [lay,List.length_cons,AV.rows,jK xs]
  |.agg xs,n=>by simp only [lay,AV.rows,jK xs]
  |.tup xs,n=>by simp only [lay,AV.rows,jK xs]
  |.bool _,_ |.int _ _,_ |.str _,_ |.nilp,_ |.nils,_ |.nilm,_ |.nilf,_ |.nili,_ |.any,_=>rfl
  |.ptr _ _ _,_ |.slice _ _ _ _ _,_ |.map _,_ |.ept _ _,_ |.fn _ _,_ |.iface _ _,_=>rfl
theorem jK:∀(xs:List AV) (n:Nat),(qP xs n).2.length=AV.rowss xs
  |[],_=>rfl
  | x::xs,n=>by simp only [qP,lAp,qt x,jK xs,AV.rowss]
end
theorem wU:∀(xs:List AV) (n:Nat),(qP xs n).1.length=xs.length
  |[],_=>rfl
  | x::xs,n=>by simp only [qP,List.length_cons,wU xs]
theorem ZE:∀(xs ys:List AV) (n:Nat),qP (xs++ys) n=((qP xs n).1++(qP ys (n+AV.rowss xs)).1,(qP xs n).2++(qP ys (n+AV.rowss xs)).2)
  |[],ys,n=>by simp [qP,AV.rowss]
  | x::xs,ys,n=>by
    simp only [List.cons_append,qP,ZE xs ys,AV.rowss,qt,Nat.add_assoc,List.append_assoc]
theorem qWT:∀(xs ys:List AV),AV.rowss (xs++ys)=AV.rowss xs+AV.rowss ys
  |[],ys=>by simp [AV.rowss]
  | x::xs,ys=>by simp only [List.cons_append,AV.rowss,qWT xs ys];omega
section
variable {ρ ρ':Ren}
def Sh2 (ρ:Ren) (a:Nat) (ρ':Ren) (b n:Nat):Prop:=∀i,i<n→ρ' (b+i)=ρ (a+i)
theorem Sh2.sub {a b n:Nat} (h:Sh2 ρ a ρ' b n) (k m:Nat) (hk:k+m≤n):Sh2 ρ (a+k) ρ' (b+k) m:=fun i hi=>by
  have:=h (k+i) (by omega);rw [show a+k+i=a+(k+i) by omega,show b+k+i=b+(k+i) by omega];exact this
mutual
theorem qQY:∀(t:AV) (a b:Nat) (r:AV),t.pl=true→Sh2 ρ a ρ' b t.rows→RelV ρ (lay t a).1 r→RelV ρ' (lay t b).1 r
  |.lst w xs _,a,b,r,_,hs,h=>by
    have h0:=hs 0 (by simp only [AV.rows];omega);simp only [Nat.add_zero] at h0;simp only [lay,RelV] at h⊢;rw [h0];exact h
  |.agg xs,a,b,r,hp,hs,h=>by
    simp only [lay,RelV] at h⊢;obtain ⟨ds,h1,h2⟩:=h;exact ⟨ds,h1,Vs xs a b ds hp hs h2⟩
  |.tup xs,a,b,r,hp,hs,h=>by
    simp only [lay,RelV] at h⊢;obtain ⟨ds,h1,h2⟩:=h;exact ⟨ds,h1,Vs xs a b ds hp hs h2⟩
  |.bool _,_,_,_,_,_,h |.int _ _,_,_,_,_,_,h |.str _,_,_,_,_,_,h |.nilp,_,_,_,_,_,h |.nils,_,_,_,_,_,h |.nilm,_,_,_,_,_,h |.nilf,_,_,_,_,_,h |.nili,_,_,_,_,_,h=>by
    simpa only [lay,RelV] using h
  |.any,_,_,_,hp,_,_ |.ptr _ _ _,_,_,_,hp,_,_ |.slice _ _ _ _ _,_,_,_,hp,_,_ |.map _,_,_,_,hp,_,_ |.ept _ _,_,_,_,hp,_,_ |.fn _ _,_,_,_,hp,_,_ |.iface _ _,_,_,_,hp,_,_=>by cases hp
theorem Vs:∀(xs:List AV) (a b:Nat) (rs:List AV),AV.pls xs=true→Sh2 ρ a ρ' b (AV.rowss xs)→RelVs ρ (qP xs a).1 rs→RelVs ρ' (qP xs b).1 rs
  |[],_,_,_,_,_,h=>by simpa only [qP,RelVs] using h
  | x::xs,a,b,rs,hp,hs,h=>by
    simp only [AV.pls,bAt] at hp;simp only [qP,RelVs,qt] at h⊢;obtain ⟨u,us,h1,h2,h3⟩:=h;simp only [AV.rowss] at hs;exact ⟨u,us,h1,qQY x a b u hp.1 (by simpa using hs.sub 0 x.rows (by omega)) h2,Vs xs _ _ us hp.2 (hs.sub x.rows (AV.rowss xs) (by omega)) h3⟩
end
def Lies (ρ:Ren) (a:Nat) (os:List qC) (hr:AH):Prop:=∀i o,os[i]?=some o→RelO ρ (a+i) hr o
theorem Lies.app {a:Nat} {os os':List qC} {hr:AH}:Lies ρ a (os++os') hr↔Lies ρ a os hr∧Lies ρ (a+os.length) os' hr:=by
  constructor
  · intro h;refine ⟨fun i o hi=>h i o ?_,fun i o hi=> ?_⟩
    · rw [List.getElem?_append_left (List.getElem?_eq_some_iff.1 hi).1];exact hi
    · have:=h (os.length+i) o (by rw [List.getElem?_append_right (by omega)];simpa using hi);rw [show a+os.length+i=a+(os.length+i) by omega];exact this
  · rintro ⟨h1,h2⟩ i o hi;rcases Nat.lt_or_ge i os.length with q | q
    · rw [List.getElem?_append_left q] at hi;exact h1 i o hi
    · rw [List.getElem?_append_right q] at hi;have:=h2 _ _ hi;rw [show a+os.length+(i-os.length)=a+i by omega] at this;exact this
theorem Lies.cons {a:Nat} {o:qC} {os:List qC} {hr:AH}:Lies ρ a (o::os) hr↔RelO ρ a hr o∧Lies ρ (a+1) os hr:=by
  have:=Lies.app (ρ:=ρ) (a:=a) (os:=[o]) (os':=os) (hr:=hr);rw [List.singleton_append] at this;rw [this];constructor
  · rintro ⟨h1,h2⟩;exact ⟨h1 0 o rfl,h2⟩
  · rintro ⟨h1,h2⟩;refine ⟨fun i x hi=> ?_,h2⟩;cases i with
    | zero=>simp at hi;subst hi;exact h1
    | succ i=>simp at hi
mutual
theorem Vp {hr hr':AH}:∀(t:AV) (a b:Nat),t.pl=true→Sh2 ρ a ρ' b t.rows→(∀i x o,i<t.rows→ρ (a+i)=some (some x)→hr x=some o→hr' x=some o)→Lies ρ a (lay t a).2 hr→Lies ρ' b (lay t b).2 hr'
  |.lst w xs _,a,b,hp,hs,hh,h=>by
    simp only [lay,Lies.cons] at h⊢;simp only [AV.rows] at hs hh;obtain ⟨h1,h2⟩:=h;refine ⟨?_,Vr xs (a+1) (b+1) hp (hs.sub 1 _ (by omega)) (fun i x o hi hx hx2=>hh (1+i) x o (by omega) (by rw [←Nat.add_assoc];exact hx) hx2) h2⟩;have h0:=hs 0 (by omega);simp only [Nat.add_zero] at h0;rcases h1 with ⟨q1,q2,q3⟩ | ⟨i',el',q1,q2,q3⟩
    · refine .inl ⟨by rw [h0];exact q1, ?_,q3⟩;have l1:=wU xs (a+1);have l2:=wU xs (b+1);rw [q2] at l1;exact List.eq_nil_of_length_eq_zero (by rw [l2,←l1];rfl)
    · exact .inr ⟨i',el',by rw [h0];exact q1,hh 0 i' _ (by omega) q1 q2,Vs xs _ _ _ hp (hs.sub 1 _ (by omega)) q3⟩
  |.agg xs,a,b,hp,hs,hh,h=>by
    simp only [lay] at h⊢;exact Vr xs a b hp hs hh h
  |.tup xs,a,b,hp,hs,hh,h=>by
    simp only [lay] at h⊢;exact Vr xs a b hp hs hh h
  |.bool _,_,_,_,_,_,_ |.int _ _,_,_,_,_,_,_ |.str _,_,_,_,_,_,_ |.nilp,_,_,_,_,_,_ |.nils,_,_,_,_,_,_ |.nilm,_,_,_,_,_,_ |.nilf,_,_,_,_,_,_ |.nili,_,_,_,_,_,_=>by
    intro i o hi;simp [lay] at hi
  |.any,_,_,hp,_,_,_ |.ptr _ _ _,_,_,hp,_,_,_ |.slice _ _ _ _ _,_,_,hp,_,_,_ |.map _,_,_,hp,_,_,_ |.ept _ _,_,_,hp,_,_,_ |.fn _ _,_,_,hp,_,_,_ |.iface _ _,_,_,hp,_,_,_=>by cases hp
theorem Vr {hr hr':AH}:∀(xs:List AV) (a b:Nat),AV.pls xs=true→Sh2 ρ a ρ' b (AV.rowss xs)→(∀i x o,i<AV.rowss xs→ρ (a+i)=some (some x)→hr x=some o→hr' x=some o)→Lies ρ a (qP xs a).2 hr→Lies ρ' b (qP xs b).2 hr'
  |[],_,_,_,_,_,_=>by intro i o hi;simp [qP] at hi
  | x::xs,a,b,hp,hs,hh,h=>by
    simp only [AV.pls,bAt] at hp;simp only [AV.rowss] at hs hh;simp only [qP,Lies.app,qt] at h⊢;exact ⟨Vp x a b hp.1 (by simpa using hs.sub 0 x.rows (by omega)) (fun i y o hi=>hh i y o (by omega)) h.1,
      Vr xs _ _ hp.2 (hs.sub x.rows _ (by omega)) (fun i y o hi hy=>hh (x.rows+i) y o (by omega) (by rw [←Nat.add_assoc];exact hy)) h.2⟩
end
mutual
theorem qQX:∀(t:AV) (a:Nat) (r:AV),t.pl=true→RelV ρ (lay t a).1 r→r.nol=true
  |.lst w xs _,a,r,_,h=>by
    simp only [lay,RelV] at h;rcases h with ⟨_,_,rfl⟩ | ⟨_,_,_,rfl | rfl⟩<;>rfl
  |.agg xs,a,r,hp,h=>by
    simp only [lay,RelV] at h;obtain ⟨ds,rfl,h2⟩:=h;simp only [AV.nol];exact WO xs a ds hp h2
  |.tup xs,a,r,hp,h=>by
    simp only [lay,RelV] at h;obtain ⟨ds,rfl,h2⟩:=h;simp only [AV.nol];exact WO xs a ds hp h2
  |.bool _,_,_,_,h |.int _ _,_,_,_,h |.str _,_,_,_,h |.nilp,_,_,_,h |.nils,_,_,_,h |.nilm,_,_,_,h |.nilf,_,_,_,h |.nili,_,_,_,h=>by
    simp only [lay,RelV] at h;subst h;rfl
  |.any,_,_,hp,_ |.ptr _ _ _,_,_,hp,_ |.slice _ _ _ _ _,_,_,hp,_ |.map _,_,_,hp,_ |.ept _ _,_,_,hp,_ |.fn _ _,_,_,hp,_ |.iface _ _,_,_,hp,_=>by cases hp
theorem WO:∀(xs:List AV) (a:Nat) (rs:List AV),AV.pls xs=true→RelVs ρ (qP xs a).1 rs→AV.nols rs=true
  |[],_,_,_,h=>by simp only [qP,RelVs] at h;subst h;rfl
  | x::xs,a,rs,hp,h=>by
    simp only [AV.pls,bAt] at hp;simp only [qP,RelVs] at h;obtain ⟨u,us,rfl,h2,h3⟩:=h;simp only [AV.nols,bAt];exact ⟨qQX x a u hp.1 h2,WO xs _ us hp.2 h3⟩
end
mutual
theorem QK:∀(t:AV) (a i:Nat) (o:qC),t.pl=true→(lay t a).2[i]?=some o→∃w xs b,o=.row w (qP xs b).1 true∧AV.pls xs=true
  |.lst w xs _,a,i,o,hp,h=>by
    simp only [lay] at h;cases i with
    | zero=>simp at h;subst h;exact ⟨w,xs,a+1,rfl,hp⟩
    | succ i=>exact Vt xs (a+1) i o hp (by simpa using h)
  |.agg xs,a,i,o,hp,h=>by simp only [lay] at h;exact Vt xs a i o hp h
  |.tup xs,a,i,o,hp,h=>by simp only [lay] at h;exact Vt xs a i o hp h
  |.bool _,_,_,_,_,h |.int _ _,_,_,_,_,h |.str _,_,_,_,_,h |.nilp,_,_,_,_,h |.nils,_,_,_,_,h |.nilm,_,_,_,_,h |.nilf,_,_,_,_,h |.nili,_,_,_,_,h=>by
    simp [lay] at h
  |.any,_,_,_,hp,_ |.ptr _ _ _,_,_,_,hp,_ |.slice _ _ _ _ _,_,_,_,hp,_ |.map _,_,_,_,hp,_ |.ept _ _,_,_,_,hp,_ |.fn _ _,_,_,_,hp,_ |.iface _ _,_,_,_,hp,_=>by cases hp
theorem Vt:∀(xs:List AV) (a i:Nat) (o:qC),AV.pls xs=true→(qP xs a).2[i]?=some o→∃w ys b,o=.row w (qP ys b).1 true∧AV.pls ys=true
  |[],_,_,_,_,h=>by simp [qP] at h
  | x::xs,a,i,o,hp,h=>by
    simp only [AV.pls,bAt] at hp;simp only [qP] at h;rcases Nat.lt_or_ge i (lay x a).2.length with q | q
    · rw [List.getElem?_append_left q] at h;exact QK x a i o hp.1 h
    · rw [List.getElem?_append_right q] at h;exact Vt xs _ _ o hp.2 h
end
end
variable {Γ:Nat→Option AFn} {g:Nat} {vs vs' as:List AV} {h:List qC} {t t':AV}
def Fresh (Γ:Nat→Option AFn) (g:Nat) (as:List AV) (t:AV):Prop:=
  AV.trees as=true∧t.pl=true∧∀hr ar,RelVs ρ0 as ar→∃k r hr' ρ',Ex Γ k (.call g ar hr) (.res (.ok r) hr')∧qq ρ' (lay t 0).2 hr'∧RelV ρ' (lay t 0).1 r∧Fm 0 ρ0 hr ρ' hr'
def ws (ρ:Ren) (n:Nat) (ρ':Ren):Ren:=fun i=>if i<n then ρ i else ρ' (i-n)
theorem VU {ρ ρ':Ren} {hr h1 h2:AH} {r:AV} (hp:t.pl=true) (hH:qq ρ h hr) (hH':qq ρ' (lay t 0).2 h1) (hv:RelV ρ' (lay t 0).1 r)
    (hnew:∀i a,ρ' i=some (some a)→hr.fr a) (hold:∀a o,hr a=some o→h2 a=some o) (hsame:∀i a o,ρ' i=some (some a)→h1 a=some o→h2 a=some o) (hfr:∀a,h2.fr a→hr.fr a):
    qq (ws ρ h.length ρ') (h++(lay t h.length).2) h2∧RelV (ws ρ h.length ρ') (lay t h.length).1 r∧Fm h.length ρ hr (ws ρ h.length ρ') h2:=by
  have sh:Sh2 ρ' 0 (ws ρ h.length ρ') h.length t.rows:=fun i hi=>by
    simp only [ws,Nat.zero_add];rw [if_neg (by omega),Nat.add_sub_cancel_left]
  have lies:Lies ρ' 0 (lay t 0).2 h1:=fun i o hi=>by rw [Nat.zero_add];exact hH'.obj i o hi
  have lies2:Lies (ws ρ h.length ρ') h.length (lay t h.length).2 h2:=Vp t 0 h.length hp sh (fun i x o _ hx ho=>hsame _ x o hx ho) lies;have lo:∀i,i<h.length→ws ρ h.length ρ' i=ρ i:=fun i hi=>by simp only [ws,if_pos hi]
  have hi':∀i,h.length≤i→ws ρ h.length ρ' i=ρ' (i-h.length):=fun i hi=>by simp only [ws];rw [if_neg (by omega)]
  have le:ρ.le (ws ρ h.length ρ'):=fun i a hia=>by
    have:i<h.length:=by
      rcases Nat.lt_or_ge i h.length with q | q
      · exact q
      · rw [hH.out i q] at hia;cases hia
    rw [lo i this];exact hia
  refine ⟨⟨fun i o hi=> ?_,fun i j a o o' h1' h2' hi hj d1 d2=> ?_,fun i hi=> ?_,fun i a ha=> ?_⟩,qQY t 0 h.length r hp sh hv,⟨fun a o ho _=>hold a o ho,fun i a ha=> ?_,hfr,fun i hi=>lo i hi⟩⟩
  · rcases Nat.lt_or_ge i h.length with q | q
    · rw [List.getElem?_append_left q] at hi;exact (hH.obj i o hi).mono le fun a o' _ ho=>hold a o' ho
    · rw [List.getElem?_append_right q] at hi;have:=lies2 _ _ hi;rwa [show h.length+(i-h.length)=i by omega] at this
  · have get0:∀{i:Nat} {o:qC},(lay t h.length).2[i]?=some o→∃o2,(lay t 0).2[i]?=some o2∧o2≠.dead:=fun {i o} hio=>by
      have hl:i<(lay t 0).2.length:=by
        have:=(List.getElem?_eq_some_iff.1 hio).1;rw [qt] at this⊢;exact this
      refine ⟨_,gEg hl, ?_⟩;obtain ⟨w,xs,b,e,_⟩:=QK t 0 i _ hp (gEg hl);rw [e];simp
    rcases Nat.lt_or_ge i h.length with q1 | q1<;>rcases Nat.lt_or_ge j h.length with q2 | q2
    · rw [lo i q1] at h1';rw [lo j q2] at h2';rw [List.getElem?_append_left q1] at hi;rw [List.getElem?_append_left q2] at hj;exact hH.inj i j a o o' h1' h2' hi hj d1 d2
    · rw [lo i q1] at h1';rw [hi' j q2] at h2';obtain ⟨x,hx⟩:=hH.is i a h1';have:=(hnew _ a h2').1;rw [this] at hx;cases hx
    · rw [hi' i q1] at h1';rw [lo j q2] at h2';obtain ⟨x,hx⟩:=hH.is j a h2';have:=(hnew _ a h1').1;rw [this] at hx;cases hx
    · rw [hi' i q1] at h1';rw [hi' j q2] at h2';rw [List.getElem?_append_right q1] at hi;rw [List.getElem?_append_right q2] at hj;obtain ⟨o2,g1,g2⟩:=get0 hi;obtain ⟨o3,g3,g4⟩:=get0 hj;have:=hH'.inj _ _ a o2 o3 h1' h2' g1 g3 g2 g4;omega
  · simp only [lAp,qt] at hi;rw [hi' i (by omega)];exact hH'.out _ (by rw [qt];omega)
  · rcases Nat.lt_or_ge i h.length with q | q
    · rw [lo i q] at ha;obtain ⟨o,ho⟩:=hH.is i a ha;exact ⟨o,hold a o ho⟩
    · rw [hi' i q] at ha;obtain ⟨o,ho⟩:=hH'.is _ a ha;exact ⟨o,hsame _ a o ha ho⟩
  · rcases Nat.lt_or_ge i h.length with q | q
    · rw [lo i q] at ha;exact .inl ⟨i,ha⟩
    · rw [hi' i q] at ha;exact .inr (hnew _ a ha)
theorem Fm.new0 {ρ':Ren} {hr hr':AH} (h:Fm 0 ρ0 hr ρ' hr') {i a:Nat} (ha:ρ' i=some (some a)):hr.fr a:=by
  rcases h.new i a ha with ⟨j,hj⟩ | q
  · cases hj
  · exact q
theorem SCallK.fresh {K:AV→List qC→Prop} (hp:Fresh Γ g vs t) (hk:K (lay t h.length).1 (h++(lay t h.length).2)):SCallK Γ g vs h K:=fun ρ hr ar hH hv=>by
  unfold Fresh at hp;obtain ⟨t1,t2,hp⟩:=hp;obtain ⟨k,r,hr',ρ',h1,h2,h3,h4⟩:=hp hr ar (wm _ _ t1 hv);obtain ⟨q1,q2,q3⟩:=VU (h2:=hr') t2 hH h2 h3 (fun i a ha=>h4.new0 ha) (fun a o ho=>h4.pres a o ho (fun i hi=>by cases hi)) (fun _ _ _ _ ho=>ho) h4.fr;exact ⟨k,r,hr',_,_,_,h1,hk,q1,q2,q3,by simp,fun a o ho=>h4.pres a o ho (fun i hi=>by cases hi)⟩
theorem SCall.fresh {K:AV→List qC→Prop} (hp:Fresh Γ g vs t) (hk:K (lay t h.length).1 (h++(lay t h.length).2)):SCall Γ g vs h K:=fun ρ hr ar hH hv=>by
  unfold Fresh at hp;obtain ⟨t1,t2,hp⟩:=hp;obtain ⟨k,r,hr',ρ',h1,h2,h3,h4⟩:=hp hr ar (wm _ _ t1 hv);obtain ⟨q1,q2,q3⟩:=VU (h2:=hr') t2 hH h2 h3 (fun i a ha=>h4.new0 ha) (fun a o ho=>h4.pres a o ho (fun i hi=>by cases hi)) (fun _ _ _ _ ho=>ho) h4.fr;exact ⟨k,r,hr',_,_,_,h1,hk,q1,q2,q3,by simp⟩
theorem SCall.freshL {K:AV→List qC→Prop} (hc:Cvs h vs vs') (hp:Fresh Γ g vs' t) (hk:K (lay t h.length).1 (h++(lay t h.length).2)):SCall Γ g vs h K:=fun ρ hr ar hH hv=>by
  unfold Fresh at hp;obtain ⟨t1,t2,hp⟩:=hp;obtain ⟨KK,hKK⟩:=qQC hr;obtain ⟨rs',g1,g2,g3⟩:=hc.conv hH (K:=KK) (fun i a w el ha ho=>by
    rcases hH.obj i _ ho with ⟨q,_⟩ | ⟨i',el',q1,q2,_⟩
    · rw [q] at ha;cases ha
    · rw [q1] at ha;cases ha;exact (hKK _).2 ⟨_,q2,rfl⟩) hv
  obtain ⟨k,r,hr',ρ',h1,h2,h3,h4⟩:=hp (hr.kill KK) rs' g3;have hnew:∀i a,ρ' i=some (some a)→hr.fr a:=fun i a ha=>(AH.fr_kill (h4.new0 ha)).1;have hrow:∀a,(zy ρ' (lay t 0).2 (List.range t.rows)).contains a=true→∀o,hr' a=some o→o.nol=true:=fun a ha o ho=>by
    rw [List.contains_iff_mem,jX] at ha;obtain ⟨i,w,el,_,q2,q3⟩:=ha;obtain ⟨w',xs,b,e,hpx⟩:=QK t 0 i _ t2 q3;cases e;rcases h2.obj i _ q3 with ⟨q,_⟩ | ⟨i',el',p1,p2,p3⟩
    · rw [q] at q2;cases q2
    · rw [p1] at q2;cases q2;rw [p2] at ho;cases ho;simp only [qC.nol,Bool.true_and];exact WO _ _ _ hpx p3
  have hin:∀i a o,ρ' i=some (some a)→hr' a=some o→(zy ρ' (lay t 0).2 (List.range t.rows)).contains a=true:=fun i a o ha ho=>by
    have hi:i<(lay t 0).2.length:=by
      rcases Nat.lt_or_ge i (lay t 0).2.length with q | q
      · exact q
      · rw [h2.out i q] at ha;cases ha
    obtain ⟨w,xs,b,e,_⟩:=QK t 0 i _ t2 (gEg hi);rw [List.contains_iff_mem,jX];exact ⟨i,w,_,List.mem_range.2 (by rw [qt] at hi;exact hi),ha,by rw [gEg hi,e]⟩
  have hx:=Ex.brn KK (zy ρ' (lay t 0).2 (List.range t.rows)) hKK g1 g2 (qQX t 0 r t2 h3) (fun a o ha _ ho=>hrow a ha o ho) h1;obtain ⟨q1,q2,q3⟩:=VU (h2:=hr.join hr' (zy ρ' (lay t 0).2 (List.range t.rows))) t2 hH h2 h3 hnew (fun a o ho=>AH.join_old' ho) (fun i a o ha ho=>by
    rw [AH.join_new' (hnew i a ha).1,if_pos (hin i a o ha ho)];exact ho) (fun a ha=>(AH.fr_join ha).1)
  exact ⟨k,r,_,_,_,_,hx,hk,q1,q2,q3,by simp⟩
theorem SCallK.freshL {K:AV→List qC→Prop} (hc:Cvs h vs vs') (hp:Fresh Γ g vs' t) (hk:K (lay t h.length).1 (h++(lay t h.length).2)):SCallK Γ g vs h K:=fun ρ hr ar hH hv=>by
  unfold Fresh at hp;obtain ⟨t1,t2,hp⟩:=hp;obtain ⟨KK,hKK⟩:=qQC hr;obtain ⟨rs',g1,g2,g3⟩:=hc.conv hH (K:=KK) (fun i a w el ha ho=>by
    rcases hH.obj i _ ho with ⟨q,_⟩ | ⟨i',el',q1,q2,_⟩
    · rw [q] at ha;cases ha
    · rw [q1] at ha;cases ha;exact (hKK _).2 ⟨_,q2,rfl⟩) hv
  obtain ⟨k,r,hr',ρ',h1,h2,h3,h4⟩:=hp (hr.kill KK) rs' g3;have hnew:∀i a,ρ' i=some (some a)→hr.fr a:=fun i a ha=>(AH.fr_kill (h4.new0 ha)).1;have hrow:∀a,(zy ρ' (lay t 0).2 (List.range t.rows)).contains a=true→∀o,hr' a=some o→o.nol=true:=fun a ha o ho=>by
    rw [List.contains_iff_mem,jX] at ha;obtain ⟨i,w,el,_,q2,q3⟩:=ha;obtain ⟨w',xs,b,e,hpx⟩:=QK t 0 i _ t2 q3;cases e;rcases h2.obj i _ q3 with ⟨q,_⟩ | ⟨i',el',p1,p2,p3⟩
    · rw [q] at q2;cases q2
    · rw [p1] at q2;cases q2;rw [p2] at ho;cases ho;simp only [qC.nol,Bool.true_and];exact WO _ _ _ hpx p3
  have hin:∀i a o,ρ' i=some (some a)→hr' a=some o→(zy ρ' (lay t 0).2 (List.range t.rows)).contains a=true:=fun i a o ha ho=>by
    have hi:i<(lay t 0).2.length:=by
      rcases Nat.lt_or_ge i (lay t 0).2.length with q | q
      · exact q
      · rw [h2.out i q] at ha;cases ha
    obtain ⟨w,xs,b,e,_⟩:=QK t 0 i _ t2 (gEg hi);rw [List.contains_iff_mem,jX];exact ⟨i,w,_,List.mem_range.2 (by rw [qt] at hi;exact hi),ha,by rw [gEg hi,e]⟩
  have hx:=Ex.brn KK (zy ρ' (lay t 0).2 (List.range t.rows)) hKK g1 g2 (qQX t 0 r t2 h3) (fun a o ha _ ho=>hrow a ha o ho) h1;obtain ⟨q1,q2,q3⟩:=VU (h2:=hr.join hr' (zy ρ' (lay t 0).2 (List.range t.rows))) t2 hH h2 h3 hnew (fun a o ho=>AH.join_old' ho) (fun i a o ha ho=>by
    rw [AH.join_new' (hnew i a ha).1,if_pos (hin i a o ha ho)];exact ho) (fun a ha=>(AH.fr_join ha).1)
  exact ⟨k,r,_,_,_,_,hx,hk,q1,q2,q3,by simp,fun a o ho=>AH.join_old' ho⟩
end Go.Ab
namespace Go.Ab
open Go
section
variable {Γ:Nat→Option AFn} {g:Nat}
def FinF (vs:Option (List AV)) (h:List qC) (t:AV):Prop:=match vs with
  | some vs=>∃μ,jp μ=true∧wz μ h μ (lay t 0).2∧VR2 μ (zO vs) (lay t 0).1
  | none=>False
def Z9 (res:List zY) (t:AV):qb→VSt→Prop:=fun e st=>(e=.nrm∨e=.ret)∧FinF (zR (zf st) res) st.h t
@[go_sem] theorem zEM {res:List zY} {t:AV} {s m:qg} {h:List qC}:Z9 res t .ret ⟨s,m,h⟩=FinF (zR (zf ⟨s,m,h⟩) res) h t:=by
  simp [Z9]
@[go_sem] theorem zEL {res:List zY} {t:AV} {s m:qg} {h:List qC}:Z9 res t .nrm ⟨s,m,h⟩=FinF (zR (zf ⟨s,m,h⟩) res) h t:=by
  simp [Z9]
theorem Fresh.intro {F:qJ} {as:List AV} {t:AV} (fz bp:List Nat) (hg:Γ g=some (.fn F)) (hok:F.body.ok=true) (hn:as.length=F.np) (ht:AV.trees as=true) (hp:t.pl=true)
    (hR:R ⟨Γ,0,fz,bp⟩ [.code F.body] ⟨qL 0 as,[],[]⟩ (Z9 F.res t)):Fresh Γ g as t:=by
  unfold Fresh;refine ⟨ht,hp,fun hr ar har=> ?_⟩;have hS:zG ρ0 ⟨qL 0 as,[],[]⟩ {s:=params 0 ar,l:=Env.empty,h:=hr}:=⟨QT har,(fun n v h=>by cases h),⟨(fun i o h=>by simp at h),(fun i j a o o' h=>by cases h),(fun _ _=>rfl),(fun i a h=>by cases h)⟩⟩;obtain ⟨k,e,sr',ρ',st',g1,⟨he,hq⟩,g3,g4,_⟩:=Sem.of (by simpa only [List.all_cons,List.all_nil,Bool.and_true,Fr1.ok] using hok) hR ρ0 _ hS (Nat.zero_le _);have hb:Ex Γ k (.code F.body {s:=params 0 ar,l:=Env.empty,h:=hr}) (.st e sr'):=by
    cases g1 with
    | code h h'=>cases h';exact h
    | codeX h he' hx h'=>cases e<;>simp [exK] at hx
    | codeE h he' hx=>exact h
  unfold FinF at hq;split at hq
  · rename_i vs hvs;obtain ⟨μ,m1,m2,m3⟩:=hq;obtain ⟨rs,q1,q2⟩:=QV g3 hvs;have hx:=Ex.fn hg (by rw [har.length];exact hn) hb he q1;obtain ⟨r1,r2⟩:=qWP m1 m2 g3.h;exact ⟨k+1,_,_,_,hx,r1,m3.rel (ZS q2),g4.trans r2⟩
  · exact hq.elim
mutual
theorem qU2 {μ:List (Option Nat)}:∀(t:AV) (a b:Nat),t.pl=true→(∀i,i<t.rows→μ[b+i]?=some (some (a+i)))→VR2 μ (lay t a).1 (lay t b).1
  |.lst w xs _,a,b,_,h=>by
    simp only [lay];exact .slice (by have:=h 0 (by simp only [AV.rows];omega);simpa using this)
  |.agg xs,a,b,hp,h=>by
    simp only [lay];have:=WN xs a b hp h;exact .agg this.1 this.2
  |.tup xs,a,b,hp,h=>by
    simp only [lay];have:=WN xs a b hp h;exact .tup this.1 this.2
  |.bool _,_,_,_,_ |.int _ _,_,_,_,_ |.str _,_,_,_,_ |.nilp,_,_,_,_ |.nils,_,_,_,_ |.nilm,_,_,_,_ |.nilf,_,_,_,_ |.nili,_,_,_,_=>by
    simp only [lay];exact .tree rfl
  |.any,_,_,hp,_ |.ptr _ _ _,_,_,hp,_ |.slice _ _ _ _ _,_,_,hp,_ |.map _,_,_,hp,_ |.ept _ _,_,_,hp,_ |.fn _ _,_,_,hp,_ |.iface _ _,_,_,hp,_=>by cases hp
theorem WN {μ:List (Option Nat)}:∀(xs:List AV) (a b:Nat),AV.pls xs=true→(∀i,i<AV.rowss xs→μ[b+i]?=some (some (a+i)))→VR2s μ (qP xs a).1 (qP xs b).1
  |[],_,_,_,_=>VR2s.nil
  | x::xs,a,b,hp,h=>by
    simp only [AV.pls,bAt] at hp;simp only [AV.rowss] at h;simp only [qP,qt];refine .cons (qU2 x a b hp.1 fun i hi=>h i (by omega)) (WN xs _ _ hp.2 fun i hi=> ?_);rw [show b+x.rows+i=b+(x.rows+i) by omega,show a+x.rows+i=a+(x.rows+i) by omega];exact h _ (by omega)
end
mutual
theorem qU1 {μ:List (Option Nat)} {h:List qC}:∀(t:AV) (a b:Nat),t.pl=true→(∀i,i<t.rows→μ[b+i]?=some (some (a+i)))→(∀i o,(lay t a).2[i]?=some o→h[a+i]?=some o)→
    ∀i o,(lay t b).2[i]?=some o→OR2 μ h (some (a+i)) o
  |.lst w xs _,a,b,hp,hm,hh,i,o,hi=>by
    simp only [lay] at hi hh;simp only [AV.rows] at hm;have hm':∀i,i<AV.rowss xs→μ[b+1+i]?=some (some (a+1+i)):=fun i hi=>by
      rw [show b+1+i=b+(i+1) by omega,show a+1+i=a+(i+1) by omega];exact hm _ (by omega)
    cases i with
    | zero=>
      simp only [List.getElem?_cons_zero,Option.some.injEq] at hi;subst hi;exact .row (hh 0 _ rfl) (WN xs _ _ hp hm')
    | succ i=>
      have:=WM xs (a+1) (b+1) hp hm' (fun i o hi=>by
        rw [show a+1+i=a+(i+1) by omega];exact hh (i+1) o (by simpa using hi)) i o (by simpa using hi)
      rw [show a+1+i=a+(i+1) by omega] at this;exact this
  |.agg xs,a,b,hp,hm,hh,i,o,hi=>by
    simp only [lay] at hi hh;exact WM xs a b hp hm hh i o hi
  |.tup xs,a,b,hp,hm,hh,i,o,hi=>by
    simp only [lay] at hi hh;exact WM xs a b hp hm hh i o hi
  |.bool _,_,_,_,_,_,_,_,h |.int _ _,_,_,_,_,_,_,_,h |.str _,_,_,_,_,_,_,_,h |.nilp,_,_,_,_,_,_,_,h |.nils,_,_,_,_,_,_,_,h |.nilm,_,_,_,_,_,_,_,h |.nilf,_,_,_,_,_,_,_,h |.nili,_,_,_,_,_,_,_,h=>by
    simp [lay] at h
  |.any,_,_,hp,_,_,_,_,_ |.ptr _ _ _,_,_,hp,_,_,_,_,_ |.slice _ _ _ _ _,_,_,hp,_,_,_,_,_ |.map _,_,_,hp,_,_,_,_,_ |.ept _ _,_,_,hp,_,_,_,_,_ |.fn _ _,_,_,hp,_,_,_,_,_ |.iface _ _,_,_,hp,_,_,_,_,_=>by cases hp
theorem WM {μ:List (Option Nat)} {h:List qC}:∀(xs:List AV) (a b:Nat),AV.pls xs=true→(∀i,i<AV.rowss xs→μ[b+i]?=some (some (a+i)))→(∀i o,(qP xs a).2[i]?=some o→h[a+i]?=some o)→
    ∀i o,(qP xs b).2[i]?=some o→OR2 μ h (some (a+i)) o
  |[],_,_,_,_,_,_,_,hi=>by simp [qP] at hi
  | x::xs,a,b,hp,hm,hh,i,o,hi=>by
    simp only [AV.pls,bAt] at hp;simp only [AV.rowss] at hm;simp only [qP,qt] at hi hh;rcases Nat.lt_or_ge i x.rows with q | q
    · rw [List.getElem?_append_left (by rw [qt];exact q)] at hi;exact qU1 x a b hp.1 (fun i hi=>hm i (by omega)) (fun i o hi=>hh i o (by rw [List.getElem?_append_left (List.getElem?_eq_some_iff.1 hi).1];exact hi)) i o hi
    · rw [List.getElem?_append_right (by rw [qt];exact q),qt] at hi;have:=WM xs (a+x.rows) (b+x.rows) hp.2 (fun i hi=>by
        rw [show b+x.rows+i=b+(x.rows+i) by omega,show a+x.rows+i=a+(x.rows+i) by omega];exact hm _ (by omega)) (fun i o hi=>by
        rw [show a+x.rows+i=a+(x.rows+i) by omega];exact hh _ o (by rw [List.getElem?_append_right (by rw [qt];omega),qt,Nat.add_sub_cancel_left];exact hi)) (i-x.rows) o hi
      rw [show a+x.rows+(i-x.rows)=a+i by omega] at this;exact this
end
theorem qRB {μ:List (Option Nat)} {h:List qC}:∀{r:List (Option Nat)} {h':List qC},r.length=h'.length→(∀(i:Nat) (j:Option Nat) (o:qC),r[i]?=some j→h'[i]?=some o→OR2 μ h j o)→wz μ h r h'
  |[],[],_,_=>trivial
  | j::r,o::h',hl,hh=>⟨hh 0 j o rfl rfl,qRB (by simpa using hl) fun i j o h1 h2=>hh (i+1) j o (by simpa using h1) (by simpa using h2)⟩
  |[],_::_,hl,_=>by simp at hl
  | _::_,[],hl,_=>by simp at hl
theorem Z7:∀{l:List Nat},l.Nodup→jp (l.map some)=true
  |[],_=>rfl
  | x::l,h=>by
    rw [List.nodup_cons] at h;simp only [List.map_cons,jp,bAt,List.all_eq_true];refine ⟨fun y hy=> ?_,Z7 h.2⟩;obtain ⟨z,hz,rfl⟩:=List.mem_map.1 hy;have:x≠z:=fun e=>h.1 (by rw [e];exact hz);have hb:Nat.beq x z=false:=by
      rw [←Bool.not_eq_true];intro q;exact this (Nat.eq_of_beq_eq_true q)
    show (!Nat.beq x z)=true;rw [hb];rfl
theorem QF {vs:List AV} {h pre post:List qC} {t:AV} (hp:t.pl=true) (hv:zO vs=(lay t pre.length).1) (hh:h=pre++((lay t pre.length).2++post)):FinF (some vs) h t:=by
  have hm:∀i,i<t.rows→((List.range' pre.length t.rows).map some)[0+i]?=some (some (pre.length+i)):=fun i hi=>by
    rw [List.getElem?_map,List.getElem?_range' (by omega)];simp
  refine ⟨(List.range' pre.length t.rows).map some,Z7 (List.nodup_range'),qRB (by simp [qt]) fun i j o h1 h2=> ?_, ?_⟩
  · have hi:i<t.rows:=by have:=(List.getElem?_eq_some_iff.1 h2).1;rw [qt] at this;exact this
    have:=hm i hi;rw [Nat.zero_add] at this;rw [this] at h1;cases h1;refine qU1 t pre.length 0 hp hm (fun i o hi=> ?_) i o h2;rw [hh,List.getElem?_append_right (by omega),Nat.add_sub_cancel_left,List.getElem?_append_left (List.getElem?_eq_some_iff.1 hi).1];exact hi
  · rw [hv];exact qU2 t _ _ hp hm
def Mark (Γ:Nat→Option AFn) (g:Nat) (t t':AV) (k k':Int):Prop:=
  t.pl=true∧t'.pl=true∧t'.rows=t.rows∧∀ρ hr r,qq ρ (lay t 0).2 hr→RelV ρ (lay t 0).1 r→∃kk hr' ρ',Ex Γ kk (.call g [r,.int .i64 k] hr) (.res (.ok (.int .i64 k')) hr')∧qq ρ' (lay t' 0).2 hr'∧Fm t.rows ρ hr ρ' hr'
def Yx (vs:Option (List AV)) (h:List qC) (k:Int) (os:List qC):Prop:=vs=some [.int .i64 k]∧h=os
def WB (res:List zY) (k:Int) (os:List qC):qb→VSt→Prop:=fun e st=>(e=.nrm∨e=.ret)∧Yx (zR (zf st) res) st.h k os
@[go_sem] theorem zEQ {res:List zY} {k:Int} {os:List qC} {s m:qg} {h:List qC}:WB res k os .ret ⟨s,m,h⟩=Yx (zR (zf ⟨s,m,h⟩) res) h k os:=by
  simp [WB]
@[go_sem] theorem zEP {res:List zY} {k:Int} {os:List qC} {s m:qg} {h:List qC}:WB res k os .nrm ⟨s,m,h⟩=Yx (zR (zf ⟨s,m,h⟩) res) h k os:=by
  simp [WB]
theorem qQG {h os:List qC} {k k':Int} (hk:k=k') (hh:h=os):Yx (some [.int .i64 k]) h k' os:=⟨by rw [hk],hh⟩
theorem Mark.intro {F:qJ} {t t':AV} {k k':Int} (hg:Γ g=some (.fn F)) (hok:F.body.ok=true) (hn:F.np=2) (hp:t.pl=true) (hp':t'.pl=true) (hl:t'.rows=t.rows)
    (hR:R ⟨Γ,t.rows,[],[]⟩ [.code F.body] ⟨qL 0 [(lay t 0).1,.int .i64 k],[],(lay t 0).2⟩ (WB F.res k' (lay t' 0).2)):Mark Γ g t t' k k':=by
  refine ⟨hp,hp',hl,fun ρ hr r hH hv=> ?_⟩;have hS:zG ρ ⟨qL 0 [(lay t 0).1,.int .i64 k],[],(lay t 0).2⟩ {s:=params 0 [r,.int .i64 k],l:=Env.empty,h:=hr}:=
    ⟨QT (by simp only [RelVs];exact ⟨_,_,rfl,hv,_,_,rfl,by simp only [RelV],rfl⟩),(fun n v h=>by cases h),hH⟩
  obtain ⟨kk,e,sr',ρ',st',g1,⟨he,hq⟩,g3,g4,_⟩:=Sem.of (by simpa only [List.all_cons,List.all_nil,Bool.and_true,Fr1.ok] using hok) hR ρ _ hS (by rw [qt];exact Nat.le_refl _);have hb:Ex Γ kk (.code F.body {s:=params 0 [r,.int .i64 k],l:=Env.empty,h:=hr}) (.st e sr'):=by
    cases g1 with
    | code h h'=>cases h';exact h
    | codeX h he' hx h'=>cases e<;>simp [exK] at hx
    | codeE h he' hx=>exact h
  obtain ⟨q1,q2⟩:=hq;obtain ⟨rs,q3,q4⟩:=QV g3 q1;have hx:=Ex.fn hg (by rw [hn];rfl) hb he q3;have hr1:RelV ρ' (.int .i64 k') (zO rs):=ZS q4;simp only [RelV] at hr1;rw [hr1] at hx;exact ⟨kk+1,_,ρ',hx,by rw [←q2];exact g3.h,g4⟩
theorem SCall.mark {K:AV→List qC→Prop} {pre post h:List qC} {t t':AV} {k k':Int} {v:AV} (hm:Mark Γ g t t' k k') (hh:h=pre++((lay t pre.length).2++post)) (hva:v=(lay t pre.length).1)
    (hk:K (.int .i64 k') (pre++((lay t' pre.length).2++post))):SCall Γ g [v,.int .i64 k] h K:=fun ρ hr ar hH hv=>by
  obtain ⟨hp,hp',hl,hm⟩:=hm;subst hh;subst hva;simp only [RelVs,RelV] at hv;obtain ⟨r,rs,rfl,hv,_,_,rfl,rfl,rfl⟩:=hv;obtain ⟨n,hn⟩:∃n,n=pre.length:=⟨_,rfl⟩;rw [←hn] at hH hv hk;have mid:∀i,(hi:i<t.rows)→∃w xs b,(pre++((lay t n).2++post))[n+i]?=some (.row w (qP xs b).1 true)∧(lay t n).2[i]?=some (.row w (qP xs b).1 true):=fun i hi=>by
    have hlt:i<(lay t n).2.length:=by rw [qt];exact hi
    obtain ⟨w,xs,b,e,_⟩:=QK t n i _ hp (gEg hlt);refine ⟨w,xs,b, ?_,by rw [gEg hlt,e]⟩;rw [List.getElem?_append_right (by omega),←hn,Nat.add_sub_cancel_left,List.getElem?_append_left hlt,gEg hlt,e]
  have sh:Sh2 ρ n (fun i=>if i<t.rows then ρ (n+i) else none) 0 t.rows:=fun i hi=>by
    simp only [Nat.zero_add];rw [if_pos hi]
  have lies:Lies ρ n (lay t n).2 hr:=fun i o hi=>hH.obj (n+i) o (by
    rw [List.getElem?_append_right (by omega),←hn,Nat.add_sub_cancel_left,List.getElem?_append_left (List.getElem?_eq_some_iff.1 hi).1];exact hi)
  have lies0:=Vp t n 0 hp sh (fun _ _ _ _ _ h=>h) lies;have hH0:qq (fun i=>if i<t.rows then ρ (n+i) else none) (lay t 0).2 hr:=by
    refine ⟨fun i o hi=>by have:=lies0 i o hi;rwa [Nat.zero_add] at this,fun i j a o o' h1 h2 _ _ _ _=> ?_,fun i hi=> ?_,fun i a ha=> ?_⟩
    · try simp only at h1 h2
      split at h1
      · rename_i q1;split at h2
        · rename_i q2;obtain ⟨w1,x1,b1,e1,_⟩:=mid i q1;obtain ⟨w2,x2,b2,e2,_⟩:=mid j q2;have:=hH.inj _ _ a _ _ h1 h2 e1 e2 (by simp) (by simp);omega
        · cases h2
      · cases h1
    · rw [qt] at hi;show (if i<t.rows then ρ (n+i) else none)=none;rw [if_neg (by omega)]
    · try simp only at ha
      split at ha
      · exact hH.is _ a ha
      · cases ha
  obtain ⟨kk,hr',ρ',hx,hH',hF⟩:=hm _ hr r hH0 (qQY t n 0 r hp sh hv);have hρ:∀i,ρ' i=if i<t.rows then ρ (n+i) else none:=fun i=>by
    by_cases q:i<t.rows
    · exact hF.base i q
    · rw [if_neg q];exact hH'.out i (by rw [qt];omega)
  have sh':Sh2 ρ' 0 ρ n t'.rows:=fun i hi=>by
    rw [Nat.zero_add,hρ,if_pos (by omega)]
  have lies':Lies ρ n (lay t' n).2 hr':=Vp t' 0 n hp' sh' (fun _ _ _ _ _ h=>h) (fun i o hi=>by rw [Nat.zero_add];exact hH'.obj i o hi);have out:∀(i a:Nat) (o:qC),(i<n∨n+t.rows≤i)→(pre++((lay t n).2++post))[i]?=some o→o≠.dead→ρ i=some (some a)→∀x,hr a=some x→hr' a=some x:=fun i a o hi ho hd ha x hxx=>by
    refine hF.pres a x hxx fun j hj=> ?_
    try simp only at hj
    split at hj
    · rename_i q;obtain ⟨w,xs,b,e,_⟩:=mid j q;have:=hH.inj _ _ a _ _ ha hj ho e hd (by simp);omega
    · cases hj
  have hlen:(lay t' n).2.length=t.rows:=by rw [qt,hl]
  have hlen0:(lay t n).2.length=t.rows:=by rw [qt]
  have oldAt:∀(i:Nat) (o:qC),(pre++((lay t' n).2++post))[i]?=some o→(i<n∨n+t.rows≤i)→(pre++((lay t n).2++post))[i]?=some o:=fun i o ho hi=>by
    rcases hi with q | q
    · rw [List.getElem?_append_left (by omega)] at ho⊢;exact ho
    · rw [List.getElem?_append_right (by omega),List.getElem?_append_right (by omega)] at ho⊢;rw [hlen] at ho;rw [hlen0];exact ho
  refine ⟨kk,_,hr',ρ,_,_,hx,hk,⟨fun i o hi=> ?_,fun i j a o o' h1 h2 hi hj d1 d2=> ?_,fun i hi=>hH.out i (by simp only [lAp,hlen,hlen0] at hi⊢;exact hi),fun i a ha=> ?_⟩,by simp only [RelV],⟨fun a o ho hno=>hF.pres a o ho fun j hj=> ?_,fun i a ha=>.inl ⟨i,ha⟩,hF.fr,fun _ _=>rfl⟩,by simp only [lAp,qt,hl];omega⟩
  · by_cases q:i<n∨n+t.rows≤i
    · have ho:=oldAt i o hi q;by_cases hd:o=.dead
      · subst hd;trivial
      · exact (hH.obj i o ho).mono (fun _ _ h=>h) fun a x ha hxx=>out i a o q ho hd ha x hxx
    · have q1:n≤i:=by omega
      have:=lies' (i-n) o (by
        rw [List.getElem?_append_right (by omega),List.getElem?_append_left (by rw [hlen];omega),←hn] at hi;exact hi)
      rwa [show n+(i-n)=i by omega] at this
  · have back:∀(i:Nat) (o:qC),(pre++((lay t' n).2++post))[i]?=some o→o≠.dead→∃o2,(pre++((lay t n).2++post))[i]?=some o2∧o2≠.dead:=fun i o ho hd=>by
      by_cases q:i<n∨n+t.rows≤i
      · exact ⟨o,oldAt i o ho q,hd⟩
      · obtain ⟨w,xs,b,e,_⟩:=mid (i-n) (by omega);rw [show n+(i-n)=i by omega] at e;exact ⟨_,e,by simp⟩
    obtain ⟨o2,e1,e2⟩:=back i o hi d1;obtain ⟨o3,e3,e4⟩:=back j o' hj d2;exact hH.inj i j a o2 o3 h1 h2 e1 e3 e2 e4
  · obtain ⟨o,ho⟩:=hH.is i a ha;by_cases q:∃j,ρ' j=some (some a)
    · obtain ⟨j,hj⟩:=q;exact hH'.is j a hj
    · refine ⟨o,hF.pres a o ho fun j hj=>q ⟨j, ?_⟩⟩;rw [hρ];exact hj
  · try simp only at hj
    split at hj
    · exact hno _ hj
    · cases hj
mutual
def AV.cn:AV→Bool
  |.lst w xs c=>decide (0<w)&& !c&&AV.cns xs
  |.agg xs |.tup xs=>AV.cns xs
  | _=>true
def AV.cns:List AV→Bool
  |[]=>true
  | x::xs=>AV.cn x&&AV.cns xs
end
theorem qkK {h:List qC} {a b:AV} {as bs:List AV} (x:Cv h a b) (y:∀p∈as.zip bs,Cv h p.1 p.2):∀p∈(a::as).zip (b::bs),Cv h p.1 p.2:=fun p hp=>by
  simp only [List.zip_cons_cons,List.mem_cons] at hp;rcases hp with rfl | hp
  · exact x
  · exact y p hp
mutual
theorem qU3 {h:List qC}:∀(t:AV) (a:Nat),t.pl=true→t.cn=true→(∀i o,(lay t a).2[i]?=some o→h[a+i]?=some o)→Cv h (lay t a).1 t
  |.lst w xs c,a,hp,hc,hh=>by
    simp only [AV.cn,bAt,decide_eq_true_eq,Bool.not_eq_true'] at hc;obtain ⟨⟨h0,rfl⟩,hc⟩:=hc;simp only [lay] at hh⊢;have l:=wU xs (a+1);refine .slc (hh 0 _ rfl) (by omega) h0 (by rw [List.drop_zero,←l,List.take_length,l]) ?_;rw [List.drop_zero,←l,List.take_length];exact Vq xs (a+1) hp hc fun i o hi=>by
      rw [show a+1+i=a+(i+1) by omega];exact hh (i+1) o (by simpa using hi)
  |.agg xs,a,hp,hc,hh=>by
    simp only [lay] at hh⊢;exact .agg (wU xs a) (Vq xs a hp hc hh)
  |.tup xs,a,hp,hc,hh=>by
    simp only [lay] at hh⊢;exact .tup (wU xs a) (Vq xs a hp hc hh)
  |.bool _,_,_,_,_ |.int _ _,_,_,_,_ |.str _,_,_,_,_ |.nilp,_,_,_,_ |.nils,_,_,_,_ |.nilm,_,_,_,_ |.nilf,_,_,_,_ |.nili,_,_,_,_=>by
    simp only [lay];exact .refl rfl
  |.any,_,hp,_,_ |.ptr _ _ _,_,hp,_,_ |.slice _ _ _ _ _,_,hp,_,_ |.map _,_,hp,_,_ |.ept _ _,_,hp,_,_ |.fn _ _,_,hp,_,_ |.iface _ _,_,hp,_,_=>by cases hp
theorem Vq {h:List qC}:∀(xs:List AV) (a:Nat),AV.pls xs=true→AV.cns xs=true→(∀i o,(qP xs a).2[i]?=some o→h[a+i]?=some o)→∀p∈(qP xs a).1.zip xs,Cv h p.1 p.2
  |[],_,_,_,_=>fun p hp=>by simp at hp
  | x::xs,a,hp,hc,hh=>by
    simp only [AV.pls,bAt] at hp;simp only [AV.cns,bAt] at hc;simp only [qP,qt] at hh⊢;refine qkK (qU3 x a hp.1 hc.1 fun i o hi=>hh i o (by rw [List.getElem?_append_left (List.getElem?_eq_some_iff.1 hi).1];exact hi)) (Vq xs _ hp.2 hc.2 fun i o hi=> ?_);rw [show a+x.rows+i=a+(x.rows+i) by omega];exact hh _ o (by rw [List.getElem?_append_right (by rw [qt];omega),qt,Nat.add_sub_cancel_left];exact hi)
end
theorem qQV {pre post h:List qC} {t:AV} (hp:t.pl=true) (hc:t.cn=true) (hh:h=pre++((lay t pre.length).2++post)):Cv h (lay t pre.length).1 t:=
  qU3 t _ hp hc fun i o hi=>by
    rw [hh,List.getElem?_append_right (by omega),Nat.add_sub_cancel_left,List.getElem?_append_left (List.getElem?_eq_some_iff.1 hi).1];exact hi
end
section
variable {E:Ev} {ks:List Fr1} {s m:qg} {h:List qC} {Q:qb→VSt→Prop} {l:List qB}
theorem wg {ck:Bool} {k e:Nat} {vs:List AV} {t:AV} (hp:Fresh E.Γ k vs t) (hr:R E (.ops l::ks) ⟨(e,(lay t h.length).1)::s,m,h++(lay t h.length).2⟩ Q):z0 E (some (k,vs)) ck (some e) l ks ⟨s,m,h⟩ Q:=by
  unfold z0;cases ck
  · exact SCall.fresh hp hr
  · exact SCallK.fresh hp hr
theorem qaA {ck:Bool} {k e:Nat} {vs vs':List AV} {t:AV} (hc:Cvs h vs vs') (hp:Fresh E.Γ k vs' t) (hr:R E (.ops l::ks) ⟨(e,(lay t h.length).1)::s,m,h++(lay t h.length).2⟩ Q):z0 E (some (k,vs)) ck (some e) l ks ⟨s,m,h⟩ Q:=by
  unfold z0;cases ck
  · exact SCall.freshL hc hp hr
  · exact SCallK.freshL hc hp hr
theorem qaC {k e:Nat} {pre post:List qC} {t t':AV} {a b:Int} {v:AV} (hm:Mark E.Γ k t t' a b) (hh:h=pre++((lay t pre.length).2++post)) (hv:v=(lay t pre.length).1)
    (hr:R E (.ops l::ks) ⟨(e,.int .i64 b)::s,m,pre++((lay t' pre.length).2++post)⟩ Q):z0 E (some (k,[v,.int .i64 a])) false (some e) l ks ⟨s,m,h⟩ Q:=by
  unfold z0;exact SCall.mark hm hh hv hr
end
end Go.Ab
namespace Go.Ab
open Go
section
variable {α:Type} {enc:α→AV} {w:Nat} {sh:Option Nat} {Γ:Nat→Option AFn} {g gc:Nat}
theorem jL (h:∀x,(enc x).pl=true):∀xs:List α,AV.pls (xs.map enc)=true
  |[]=>rfl
  | x::xs=>by simp only [List.map_cons,AV.pls,h x,jL h xs,Bool.and_self]
theorem VK (h:∀x,(enc x).cn=true):∀xs:List α,AV.cns (xs.map enc)=true
  |[]=>rfl
  | x::xs=>by simp only [List.map_cons,AV.cns,h x,VK h xs,Bool.and_self]
theorem ZD {t:AV} {n:Nat} (hp:t.pl=true):(lay t n).1.cells.length=t.cells.length:=by
  cases t<;>first
    | rfl
    | (cases hp;done)
    | (simp only [lay,AV.cells];exact wU _ _)
theorem qd9 {t:AV} {n:Nat} (hp:t.pl=true):(∃cs,(lay t n).1=.agg cs)↔∃cs,t=.agg cs:=by
  cases t<;>simp [lay]<;>first
    | (cases hp;done)
    | skip
theorem qU5 {t:AV} {n k:Nat} (hp:t.pl=true) (ha:∃cs,t=.agg cs) (hk:t.cells.length=k):(lay t n).1.part 0 (some k)=some (lay t n).1:=by
  obtain ⟨cs,rfl⟩:=ha;simp only [AV.cells] at hk;simp only [lay,AV.part,AV.cells,wU,hk,Nat.zero_add,Nat.le_refl,if_true,List.drop_zero];rw [List.take_of_length_le (by rw [wU];omega)]
theorem qbO {z:AV} {A:List AV} {i n:Nat} (hl:A.length=i) (hi:i<n):(A++List.replicate (n-i) z)[i]?=some z:=by
  rw [List.getElem?_append_right (by omega),hl,Nat.sub_self,List.getElem?_replicate,if_pos (by omega)]
theorem qi5 {z v:AV} {A:List AV} {i n:Nat} (hl:A.length=i) (hi:i<n):(A++List.replicate (n-i) z).set i v=A++(v::List.replicate (n-(i+1)) z):=by
  rw [List.set_append_right _ _ (by omega),hl,Nat.sub_self,show n-i=(n-(i+1))+1 by omega,List.replicate_succ,List.set_cons_zero]
theorem qXY {z:AV} (hs:Sh enc w sh) (hpl:∀x,(enc x).pl=true) (hz:z.tree=true) (hzl:z.cells.length=w) (hza:(∃cs,z=.agg cs)↔sh≠none) (hg:Γ g=some (.fn (toS w sh z gc))) (xs:List α) (hc:∀x∈xs,Fresh Γ gc [enc x] (enc x)) (hl:xs.length≤1048576):
    Fresh Γ g [.lst w (xs.map enc) false] (.lst w (xs.map enc) false):=by
  have ht:AV.trees (xs.map enc)=true:=zq hs.tree xs;refine Fresh.intro [] [] hg (by simp [toS,qI.ok,AOp.ok,JN,Ao.ok,AV.tree,hz,qB.o,qB.d,qB.ck,AOp.isCall]) rfl (by simp [AV.trees,AV.tree,ht]) (jL hpl xs) ?_;simp only [toS,qL,go_sem,Nat.reduceEqDiff,reduceIte];refine ZM (by simp only [List.length_map,LIM];omega) ?_;simp only [go_sem,Nat.reduceEqDiff,reduceIte];refine Sem.loop (fun i:Nat=>i≤xs.length)
    (fun i=>(⟨[(0,.lst w (xs.map enc) false),(3,.slice w 0 0 xs.length false),(4,.int .i64 (i:Nat))],[],.row w ((qP ((xs.take i).map enc) 1).1++List.replicate (xs.length-i) z) true::(qP ((xs.take i).map enc) 1).2⟩:VSt)) (fun i=>xs.length-i) 0
    (by simp [Fr1.ok,qI.ok,AOp.ok,JN,Ao.ok,AV.tree,qB.o,qB.d,qB.ck,AOp.isCall]) (Nat.zero_le _) ?_ ?_
  · simp only [List.take_zero,List.map_nil,qP,List.nil_append,Nat.sub_zero,List.length_map,List.length_nil];exact Can.sub (by simp [go_sem]) trivial
  · intro i hi;simp only [go_sem,Nat.reduceEqDiff,reduceIte];refine qD ?_ ?_<;>intro hc2<;>simp only [hc2,go_sem,Nat.reduceEqDiff,reduceIte]
    · have hlt:i<xs.length:=by have:=odT hc2;(try simp only [List.length_map] at this);omega
      have hA:(qP ((xs.take i).map enc) 1).1.length=i:=by rw [wU];simp;omega
      simp only [List.getElem?_map,gEg hlt,Option.map_some,hs.part,go_sem,Nat.reduceEqDiff,reduceIte,Bool.not_true];refine wg (hc xs[i] (gMm hlt)) ?_;simp only [go_sem,Nat.reduceEqDiff,reduceIte,z5 hlt,Nat.zero_add,List.cons_append];refine z7 (by rw [ZD (hpl _)];exact hs.len _) rfl (qbO hA hlt) (Wa hzl (by rw [ZD (hpl _)];exact hs.len _) (by rw [hza,qd9 (hpl _),hs.agg]) hs.pos) ?_;rw [qi5 hA hlt];simp only [go_sem,Nat.reduceEqDiff,reduceIte,qe (show i<4611686018427387904 by omega),List.set_cons_zero];refine qZ (i+1) (by omega) (by omega) ?_;have e:(xs.take (i+1)).map enc=(xs.take i).map enc++[enc xs[i]]:=by
        rw [List.take_succ_eq_append_getElem hlt,List.map_append];rfl
      simp only [e,ZE,qP,List.append_nil,List.append_assoc,List.length_cons,jK,List.cons_append,List.nil_append,Nat.add_comm 1];exact Can.sub (by simp [go_sem]) trivial
    · have hge:i=xs.length:=by have:=odF hc2;(try simp only [List.length_map] at this);omega
      subst hge;simp only [List.take_length,Nat.sub_self,List.replicate_zero,List.append_nil];exact QF (pre:=[]) (post:=[]) (jL hpl xs) (by simp [zO,lay]) (by simp [lay])
theorem lI (ys:List Int):∀n,qP (ys.map qE) n=(ys.map qE,[]):=by
  induction ys with
  | nil=>intro n;rfl
  | cons y ys ih=>intro n;simp only [List.map_cons,qP,qE,lay,List.length_nil,Nat.add_zero,List.nil_append,ih]
theorem qj5 (hg:Γ g=some (.fn Wn)) (xs:List Int) (hl:xs.length≤1048576):Fresh Γ g [.lst 1 (xs.map qE) false] (.lst 1 (xs.map qE) false):=by
  have ht:AV.trees (xs.map qE)=true:=zq shI.tree xs;refine Fresh.intro [] [] hg (by kernel_rfl) rfl (by simp [AV.trees,AV.tree,ht]) (jL (fun _=>rfl) xs) ?_;simp only [Wn,qL,go_sem,Nat.reduceEqDiff,reduceIte];refine ZM (by simp only [List.length_map,LIM];omega) ?_;simp only [go_sem,Nat.reduceEqDiff,reduceIte];refine Sem.loop (fun i:Nat=>i≤xs.length)
    (fun i=>(⟨[(0,.lst 1 (xs.map qE) false),(3,.slice 1 0 0 xs.length false),(4,.int .i64 (i:Nat))],[],[.row 1 ((xs.take i).map qE++List.replicate (xs.length-i) (.int .i64 0)) true]⟩:VSt)) (fun i=>xs.length-i) 0
    (by kernel_rfl) (Nat.zero_le _) ?_ ?_
  · simp only [List.take_zero,List.map_nil,List.nil_append,Nat.sub_zero,List.length_map,List.length_nil];exact Can.sub (by simp [go_sem]) trivial
  · intro i hi;simp only [go_sem,Nat.reduceEqDiff,reduceIte];refine qD ?_ ?_<;>intro hc2<;>simp only [hc2,go_sem,Nat.reduceEqDiff,reduceIte]
    · have hlt:i<xs.length:=by have:=odT hc2;(try simp only [List.length_map] at this);omega
      simp only [List.getElem?_map,gEg hlt,Option.map_some,shI.part,go_sem,Nat.reduceEqDiff,reduceIte,z5 hlt,Nat.zero_add];refine z7 (shI.len _) rfl (qQD hlt) (Wa (k:=1) rfl (shI.len _) (by simp [qE]) (by decide)) ?_;rw [qRX hlt];simp only [go_sem,Nat.reduceEqDiff,reduceIte,qe (show i<4611686018427387904 by omega)];exact qZ (i+1) (by omega) (by omega) (Can.sub (by simp [go_sem]) trivial)
    · have hge:i=xs.length:=by have:=odF hc2;(try simp only [List.length_map] at this);omega
      subst hge;simp only [List.take_length,Nat.sub_self,List.replicate_zero,List.append_nil];exact QF (pre:=[]) (post:=[]) (jL (fun _=>rfl) xs) (by simp [zO,lay]) (by simp [lay,lI])
def mkL (f:α→Int→α) (c:α→Nat):List α→Int→List α
  |[],_=>[]
  | x::xs,k=>f x k::mkL f c xs (k+c x)
theorem JD (f:α→Int→α) (c:α→Nat):∀(xs:List α) (k:Int),(mkL f c xs k).length=xs.length
  |[],_=>rfl
  | x::xs,k=>by simp only [mkL,List.length_cons,JD f c xs]
theorem qRA (f:α→Int→α) (c:α→Nat):∀(xs ys:List α) (k:Int),mkL f c (xs++ys) k=mkL f c xs k++mkL f c ys (k+qG c xs)
  |[],ys,k=>by simp [mkL,qG]
  | x::xs,ys,k=>by
    simp only [List.cons_append,mkL,qRA f c xs ys,qG];congr 3;omega
theorem qVR (f:α→Int→α) (c:α→Nat) {xs:List α} {i:Nat} (h:i<xs.length) (k:Int):mkL f c (xs.take (i+1)) k=mkL f c (xs.take i) k++[f xs[i] (k+qG c (xs.take i))]:=by
  rw [List.take_succ_eq_append_getElem h,qRA];rfl
theorem qVQ (f:α→Int→α) (c:α→Nat) {xs:List α} {i:Nat} (h:i<xs.length) (k:Int):(mkL f c xs k)[i]?=some (f xs[i] (k+qG c (xs.take i))):=by
  have e:xs=xs.take i++xs[i]::xs.drop (i+1):=by rw [←List.drop_eq_getElem_cons h,List.take_append_drop]
  have:mkL f c xs k=mkL f c (xs.take i) k++mkL f c (xs[i]::xs.drop (i+1)) (k+qG c (xs.take i)):=by
    rw [←qRA,←e]
  rw [this,List.getElem?_append_right (by rw [JD];simp;omega),JD];simp [mkL,show min i xs.length=i by omega]
theorem qXU (c:α→Nat) {xs:List α} {i:Nat} (h:i<xs.length):qG c (xs.take (i+1))=qG c (xs.take i)+c xs[i]:=by
  have:∀(xs ys:List α),qG c (xs++ys)=qG c xs+qG c ys:=by
    intro xs ys;induction xs with
    | nil=>simp [qG]
    | cons x xs ih=>simp only [List.cons_append,qG,ih];omega
  rw [List.take_succ_eq_append_getElem h,this];simp [qG]
theorem qXS (c:α→Nat) (xs:List α) (i:Nat):qG c (xs.take i)≤qG c xs:=by
  have:∀(xs ys:List α),qG c (xs++ys)=qG c xs+qG c ys:=by
    intro xs ys;induction xs with
    | nil=>simp [qG]
    | cons x xs ih=>simp only [List.cons_append,qG,ih];omega
  have h:=this (xs.take i) (xs.drop i);rw [List.take_append_drop] at h;omega
def mkI (_:Int) (k:Int):Int:=k
def ctI (_:Int):Nat:=1
theorem JO:∀xs:List Int,qG ctI xs=xs.length
  |[]=>rfl
  | x::xs=>by simp only [qG,JO xs,ctI,List.length_cons];omega
def qVN:qJ:=⟨2,19,[.t 4],
 .seq (.reg true [⟨0,some 4,none,.mov (.c (.int .i64 0)),[]⟩]) (.seq (.seq (.reg true [⟨0,some 5,none,.mov (.c (.int .i64 0)),[]⟩]) (.blk 0 (.loop (.seq (.seq (.reg true [⟨0,some 6,none,.mov (.t 5),[]⟩,
⟨1,some 7,none,.mov (.t 0),[]⟩,
⟨2,some 8,none,.len (.t 7),[]⟩,
⟨3,some 9,none,.bin .lss (.t 6) (.t 8),[]⟩]) (.cond (.t 9) (.skip) (.exit 0))) (.seq (.blk 1 (.seq (.reg true [⟨0,some 12,none,.mov (.t 0),[]⟩,
⟨1,some 13,none,.mov (.t 5),[]⟩,
⟨2,some 14,none,.mov (.t 1),[]⟩,
⟨3,some 15,none,.iaddr 1 (.t 12) (.t 13),[]⟩,
⟨4,none,none,.store 1 (.t 15) (.t 14),[]⟩]) (.reg true [⟨0,some 16,none,.mov (.t 1),[]⟩,
⟨1,some 17,none,.bin .add (.t 16) (.c (.int .i64 1)),[]⟩,
⟨2,some 1,none,.mov (.t 17),[]⟩]))) (.reg true [⟨0,some 10,none,.mov (.t 5),[]⟩,
⟨1,some 11,none,.bin .add (.t 10) (.c (.int .i64 1)),[]⟩,
⟨2,some 5,none,.mov (.t 11),[]⟩])))))) (.seq (.reg true [⟨0,some 18,none,.mov (.t 1),[]⟩,
⟨1,some 4,none,.mov (.t 18),[]⟩]) (.ret)))⟩
def qUN:qJ:=⟨2,21,[.t 4],
 .seq (.reg true [⟨0,some 4,none,.mov (.c (.int .i64 0)),[]⟩]) (.seq (.seq (.reg true [⟨0,some 5,none,.mov (.c (.int .i64 0)),[]⟩]) (.blk 0 (.loop (.seq (.seq (.reg true [⟨0,some 6,none,.mov (.t 5),[]⟩,
⟨1,some 7,none,.mov (.t 0),[]⟩,
⟨2,some 8,none,.len (.t 7),[]⟩,
⟨3,some 9,none,.bin .lss (.t 6) (.t 8),[]⟩]) (.cond (.t 9) (.skip) (.exit 0))) (.seq (.blk 1 (.seq (.seq (.reg true [⟨0,some 12,none,.mov (.t 0),[]⟩,
⟨1,some 13,none,.mov (.t 5),[]⟩,
⟨2,some 14,none,.iaddr 1 (.t 12) (.t 13),[]⟩,
⟨3,some 15,none,.load none (.t 14),[]⟩,
⟨4,some 16,none,.mov (.t 1),[]⟩,
⟨5,some 17,none,.bin .neq (.t 15) (.t 16),[]⟩]) (.cond (.t 17) (.seq (.reg true [⟨0,some 4,none,.mov (.c (.int .i64 (-1))),[]⟩]) (.ret)) (.skip))) (.reg true [⟨0,some 18,none,.mov (.t 1),[]⟩,
⟨1,some 19,none,.bin .add (.t 18) (.c (.int .i64 1)),[]⟩,
⟨2,some 1,none,.mov (.t 19),[]⟩]))) (.reg true [⟨0,some 10,none,.mov (.t 5),[]⟩,
⟨1,some 11,none,.bin .add (.t 10) (.c (.int .i64 1)),[]⟩,
⟨2,some 5,none,.mov (.t 11),[]⟩])))))) (.seq (.reg true [⟨0,some 20,none,.mov (.t 1),[]⟩,
⟨1,some 4,none,.mov (.t 20),[]⟩]) (.ret)))⟩
theorem JC {A B:List AV} {e:AV} {i:Nat} (h:A.length=i):(A++e::B)[i]?=some e:=by
  rw [List.getElem?_append_right (by omega),h,Nat.sub_self];rfl
theorem Jy {A B:List AV} {e v:AV} {i:Nat} (h:A.length=i):(A++e::B).set i v=A++v::B:=by
  rw [List.set_append_right _ _ (by omega),h,Nat.sub_self,List.set_cons_zero]
theorem UQ (ys:List Int):AV.rowss (ys.map qE)=0:=by
  have:=jK (ys.map qE) 0;rw [lI] at this;exact this.symm
theorem QJ {xs:List AV} {c:Bool} {n:Nat}:(lay (.lst w xs c) n).1=.slice w n 0 xs.length false:=nr rfl
theorem qeA {A B:List AV} {t:AV} {c:Bool}:(lay (.lst w (A++t::B) c) 0).2=.row w ((qP A 1).1++(lay t (1+AV.rowss A)).1::(qP B (1+AV.rowss A+t.rows)).1) true::((qP A 1).2++((lay t (1+AV.rowss A)).2++(qP B (1+AV.rowss A+t.rows)).2)):=by
  simp only [lay,ZE,qP,qt,Nat.zero_add]
theorem qU4 {A B:List α} {z:α} {c:Bool}:(lay (.lst w ((A++z::B).map enc) c) 0).2=.row w ((qP (A.map enc) 1).1++(lay (enc z) (1+AV.rowss (A.map enc))).1::(qP (B.map enc) (1+AV.rowss (A.map enc)+(enc z).rows)).1) true::((qP (A.map enc) 1).2++((lay (enc z) (1+AV.rowss (A.map enc))).2++(qP (B.map enc) (1+AV.rowss (A.map enc)+(enc z).rows)).2)):=by
  rw [List.map_append,List.map_cons];exact qeA
theorem jh (f:α→Int→α) (c:α→Nat) (h:∀x k,(enc (f x k)).rows=(enc x).rows):∀(xs:List α) (k:Int),AV.rowss ((mkL f c xs k).map enc)=AV.rowss (xs.map enc)
  |[],_=>rfl
  | x::xs,k=>by simp only [mkL,List.map_cons,AV.rowss,h,jh f c h xs]
theorem UY {c z:α→Nat} (h:∀x,c x≤16+16*z x):∀xs:List α,qG c xs≤16*(xs.length+qG z xs)
  |[]=>Nat.le_refl _
  | x::xs=>by have:=UY h xs;have:=h x;simp only [qG,List.length_cons];omega
theorem qgE {F:qJ} (hg:Γ g=some (.fn F)) (hF:F=qVN) (xs:List Int) (k:Int) (h0:0≤k) (hk:k+(qG ctI xs:Nat)≤4611686018427387904) (hz:xs.length≤4194304):
    Mark Γ g (.lst 1 (xs.map qE) false) (.lst 1 ((mkL mkI ctI xs k).map qE) false) k (k+(qG ctI xs:Nat)):=by
  subst hF;rw [JO] at hk⊢;refine Mark.intro hg (by kernel_rfl) rfl (jL (fun _=>rfl) xs) (jL (fun _=>rfl) _) (by simp only [AV.rows,jh mkI ctI (enc:=qE) (fun _ _=>rfl)]) ?_;simp only [qVN,qL,lay,lI,go_sem,Nat.reduceEqDiff,reduceIte,List.length_map];refine Sem.loop (fun i:Nat=>i≤xs.length) (fun i=>(⟨[(0,.slice 1 0 0 xs.length false),(1,.int .i64 (k+(i:Nat))),(5,.int .i64 (i:Nat))],[],[.row 1 ((mkL mkI ctI (xs.take i) k).map qE++(xs.drop i).map qE) true]⟩:VSt)) (fun i=>xs.length-i) 0
    (by kernel_rfl) (Nat.zero_le _) (by simp only [List.take_zero,mkL,List.map_nil,List.nil_append,List.drop_zero,Int.ofNat_zero,Int.natCast_zero,Int.add_zero];exact Can.sub (by simp [go_sem]) (by simp [go_sem])) ?_
  intro i hi;simp only [go_sem,Nat.reduceEqDiff,reduceIte];refine qD ?_ ?_<;>intro hc<;>simp only [hc,go_sem,Nat.reduceEqDiff,reduceIte]
  · have hlt:i<xs.length:=by have:=odT hc;omega
    have hA:((mkL mkI ctI (xs.take i) k).map qE).length=i:=by rw [List.length_map,JD];simp;omega
    rw [List.drop_eq_getElem_cons hlt,List.map_cons];simp only [z5 hlt,Nat.zero_add,go_sem,Nat.reduceEqDiff,reduceIte];refine z7 (v:=.int .i64 (k+(i:Nat))) (e':=.int .i64 (k+(i:Nat))) (by rfl) (by rfl) (JC hA) (by rfl) ?_;simp only [List.set_cons_zero,Jy hA,go_sem,Nat.reduceEqDiff,reduceIte];rw [qj (n:=k+(i:Nat)+1) (by omega) (by omega)];simp only [qe (show i<4611686018427387904 by omega),go_sem,Nat.reduceEqDiff,reduceIte];refine qZ (i+1) (by omega) (by omega) ?_;have e:mkL mkI ctI (xs.take (i+1)) k=mkL mkI ctI (xs.take i) k++[k+(i:Nat)]:=by
      rw [qVR _ _ hlt,JO,List.length_take,show min i xs.length=i by omega];rfl
    rw [e,List.map_append,List.append_assoc];simp only [Int.natCast_add,Int.cast_ofNat_Int,←Int.add_assoc];exact Can.sub (by simp [go_sem]) (by simp [go_sem])
  · have hge:i=xs.length:=by have:=odF hc;omega
    subst hge;refine qQG rfl ?_;rw [List.take_length,List.drop_length,List.map_nil,List.append_nil]
theorem qdT {F:qJ} (hg:Γ g=some (.fn F)) (hF:F=qUN) (xs:List Int) (k:Int) (h0:0≤k) (hk:k+(qG ctI xs:Nat)≤4611686018427387904) (hz:xs.length≤4194304):
    Pure Γ g [.lst 1 ((mkL mkI ctI xs k).map qE) false,.int .i64 k] (.int .i64 (k+(qG ctI xs:Nat))):=by
  subst hF;rw [JO] at hk⊢;refine Pure.intro [] [] hg (by kernel_rfl) rfl (by simp [AV.trees,AV.tree,zq shI.tree]) rfl ?_;simp only [qUN,qL,go_sem,Nat.reduceEqDiff,reduceIte,List.length_map];refine Sem.loop (fun i:Nat=>i≤xs.length) (fun i=>(⟨[(0,.lst 1 ((mkL mkI ctI xs k).map qE) false),(1,.int .i64 (k+(i:Nat))),(5,.int .i64 (i:Nat))],[],[]⟩:VSt)) (fun i=>xs.length-i) 0
    (by kernel_rfl) (Nat.zero_le _) (by simp only [Int.ofNat_zero,Int.natCast_zero,Int.add_zero];exact Can.sub (by simp [go_sem]) (by simp [go_sem])) ?_
  intro i hi;simp only [go_sem,Nat.reduceEqDiff,reduceIte,List.length_map,JD];refine qD ?_ ?_<;>intro hc<;>simp only [hc,go_sem,Nat.reduceEqDiff,reduceIte]
  · have hlt:i<xs.length:=by have:=odT hc;omega
    have hget:=qVQ mkI ctI hlt k;rw [JO,List.length_take,show min i xs.length=i by omega] at hget;simp only [List.getElem?_map,hget,Option.map_some,mkI,qE,go_sem,Nat.reduceEqDiff,reduceIte,decide_true,Bool.not_true];rw [qj (n:=k+(i:Nat)+1) (by omega) (by omega)];simp only [qe (show i<4611686018427387904 by omega),go_sem,Nat.reduceEqDiff,reduceIte];refine qZ (i+1) (by omega) (by omega) ?_;simp only [Int.natCast_add,Int.cast_ofNat_Int,←Int.add_assoc];exact Can.sub (by simp [go_sem]) (by simp [go_sem])
  · have hge:i=xs.length:=by have:=odF hc;omega
    subst hge;exact qM rfl rfl
section
variable {E:Ev} {ks:List Fr1} {s m:qg} {h:List qC} {Q:qb→VSt→Prop} {l:List qB}
theorem Qv {k e n:Nat} {pre post:List qC} {t t':AV} {a b:Int} {v:AV} (hm:Mark E.Γ k t t' a b) (hn:pre.length=n) (hh:h=pre++((lay t n).2++post)) (hv:v=(lay t n).1)
    (hr:R E (.ops l::ks) ⟨(e,.int .i64 b)::s,m,pre++((lay t' n).2++post)⟩ Q):z0 E (some (k,[v,.int .i64 a])) false (some e) l ks ⟨s,m,h⟩ Q:=by
  subst hn;exact qaC hm hh hv hr
end
end
end Go.Ab
namespace Go.Ab
open Go
section
variable {Γ:Nat→Option AFn} {g:Nat} {w:Nat} {z:AV}
def Z4 (w:Nat):qJ:=⟨1,8,[.t 2],.seq (.reg true [⟨0,some 2,none,.mov (.c (.nils)),[]⟩]) (.seq (.seq (.reg true [⟨0,some 3,none,.mov (.t 0),[]⟩,
⟨1,some 4,none,.isnil 1 false (.t 3),[]⟩]) (.cond (.t 4) (.seq (.reg true [⟨0,some 2,none,.mov (.c (.nils)),[]⟩]) (.ret)) (.skip))) (.seq (.reg true [⟨0,some 5,none,.mov (.c (.lst w [] true)),[]⟩,
⟨1,some 6,none,.mov (.t 0),[]⟩,
⟨2,some 7,none,.app w (.t 5) (.t 6),[]⟩,
⟨3,some 2,none,.mov (.t 7),[]⟩]) (.ret)))⟩
theorem qTE (hg:Γ g=some (.fn (Z4 w))) (h:AH):Ex Γ 1 (.call g [.nils] h) (.res (.ok .nils) h):=by
  refine .fn (st:=⟨((((params 0 [.nils]).set 2 .nils).set 3 .nils).set 4 (.bool true)).set 2 .nils,Env.empty,h⟩) (e:=.ret) hg rfl ?_ (.inr rfl) rfl;refine .seqN (.reg (.step rfl ⟨.nils,rfl,rfl⟩ trivial .nil) (.inl rfl)) (.seqX (.seqN (.reg (.step rfl ⟨.nils,rfl,rfl⟩ trivial (.step rfl ⟨.bool true,rfl,rfl⟩ trivial .nil)) (.inl rfl)) ?_) (by simp));exact .cond (t:=true) rfl (.seqN (.reg (.step rfl ⟨.nils,rfl,rfl⟩ trivial .nil) (.inl rfl)) .ret)
theorem qaK (hg:Γ g=some (.fn (Z4 w))) (h:AH) (id:Nat):Ex Γ 1 (.call g [.slice w id 0 0 false] h) (.res (.ok (.lst w [] true)) h):=by
  refine .fn (st:=⟨(((((((params 0 [.slice w id 0 0 false]).set 2 .nils).set 3 (.slice w id 0 0 false)).set 4 (.bool false)).set 5 (.lst w [] true)).set 6 (.slice w id 0 0 false)).set 7 (.lst w [] true)).set 2 (.lst w [] true),Env.empty,h⟩) (e:=.ret) hg rfl ?_ (.inr rfl) rfl;refine .seqN (.reg (.step rfl ⟨.nils,rfl,rfl⟩ trivial .nil) (.inl rfl)) (.seqN (.seqN (.reg (.step rfl ⟨.slice w id 0 0 false,rfl,rfl⟩ trivial (.step rfl ⟨.bool false,rfl,rfl⟩ trivial .nil)) (.inl rfl)) (.cond (t:=false) rfl .cskip)) (.seqN (.reg ?_ (.inl rfl)) .ret));refine .step rfl ⟨.lst w [] true,rfl,rfl⟩ trivial (.step rfl ⟨.slice w id 0 0 false,rfl,rfl⟩ trivial (.step (st':=⟨((((((params 0 [.slice w id 0 0 false]).set 2 .nils).set 3 (.slice w id 0 0 false)).set 4 (.bool false)).set 5 (.lst w [] true)).set 6 (.slice w id 0 0 false)).set 7 (.lst w [] true),Env.empty,h⟩) rfl ?_ trivial (.step rfl ⟨.lst w [] true,rfl,rfl⟩ trivial .nil)));exact ⟨.lst w [] true,.slice w id 0 0 false,rfl,rfl,[],rfl,rfl,rfl,rfl⟩
theorem qh7 (hr:AH):qq ρ0 [] hr:=⟨(fun i o h=>by simp at h),(fun i j a o o' h=>by cases h),(fun _ _=>rfl),(fun i a h=>by cases h)⟩
theorem qaJ (hg:Γ g=some (.fn (Z4 w))) {xs:List AV} (hf:∀n,qP xs n=(xs,[])) (hp:AV.pls xs=true) (ht:AV.trees xs=true) (hl:xs.length≤4194304):
    Fresh Γ g [.lst w xs false] (.lst w xs false):=by
  cases xs with
  | cons x xs=>
    refine Fresh.intro [] [] hg rfl rfl (by simp only [AV.trees,AV.tree] at ht⊢;simp [ht]) hp ?_;simp only [Z4,qL,go_sem,Nat.reduceEqDiff,reduceIte];refine Zx Els.lst (by simp only [List.length_cons] at hl⊢;omega) ?_;simp only [go_sem,Nat.reduceEqDiff,reduceIte];exact QF (pre:=[]) (post:=[]) hp (by simp [zO,lay]) (by simp [lay,hf])
  | nil=>
    refine ⟨rfl,rfl,fun hr ar har=> ?_⟩;have hn:∀hr',qq (ρ0.ext 0 none) [.row w [] true] hr':=fun hr'=>(qh7 hr').nil;simp only [RelVs,RelV] at har;obtain ⟨r,rs,rfl,hr0,rfl⟩:=har;have hfm:∀hr':AH,(∀a o,hr a=some o→hr' a=some o)→(∀a,hr'.fr a→hr.fr a)→Fm 0 ρ0 hr (ρ0.ext 0 none) hr':=fun hr' h1 h2=>⟨fun a o q _=>h1 a o q,(fun i a q=>by
      by_cases e:i=0
      · subst e;rw [Ren.ext_same] at q;cases q
      · rw [Ren.ext_ne _ _ e] at q;cases q),h2,fun i hi=>by omega⟩
    rcases hr0 with ⟨ys,c,rfl,_,hys⟩ | ⟨_,rfl⟩
    · subst hys;obtain ⟨id,hid⟩:=hr.fresh;have hx1:Ex Γ 1 (.call g [.nils] hr) (.res (.ok (.lst w [] true)) (hr.kill [])):=.frzR [] (fun i hi=>by simp at hi) .nils (qTE hg hr);refine ⟨1,_,_,ρ0.ext 0 none,.nilc id hid (fun i o q=>by rw [AH.kill_at];simpa using q) (fun i o q=>q) rfl hx1 (qaK hg _ id),hn _,by simp [lay,RelV,Ren.ext_same],hfm _ (fun a o q=>q) fun a q=>AH.fr_tomb (AH.fr_tomb' q)⟩
    · exact ⟨1,_,_,ρ0.ext 0 none,qTE hg hr,hn _,by simp [lay,RelV,Ren.ext_same],hfm _ (fun a o q=>q) fun a q=>q⟩
theorem WV {μ:List (Option Nat)} {h:List qC}:∀{r1 r2:List (Option Nat)} {h1 h2:List qC},wz μ h r1 h1→wz μ h r2 h2→wz μ h (r1++r2) (h1++h2)
  |[],_,[],_,_,k=>k
  | _::_,_,_::_,_,j,k=>⟨j.1,WV j.2 k⟩
  |[],_,_::_,_,j,_=>j.elim
  | _::_,_,[],_,j,_=>j.elim
theorem ZR {μ:List (Option Nat)} {h:List qC} {xs:List AV} {a b:Nat} (hp:AV.pls xs=true) (hm:∀i,i<AV.rowss xs→μ[b+i]?=some (some (a+i))) (hh:∀i o,(qP xs a).2[i]?=some o→h[a+i]?=some o):
    wz μ h ((List.range' a (AV.rowss xs)).map some) (qP xs b).2:=by
  refine qRB (by simp [jK]) fun i j o h1 h2=> ?_;have hi:i<AV.rowss xs:=by have:=(List.getElem?_eq_some_iff.1 h2).1;rw [jK] at this;exact this
  rw [List.getElem?_map,List.getElem?_range' (by omega)] at h1;simp only [Nat.one_mul,Option.map_some,Option.some.injEq] at h1;subst h1;exact WM xs a b hp hm hh i o h2
def rmu (b n:Nat):List (Option Nat):=(List.range' 0 b).map some++some (b+n+2)::(List.range' (b+1) n).map some
theorem qRP {b n i:Nat} (hi:i<b):(rmu b n)[i]?=some (some i):=by
  unfold rmu;rw [List.getElem?_append_left (by simpa using hi),List.getElem?_map,List.getElem?_range' (by omega)];simp
theorem qWQ {b n:Nat}:(rmu b n)[b]?=some (some (b+n+2)):=by
  unfold rmu;rw [List.getElem?_append_right (by simp)];simp
theorem qWR {b n i:Nat} (hi:i<n):(rmu b n)[b+1+i]?=some (some (b+1+i)):=by
  unfold rmu;rw [List.getElem?_append_right (by simp;omega)];have e:b+1+i-((List.range' 0 b).map some).length=i+1:=by simp;omega
  rw [e,List.getElem?_cons_succ,List.getElem?_map,List.getElem?_range' (by omega)];simp
theorem qiB {b n:Nat}:jp (rmu b n)=true:=by
  have e:rmu b n=(List.range' 0 b++(b+n+2)::List.range' (b+1) n).map some:=by simp [rmu]
  rw [e];refine Z7 ?_;rw [List.nodup_append];refine ⟨List.nodup_range', ?_, ?_⟩
  · rw [List.nodup_cons];refine ⟨?_,List.nodup_range'⟩;simp only [List.mem_range'_1];omega
  · intro x hx y hy;simp only [List.mem_range'_1,List.mem_cons] at hx hy;rcases hy with rfl | hy<;>omega
theorem Can.round {ps ts:List AV} {x:qC} {s s' m m':qg} {b n:Nat} (hps:AV.pls ps=true) (hts:AV.pls ts=true) (hb:AV.rowss ps=b) (hn:AV.rowss ts=n) (h1:JG (rmu b n) s s') (h2:JG (rmu b n) m m'):
    Can 0 ⟨s,m,(qP ps 0).2++.dead::((qP ts (b+1)).2++[x,.row w (qP ts (b+1)).1 true])⟩ ⟨s',m',(qP ps 0).2++.row w (qP ts (b+1)).1 true::(qP ts (b+1)).2⟩:=by
  subst hb hn;have hlp:=jK ps 0;have hlt:=jK ts (AV.rowss ps+1);refine Can.renum (rmu (AV.rowss ps) (AV.rowss ts)) qiB (WV (ZR hps (fun i hi=>by rw [Nat.zero_add];exact qRP hi) fun i o hi=> ?_) ⟨?_,ZR hts (fun i hi=>qWR hi) fun i o hi=> ?_⟩) h1 h2
  · rw [Nat.zero_add,List.getElem?_append_left (List.getElem?_eq_some_iff.1 hi).1];exact hi
  · refine .row (el:=(qP ts (AV.rowss ps+1)).1) (rw':=true) ?_ ⟨rfl,fun p hp=> ?_⟩
    · rw [List.getElem?_append_right (by omega),show AV.rowss ps+AV.rowss ts+2-(qP ps 0).2.length=AV.rowss ts+1+1 by omega,List.getElem?_cons_succ,List.getElem?_append_right (by omega),hlt,
        show AV.rowss ts+1-AV.rowss ts=1 by omega]
      rfl
    · exact (WN ts (AV.rowss ps+1) (AV.rowss ps+1) hts (fun i hi=>qWR hi)).2 p hp
  · have hi':=(List.getElem?_eq_some_iff.1 hi).1;rw [List.getElem?_append_right (by omega),show AV.rowss ps+1+i-(qP ps 0).2.length=i+1 by omega,List.getElem?_cons_succ,List.getElem?_append_left hi'];exact hi
theorem ja {A:List qC} {o:qC}:(A++[o])[A.length]?=some o:=List.getElem?_concat_length
theorem Can.push {ps A:List AV} {t:AV} {s s' m m':qg} {h h':List qC} {b n:Nat} (hps:AV.pls ps=true) (hA:AV.pls A=true) (ht:t.pl=true) (hb:AV.rowss ps=b) (hn:AV.rowss A+t.rows=n)
    (hh:h=(qP ps 0).2++.dead::((qP A (b+1)).2++((lay t (b+1+AV.rowss A)).2++[.row w [(lay t (b+1+AV.rowss A)).1] true,.row w ((qP A (b+1)).1++[(lay t (b+1+AV.rowss A)).1]) true])))
    (hh':h'=(qP ps 0).2++.row w (qP (A++[t]) (b+1)).1 true::(qP (A++[t]) (b+1)).2) (h1:JG (rmu b n) s s') (h2:JG (rmu b n) m m'):Can 0 ⟨s,m,h⟩ ⟨s',m',h'⟩:=by
  have hp:AV.pls (A++[t])=true:=by
    have:∀B:List AV,AV.pls B=true→AV.pls (B++[t])=true:=by
      intro B
      induction B with
      | nil=>intro _;simp only [List.nil_append,AV.pls,ht,Bool.and_true]
      | cons y B ih=>
        intro hB;simp only [AV.pls,bAt] at hB;simp only [List.cons_append,AV.pls,hB.1,ih hB.2,Bool.and_self]
    exact this A hA
  have r:=Can.round (w:=w) (x:=.row w [(lay t (b+1+AV.rowss A)).1] true) (s:=s) (s':=s') (m:=m) (m':=m') (b:=b) (n:=n) hps hp hb (by rw [qWT];simp only [AV.rowss,Nat.add_zero];exact hn) h1 h2;subst hh hh';simp only [ZE,qP,List.append_nil,List.append_assoc] at r⊢;exact r
def smu (b:Nat):List (Option Nat):=(List.range' 0 b).map some++[none]
theorem qR1 {b i:Nat} (hi:i<b):(smu b)[i]?=some (some i):=by
  unfold smu;rw [List.getElem?_append_left (by simpa using hi),List.getElem?_map,List.getElem?_range' (by omega)];simp
theorem qXI {b:Nat}:(smu b)[b]?=some none:=by
  unfold smu;rw [List.getElem?_append_right (by simp)];simp
theorem qP9:∀{l:List (Option Nat)},jp l=true→jp (l++[none])=true
  |[],_=>rfl
  | none::l,h=>by simp only [List.cons_append,jp] at h⊢;exact qP9 h
  | some j::l,h=>by
    simp only [List.cons_append,jp,bAt,List.all_append,List.all_cons,List.all_nil,Bool.and_true] at h⊢;exact ⟨h.1,qP9 h.2⟩
theorem Can.start {ps:List AV} {s s' m m':qg} {h:List qC} {b:Nat} (hps:AV.pls ps=true) (hb:AV.rowss ps=b) (hh:h=(qP ps 0).2) (h1:JG (smu b) s s') (h2:JG (smu b) m m'):
    Can 0 ⟨s,m,h⟩ ⟨s',m',(qP ps 0).2++[.row w [] true]⟩:=by
  subst hb hh;refine Can.renum (smu (AV.rowss ps)) (qP9 (Z7 List.nodup_range')) (WV (ZR hps (fun i hi=>by rw [Nat.zero_add];exact qR1 hi) fun i o hi=>by rw [Nat.zero_add];exact hi) ⟨.ph,trivial⟩) h1 h2
theorem qgF {A B:List qC} {e:qC} {i:Nat} (h:A.length=i):(A++e::B)[i]?=some e:=by
  rw [List.getElem?_append_right (by omega),h,Nat.sub_self];rfl
theorem qgG {A B:List qC} {e v:qC} {i:Nat} (h:A.length=i):(A++e::B).set i v=A++v::B:=by
  rw [List.set_append_right _ _ (by omega),h,Nat.sub_self,List.set_cons_zero]
end
end Go.Ab
namespace Go.Ab
open Go
structure zJ (h:List qC) (id w:Nat) (ys:List AV) (h':List qC) (id':Nat):Prop where
  at':h'[id']?=some (.row w ys true)
  len:h.length≤h'.length
  pos:id'=id∨h.length≤id'
  keep:∀j,j<h.length→j≠id→h'[j]?=h[j]?
theorem zJ.lt {h h':List qC} {id id' w:Nat} {ys:List AV} (g:zJ h id w ys h' id'):id'<h'.length:=(List.getElem?_eq_some_iff.1 g.at').1
theorem zJ.refl {h:List qC} {id w:Nat} {ys:List AV} (h0:h[id]?=some (.row w ys true)):zJ h id w ys h id:=⟨h0,Nat.le_refl _,.inl rfl,fun _ _ _=>rfl⟩
theorem zJ.trans {h h1 h2:List qC} {id id1 id2 w:Nat} {ys zs:List AV} (a:zJ h id w ys h1 id1) (b:zJ h1 id1 w zs h2 id2):zJ h id w zs h2 id2:=by
  have la:=a.len;have lb:=b.len;refine ⟨b.at',by omega, ?_,fun j hj hne=> ?_⟩
  · rcases b.pos with e | e
    · rcases a.pos with e2 | e2
      · left;omega
      · right;omega
    · right;omega
  · have h1:j≠id1:=by rcases a.pos with e | e<;>omega
    rw [b.keep j (by omega) h1,a.keep j hj hne]
theorem zJ.app {h:List qC} {id w:Nat} {ys zs:List AV} (h0:h[id]?=some (.row w ys true)):zJ h id w zs (h.set id .dead++[.row w zs true]) h.length:=by
  refine ⟨?_,by simp,.inr (Nat.le_refl _),fun j hj hne=> ?_⟩
  · rw [List.getElem?_append_right (by simp)];simp
  · rw [List.getElem?_append_left (by simpa using hj),List.getElem?_set_ne (Ne.symm hne)]
def Acc (Γ:Nat→Option AFn) (g:Nat) (as:List AV) (w:Nat) (xs ys:List AV):Prop:=
  ∀(h:List qC) (id:Nat) (K:AV→List qC→Prop),h[id]?=some (.row w xs true)→
    (∀h' id',zJ h id w ys h' id'→K (.slice w id' 0 ys.length false) h')→SCall Γ g (as++[.slice w id 0 xs.length false]) h K
section
variable {E:Ev} {l:List qB} {ks:List Fr1} {s m:qg} {h:List qC} {Q:qb→VSt→Prop} {g e w id n:Nat} {as vs:List AV} {xs ys:List AV}
theorem Z3 (hp:Acc E.Γ g as w xs ys) (ho:h[id]?=some (.row w xs true)) (hn:xs.length=n) (hv:as++[.slice w id 0 n false]=vs)
    (hr:∀h' id',zJ h id w ys h' id'→R E (.ops l::ks) ⟨(e,.slice w id' 0 ys.length false)::s,m,h'⟩ Q):z0 E (some (g,vs)) false (some e) l ks ⟨s,m,h⟩ Q:=by
  subst hv hn;exact zK (hp h id _ ho hr)
theorem SCall.fromNil {Γ:Nat→Option AFn} {K:AV→List qC→Prop} (hs:SCall Γ g (as++[.slice w h.length 0 0 false]) (h++[.row w [] true]) K):SCall Γ g (as++[.nils]) h K:=fun ρ hr ar hH hv=>by
  have hle:=Ren.ext_le (x:=none) hH.none_at;have hv':RelVs (ρ.ext h.length none) (as++[.slice w h.length 0 0 false]) ar:=by
    rw [RelVs.iff] at hv⊢;refine ⟨by rw [hv.1];simp,fun i a b ha hb=> ?_⟩;rw [List.getElem?_append] at ha;split at ha
    · rename_i hi;exact (RelV.mono hle) _ _ (hv.2 i a b (by rw [List.getElem?_append_left hi];exact ha) hb)
    · rename_i hi;have h0:i-as.length=0:=by
        have:=(List.getElem?_eq_some_iff.1 ha).1;simp at this;omega
      rw [h0] at ha;simp only [List.getElem?_cons_zero,Option.some.injEq] at ha;have:=hv.2 i .nils b (by rw [List.getElem?_append_right (by omega),h0];rfl) hb;simp only [RelV] at this;subst ha this;simp [RelV,Ren.ext_same]
  obtain ⟨k,r,hr',ρ',v,h',hx,q,g1,g2,g3,g4⟩:=hs _ hr ar hH.nil hv';simp only [lAp,List.length_cons,List.length_nil] at g3 g4;refine ⟨k,r,hr',ρ',v,h',hx,q,g1,g2,⟨fun a o h1 h2=>g3.pres a o h1 fun i hi=> ?_,fun i a hi=> ?_,g3.fr,fun i hi=> ?_⟩,by omega⟩
  · by_cases e:i=h.length
    · subst e;rw [Ren.ext_same] at hi;cases hi
    · rw [Ren.ext_ne _ _ e] at hi;exact h2 i hi
  · rcases g3.new i a hi with ⟨j,hj⟩ | hf
    · by_cases e:j=h.length
      · subst e;rw [Ren.ext_same] at hj;cases hj
      · rw [Ren.ext_ne _ _ e] at hj;exact .inl ⟨j,hj⟩
    · exact .inr hf
  · rw [g3.base i (by omega),Ren.ext_ne _ _ (by omega)]
theorem qj8 {ρ:Ren} {w:Nat} {xs:List AV} {r:AV} (h:RelV ρ (.lst w xs true) r):RelV ρ (.lst w xs false) r:=by
  simp only [RelV] at h⊢;rcases h with ⟨ys,c,h1,_,h3⟩ | h
  · exact .inl ⟨ys,c,h1,nofun,h3⟩
  · exact .inr h
inductive Jg:List AV→List AV→Prop
  | nil:Jg [] []
  | same {x:AV} {xs ys:List AV} (h:Jg xs ys):Jg (x::xs) (x::ys)
  | clip {w:Nat} {es xs ys:List AV} (h:Jg xs ys):Jg (.lst w es true::xs) (.lst w es false::ys)
theorem Jg.rel {ρ:Ren} {xs ys:List AV} (h:Jg xs ys):∀{ar:List AV},RelVs ρ xs ar→RelVs ρ ys ar:=by
  induction h with
  | nil=>exact fun h=>h
  | same _ ih=>
    intro ar h;simp only [RelVs] at h⊢;obtain ⟨b,bs,rfl,h1,h2⟩:=h;exact ⟨b,bs,rfl,h1,ih h2⟩
  | clip _ ih=>
    intro ar h;simp only [RelVs] at h⊢;obtain ⟨b,bs,rfl,h1,h2⟩:=h;exact ⟨b,bs,rfl,qj8 h1,ih h2⟩
theorem qaF {vs':List AV} {ck:Bool} {k:Nat} {st:VSt} {d:Option Nat} (hw:Jg vs vs') (hp:z0 E (some (k,vs')) ck d l ks st Q):z0 E (some (k,vs)) ck d l ks st Q:=by
  unfold z0 at hp⊢;cases ck
  · exact fun ρ hr ar hH hv=>hp ρ hr ar hH (hw.rel hv)
  · exact fun ρ hr ar hH hv=>hp ρ hr ar hH (hw.rel hv)
theorem JM (hp:Acc E.Γ g as w [] ys) (hv:as++[.nils]=vs)
    (hr:∀h' id',zJ (h++[.row w [] true]) h.length w ys h' id'→R E (.ops l::ks) ⟨(e,.slice w id' 0 ys.length false)::s,m,h'⟩ Q):z0 E (some (g,vs)) false (some e) l ks ⟨s,m,h⟩ Q:=by
  subst hv;exact zK (SCall.fromNil (hp (h++[.row w [] true]) h.length _ (by simp) hr))
end
end Go.Ab
namespace Go.Ab
open Go
def pmu (x y w:Nat):List (Option Nat):=(List.range' x y).map some++((List.range' 0 x).map some++(List.range' (x+y) w).map some)
theorem WY {x y w j k:Nat} (h:(j<y∧k=x+j)∨(y≤j∧j<x+y∧k+y=j)∨(x+y≤j∧j<x+y+w∧k=j)):(pmu x y w)[j]?=some (some k):=by
  unfold pmu;rcases h with ⟨h1,rfl⟩ | ⟨h1,h2,h3⟩ | ⟨h1,h2,rfl⟩
  · rw [List.getElem?_append_left (by simpa using h1),List.getElem?_map,List.getElem?_range' h1];simp
  · rw [List.getElem?_append_right (by simpa using h1),List.getElem?_append_left (by simp;omega),List.getElem?_map,List.getElem?_range' (by simp;omega)];simp;omega
  · rw [List.getElem?_append_right (by simp;omega),List.getElem?_append_right (by simp;omega),List.getElem?_map,List.getElem?_range' (by simp;omega)];simp;omega
theorem qhI {x y w:Nat}:jp (pmu x y w)=true:=by
  have e:pmu x y w=(List.range' x y++(List.range' 0 x++List.range' (x+y) w)).map some:=by simp [pmu]
  rw [e];refine Z7 ?_;rw [List.nodup_append];refine ⟨List.nodup_range', ?_,fun a ha b hb=> ?_⟩
  · rw [List.nodup_append];refine ⟨List.nodup_range',List.nodup_range',fun a ha b hb=> ?_⟩;simp only [List.mem_range'_1] at ha hb;omega
  · simp only [List.mem_append,List.mem_range'_1] at ha hb;omega
theorem FinF.swap {X Y W:List AV} {t v:AV} {h:List qC} (hX:AV.pls X=true) (hY:AV.pls Y=true) (hW:AV.pls W=true) (hh:h=(qP (X++(Y++W)) 0).2) (ht:(lay t 0).2=(qP (Y++(X++W)) 0).2)
    (hv:VR2 (pmu (AV.rowss X) (AV.rowss Y) (AV.rowss W)) v (lay t 0).1):FinF (some [v]) h t:=by
  refine ⟨pmu (AV.rowss X) (AV.rowss Y) (AV.rowss W),qhI, ?_,hv⟩;rw [ht];subst hh;have lX:=jK X 0;have lY:=jK Y (0+AV.rowss X);simp only [ZE];have hx:(qP X 0).2.length=AV.rowss X:=lX;refine WV (ZR hY (fun i hi=>WY (by omega)) fun i o hi=> ?_) (WV (ZR hX (fun i hi=>WY (by omega)) fun i o hi=> ?_) (ZR hW (fun i hi=>WY (by omega)) fun i o hi=> ?_))
  · have hi':=(List.getElem?_eq_some_iff.1 hi).1;rw [List.getElem?_append_right (by omega),show AV.rowss X+i-(qP X 0).2.length=i by omega,List.getElem?_append_left (by simpa [jK] using hi')];simpa only [Nat.zero_add] using hi
  · rw [show 0+i=i from Nat.zero_add i,List.getElem?_append_left (List.getElem?_eq_some_iff.1 hi).1];exact hi
  · have hi':=(List.getElem?_eq_some_iff.1 hi).1;rw [List.getElem?_append_right (by omega),List.getElem?_append_right (by omega),show AV.rowss X+AV.rowss Y+i-(qP X 0).2.length-(qP Y (0+AV.rowss X)).2.length=i by omega];simpa only [Nat.zero_add] using hi
end Go.Ab
namespace Go.Ab
open Go
theorem Pure.conv0 {Γ:Nat→Option AFn} {g:Nat} {as:List AV} {u t:AV} (hp:Pure Γ g as u) (ht:t.tree=true) (hc:∀hr r,RelV ρ0 u r→∃r',qx hr [] r r'∧RelV ρ0 t r'):Pure Γ g as t:=by
  unfold Pure at hp⊢;obtain ⟨t1,_,hp⟩:=hp;refine ⟨t1,ht,fun hr ar har=> ?_⟩;obtain ⟨k,r,hr',h1,h2,h3,h4⟩:=hp hr ar har;obtain ⟨r',c1,c2⟩:=hc hr' r h4;have hx:=Ex.frzR [] (fun i hi=>by cases hi) c1 h1;have e:(hr'.kill []).f=hr'.f:=by funext i;rfl
  exact ⟨k,r',_,hx,by rw [e,h2],fun a ha=>h3 a (AH.fr_kill ha).1,c2⟩
end Go.Ab
