/- Texts AbT .. AbN4: the abstract machine, its laws and contracts of functions: lemmas for the statement. No condition. -/
import Derived.Test.YtoajhcbnlebbeaaGreatP4
set_option linter.unusedSimpArgs false
set_option linter.unusedVariables false
namespace Go.Ab
open Go
section
variable {Γ:Nat→Option AFn} {g:Nat} {vs:List AV} {h:List qC} {v:AV}
def wy (n:Nat):List qC:=List.replicate n .dead
def Zy (res:List zK) (h:List qC) (v:AV) (e:qX) (st:VSt):Prop:=(e=.nrm∨e=.ret)∧∃ex,st.h=h++ex∧match zD (zQ st) res with
 | some vs=>Cv (wy h.length++ex) (qz vs) v
 | none=>False
def FinT (h:List qC) (vs:Option (List AV)) (h':List qC) (v:AV):Prop:=∃ex,h'=h++ex∧match vs with
 | some vs=>Cv (wy h.length++ex) (qz vs) v
 | none=>False
@[go_sem] theorem qs8 {res:List zK} {s m:qb} {h':List qC}:Zy res h v .ret ⟨s,m,h'⟩=FinT h (zD (zQ ⟨s,m,h'⟩) res) h' v:=by
 simp [Zy,FinT];all_goals rfl
@[go_sem] theorem qs7 {res:List zK} {s m:qb} {h':List qC}:Zy res h v .nrm ⟨s,m,h'⟩=FinT h (zD (zQ ⟨s,m,h'⟩) res) h' v:=by
 simp [Zy,FinT];all_goals rfl
theorem FinT.of {ex:List qC} (hf:Fin (some vs) (wy h.length++ex) v):FinT h (some vs) (h++ex) v:=⟨ex,rfl,by unfold Fin at hf;exact hf⟩
theorem qQW {ex:List qC}:only (List.range' h.length ex.length) (h++ex)=wy h.length++ex:=by
 refine List.ext_getElem? fun i=> ?_;simp only [only,List.getElem?_mapIdx,wy];by_cases hi:i<h.length
 ·rw [gAl hi,gAl (by simpa using hi),gEg hi,List.getElem?_replicate,if_pos hi];simp;omega
 ·rw [gAr (by omega),gAr (by simp;omega),List.length_replicate];cases he:ex[i-h.length]? with
  | none=>rfl
  | some o=>
   have hl:=wI he;simp;omega
theorem qbE {ex:List qC}:without (List.range' h.length ex.length) (h++ex)=h++wy ex.length:=by
 refine List.ext_getElem? fun i=> ?_;simp only [without,List.getElem?_mapIdx,wy];by_cases hi:i<h.length
 ·rw [gAl hi,gAl hi,gEg hi];simp;omega
 ·rw [gAr (by omega),gAr (by omega),List.getElem?_replicate];cases he:ex[i-h.length]? with
  | none=>rw [List.getElem?_eq_none_iff] at he;rw [if_neg (by omega)];rfl
  | some o=>
   have hl:=wI he;rw [if_pos hl];simp;omega
theorem SCall.tree {F:qN} {K:AV→List qC→Prop} (fz bp:List Nat) (hg:Γ g=some (.fn F)) (hok:F.body.ok=true) (hn:vs.length=F.np) (hv0:v.tree=true)
  (hR:R ⟨Γ,h.length,fz,bp⟩ [.code F.body] ⟨qP 0 vs,[],h⟩ (Zy F.res h v)) (hk:∀ex,K v (h++ex)):SCall Γ g vs h K:=fun ρ hr ar hH hv=>by
 have hS:qv ρ ⟨qP 0 vs,[],h⟩ {s:=params 0 ar,l:=Env.empty,h:=hr}:=⟨Jv hv,(fun n v h=>by cases h),hH⟩;obtain ⟨k,e,sr',ρ',st',g1,⟨he,ex,hh,hq⟩,g3,g4,g5⟩:=Sem.of (by simpa only [List.all_cons,List.all_nil,Bool.and_true,Fr1.ok] using hok) hR ρ _ hS (Nat.le_refl _);have hb:Ex Γ k (.code F.body {s:=params 0 ar,l:=Env.empty,h:=hr}) (.st e sr'):=by
  cases g1 with
  | code h h'=>cases h';exact h
  | codeX h he' hx h'=>cases e<;>simp [exK] at hx
  | codeE h he' hx=>exact h
 split at hq
 ·rename_i us hus;obtain ⟨rs,q1,q2⟩:=Jz g3 hus;have hx:=Ex.fn hg (by rw [hv.length];exact hn) hb he q1;have g3h:=g3.h;rw [hh] at g3h;obtain ⟨ids,hids⟩:∃ids,ids=List.range' h.length ex.length:=⟨_,rfl⟩;have hnew:∀i,ids.contains i=true→h.length≤i:=fun i hi=>by
   rw [List.contains_iff_mem,hids,List.mem_range'_1] at hi;exact hi.1
  have hO:qd ρ' (wy h.length++ex) sr'.h:=by
   rw [←qQW,←hids];exact ⟨fun i o hi=>by
    by_cases hd:o=.dead
    ·subst hd;trivial
    ·exact g3h.obj i o (zn hi hd).2,fun i j a o o' h1 h2 hi hj d1 d2=>g3h.inj i j a o o' h1 h2 (zn hi d1).2 (zn hj d2).2 d1 d2,
    fun i hi=>g3h.out i (by simpa [only] using hi),g3h.is⟩
  obtain ⟨r',c1,c2⟩:=hq.conv hO (K:=zC ρ' (h++ex) ids) (fun i a w el ha ho=>by
   rw [←qQW,←hids] at ho;obtain ⟨q1,q2⟩:=zn ho (by simp);rw [List.contains_iff_mem,zo];exact ⟨i,w,el,by simpa using q1,ha,q2⟩) (Q9 q2)
  have hx2:=Ex.frzR _ (g3h.rows ids) c1 hx;have hnk:∀a,(∀i,ρ i≠some (some a))→(∃o,hr a=some o)→(zC ρ' (h++ex) ids).contains a=false:=fun a hp ⟨o,ho⟩=>by
   by_cases hc:(zC ρ' (h++ex) ids).contains a=true
   ·rw [List.contains_iff_mem,zo] at hc;obtain ⟨i,w,el,p1,p2,p3⟩:=hc;rcases g4.new i a p2 with ⟨j,hj⟩ | hf
    ·exact absurd hj (hp j)
    ·have:hr a=none:=hf.1;rw [this] at ho;cases ho
   ·simpa using hc
  refine ⟨k+1,r',_,ρ',v,h++wy ex.length,hx2,hk _, ?_,jw _ _ hv0 c2,⟨fun a o h1 h2=> ?_,g4.new,fun a ha=>g4.fr a (AH.fr_kill ha).1,g4.base⟩,by simp⟩
  ·rw [←qbE,←hids];refine ⟨fun i o hi=> ?_,fun i j a o o' q1 q2 hi hj d1 d2=>g3h.inj i j a o o' q1 q2 (JG hi d1).2 (JG hj d2).2 d1 d2,
    fun i hi=>g3h.out i (by simpa [without] using hi),fun i a hi=> ?_⟩
   ·by_cases hd:o=.dead
    ·subst hd;trivial
    ·obtain ⟨q1,q2⟩:=JG hi hd;refine (g3h.obj i o q2).mono (fun _ _ q=>q) fun a o' ha hq=> ?_;rw [←hq];show (sr'.h.kill _) a=_;rw [AH.kill_at,if_neg];rw [List.contains_iff_mem,zo];rintro ⟨j,w,el,p1,p2,p3⟩;have:=g3h.inj i j a _ _ ha p2 q2 p3 hd (by simp);subst this;have:ids.contains i=true:=by simpa using p1
     rw [this] at q1;cases q1
   ·obtain ⟨o,ho⟩:=g3h.is i a hi;show ∃o,(sr'.h.kill _) a=some o;rw [AH.kill_at];split
    ·exact ⟨_,rfl⟩
    ·exact ⟨o,ho⟩
  ·show (sr'.h.kill _) a=_;rw [AH.kill_at,if_neg]
   ·exact g4.pres a o h1 h2
   ·rw [hnk a h2 ⟨o,h1⟩];simp
 ·exact hq.elim
end
mutual
def lay:AV→Nat→AV×List qC
 |.lst w xs _,n=>(.slice w n 0 xs.length false,.row w (qS xs (n+1)).1 true::(qS xs (n+1)).2)
 |.agg xs,n=>(.agg (qS xs n).1,(qS xs n).2)
 |.tup xs,n=>(.tup (qS xs n).1,(qS xs n).2)
 | v,_=>(v,[])
def qS:List AV→Nat→List AV×List qC
 |[],_=>([],[])
 | x::xs,n=>((lay x n).1::(qS xs (n+(lay x n).2.length)).1,(lay x n).2++(qS xs (n+(lay x n).2.length)).2)
end
mutual
def AV.pl:AV→Bool
 |.lst _ xs _ |.agg xs |.tup xs=>AV.pls xs
 |.bool _ |.int _ _ |.str _ |.nilp |.nils |.nilm |.nilf |.nili=>true
 | _=>false
def AV.pls:List AV→Bool
 |[]=>true
 | x::xs=>AV.pl x&&AV.pls xs
end
mutual
def AV.rows:AV→Nat
 |.lst _ xs _=>AV.rowss xs+1
 |.agg xs |.tup xs=>AV.rowss xs
 | _=>0
def AV.rowss:List AV→Nat
 |[]=>0
 | x::xs=>AV.rows x+AV.rowss xs
end
mutual
theorem qV:∀(t:AV) (n:Nat),(lay t n).2.length=t.rows
 |.lst _ xs _,n=>by simp only [lay,lCo,AV.rows,zO xs]
 |.agg xs,n=>by simp only [lay,AV.rows,zO xs]
 |.tup xs,n=>by simp only [lay,AV.rows,zO xs]
 |.bool _,_ |.int _ _,_ |.str _,_ |.nilp,_ |.nils,_ |.nilm,_ |.nilf,_ |.nili,_ |.any,_=>rfl
 |.ptr _ _ _,_ |.slice _ _ _ _ _,_ |.map _,_ |.ept _ _,_ |.fn _ _,_ |.iface _ _,_=>rfl
theorem zO:∀(xs:List AV) (n:Nat),(qS xs n).2.length=AV.rowss xs
 |[],_=>rfl
 | x::xs,n=>by simp only [qS,lAp,qV x,zO xs,AV.rowss]
end
theorem jQ:∀(xs:List AV) (n:Nat),(qS xs n).1.length=xs.length
 |[],_=>rfl
 | x::xs,n=>by simp only [qS,lCo,jQ xs]
theorem w8:∀(xs ys:List AV) (n:Nat),qS (xs++ys) n=((qS xs n).1++(qS ys (n+AV.rowss xs)).1,(qS xs n).2++(qS ys (n+AV.rowss xs)).2)
 |[],ys,n=>by simp [qS,AV.rowss]
 | x::xs,ys,n=>by
  simp only [List.cons_append,qS,w8 xs ys,AV.rowss,qV,Nat.add_assoc,lAa]
theorem qRL:∀(xs ys:List AV),AV.rowss (xs++ys)=AV.rowss xs+AV.rowss ys
 |[],ys=>by simp [AV.rowss]
 | x::xs,ys=>by simp only [List.cons_append,AV.rowss,qRL xs ys];omega
section
variable {ρ ρ':Ren}
def Sh2 (ρ:Ren) (a:Nat) (ρ':Ren) (b n:Nat):Prop:=∀i,i<n→ρ' (b+i)=ρ (a+i)
theorem Sh2.sub {a b n:Nat} (h:Sh2 ρ a ρ' b n) (k m:Nat) (hk:k+m≤n):Sh2 ρ (a+k) ρ' (b+k) m:=fun i hi=>by
 have:=h (k+i) (by omega);rw [show a+k+i=a+(k+i) by omega,show b+k+i=b+(k+i) by omega];exact this
mutual
theorem qMQ:∀(t:AV) (a b:Nat) (r:AV),t.pl=true→Sh2 ρ a ρ' b t.rows→RelV ρ (lay t a).1 r→RelV ρ' (lay t b).1 r
 |.lst w xs _,a,b,r,_,hs,h=>by
  have h0:=hs 0 (by simp only [AV.rows];omega);simp only [Nat.add_zero] at h0;simp only [lay,RelV] at h⊢;rw [h0];exact h
 |.agg xs,a,b,r,hp,hs,h=>by
  simp only [lay,RelV] at h⊢;obtain ⟨ds,h1,h2⟩:=h;exact ⟨ds,h1,V8 xs a b ds hp hs h2⟩
 |.tup xs,a,b,r,hp,hs,h=>by
  simp only [lay,RelV] at h⊢;obtain ⟨ds,h1,h2⟩:=h;exact ⟨ds,h1,V8 xs a b ds hp hs h2⟩
 |.bool _,_,_,_,_,_,h |.int _ _,_,_,_,_,_,h |.str _,_,_,_,_,_,h |.nilp,_,_,_,_,_,h |.nils,_,_,_,_,_,h |.nilm,_,_,_,_,_,h |.nilf,_,_,_,_,_,h |.nili,_,_,_,_,_,h=>by
  simpa only [lay,RelV] using h
 |.any,_,_,_,hp,_,_ |.ptr _ _ _,_,_,_,hp,_,_ |.slice _ _ _ _ _,_,_,_,hp,_,_ |.map _,_,_,_,hp,_,_ |.ept _ _,_,_,_,hp,_,_ |.fn _ _,_,_,_,hp,_,_ |.iface _ _,_,_,_,hp,_,_=>by cases hp
theorem V8:∀(xs:List AV) (a b:Nat) (rs:List AV),AV.pls xs=true→Sh2 ρ a ρ' b (AV.rowss xs)→RelVs ρ (qS xs a).1 rs→RelVs ρ' (qS xs b).1 rs
 |[],_,_,_,_,_,h=>by simpa only [qS,RelVs] using h
 | x::xs,a,b,rs,hp,hs,h=>by
  simp only [AV.pls,bAt] at hp;simp only [qS,RelVs,qV] at h⊢;obtain ⟨u,us,h1,h2,h3⟩:=h;simp only [AV.rowss] at hs;exact ⟨u,us,h1,qMQ x a b u hp.1 (by simpa using hs.sub 0 x.rows (by omega)) h2,V8 xs _ _ us hp.2 (hs.sub x.rows (AV.rowss xs) (by omega)) h3⟩
end
def Lies (ρ:Ren) (a:Nat) (os:List qC) (hr:AH):Prop:=∀i o,os[i]?=some o→RelO ρ (a+i) hr o
theorem Lies.app {a:Nat} {os os':List qC} {hr:AH}:Lies ρ a (os++os') hr↔Lies ρ a os hr∧Lies ρ (a+os.length) os' hr:=by
 constructor
 ·intro h;refine ⟨fun i o hi=>h i o ?_,fun i o hi=> ?_⟩
  ·rw [gAl (gSi.1 hi).1];exact hi
  ·have:=h (os.length+i) o (by rw [gAr (by omega)];simpa using hi);rw [show a+os.length+i=a+(os.length+i) by omega];exact this
 ·rintro ⟨h1,h2⟩ i o hi;rcases Nat.lt_or_ge i os.length with q | q
  ·rw [gAl q] at hi;exact h1 i o hi
  ·rw [gAr q] at hi;have:=h2 _ _ hi;rw [show a+os.length+(i-os.length)=a+i by omega] at this;exact this
theorem Lies.cons {a:Nat} {o:qC} {os:List qC} {hr:AH}:Lies ρ a (o::os) hr↔RelO ρ a hr o∧Lies ρ (a+1) os hr:=by
 have:=Lies.app (ρ:=ρ) (a:=a) (os:=[o]) (os':=os) (hr:=hr);rw [List.singleton_append] at this;rw [this];constructor
 ·rintro ⟨h1,h2⟩;exact ⟨h1 0 o rfl,h2⟩
 ·rintro ⟨h1,h2⟩;refine ⟨fun i x hi=> ?_,h2⟩;cases i with
  | zero=>simp at hi;subst hi;exact h1
  | succ i=>simp at hi
mutual
theorem V5 {hr hr':AH}:∀(t:AV) (a b:Nat),t.pl=true→Sh2 ρ a ρ' b t.rows→(∀i x o,i<t.rows→ρ (a+i)=some (some x)→hr x=some o→hr' x=some o)→Lies ρ a (lay t a).2 hr→Lies ρ' b (lay t b).2 hr'
 |.lst w xs _,a,b,hp,hs,hh,h=>by
  simp only [lay,Lies.cons] at h⊢;simp only [AV.rows] at hs hh;obtain ⟨h1,h2⟩:=h;refine ⟨?_,V7 xs (a+1) (b+1) hp (hs.sub 1 _ (by omega)) (fun i x o hi hx hx2=>hh (1+i) x o (by omega) (by rw [←Nat.add_assoc];exact hx) hx2) h2⟩;have h0:=hs 0 (by omega);simp only [Nat.add_zero] at h0;rcases h1 with ⟨q1,q2,q3⟩ | ⟨i',el',q1,q2,q3⟩
  ·refine .inl ⟨by rw [h0];exact q1, ?_,q3⟩;have l1:=jQ xs (a+1);have l2:=jQ xs (b+1);rw [q2] at l1;exact List.eq_nil_of_length_eq_zero (by rw [l2,←l1];rfl)
  ·exact .inr ⟨i',el',by rw [h0];exact q1,hh 0 i' _ (by omega) q1 q2,V8 xs _ _ _ hp (hs.sub 1 _ (by omega)) q3⟩
 |.agg xs,a,b,hp,hs,hh,h=>by
  simp only [lay] at h⊢;exact V7 xs a b hp hs hh h
 |.tup xs,a,b,hp,hs,hh,h=>by
  simp only [lay] at h⊢;exact V7 xs a b hp hs hh h
 |.bool _,_,_,_,_,_,_ |.int _ _,_,_,_,_,_,_ |.str _,_,_,_,_,_,_ |.nilp,_,_,_,_,_,_ |.nils,_,_,_,_,_,_ |.nilm,_,_,_,_,_,_ |.nilf,_,_,_,_,_,_ |.nili,_,_,_,_,_,_=>by
  intro i o hi;simp [lay] at hi
 |.any,_,_,hp,_,_,_ |.ptr _ _ _,_,_,hp,_,_,_ |.slice _ _ _ _ _,_,_,hp,_,_,_ |.map _,_,_,hp,_,_,_ |.ept _ _,_,_,hp,_,_,_ |.fn _ _,_,_,hp,_,_,_ |.iface _ _,_,_,hp,_,_,_=>by cases hp
theorem V7 {hr hr':AH}:∀(xs:List AV) (a b:Nat),AV.pls xs=true→Sh2 ρ a ρ' b (AV.rowss xs)→(∀i x o,i<AV.rowss xs→ρ (a+i)=some (some x)→hr x=some o→hr' x=some o)→Lies ρ a (qS xs a).2 hr→Lies ρ' b (qS xs b).2 hr'
 |[],_,_,_,_,_,_=>by intro i o hi;simp [qS] at hi
 | x::xs,a,b,hp,hs,hh,h=>by
  simp only [AV.pls,bAt] at hp;simp only [AV.rowss] at hs hh;simp only [qS,Lies.app,qV] at h⊢;exact ⟨V5 x a b hp.1 (by simpa using hs.sub 0 x.rows (by omega)) (fun i y o hi=>hh i y o (by omega)) h.1,
   V7 xs _ _ hp.2 (hs.sub x.rows _ (by omega)) (fun i y o hi hy=>hh (x.rows+i) y o (by omega) (by rw [←Nat.add_assoc];exact hy)) h.2⟩
end
mutual
theorem qMP:∀(t:AV) (a:Nat) (r:AV),t.pl=true→RelV ρ (lay t a).1 r→r.nol=true
 |.lst w xs _,a,r,_,h=>by
  simp only [lay,RelV] at h;rcases h with ⟨_,_,rfl⟩ | ⟨_,_,_,rfl | rfl⟩<;>rfl
 |.agg xs,a,r,hp,h=>by
  simp only [lay,RelV] at h;obtain ⟨ds,rfl,h2⟩:=h;simp only [AV.nol];exact Z3 xs a ds hp h2
 |.tup xs,a,r,hp,h=>by
  simp only [lay,RelV] at h;obtain ⟨ds,rfl,h2⟩:=h;simp only [AV.nol];exact Z3 xs a ds hp h2
 |.bool _,_,_,_,h |.int _ _,_,_,_,h |.str _,_,_,_,h |.nilp,_,_,_,h |.nils,_,_,_,h |.nilm,_,_,_,h |.nilf,_,_,_,h |.nili,_,_,_,h=>by
  simp only [lay,RelV] at h;subst h;rfl
 |.any,_,_,hp,_ |.ptr _ _ _,_,_,hp,_ |.slice _ _ _ _ _,_,_,hp,_ |.map _,_,_,hp,_ |.ept _ _,_,_,hp,_ |.fn _ _,_,_,hp,_ |.iface _ _,_,_,hp,_=>by cases hp
theorem Z3:∀(xs:List AV) (a:Nat) (rs:List AV),AV.pls xs=true→RelVs ρ (qS xs a).1 rs→AV.nols rs=true
 |[],_,_,_,h=>by simp only [qS,RelVs] at h;subst h;rfl
 | x::xs,a,rs,hp,h=>by
  simp only [AV.pls,bAt] at hp;simp only [qS,RelVs] at h;obtain ⟨u,us,rfl,h2,h3⟩:=h;simp only [AV.nols,bAt];exact ⟨qMP x a u hp.1 h2,Z3 xs _ us hp.2 h3⟩
end
mutual
theorem Jo:∀(t:AV) (a i:Nat) (o:qC),t.pl=true→(lay t a).2[i]?=some o→∃w xs b,o=.row w (qS xs b).1 true∧AV.pls xs=true
 |.lst w xs _,a,i,o,hp,h=>by
  simp only [lay] at h;cases i with
  | zero=>simp at h;subst h;exact ⟨w,xs,a+1,rfl,hp⟩
  | succ i=>exact V9 xs (a+1) i o hp (by simpa using h)
 |.agg xs,a,i,o,hp,h=>by simp only [lay] at h;exact V9 xs a i o hp h
 |.tup xs,a,i,o,hp,h=>by simp only [lay] at h;exact V9 xs a i o hp h
 |.bool _,_,_,_,_,h |.int _ _,_,_,_,_,h |.str _,_,_,_,_,h |.nilp,_,_,_,_,h |.nils,_,_,_,_,h |.nilm,_,_,_,_,h |.nilf,_,_,_,_,h |.nili,_,_,_,_,h=>by
  simp [lay] at h
 |.any,_,_,_,hp,_ |.ptr _ _ _,_,_,_,hp,_ |.slice _ _ _ _ _,_,_,_,hp,_ |.map _,_,_,_,hp,_ |.ept _ _,_,_,_,hp,_ |.fn _ _,_,_,_,hp,_ |.iface _ _,_,_,_,hp,_=>by cases hp
theorem V9:∀(xs:List AV) (a i:Nat) (o:qC),AV.pls xs=true→(qS xs a).2[i]?=some o→∃w ys b,o=.row w (qS ys b).1 true∧AV.pls ys=true
 |[],_,_,_,_,h=>by simp [qS] at h
 | x::xs,a,i,o,hp,h=>by
  simp only [AV.pls,bAt] at hp;simp only [qS] at h;rcases Nat.lt_or_ge i (lay x a).2.length with q | q
  ·rw [gAl q] at h;exact Jo x a i o hp.1 h
  ·rw [gAr q] at h;exact V9 xs _ _ o hp.2 h
end
end
variable {Γ:Nat→Option AFn} {g:Nat} {vs vs' as:List AV} {h:List qC} {t t':AV}
def Fresh (Γ:Nat→Option AFn) (g:Nat) (as:List AV) (t:AV):Prop:=
 AV.trees as=true∧t.pl=true∧∀hr ar,RelVs ρ0 as ar→∃k r hr' ρ',Ex Γ k (.call g ar hr) (.res (.ok r) hr')∧qd ρ' (lay t 0).2 hr'∧RelV ρ' (lay t 0).1 r∧Fm 0 ρ0 hr ρ' hr'
def wC (ρ:Ren) (n:Nat) (ρ':Ren):Ren:=fun i=>if i<n then ρ i else ρ' (i-n)
theorem Vn {ρ ρ':Ren} {hr h1 h2:AH} {r:AV} (hp:t.pl=true) (hH:qd ρ h hr) (hH':qd ρ' (lay t 0).2 h1) (hv:RelV ρ' (lay t 0).1 r)
  (hnew:∀i a,ρ' i=some (some a)→hr.fr a) (hold:∀a o,hr a=some o→h2 a=some o) (hsame:∀i a o,ρ' i=some (some a)→h1 a=some o→h2 a=some o) (hfr:∀a,h2.fr a→hr.fr a):
  qd (wC ρ h.length ρ') (h++(lay t h.length).2) h2∧RelV (wC ρ h.length ρ') (lay t h.length).1 r∧Fm h.length ρ hr (wC ρ h.length ρ') h2:=by
 have sh:Sh2 ρ' 0 (wC ρ h.length ρ') h.length t.rows:=fun i hi=>by
  simp only [wC,nZa];rw [if_neg (by omega),Nat.add_sub_cancel_left]
 have lies:Lies ρ' 0 (lay t 0).2 h1:=fun i o hi=>by rw [nZa];exact hH'.obj i o hi
 have lies2:Lies (wC ρ h.length ρ') h.length (lay t h.length).2 h2:=V5 t 0 h.length hp sh (fun i x o _ hx ho=>hsame _ x o hx ho) lies;have lo:∀i,i<h.length→wC ρ h.length ρ' i=ρ i:=fun i hi=>by simp only [wC,if_pos hi]
 have hi':∀i,h.length≤i→wC ρ h.length ρ' i=ρ' (i-h.length):=fun i hi=>by simp only [wC];rw [if_neg (by omega)]
 have le:ρ.le (wC ρ h.length ρ'):=fun i a hia=>by
  have:i<h.length:=by
   rcases Nat.lt_or_ge i h.length with q | q
   ·exact q
   ·rw [hH.out i q] at hia;cases hia
  rw [lo i this];exact hia
 refine ⟨⟨fun i o hi=> ?_,fun i j a o o' h1' h2' hi hj d1 d2=> ?_,fun i hi=> ?_,fun i a ha=> ?_⟩,qMQ t 0 h.length r hp sh hv,⟨fun a o ho _=>hold a o ho,fun i a ha=> ?_,hfr,fun i hi=>lo i hi⟩⟩
 ·rcases Nat.lt_or_ge i h.length with q | q
  ·rw [gAl q] at hi;exact (hH.obj i o hi).mono le fun a o' _ ho=>hold a o' ho
  ·rw [gAr q] at hi;have:=lies2 _ _ hi;rwa [show h.length+(i-h.length)=i by omega] at this
 ·have get0:∀{i:Nat} {o:qC},(lay t h.length).2[i]?=some o→∃o2,(lay t 0).2[i]?=some o2∧o2≠.dead:=fun {i o} hio=>by
   have hl:i<(lay t 0).2.length:=by
    have:=(gSi.1 hio).1;rw [qV] at this⊢;exact this
   refine ⟨_,gEg hl, ?_⟩;obtain ⟨w,xs,b,e,_⟩:=Jo t 0 i _ hp (gEg hl);rw [e];simp
  rcases Nat.lt_or_ge i h.length with q1 | q1<;>rcases Nat.lt_or_ge j h.length with q2 | q2
  ·rw [lo i q1] at h1';rw [lo j q2] at h2';rw [gAl q1] at hi;rw [gAl q2] at hj;exact hH.inj i j a o o' h1' h2' hi hj d1 d2
  ·rw [lo i q1] at h1';rw [hi' j q2] at h2';obtain ⟨x,hx⟩:=hH.is i a h1';have:=(hnew _ a h2').1;rw [this] at hx;cases hx
  ·rw [hi' i q1] at h1';rw [lo j q2] at h2';obtain ⟨x,hx⟩:=hH.is j a h2';have:=(hnew _ a h1').1;rw [this] at hx;cases hx
  ·rw [hi' i q1] at h1';rw [hi' j q2] at h2';rw [gAr q1] at hi;rw [gAr q2] at hj;obtain ⟨o2,g1,g2⟩:=get0 hi;obtain ⟨o3,g3,g4⟩:=get0 hj;have:=hH'.inj _ _ a o2 o3 h1' h2' g1 g3 g2 g4;omega
 ·simp only [lAp,qV] at hi;rw [hi' i (by omega)];exact hH'.out _ (by rw [qV];omega)
 ·rcases Nat.lt_or_ge i h.length with q | q
  ·rw [lo i q] at ha;obtain ⟨o,ho⟩:=hH.is i a ha;exact ⟨o,hold a o ho⟩
  ·rw [hi' i q] at ha;obtain ⟨o,ho⟩:=hH'.is _ a ha;exact ⟨o,hsame _ a o ha ho⟩
 ·rcases Nat.lt_or_ge i h.length with q | q
  ·rw [lo i q] at ha;exact .inl ⟨i,ha⟩
  ·rw [hi' i q] at ha;exact .inr (hnew _ a ha)
theorem Fm.new0 {ρ':Ren} {hr hr':AH} (h:Fm 0 ρ0 hr ρ' hr') {i a:Nat} (ha:ρ' i=some (some a)):hr.fr a:=by
 rcases h.new i a ha with ⟨j,hj⟩ | q
 ·cases hj
 ·exact q
theorem SCallK.fresh {K:AV→List qC→Prop} (hp:Fresh Γ g vs t) (hk:K (lay t h.length).1 (h++(lay t h.length).2)):SCallK Γ g vs h K:=fun ρ hr ar hH hv=>by
 unfold Fresh at hp;obtain ⟨t1,t2,hp⟩:=hp;obtain ⟨k,r,hr',ρ',h1,h2,h3,h4⟩:=hp hr ar (wM _ _ t1 hv);obtain ⟨q1,q2,q3⟩:=Vn (h2:=hr') t2 hH h2 h3 (fun i a ha=>h4.new0 ha) (fun a o ho=>h4.pres a o ho (fun i hi=>by cases hi)) (fun _ _ _ _ ho=>ho) h4.fr;exact ⟨k,r,hr',_,_,_,h1,hk,q1,q2,q3,by simp,fun a o ho=>h4.pres a o ho (fun i hi=>by cases hi)⟩
theorem SCall.fresh {K:AV→List qC→Prop} (hp:Fresh Γ g vs t) (hk:K (lay t h.length).1 (h++(lay t h.length).2)):SCall Γ g vs h K:=fun ρ hr ar hH hv=>by
 unfold Fresh at hp;obtain ⟨t1,t2,hp⟩:=hp;obtain ⟨k,r,hr',ρ',h1,h2,h3,h4⟩:=hp hr ar (wM _ _ t1 hv);obtain ⟨q1,q2,q3⟩:=Vn (h2:=hr') t2 hH h2 h3 (fun i a ha=>h4.new0 ha) (fun a o ho=>h4.pres a o ho (fun i hi=>by cases hi)) (fun _ _ _ _ ho=>ho) h4.fr;exact ⟨k,r,hr',_,_,_,h1,hk,q1,q2,q3,by simp⟩
theorem SCall.freshL {K:AV→List qC→Prop} (hc:Cvs h vs vs') (hp:Fresh Γ g vs' t) (hk:K (lay t h.length).1 (h++(lay t h.length).2)):SCall Γ g vs h K:=fun ρ hr ar hH hv=>by
 unfold Fresh at hp;obtain ⟨t1,t2,hp⟩:=hp;obtain ⟨KK,hKK⟩:=qL9 hr;obtain ⟨rs',g1,g2,g3⟩:=hc.conv hH (K:=KK) (fun i a w el ha ho=>by
  rcases hH.obj i _ ho with ⟨q,_⟩ | ⟨i',el',q1,q2,_⟩
  ·rw [q] at ha;cases ha
  ·rw [q1] at ha;cases ha;exact (hKK _).2 ⟨_,q2,rfl⟩) hv
 obtain ⟨k,r,hr',ρ',h1,h2,h3,h4⟩:=hp (hr.kill KK) rs' g3;have hnew:∀i a,ρ' i=some (some a)→hr.fr a:=fun i a ha=>(AH.fr_kill (h4.new0 ha)).1;have hrow:∀a,(zC ρ' (lay t 0).2 (List.range t.rows)).contains a=true→∀o,hr' a=some o→o.nol=true:=fun a ha o ho=>by
  rw [List.contains_iff_mem,zo] at ha;obtain ⟨i,w,el,_,q2,q3⟩:=ha;obtain ⟨w',xs,b,e,hpx⟩:=Jo t 0 i _ t2 q3;cases e;rcases h2.obj i _ q3 with ⟨q,_⟩ | ⟨i',el',p1,p2,p3⟩
  ·rw [q] at q2;cases q2
  ·rw [p1] at q2;cases q2;rw [p2] at ho;cases ho;simp only [qC.nol,Bool.true_and];exact Z3 _ _ _ hpx p3
 have hin:∀i a o,ρ' i=some (some a)→hr' a=some o→(zC ρ' (lay t 0).2 (List.range t.rows)).contains a=true:=fun i a o ha ho=>by
  have hi:i<(lay t 0).2.length:=by
   rcases Nat.lt_or_ge i (lay t 0).2.length with q | q
   ·exact q
   ·rw [h2.out i q] at ha;cases ha
  obtain ⟨w,xs,b,e,_⟩:=Jo t 0 i _ t2 (gEg hi);rw [List.contains_iff_mem,zo];exact ⟨i,w,_,List.mem_range.2 (by rw [qV] at hi;exact hi),ha,by rw [gEg hi,e]⟩
 have hx:=Ex.brn KK (zC ρ' (lay t 0).2 (List.range t.rows)) hKK g1 g2 (qMP t 0 r t2 h3) (fun a o ha _ ho=>hrow a ha o ho) h1;obtain ⟨q1,q2,q3⟩:=Vn (h2:=hr.join hr' (zC ρ' (lay t 0).2 (List.range t.rows))) t2 hH h2 h3 hnew (fun a o ho=>AH.join_old' ho) (fun i a o ha ho=>by
  rw [AH.join_new' (hnew i a ha).1,if_pos (hin i a o ha ho)];exact ho) (fun a ha=>(AH.fr_join ha).1)
 exact ⟨k,r,_,_,_,_,hx,hk,q1,q2,q3,by simp⟩
theorem SCallK.freshL {K:AV→List qC→Prop} (hc:Cvs h vs vs') (hp:Fresh Γ g vs' t) (hk:K (lay t h.length).1 (h++(lay t h.length).2)):SCallK Γ g vs h K:=fun ρ hr ar hH hv=>by
 unfold Fresh at hp;obtain ⟨t1,t2,hp⟩:=hp;obtain ⟨KK,hKK⟩:=qL9 hr;obtain ⟨rs',g1,g2,g3⟩:=hc.conv hH (K:=KK) (fun i a w el ha ho=>by
  rcases hH.obj i _ ho with ⟨q,_⟩ | ⟨i',el',q1,q2,_⟩
  ·rw [q] at ha;cases ha
  ·rw [q1] at ha;cases ha;exact (hKK _).2 ⟨_,q2,rfl⟩) hv
 obtain ⟨k,r,hr',ρ',h1,h2,h3,h4⟩:=hp (hr.kill KK) rs' g3;have hnew:∀i a,ρ' i=some (some a)→hr.fr a:=fun i a ha=>(AH.fr_kill (h4.new0 ha)).1;have hrow:∀a,(zC ρ' (lay t 0).2 (List.range t.rows)).contains a=true→∀o,hr' a=some o→o.nol=true:=fun a ha o ho=>by
  rw [List.contains_iff_mem,zo] at ha;obtain ⟨i,w,el,_,q2,q3⟩:=ha;obtain ⟨w',xs,b,e,hpx⟩:=Jo t 0 i _ t2 q3;cases e;rcases h2.obj i _ q3 with ⟨q,_⟩ | ⟨i',el',p1,p2,p3⟩
  ·rw [q] at q2;cases q2
  ·rw [p1] at q2;cases q2;rw [p2] at ho;cases ho;simp only [qC.nol,Bool.true_and];exact Z3 _ _ _ hpx p3
 have hin:∀i a o,ρ' i=some (some a)→hr' a=some o→(zC ρ' (lay t 0).2 (List.range t.rows)).contains a=true:=fun i a o ha ho=>by
  have hi:i<(lay t 0).2.length:=by
   rcases Nat.lt_or_ge i (lay t 0).2.length with q | q
   ·exact q
   ·rw [h2.out i q] at ha;cases ha
  obtain ⟨w,xs,b,e,_⟩:=Jo t 0 i _ t2 (gEg hi);rw [List.contains_iff_mem,zo];exact ⟨i,w,_,List.mem_range.2 (by rw [qV] at hi;exact hi),ha,by rw [gEg hi,e]⟩
 have hx:=Ex.brn KK (zC ρ' (lay t 0).2 (List.range t.rows)) hKK g1 g2 (qMP t 0 r t2 h3) (fun a o ha _ ho=>hrow a ha o ho) h1;obtain ⟨q1,q2,q3⟩:=Vn (h2:=hr.join hr' (zC ρ' (lay t 0).2 (List.range t.rows))) t2 hH h2 h3 hnew (fun a o ho=>AH.join_old' ho) (fun i a o ha ho=>by
  rw [AH.join_new' (hnew i a ha).1,if_pos (hin i a o ha ho)];exact ho) (fun a ha=>(AH.fr_join ha).1)
 exact ⟨k,r,_,_,_,_,hx,hk,q1,q2,q3,by simp,fun a o ho=>AH.join_old' ho⟩
end Go.Ab
namespace Go.Ab
open Go
section
variable {Γ:Nat→Option AFn} {g:Nat}
def FinF (vs:Option (List AV)) (h:List qC) (t:AV):Prop:=match vs with
 | some vs=>∃μ,zW μ=true∧zy μ h μ (lay t 0).2∧VR2 μ (qz vs) (lay t 0).1
 | none=>False
def Zu (res:List zK) (t:AV):qX→VSt→Prop:=fun e st=>(e=.nrm∨e=.ret)∧FinF (zD (zQ st) res) st.h t
@[go_sem] theorem qs0 {res:List zK} {t:AV} {s m:qb} {h:List qC}:Zu res t .ret ⟨s,m,h⟩=FinF (zD (zQ ⟨s,m,h⟩) res) h t:=by
 simp [Zu]
@[go_sem] theorem qsZ {res:List zK} {t:AV} {s m:qb} {h:List qC}:Zu res t .nrm ⟨s,m,h⟩=FinF (zD (zQ ⟨s,m,h⟩) res) h t:=by
 simp [Zu]
theorem Fresh.intro {F:qN} {as:List AV} {t:AV} (fz bp:List Nat) (hg:Γ g=some (.fn F)) (hok:F.body.ok=true) (hn:as.length=F.np) (ht:AV.trees as=true) (hp:t.pl=true)
  (hR:R ⟨Γ,0,fz,bp⟩ [.code F.body] ⟨qP 0 as,[],[]⟩ (Zu F.res t)):Fresh Γ g as t:=by
 unfold Fresh;refine ⟨ht,hp,fun hr ar har=> ?_⟩;have hS:qv ρ0 ⟨qP 0 as,[],[]⟩ {s:=params 0 ar,l:=Env.empty,h:=hr}:=⟨Jv har,(fun n v h=>by cases h),⟨(fun i o h=>by simp at h),(fun i j a o o' h=>by cases h),(fun _ _=>rfl),(fun i a h=>by cases h)⟩⟩;obtain ⟨k,e,sr',ρ',st',g1,⟨he,hq⟩,g3,g4,_⟩:=Sem.of (by simpa only [List.all_cons,List.all_nil,Bool.and_true,Fr1.ok] using hok) hR ρ0 _ hS (Nat.zero_le _);have hb:Ex Γ k (.code F.body {s:=params 0 ar,l:=Env.empty,h:=hr}) (.st e sr'):=by
  cases g1 with
  | code h h'=>cases h';exact h
  | codeX h he' hx h'=>cases e<;>simp [exK] at hx
  | codeE h he' hx=>exact h
 unfold FinF at hq;split at hq
 ·rename_i vs hvs;obtain ⟨μ,m1,m2,m3⟩:=hq;obtain ⟨rs,q1,q2⟩:=Jz g3 hvs;have hx:=Ex.fn hg (by rw [har.length];exact hn) hb he q1;obtain ⟨r1,r2⟩:=qRG m1 m2 g3.h;exact ⟨k+1,_,_,_,hx,r1,m3.rel (Q9 q2),g4.trans r2⟩
 ·exact hq.elim
mutual
theorem qMN {μ:List (Option Nat)}:∀(t:AV) (a b:Nat),t.pl=true→(∀i,i<t.rows→μ[b+i]?=some (some (a+i)))→VR2 μ (lay t a).1 (lay t b).1
 |.lst w xs _,a,b,_,h=>by
  simp only [lay];exact .slice (by have:=h 0 (by simp only [AV.rows];omega);simpa using this)
 |.agg xs,a,b,hp,h=>by
  simp only [lay];have:=Z2 xs a b hp h;exact .agg this.1 this.2
 |.tup xs,a,b,hp,h=>by
  simp only [lay];have:=Z2 xs a b hp h;exact .tup this.1 this.2
 |.bool _,_,_,_,_ |.int _ _,_,_,_,_ |.str _,_,_,_,_ |.nilp,_,_,_,_ |.nils,_,_,_,_ |.nilm,_,_,_,_ |.nilf,_,_,_,_ |.nili,_,_,_,_=>by
  simp only [lay];exact .tree rfl
 |.any,_,_,hp,_ |.ptr _ _ _,_,_,hp,_ |.slice _ _ _ _ _,_,_,hp,_ |.map _,_,_,hp,_ |.ept _ _,_,_,hp,_ |.fn _ _,_,_,hp,_ |.iface _ _,_,_,hp,_=>by cases hp
theorem Z2 {μ:List (Option Nat)}:∀(xs:List AV) (a b:Nat),AV.pls xs=true→(∀i,i<AV.rowss xs→μ[b+i]?=some (some (a+i)))→VR2s μ (qS xs a).1 (qS xs b).1
 |[],_,_,_,_=>VR2s.nil
 | x::xs,a,b,hp,h=>by
  simp only [AV.pls,bAt] at hp;simp only [AV.rowss] at h;simp only [qS,qV];refine .cons (qMN x a b hp.1 fun i hi=>h i (by omega)) (Z2 xs _ _ hp.2 fun i hi=> ?_);rw [show b+x.rows+i=b+(x.rows+i) by omega,show a+x.rows+i=a+(x.rows+i) by omega];exact h _ (by omega)
end
mutual
theorem qMM {μ:List (Option Nat)} {h:List qC}:∀(t:AV) (a b:Nat),t.pl=true→(∀i,i<t.rows→μ[b+i]?=some (some (a+i)))→(∀i o,(lay t a).2[i]?=some o→h[a+i]?=some o)→
  ∀i o,(lay t b).2[i]?=some o→OR2 μ h (some (a+i)) o
 |.lst w xs _,a,b,hp,hm,hh,i,o,hi=>by
  simp only [lay] at hi hh;simp only [AV.rows] at hm;have hm':∀i,i<AV.rowss xs→μ[b+1+i]?=some (some (a+1+i)):=fun i hi=>by
   rw [show b+1+i=b+(i+1) by omega,show a+1+i=a+(i+1) by omega];exact hm _ (by omega)
  cases i with
  | zero=>
   simp only [List.getElem?_cons_zero,oSi] at hi;subst hi;exact .row (hh 0 _ rfl) (Z2 xs _ _ hp hm')
  | succ i=>
   have:=Z1 xs (a+1) (b+1) hp hm' (fun i o hi=>by
    rw [show a+1+i=a+(i+1) by omega];exact hh (i+1) o (by simpa using hi)) i o (by simpa using hi)
   rw [show a+1+i=a+(i+1) by omega] at this;exact this
 |.agg xs,a,b,hp,hm,hh,i,o,hi=>by
  simp only [lay] at hi hh;exact Z1 xs a b hp hm hh i o hi
 |.tup xs,a,b,hp,hm,hh,i,o,hi=>by
  simp only [lay] at hi hh;exact Z1 xs a b hp hm hh i o hi
 |.bool _,_,_,_,_,_,_,_,h |.int _ _,_,_,_,_,_,_,_,h |.str _,_,_,_,_,_,_,_,h |.nilp,_,_,_,_,_,_,_,h |.nils,_,_,_,_,_,_,_,h |.nilm,_,_,_,_,_,_,_,h |.nilf,_,_,_,_,_,_,_,h |.nili,_,_,_,_,_,_,_,h=>by
  simp [lay] at h
 |.any,_,_,hp,_,_,_,_,_ |.ptr _ _ _,_,_,hp,_,_,_,_,_ |.slice _ _ _ _ _,_,_,hp,_,_,_,_,_ |.map _,_,_,hp,_,_,_,_,_ |.ept _ _,_,_,hp,_,_,_,_,_ |.fn _ _,_,_,hp,_,_,_,_,_ |.iface _ _,_,_,hp,_,_,_,_,_=>by cases hp
theorem Z1 {μ:List (Option Nat)} {h:List qC}:∀(xs:List AV) (a b:Nat),AV.pls xs=true→(∀i,i<AV.rowss xs→μ[b+i]?=some (some (a+i)))→(∀i o,(qS xs a).2[i]?=some o→h[a+i]?=some o)→
  ∀i o,(qS xs b).2[i]?=some o→OR2 μ h (some (a+i)) o
 |[],_,_,_,_,_,_,_,hi=>by simp [qS] at hi
 | x::xs,a,b,hp,hm,hh,i,o,hi=>by
  simp only [AV.pls,bAt] at hp;simp only [AV.rowss] at hm;simp only [qS,qV] at hi hh;rcases Nat.lt_or_ge i x.rows with q | q
  ·rw [gAl (by rw [qV];exact q)] at hi;exact qMM x a b hp.1 (fun i hi=>hm i (by omega)) (fun i o hi=>hh i o (by rw [gAl (gSi.1 hi).1];exact hi)) i o hi
  ·rw [gAr (by rw [qV];exact q),qV] at hi;have:=Z1 xs (a+x.rows) (b+x.rows) hp.2 (fun i hi=>by
    rw [show b+x.rows+i=b+(x.rows+i) by omega,show a+x.rows+i=a+(x.rows+i) by omega];exact hm _ (by omega)) (fun i o hi=>by
    rw [show a+x.rows+i=a+(x.rows+i) by omega];exact hh _ o (by rw [gAr (by rw [qV];omega),qV,Nat.add_sub_cancel_left];exact hi)) (i-x.rows) o hi
   rw [show a+x.rows+(i-x.rows)=a+i by omega] at this;exact this
end
theorem Q8 {μ:List (Option Nat)} {h:List qC}:∀{r:List (Option Nat)} {h':List qC},r.length=h'.length→(∀(i:Nat) (j:Option Nat) (o:qC),r[i]?=some j→h'[i]?=some o→OR2 μ h j o)→zy μ h r h'
 |[],[],_,_=>trivial
 | j::r,o::h',hl,hh=>⟨hh 0 j o rfl rfl,Q8 (by simpa using hl) fun i j o h1 h2=>hh (i+1) j o (by simpa using h1) (by simpa using h2)⟩
 |[],_::_,hl,_=>by simp at hl
 | _::_,[],hl,_=>by simp at hl
theorem Qi:∀{l:List Nat},l.Nodup→zW (l.map some)=true
 |[],_=>rfl
 | x::l,h=>by
  rw [List.nodup_cons] at h;simp only [List.map_cons,zW,bAt,List.all_eq_true];refine ⟨fun y hy=> ?_,Qi h.2⟩;obtain ⟨z,hz,rfl⟩:=List.mem_map.1 hy;have:x≠z:=fun e=>h.1 (by rw [e];exact hz);have hb:Nat.beq x z=false:=by
   rw [←Bool.not_eq_true];intro q;exact this (Nat.eq_of_beq_eq_true q)
  show (!Nat.beq x z)=true;rw [hb];rfl
theorem j4 {vs:List AV} {h pre post:List qC} {t:AV} (hp:t.pl=true) (hv:qz vs=(lay t pre.length).1) (hh:h=pre++((lay t pre.length).2++post)):FinF (some vs) h t:=by
 have hm:∀i,i<t.rows→((List.range' pre.length t.rows).map some)[0+i]?=some (some (pre.length+i)):=fun i hi=>by
  rw [gMp,List.getElem?_range' (by omega)];simp
 refine ⟨(List.range' pre.length t.rows).map some,Qi (List.nodup_range'),Q8 (by simp [qV]) fun i j o h1 h2=> ?_, ?_⟩
 ·have hi:i<t.rows:=by have:=(gSi.1 h2).1;rw [qV] at this;exact this
  have:=hm i hi;rw [nZa] at this;rw [this] at h1;cases h1;refine qMM t pre.length 0 hp hm (fun i o hi=> ?_) i o h2;rw [hh,gAr (by omega),Nat.add_sub_cancel_left,gAl (gSi.1 hi).1];exact hi
 ·rw [hv];exact qMN t _ _ hp hm
def Mark (Γ:Nat→Option AFn) (g:Nat) (t t':AV) (k k':Int):Prop:=
 t.pl=true∧t'.pl=true∧t'.rows=t.rows∧∀ρ hr r,qd ρ (lay t 0).2 hr→RelV ρ (lay t 0).1 r→∃kk hr' ρ',Ex Γ kk (.call g [r,.int .i64 k] hr) (.res (.ok (.int .i64 k')) hr')∧qd ρ' (lay t' 0).2 hr'∧Fm t.rows ρ hr ρ' hr'
def VM (vs:Option (List AV)) (h:List qC) (k:Int) (os:List qC):Prop:=vs=some [.int .i64 k]∧h=os
def Zv (res:List zK) (k:Int) (os:List qC):qX→VSt→Prop:=fun e st=>(e=.nrm∨e=.ret)∧VM (zD (zQ st) res) st.h k os
@[go_sem] theorem qs4 {res:List zK} {k:Int} {os:List qC} {s m:qb} {h:List qC}:Zv res k os .ret ⟨s,m,h⟩=VM (zD (zQ ⟨s,m,h⟩) res) h k os:=by
 simp [Zv]
@[go_sem] theorem qs3 {res:List zK} {k:Int} {os:List qC} {s m:qb} {h:List qC}:Zv res k os .nrm ⟨s,m,h⟩=VM (zD (zQ ⟨s,m,h⟩) res) h k os:=by
 simp [Zv]
theorem JP {h os:List qC} {k k':Int} (hk:k=k') (hh:h=os):VM (some [.int .i64 k]) h k' os:=⟨by rw [hk],hh⟩
theorem Mark.intro {F:qN} {t t':AV} {k k':Int} (hg:Γ g=some (.fn F)) (hok:F.body.ok=true) (hn:F.np=2) (hp:t.pl=true) (hp':t'.pl=true) (hl:t'.rows=t.rows)
  (hR:R ⟨Γ,t.rows,[],[]⟩ [.code F.body] ⟨qP 0 [(lay t 0).1,.int .i64 k],[],(lay t 0).2⟩ (Zv F.res k' (lay t' 0).2)):Mark Γ g t t' k k':=by
 refine ⟨hp,hp',hl,fun ρ hr r hH hv=> ?_⟩;have hS:qv ρ ⟨qP 0 [(lay t 0).1,.int .i64 k],[],(lay t 0).2⟩ {s:=params 0 [r,.int .i64 k],l:=Env.empty,h:=hr}:=
  ⟨Jv (by simp only [RelVs];exact ⟨_,_,rfl,hv,_,_,rfl,by simp only [RelV],rfl⟩),(fun n v h=>by cases h),hH⟩
 obtain ⟨kk,e,sr',ρ',st',g1,⟨he,hq⟩,g3,g4,_⟩:=Sem.of (by simpa only [List.all_cons,List.all_nil,Bool.and_true,Fr1.ok] using hok) hR ρ _ hS (by rw [qV];exact Nat.le_refl _);have hb:Ex Γ kk (.code F.body {s:=params 0 [r,.int .i64 k],l:=Env.empty,h:=hr}) (.st e sr'):=by
  cases g1 with
  | code h h'=>cases h';exact h
  | codeX h he' hx h'=>cases e<;>simp [exK] at hx
  | codeE h he' hx=>exact h
 obtain ⟨q1,q2⟩:=hq;obtain ⟨rs,q3,q4⟩:=Jz g3 q1;have hx:=Ex.fn hg (by rw [hn];rfl) hb he q3;have hr1:RelV ρ' (.int .i64 k') (qz rs):=Q9 q4;simp only [RelV] at hr1;rw [hr1] at hx;exact ⟨kk+1,_,ρ',hx,by rw [←q2];exact g3.h,g4⟩
theorem SCall.mark {K:AV→List qC→Prop} {pre post h:List qC} {t t':AV} {k k':Int} {v:AV} (hm:Mark Γ g t t' k k') (hh:h=pre++((lay t pre.length).2++post)) (hva:v=(lay t pre.length).1)
  (hk:K (.int .i64 k') (pre++((lay t' pre.length).2++post))):SCall Γ g [v,.int .i64 k] h K:=fun ρ hr ar hH hv=>by
 obtain ⟨hp,hp',hl,hm⟩:=hm;subst hh;subst hva;simp only [RelVs,RelV] at hv;obtain ⟨r,rs,rfl,hv,_,_,rfl,rfl,rfl⟩:=hv;obtain ⟨n,hn⟩:∃n,n=pre.length:=⟨_,rfl⟩;rw [←hn] at hH hv hk;have mid:∀i,(hi:i<t.rows)→∃w xs b,(pre++((lay t n).2++post))[n+i]?=some (.row w (qS xs b).1 true)∧(lay t n).2[i]?=some (.row w (qS xs b).1 true):=fun i hi=>by
  have hlt:i<(lay t n).2.length:=by rw [qV];exact hi
  obtain ⟨w,xs,b,e,_⟩:=Jo t n i _ hp (gEg hlt);refine ⟨w,xs,b, ?_,by rw [gEg hlt,e]⟩;rw [gAr (by omega),←hn,Nat.add_sub_cancel_left,gAl hlt,gEg hlt,e]
 have sh:Sh2 ρ n (fun i=>if i<t.rows then ρ (n+i) else none) 0 t.rows:=fun i hi=>by
  simp only [nZa];rw [if_pos hi]
 have lies:Lies ρ n (lay t n).2 hr:=fun i o hi=>hH.obj (n+i) o (by
  rw [gAr (by omega),←hn,Nat.add_sub_cancel_left,gAl (gSi.1 hi).1];exact hi)
 have lies0:=V5 t n 0 hp sh (fun _ _ _ _ _ h=>h) lies;have hH0:qd (fun i=>if i<t.rows then ρ (n+i) else none) (lay t 0).2 hr:=by
  refine ⟨fun i o hi=>by have:=lies0 i o hi;rwa [nZa] at this,fun i j a o o' h1 h2 _ _ _ _=> ?_,fun i hi=> ?_,fun i a ha=> ?_⟩
  ·try simp only at h1 h2
   split at h1
   ·rename_i q1;split at h2
    ·rename_i q2;obtain ⟨w1,x1,b1,e1,_⟩:=mid i q1;obtain ⟨w2,x2,b2,e2,_⟩:=mid j q2;have:=hH.inj _ _ a _ _ h1 h2 e1 e2 (by simp) (by simp);omega
    ·cases h2
   ·cases h1
  ·rw [qV] at hi;show (if i<t.rows then ρ (n+i) else none)=none;rw [if_neg (by omega)]
  ·try simp only at ha
   split at ha
   ·exact hH.is _ a ha
   ·cases ha
 obtain ⟨kk,hr',ρ',hx,hH',hF⟩:=hm _ hr r hH0 (qMQ t n 0 r hp sh hv);have hρ:∀i,ρ' i=if i<t.rows then ρ (n+i) else none:=fun i=>by
  by_cases q:i<t.rows
  ·exact hF.base i q
  ·rw [if_neg q];exact hH'.out i (by rw [qV];omega)
 have sh':Sh2 ρ' 0 ρ n t'.rows:=fun i hi=>by
  rw [nZa,hρ,if_pos (by omega)]
 have lies':Lies ρ n (lay t' n).2 hr':=V5 t' 0 n hp' sh' (fun _ _ _ _ _ h=>h) (fun i o hi=>by rw [nZa];exact hH'.obj i o hi);have out:∀(i a:Nat) (o:qC),(i<n∨n+t.rows≤i)→(pre++((lay t n).2++post))[i]?=some o→o≠.dead→ρ i=some (some a)→∀x,hr a=some x→hr' a=some x:=fun i a o hi ho hd ha x hxx=>by
  refine hF.pres a x hxx fun j hj=> ?_
  try simp only at hj
  split at hj
  ·rename_i q;obtain ⟨w,xs,b,e,_⟩:=mid j q;have:=hH.inj _ _ a _ _ ha hj ho e hd (by simp);omega
  ·cases hj
 have hlen:(lay t' n).2.length=t.rows:=by rw [qV,hl]
 have hlen0:(lay t n).2.length=t.rows:=by rw [qV]
 have oldAt:∀(i:Nat) (o:qC),(pre++((lay t' n).2++post))[i]?=some o→(i<n∨n+t.rows≤i)→(pre++((lay t n).2++post))[i]?=some o:=fun i o ho hi=>by
  rcases hi with q | q
  ·rw [gAl (by omega)] at ho⊢;exact ho
  ·rw [gAr (by omega),gAr (by omega)] at ho⊢;rw [hlen] at ho;rw [hlen0];exact ho
 refine ⟨kk,_,hr',ρ,_,_,hx,hk,⟨fun i o hi=> ?_,fun i j a o o' h1 h2 hi hj d1 d2=> ?_,fun i hi=>hH.out i (by simp only [lAp,hlen,hlen0] at hi⊢;exact hi),fun i a ha=> ?_⟩,by simp only [RelV],⟨fun a o ho hno=>hF.pres a o ho fun j hj=> ?_,fun i a ha=>.inl ⟨i,ha⟩,hF.fr,fun _ _=>rfl⟩,by simp only [lAp,qV,hl];omega⟩
 ·by_cases q:i<n∨n+t.rows≤i
  ·have ho:=oldAt i o hi q;by_cases hd:o=.dead
   ·subst hd;trivial
   ·exact (hH.obj i o ho).mono (fun _ _ h=>h) fun a x ha hxx=>out i a o q ho hd ha x hxx
  ·have q1:n≤i:=by omega
   have:=lies' (i-n) o (by
    rw [gAr (by omega),gAl (by rw [hlen];omega),←hn] at hi;exact hi)
   rwa [show n+(i-n)=i by omega] at this
 ·have back:∀(i:Nat) (o:qC),(pre++((lay t' n).2++post))[i]?=some o→o≠.dead→∃o2,(pre++((lay t n).2++post))[i]?=some o2∧o2≠.dead:=fun i o ho hd=>by
   by_cases q:i<n∨n+t.rows≤i
   ·exact ⟨o,oldAt i o ho q,hd⟩
   ·obtain ⟨w,xs,b,e,_⟩:=mid (i-n) (by omega);rw [show n+(i-n)=i by omega] at e;exact ⟨_,e,by simp⟩
  obtain ⟨o2,e1,e2⟩:=back i o hi d1;obtain ⟨o3,e3,e4⟩:=back j o' hj d2;exact hH.inj i j a o2 o3 h1 h2 e1 e3 e2 e4
 ·obtain ⟨o,ho⟩:=hH.is i a ha;by_cases q:∃j,ρ' j=some (some a)
  ·obtain ⟨j,hj⟩:=q;exact hH'.is j a hj
  ·refine ⟨o,hF.pres a o ho fun j hj=>q ⟨j, ?_⟩⟩;rw [hρ];exact hj
 ·try simp only at hj
  split at hj
  ·exact hno _ hj
  ·cases hj
mutual
def AV.cn:AV→Bool
 |.lst w xs c=>decide (0<w)&& !c&&AV.cns xs
 |.agg xs |.tup xs=>AV.cns xs
 | _=>true
def AV.cns:List AV→Bool
 |[]=>true
 | x::xs=>AV.cn x&&AV.cns xs
end
theorem qbJ {h:List qC} {a b:AV} {as bs:List AV} (x:Cv h a b) (y:∀p∈as.zip bs,Cv h p.1 p.2):∀p∈(a::as).zip (b::bs),Cv h p.1 p.2:=fun p hp=>by
 simp only [List.zip_cons_cons,List.mem_cons] at hp;rcases hp with rfl | hp
 ·exact x
 ·exact y p hp
mutual
theorem qP5 {h:List qC}:∀(t:AV) (a:Nat),t.pl=true→t.cn=true→(∀i o,(lay t a).2[i]?=some o→h[a+i]?=some o)→Cv h (lay t a).1 t
 |.lst w xs c,a,hp,hc,hh=>by
  simp only [AV.cn,bAt,decide_eq_true_eq,Bool.not_eq_true'] at hc;obtain ⟨⟨h0,rfl⟩,hc⟩:=hc;simp only [lay] at hh⊢;have l:=jQ xs (a+1);refine .slc (hh 0 _ rfl) (by omega) h0 (by rw [List.drop_zero,←l,List.take_length,l]) ?_;rw [List.drop_zero,←l,List.take_length];exact V6 xs (a+1) hp hc fun i o hi=>by
   rw [show a+1+i=a+(i+1) by omega];exact hh (i+1) o (by simpa using hi)
 |.agg xs,a,hp,hc,hh=>by
  simp only [lay] at hh⊢;exact .agg (jQ xs a) (V6 xs a hp hc hh)
 |.tup xs,a,hp,hc,hh=>by
  simp only [lay] at hh⊢;exact .tup (jQ xs a) (V6 xs a hp hc hh)
 |.bool _,_,_,_,_ |.int _ _,_,_,_,_ |.str _,_,_,_,_ |.nilp,_,_,_,_ |.nils,_,_,_,_ |.nilm,_,_,_,_ |.nilf,_,_,_,_ |.nili,_,_,_,_=>by
  simp only [lay];exact .refl rfl
 |.any,_,hp,_,_ |.ptr _ _ _,_,hp,_,_ |.slice _ _ _ _ _,_,hp,_,_ |.map _,_,hp,_,_ |.ept _ _,_,hp,_,_ |.fn _ _,_,hp,_,_ |.iface _ _,_,hp,_,_=>by cases hp
theorem V6 {h:List qC}:∀(xs:List AV) (a:Nat),AV.pls xs=true→AV.cns xs=true→(∀i o,(qS xs a).2[i]?=some o→h[a+i]?=some o)→∀p∈(qS xs a).1.zip xs,Cv h p.1 p.2
 |[],_,_,_,_=>fun p hp=>by simp at hp
 | x::xs,a,hp,hc,hh=>by
  simp only [AV.pls,bAt] at hp;simp only [AV.cns,bAt] at hc;simp only [qS,qV] at hh⊢;refine qbJ (qP5 x a hp.1 hc.1 fun i o hi=>hh i o (by rw [gAl (gSi.1 hi).1];exact hi)) (V6 xs _ hp.2 hc.2 fun i o hi=> ?_);rw [show a+x.rows+i=a+(x.rows+i) by omega];exact hh _ o (by rw [gAr (by rw [qV];omega),qV,Nat.add_sub_cancel_left];exact hi)
end
theorem qMO {pre post h:List qC} {t:AV} (hp:t.pl=true) (hc:t.cn=true) (hh:h=pre++((lay t pre.length).2++post)):Cv h (lay t pre.length).1 t:=
 qP5 t _ hp hc fun i o hi=>by
  rw [hh,gAr (by omega),Nat.add_sub_cancel_left,gAl (gSi.1 hi).1];exact hi
end
section
variable {E:Ev} {ks:List Fr1} {s m:qb} {h:List qC} {Q:qX→VSt→Prop} {l:List qB}
theorem zp {ck:Bool} {k e:Nat} {vs:List AV} {t:AV} (hp:Fresh E.Γ k vs t) (hr:R E (.ops l::ks) ⟨(e,(lay t h.length).1)::s,m,h++(lay t h.length).2⟩ Q):jZ E (some (k,vs)) ck (some e) l ks ⟨s,m,h⟩ Q:=by
 unfold jZ;cases ck
 ·exact SCall.fresh hp hr
 ·exact SCallK.fresh hp hr
theorem qLT {ck:Bool} {k e:Nat} {vs vs':List AV} {t:AV} (hc:Cvs h vs vs') (hp:Fresh E.Γ k vs' t) (hr:R E (.ops l::ks) ⟨(e,(lay t h.length).1)::s,m,h++(lay t h.length).2⟩ Q):jZ E (some (k,vs)) ck (some e) l ks ⟨s,m,h⟩ Q:=by
 unfold jZ;cases ck
 ·exact SCall.freshL hc hp hr
 ·exact SCallK.freshL hc hp hr
theorem qTU {k e:Nat} {pre post:List qC} {t t':AV} {a b:Int} {v:AV} (hm:Mark E.Γ k t t' a b) (hh:h=pre++((lay t pre.length).2++post)) (hv:v=(lay t pre.length).1)
  (hr:R E (.ops l::ks) ⟨(e,.int .i64 b)::s,m,pre++((lay t' pre.length).2++post)⟩ Q):jZ E (some (k,[v,.int .i64 a])) false (some e) l ks ⟨s,m,h⟩ Q:=by
 unfold jZ;exact SCall.mark hm hh hv hr
end
section
variable {α:Type} {enc:α→AV} {w:Nat} {sh:Option Nat} {Γ:Nat→Option AFn} {g gc:Nat}
theorem zH (h:∀x,(enc x).pl=true):∀xs:List α,AV.pls (xs.map enc)=true
 |[]=>rfl
 | x::xs=>by simp only [List.map_cons,AV.pls,h x,zH h xs,Bool.and_self]
theorem jc (h:∀x,(enc x).cn=true):∀xs:List α,AV.cns (xs.map enc)=true
 |[]=>rfl
 | x::xs=>by simp only [List.map_cons,AV.cns,h x,jc h xs,Bool.and_self]
theorem Z0 {t:AV} {n:Nat} (hp:t.pl=true):(lay t n).1.cells.length=t.cells.length:=by
 cases t<;>first
  | rfl
  | (cases hp;done)
  | (simp only [lay,AV.cells];exact jQ _ _)
theorem qW1 {t:AV} {n:Nat} (hp:t.pl=true):(∃cs,(lay t n).1=.agg cs)↔∃cs,t=.agg cs:=by
 cases t<;>simp [lay]<;>first
  | (cases hp;done)
  | skip
theorem qP6 {t:AV} {n k:Nat} (hp:t.pl=true) (ha:∃cs,t=.agg cs) (hk:t.cells.length=k):(lay t n).1.part 0 (some k)=some (lay t n).1:=by
 obtain ⟨cs,rfl⟩:=ha;simp only [AV.cells] at hk;simp only [lay,AV.part,AV.cells,jQ,hk,nZa,Nat.le_refl,if_true,List.drop_zero];rw [List.take_of_length_le (by rw [jQ];omega)]
theorem qU3 {z:AV} {A:List AV} {i n:Nat} (hl:A.length=i) (hi:i<n):(A++List.replicate (n-i) z)[i]?=some z:=by
 rw [gAr (by omega),hl,Nat.sub_self,List.getElem?_replicate,if_pos (by omega)]
theorem qaO {z v:AV} {A:List AV} {i n:Nat} (hl:A.length=i) (hi:i<n):(A++List.replicate (n-i) z).set i v=A++(v::List.replicate (n-(i+1)) z):=by
 rw [List.set_append_right _ _ (by omega),hl,Nat.sub_self,show n-i=(n-(i+1))+1 by omega,List.replicate_succ,List.set_cons_zero]
theorem Uq {z:AV} (hs:Sh enc w sh) (hpl:∀x,(enc x).pl=true) (hz:z.tree=true) (hzl:z.cells.length=w) (hza:(∃cs,z=.agg cs)↔sh≠none) (hg:Γ g=some (.fn (toS w sh z gc))) (xs:List α) (hc:∀x∈xs,Fresh Γ gc [enc x] (enc x)) (hl:xs.length≤1048576):
  Fresh Γ g [.lst w (xs.map enc) false] (.lst w (xs.map enc) false):=by
 have ht:AV.trees (xs.map enc)=true:=zA hs.tree xs;refine Fresh.intro [] [] hg (by simp [toS,qL.ok,AOp.ok,wu,Ao.ok,AV.tree,hz,qB.o,qB.d,qB.ck,AOp.isCall]) rfl (by simp [AV.trees,AV.tree,ht]) (zH hpl xs) ?_;simp only [toS,qP,go_sem,Nat.reduceEqDiff,reduceIte];refine Z9 (by simp only [lMp,LIM];omega) ?_;simp only [go_sem,Nat.reduceEqDiff,reduceIte];refine Sem.loop (fun i:Nat=>i≤xs.length)
  (fun i=>(⟨[(0,.lst w (xs.map enc) false),(3,.slice w 0 0 xs.length false),(4,.int .i64 (i:Nat))],[],.row w ((qS ((xs.take i).map enc) 1).1++List.replicate (xs.length-i) z) true::(qS ((xs.take i).map enc) 1).2⟩:VSt)) (fun i=>xs.length-i) 0
  (by simp [Fr1.ok,qL.ok,AOp.ok,wu,Ao.ok,AV.tree,qB.o,qB.d,qB.ck,AOp.isCall]) (Nat.zero_le _) ?_ ?_
 ·simp only [List.take_zero,List.map_nil,qS,List.nil_append,Nat.sub_zero,lMp,lNi];exact Can.sub (by simp [go_sem]) trivial
 ·intro i hi;simp only [go_sem,Nat.reduceEqDiff,reduceIte];refine qM ?_ ?_<;>intro hc2<;>simp only [hc2,go_sem,Nat.reduceEqDiff,reduceIte]
  ·have hlt:i<xs.length:=by have:=odT hc2;(try simp only [lMp] at this);omega
   have hA:(qS ((xs.take i).map enc) 1).1.length=i:=by rw [jQ];simp;omega
   simp only [gMp,gEg hlt,oMs,hs.part,go_sem,Nat.reduceEqDiff,reduceIte,Bool.not_true];refine zp (hc xs[i] (gMm hlt)) ?_;simp only [go_sem,Nat.reduceEqDiff,reduceIte,zF hlt,nZa,List.cons_append];refine qp (by rw [Z0 (hpl _)];exact hs.len _) rfl (qU3 hA hlt) (wK hzl (by rw [Z0 (hpl _)];exact hs.len _) (by rw [hza,qW1 (hpl _),hs.agg]) hs.pos) ?_;rw [qaO hA hlt];simp only [go_sem,Nat.reduceEqDiff,reduceIte,qq (show i<4611686018427387904 by omega),List.set_cons_zero];refine qo (i+1) (by omega) (by omega) ?_;have e:(xs.take (i+1)).map enc=(xs.take i).map enc++[enc xs[i]]:=by
    rw [List.take_succ_eq_append_getElem hlt,List.map_append];rfl
   simp only [e,w8,qS,lAn,lAa,lCo,zO,List.cons_append,List.nil_append,Nat.add_comm 1];exact Can.sub (by simp [go_sem]) trivial
  ·have hge:i=xs.length:=by have:=odF hc2;(try simp only [lMp] at this);omega
   subst hge;simp only [List.take_length,Nat.sub_self,List.replicate_zero,lAn];exact j4 (pre:=[]) (post:=[]) (zH hpl xs) (by simp [qz,lay]) (by simp [lay])
theorem lI (ys:List Int):∀n,qS (ys.map qD) n=(ys.map qD,[]):=by
 induction ys with
 | nil=>intro n;rfl
 | cons y ys ih=>intro n;simp only [List.map_cons,qS,qD,lay,lNi,Nat.add_zero,List.nil_append,ih]
theorem qa5 (hg:Γ g=some (.fn WQ)) (xs:List Int) (hl:xs.length≤1048576):Fresh Γ g [.lst 1 (xs.map qD) false] (.lst 1 (xs.map qD) false):=by
 have ht:AV.trees (xs.map qD)=true:=zA shI.tree xs;refine Fresh.intro [] [] hg (by kernel_rfl) rfl (by simp [AV.trees,AV.tree,ht]) (zH (fun _=>rfl) xs) ?_;simp only [WQ,qP,go_sem,Nat.reduceEqDiff,reduceIte];refine Z9 (by simp only [lMp,LIM];omega) ?_;simp only [go_sem,Nat.reduceEqDiff,reduceIte];refine Sem.loop (fun i:Nat=>i≤xs.length)
  (fun i=>(⟨[(0,.lst 1 (xs.map qD) false),(3,.slice 1 0 0 xs.length false),(4,.int .i64 (i:Nat))],[],[.row 1 ((xs.take i).map qD++List.replicate (xs.length-i) (.int .i64 0)) true]⟩:VSt)) (fun i=>xs.length-i) 0
  (by kernel_rfl) (Nat.zero_le _) ?_ ?_
 ·simp only [List.take_zero,List.map_nil,List.nil_append,Nat.sub_zero,lMp,lNi];exact Can.sub (by simp [go_sem]) trivial
 ·intro i hi;simp only [go_sem,Nat.reduceEqDiff,reduceIte];refine qM ?_ ?_<;>intro hc2<;>simp only [hc2,go_sem,Nat.reduceEqDiff,reduceIte]
  ·have hlt:i<xs.length:=by have:=odT hc2;(try simp only [lMp] at this);omega
   simp only [gMp,gEg hlt,oMs,shI.part,go_sem,Nat.reduceEqDiff,reduceIte,zF hlt,nZa];refine qp (shI.len _) rfl (qMA hlt) (wK (k:=1) rfl (shI.len _) (by simp [qD]) (by decide)) ?_;rw [qNP hlt];simp only [go_sem,Nat.reduceEqDiff,reduceIte,qq (show i<4611686018427387904 by omega)];exact qo (i+1) (by omega) (by omega) (Can.sub (by simp [go_sem]) trivial)
  ·have hge:i=xs.length:=by have:=odF hc2;(try simp only [lMp] at this);omega
   subst hge;simp only [List.take_length,Nat.sub_self,List.replicate_zero,lAn];exact j4 (pre:=[]) (post:=[]) (zH (fun _=>rfl) xs) (by simp [qz,lay]) (by simp [lay,lI])
def mkL (f:α→Int→α) (c:α→Nat):List α→Int→List α
 |[],_=>[]
 | x::xs,k=>f x k::mkL f c xs (k+c x)
theorem jL (f:α→Int→α) (c:α→Nat):∀(xs:List α) (k:Int),(mkL f c xs k).length=xs.length
 |[],_=>rfl
 | x::xs,k=>by simp only [mkL,lCo,jL f c xs]
theorem qM1 (f:α→Int→α) (c:α→Nat):∀(xs ys:List α) (k:Int),mkL f c (xs++ys) k=mkL f c xs k++mkL f c ys (k+qE c xs)
 |[],ys,k=>by simp [mkL,qE]
 | x::xs,ys,k=>by
  simp only [List.cons_append,mkL,qM1 f c xs ys,qE];congr 3;omega
theorem UL (f:α→Int→α) (c:α→Nat) {xs:List α} {i:Nat} (h:i<xs.length) (k:Int):mkL f c (xs.take (i+1)) k=mkL f c (xs.take i) k++[f xs[i] (k+qE c (xs.take i))]:=by
 rw [List.take_succ_eq_append_getElem h,qM1];rfl
theorem UK (f:α→Int→α) (c:α→Nat) {xs:List α} {i:Nat} (h:i<xs.length) (k:Int):(mkL f c xs k)[i]?=some (f xs[i] (k+qE c (xs.take i))):=by
 have e:xs=xs.take i++xs[i]::xs.drop (i+1):=by rw [←List.drop_eq_getElem_cons h,List.take_append_drop]
 have:mkL f c xs k=mkL f c (xs.take i) k++mkL f c (xs[i]::xs.drop (i+1)) (k+qE c (xs.take i)):=by
  rw [←qM1,←e]
 rw [this,gAr (by rw [jL];simp;omega),jL];simp [mkL,show min i xs.length=i by omega]
theorem ZI (c:α→Nat) {xs:List α} {i:Nat} (h:i<xs.length):qE c (xs.take (i+1))=qE c (xs.take i)+c xs[i]:=by
 have:∀(xs ys:List α),qE c (xs++ys)=qE c xs+qE c ys:=by
  intro xs ys;induction xs with
  | nil=>simp [qE]
  | cons x xs ih=>simp only [List.cons_append,qE,ih];omega
 rw [List.take_succ_eq_append_getElem h,this];simp [qE]
theorem ZH (c:α→Nat) (xs:List α) (i:Nat):qE c (xs.take i)≤qE c xs:=by
 have:∀(xs ys:List α),qE c (xs++ys)=qE c xs+qE c ys:=by
  intro xs ys;induction xs with
  | nil=>simp [qE]
  | cons x xs ih=>simp only [List.cons_append,qE,ih];omega
 have h:=this (xs.take i) (xs.drop i);rw [List.take_append_drop] at h;omega
def mkI (_:Int) (k:Int):Int:=k
def ctI (_:Int):Nat:=1
theorem wx:∀xs:List Int,qE ctI xs=xs.length
 |[]=>rfl
 | x::xs=>by simp only [qE,wx xs,ctI,lCo];omega
def qQG:qN:=⟨2,19,[.t 4],
 .seq (.reg true [⟨0,some 4,none,.mov (.c (.int .i64 0)),[]⟩]) (.seq (.seq (.reg true [⟨0,some 5,none,.mov (.c (.int .i64 0)),[]⟩]) (.blk 0 (.loop (.seq (.seq (.reg true [⟨0,some 6,none,.mov (.t 5),[]⟩,
⟨1,some 7,none,.mov (.t 0),[]⟩,
⟨2,some 8,none,.len (.t 7),[]⟩,
⟨3,some 9,none,.bin .lss (.t 6) (.t 8),[]⟩]) (.cond (.t 9) (.skip) (.exit 0))) (.seq (.blk 1 (.seq (.reg true [⟨0,some 12,none,.mov (.t 0),[]⟩,
⟨1,some 13,none,.mov (.t 5),[]⟩,
⟨2,some 14,none,.mov (.t 1),[]⟩,
⟨3,some 15,none,.iaddr 1 (.t 12) (.t 13),[]⟩,
⟨4,none,none,.store 1 (.t 15) (.t 14),[]⟩]) (.reg true [⟨0,some 16,none,.mov (.t 1),[]⟩,
⟨1,some 17,none,.bin .add (.t 16) (.c (.int .i64 1)),[]⟩,
⟨2,some 1,none,.mov (.t 17),[]⟩]))) (.reg true [⟨0,some 10,none,.mov (.t 5),[]⟩,
⟨1,some 11,none,.bin .add (.t 10) (.c (.int .i64 1)),[]⟩,
⟨2,some 5,none,.mov (.t 11),[]⟩])))))) (.seq (.reg true [⟨0,some 18,none,.mov (.t 1),[]⟩,
⟨1,some 4,none,.mov (.t 18),[]⟩]) (.ret)))⟩
def qPU:qN:=⟨2,21,[.t 4],
 .seq (.reg true [⟨0,some 4,none,.mov (.c (.int .i64 0)),[]⟩]) (.seq (.seq (.reg true [⟨0,some 5,none,.mov (.c (.int .i64 0)),[]⟩]) (.blk 0 (.loop (.seq (.seq (.reg true [⟨0,some 6,none,.mov (.t 5),[]⟩,
⟨1,some 7,none,.mov (.t 0),[]⟩,
⟨2,some 8,none,.len (.t 7),[]⟩,
⟨3,some 9,none,.bin .lss (.t 6) (.t 8),[]⟩]) (.cond (.t 9) (.skip) (.exit 0))) (.seq (.blk 1 (.seq (.seq (.reg true [⟨0,some 12,none,.mov (.t 0),[]⟩,
⟨1,some 13,none,.mov (.t 5),[]⟩,
⟨2,some 14,none,.iaddr 1 (.t 12) (.t 13),[]⟩,
⟨3,some 15,none,.load none (.t 14),[]⟩,
⟨4,some 16,none,.mov (.t 1),[]⟩,
⟨5,some 17,none,.bin .neq (.t 15) (.t 16),[]⟩]) (.cond (.t 17) (.seq (.reg true [⟨0,some 4,none,.mov (.c (.int .i64 (-1))),[]⟩]) (.ret)) (.skip))) (.reg true [⟨0,some 18,none,.mov (.t 1),[]⟩,
⟨1,some 19,none,.bin .add (.t 18) (.c (.int .i64 1)),[]⟩,
⟨2,some 1,none,.mov (.t 19),[]⟩]))) (.reg true [⟨0,some 10,none,.mov (.t 5),[]⟩,
⟨1,some 11,none,.bin .add (.t 10) (.c (.int .i64 1)),[]⟩,
⟨2,some 5,none,.mov (.t 11),[]⟩])))))) (.seq (.reg true [⟨0,some 20,none,.mov (.t 1),[]⟩,
⟨1,some 4,none,.mov (.t 20),[]⟩]) (.ret)))⟩
theorem qy {A B:List AV} {e:AV} {i:Nat} (h:A.length=i):(A++e::B)[i]?=some e:=by
 rw [gAr (by omega),h,Nat.sub_self];rfl
theorem zM {A B:List AV} {e v:AV} {i:Nat} (h:A.length=i):(A++e::B).set i v=A++v::B:=by
 rw [List.set_append_right _ _ (by omega),h,Nat.sub_self,List.set_cons_zero]
theorem Ue (ys:List Int):AV.rowss (ys.map qD)=0:=by
 have:=zO (ys.map qD) 0;rw [lI] at this;exact this.symm
theorem zS {xs:List AV} {c:Bool} {n:Nat}:(lay (.lst w xs c) n).1=.slice w n 0 xs.length false:=nr rfl
theorem qW2 {A B:List AV} {t:AV} {c:Bool}:(lay (.lst w (A++t::B) c) 0).2=.row w ((qS A 1).1++(lay t (1+AV.rowss A)).1::(qS B (1+AV.rowss A+t.rows)).1) true::((qS A 1).2++((lay t (1+AV.rowss A)).2++(qS B (1+AV.rowss A+t.rows)).2)):=by
 simp only [lay,w8,qS,qV,nZa]
theorem Qu {A B:List α} {z:α} {c:Bool}:(lay (.lst w ((A++z::B).map enc) c) 0).2=.row w ((qS (A.map enc) 1).1++(lay (enc z) (1+AV.rowss (A.map enc))).1::(qS (B.map enc) (1+AV.rowss (A.map enc)+(enc z).rows)).1) true::((qS (A.map enc) 1).2++((lay (enc z) (1+AV.rowss (A.map enc))).2++(qS (B.map enc) (1+AV.rowss (A.map enc)+(enc z).rows)).2)):=by
 rw [List.map_append,List.map_cons];exact qW2
theorem qT (f:α→Int→α) (c:α→Nat) (h:∀x k,(enc (f x k)).rows=(enc x).rows):∀(xs:List α) (k:Int),AV.rowss ((mkL f c xs k).map enc)=AV.rowss (xs.map enc)
 |[],_=>rfl
 | x::xs,k=>by simp only [mkL,List.map_cons,AV.rowss,h,qT f c h xs]
theorem jE {c:α→Nat} (h:∀x,c x≤16):∀xs:List α,qE c xs≤16*xs.length
 |[]=>Nat.le_refl _
 | x::xs=>by have:=jE h xs;have:=h x;simp only [qE,lCo];omega
theorem jT {c z:α→Nat} (h:∀x,c x≤16+16*z x):∀xs:List α,qE c xs≤16*(xs.length+qE z xs)
 |[]=>Nat.le_refl _
 | x::xs=>by have:=jT h xs;have:=h x;simp only [qE,lCo];omega
theorem qYI {F:qN} (hg:Γ g=some (.fn F)) (hF:F=qQG) (xs:List Int) (k:Int) (h0:0≤k) (hk:k+(qE ctI xs:Nat)≤4611686018427387904) (hz:xs.length≤4194304):
  Mark Γ g (.lst 1 (xs.map qD) false) (.lst 1 ((mkL mkI ctI xs k).map qD) false) k (k+(qE ctI xs:Nat)):=by
 subst hF;rw [wx] at hk⊢;refine Mark.intro hg (by kernel_rfl) rfl (zH (fun _=>rfl) xs) (zH (fun _=>rfl) _) (by simp only [AV.rows,qT mkI ctI (enc:=qD) (fun _ _=>rfl)]) ?_;simp only [qQG,qP,lay,lI,go_sem,Nat.reduceEqDiff,reduceIte,lMp];refine Sem.loop (fun i:Nat=>i≤xs.length) (fun i=>(⟨[(0,.slice 1 0 0 xs.length false),(1,.int .i64 (k+(i:Nat))),(5,.int .i64 (i:Nat))],[],[.row 1 ((mkL mkI ctI (xs.take i) k).map qD++(xs.drop i).map qD) true]⟩:VSt)) (fun i=>xs.length-i) 0
  (by kernel_rfl) (Nat.zero_le _) (by simp only [List.take_zero,mkL,List.map_nil,List.nil_append,List.drop_zero,Int.ofNat_zero,Int.natCast_zero,Int.add_zero];exact Can.sub (by simp [go_sem]) (by simp [go_sem])) ?_
 intro i hi;simp only [go_sem,Nat.reduceEqDiff,reduceIte];refine qM ?_ ?_<;>intro hc<;>simp only [hc,go_sem,Nat.reduceEqDiff,reduceIte]
 ·have hlt:i<xs.length:=by have:=odT hc;omega
  have hA:((mkL mkI ctI (xs.take i) k).map qD).length=i:=by rw [lMp,jL];simp;omega
  rw [List.drop_eq_getElem_cons hlt,List.map_cons];simp only [zF hlt,nZa,go_sem,Nat.reduceEqDiff,reduceIte];refine qp (v:=.int .i64 (k+(i:Nat))) (e':=.int .i64 (k+(i:Nat))) (by rfl) (by rfl) (qy hA) (by rfl) ?_;simp only [List.set_cons_zero,zM hA,go_sem,Nat.reduceEqDiff,reduceIte];rw [qr (n:=k+(i:Nat)+1) (by omega) (by omega)];simp only [qq (show i<4611686018427387904 by omega),go_sem,Nat.reduceEqDiff,reduceIte];refine qo (i+1) (by omega) (by omega) ?_;have e:mkL mkI ctI (xs.take (i+1)) k=mkL mkI ctI (xs.take i) k++[k+(i:Nat)]:=by
   rw [UL _ _ hlt,wx,List.length_take,show min i xs.length=i by omega];rfl
  rw [e,List.map_append,lAa];simp only [Int.natCast_add,Int.cast_ofNat_Int,←Int.add_assoc];exact Can.sub (by simp [go_sem]) (by simp [go_sem])
 ·have hge:i=xs.length:=by have:=odF hc;omega
  subst hge;refine JP rfl ?_;rw [List.take_length,List.drop_length,List.map_nil,lAn]
theorem qWI {F:qN} (hg:Γ g=some (.fn F)) (hF:F=qPU) (xs:List Int) (k:Int) (h0:0≤k) (hk:k+(qE ctI xs:Nat)≤4611686018427387904) (hz:xs.length≤4194304):
  Pure Γ g [.lst 1 ((mkL mkI ctI xs k).map qD) false,.int .i64 k] (.int .i64 (k+(qE ctI xs:Nat))):=by
 subst hF;rw [wx] at hk⊢;refine Pure.intro [] [] hg (by kernel_rfl) rfl (by simp [AV.trees,AV.tree,zA shI.tree]) rfl ?_;simp only [qPU,qP,go_sem,Nat.reduceEqDiff,reduceIte,lMp];refine Sem.loop (fun i:Nat=>i≤xs.length) (fun i=>(⟨[(0,.lst 1 ((mkL mkI ctI xs k).map qD) false),(1,.int .i64 (k+(i:Nat))),(5,.int .i64 (i:Nat))],[],[]⟩:VSt)) (fun i=>xs.length-i) 0
  (by kernel_rfl) (Nat.zero_le _) (by simp only [Int.ofNat_zero,Int.natCast_zero,Int.add_zero];exact Can.sub (by simp [go_sem]) (by simp [go_sem])) ?_
 intro i hi;simp only [go_sem,Nat.reduceEqDiff,reduceIte,lMp,jL];refine qM ?_ ?_<;>intro hc<;>simp only [hc,go_sem,Nat.reduceEqDiff,reduceIte]
 ·have hlt:i<xs.length:=by have:=odT hc;omega
  have hget:=UK mkI ctI hlt k;rw [wx,List.length_take,show min i xs.length=i by omega] at hget;simp only [gMp,hget,oMs,mkI,qD,go_sem,Nat.reduceEqDiff,reduceIte,decide_true,Bool.not_true];rw [qr (n:=k+(i:Nat)+1) (by omega) (by omega)];simp only [qq (show i<4611686018427387904 by omega),go_sem,Nat.reduceEqDiff,reduceIte];refine qo (i+1) (by omega) (by omega) ?_;simp only [Int.natCast_add,Int.cast_ofNat_Int,←Int.add_assoc];exact Can.sub (by simp [go_sem]) (by simp [go_sem])
 ·have hge:i=xs.length:=by have:=odF hc;omega
  subst hge;exact qJ rfl rfl
section
variable {E:Ev} {ks:List Fr1} {s m:qb} {h:List qC} {Q:qX→VSt→Prop} {l:List qB}
theorem zu {k e n:Nat} {pre post:List qC} {t t':AV} {a b:Int} {v:AV} (hm:Mark E.Γ k t t' a b) (hn:pre.length=n) (hh:h=pre++((lay t n).2++post)) (hv:v=(lay t n).1)
  (hr:R E (.ops l::ks) ⟨(e,.int .i64 b)::s,m,pre++((lay t' n).2++post)⟩ Q):jZ E (some (k,[v,.int .i64 a])) false (some e) l ks ⟨s,m,h⟩ Q:=by
 subst hn;exact qTU hm hh hv hr
end
end
section
variable {Γ:Nat→Option AFn} {g:Nat} {w:Nat} {z:AV}
def Qe (w:Nat):qN:=⟨1,8,[.t 2],.seq (.reg true [⟨0,some 2,none,.mov (.c (.nils)),[]⟩]) (.seq (.seq (.reg true [⟨0,some 3,none,.mov (.t 0),[]⟩,
⟨1,some 4,none,.isnil 1 false (.t 3),[]⟩]) (.cond (.t 4) (.seq (.reg true [⟨0,some 2,none,.mov (.c (.nils)),[]⟩]) (.ret)) (.skip))) (.seq (.reg true [⟨0,some 5,none,.mov (.c (.lst w [] true)),[]⟩,
⟨1,some 6,none,.mov (.t 0),[]⟩,
⟨2,some 7,none,.app w (.t 5) (.t 6),[]⟩,
⟨3,some 2,none,.mov (.t 7),[]⟩]) (.ret)))⟩
theorem qO2 (hg:Γ g=some (.fn (Qe w))) (h:AH):Ex Γ 1 (.call g [.nils] h) (.res (.ok .nils) h):=by
 refine .fn (st:=⟨((((params 0 [.nils]).set 2 .nils).set 3 .nils).set 4 (.bool true)).set 2 .nils,Env.empty,h⟩) (e:=.ret) hg rfl ?_ (.inr rfl) rfl;refine .seqN (.reg (.step rfl ⟨.nils,rfl,rfl⟩ trivial .nil) (.inl rfl)) (.seqX (.seqN (.reg (.step rfl ⟨.nils,rfl,rfl⟩ trivial (.step rfl ⟨.bool true,rfl,rfl⟩ trivial .nil)) (.inl rfl)) ?_) (by simp));exact .cond (t:=true) rfl (.seqN (.reg (.step rfl ⟨.nils,rfl,rfl⟩ trivial .nil) (.inl rfl)) .ret)
theorem qT1 (hg:Γ g=some (.fn (Qe w))) (h:AH) (id:Nat):Ex Γ 1 (.call g [.slice w id 0 0 false] h) (.res (.ok (.lst w [] true)) h):=by
 refine .fn (st:=⟨(((((((params 0 [.slice w id 0 0 false]).set 2 .nils).set 3 (.slice w id 0 0 false)).set 4 (.bool false)).set 5 (.lst w [] true)).set 6 (.slice w id 0 0 false)).set 7 (.lst w [] true)).set 2 (.lst w [] true),Env.empty,h⟩) (e:=.ret) hg rfl ?_ (.inr rfl) rfl;refine .seqN (.reg (.step rfl ⟨.nils,rfl,rfl⟩ trivial .nil) (.inl rfl)) (.seqN (.seqN (.reg (.step rfl ⟨.slice w id 0 0 false,rfl,rfl⟩ trivial (.step rfl ⟨.bool false,rfl,rfl⟩ trivial .nil)) (.inl rfl)) (.cond (t:=false) rfl .cskip)) (.seqN (.reg ?_ (.inl rfl)) .ret));refine .step rfl ⟨.lst w [] true,rfl,rfl⟩ trivial (.step rfl ⟨.slice w id 0 0 false,rfl,rfl⟩ trivial (.step (st':=⟨((((((params 0 [.slice w id 0 0 false]).set 2 .nils).set 3 (.slice w id 0 0 false)).set 4 (.bool false)).set 5 (.lst w [] true)).set 6 (.slice w id 0 0 false)).set 7 (.lst w [] true),Env.empty,h⟩) rfl ?_ trivial (.step rfl ⟨.lst w [] true,rfl,rfl⟩ trivial .nil)));exact ⟨.lst w [] true,.slice w id 0 0 false,rfl,rfl,[],rfl,rfl,rfl,rfl⟩
theorem qZU (hr:AH):qd ρ0 [] hr:=⟨(fun i o h=>by simp at h),(fun i j a o o' h=>by cases h),(fun _ _=>rfl),(fun i a h=>by cases h)⟩
theorem qL0 (hg:Γ g=some (.fn (Qe w))) {xs:List AV} (hf:∀n,qS xs n=(xs,[])) (hp:AV.pls xs=true) (ht:AV.trees xs=true) (hl:xs.length≤4194304):
  Fresh Γ g [.lst w xs false] (.lst w xs false):=by
 cases xs with
 | cons x xs=>
  refine Fresh.intro [] [] hg rfl rfl (by simp only [AV.trees,AV.tree] at ht⊢;simp [ht]) hp ?_;simp only [Qe,qP,go_sem,Nat.reduceEqDiff,reduceIte];refine VW Els.lst (by simp only [lCo] at hl⊢;omega) ?_;simp only [go_sem,Nat.reduceEqDiff,reduceIte];exact j4 (pre:=[]) (post:=[]) hp (by simp [qz,lay]) (by simp [lay,hf])
 | nil=>
  refine ⟨rfl,rfl,fun hr ar har=> ?_⟩;have hn:∀hr',qd (ρ0.ext 0 none) [.row w [] true] hr':=fun hr'=>(qZU hr').nil;simp only [RelVs,RelV] at har;obtain ⟨r,rs,rfl,hr0,rfl⟩:=har;have hfm:∀hr':AH,(∀a o,hr a=some o→hr' a=some o)→(∀a,hr'.fr a→hr.fr a)→Fm 0 ρ0 hr (ρ0.ext 0 none) hr':=fun hr' h1 h2=>⟨fun a o q _=>h1 a o q,(fun i a q=>by
   by_cases e:i=0
   ·subst e;rw [Ren.ext_same] at q;cases q
   ·rw [Ren.ext_ne _ _ e] at q;cases q),h2,fun i hi=>by omega⟩
  rcases hr0 with ⟨ys,c,rfl,_,hys⟩ | ⟨_,rfl⟩
  ·subst hys;obtain ⟨id,hid⟩:=hr.fresh;have hx1:Ex Γ 1 (.call g [.nils] hr) (.res (.ok (.lst w [] true)) (hr.kill [])):=.frzR [] (fun i hi=>by simp at hi) .nils (qO2 hg hr);refine ⟨1,_,_,ρ0.ext 0 none,.nilc id hid (fun i o q=>by rw [AH.kill_at];simpa using q) (fun i o q=>q) rfl hx1 (qT1 hg _ id),hn _,by simp [lay,RelV,Ren.ext_same],hfm _ (fun a o q=>q) fun a q=>AH.fr_tomb (AH.fr_tomb' q)⟩
  ·exact ⟨1,_,_,ρ0.ext 0 none,qO2 hg hr,hn _,by simp [lay,RelV,Ren.ext_same],hfm _ (fun a o q=>q) fun a q=>q⟩
theorem Js {μ:List (Option Nat)} {h:List qC}:∀{r1 r2:List (Option Nat)} {h1 h2:List qC},zy μ h r1 h1→zy μ h r2 h2→zy μ h (r1++r2) (h1++h2)
 |[],_,[],_,_,k=>k
 | _::_,_,_::_,_,j,k=>⟨j.1,Js j.2 k⟩
 |[],_,_::_,_,j,_=>j.elim
 | _::_,_,[],_,j,_=>j.elim
theorem Q7 {μ:List (Option Nat)} {h:List qC} {xs:List AV} {a b:Nat} (hp:AV.pls xs=true) (hm:∀i,i<AV.rowss xs→μ[b+i]?=some (some (a+i))) (hh:∀i o,(qS xs a).2[i]?=some o→h[a+i]?=some o):
  zy μ h ((List.range' a (AV.rowss xs)).map some) (qS xs b).2:=by
 refine Q8 (by simp [zO]) fun i j o h1 h2=> ?_;have hi:i<AV.rowss xs:=by have:=(gSi.1 h2).1;rw [zO] at this;exact this
 rw [gMp,List.getElem?_range' (by omega)] at h1;simp only [Nat.one_mul,oMs,oSi] at h1;subst h1;exact Z1 xs a b hp hm hh i o h2
def rmu (b n:Nat):List (Option Nat):=(List.range' 0 b).map some++some (b+n+2)::(List.range' (b+1) n).map some
theorem qRI {b n i:Nat} (hi:i<b):(rmu b n)[i]?=some (some i):=by
 unfold rmu;rw [gAl (by simpa using hi),gMp,List.getElem?_range' (by omega)];simp
theorem qZX {b n:Nat}:(rmu b n)[b]?=some (some (b+n+2)):=by
 unfold rmu;rw [gAr (by simp)];simp
theorem qRH {b n i:Nat} (hi:i<n):(rmu b n)[b+1+i]?=some (some (b+1+i)):=by
 unfold rmu;rw [gAr (by simp;omega)];have e:b+1+i-((List.range' 0 b).map some).length=i+1:=by simp;omega
 rw [e,List.getElem?_cons_succ,gMp,List.getElem?_range' (by omega)];simp
theorem qZY {b n:Nat}:zW (rmu b n)=true:=by
 have e:rmu b n=(List.range' 0 b++(b+n+2)::List.range' (b+1) n).map some:=by simp [rmu]
 rw [e];refine Qi ?_;rw [List.nodup_append];refine ⟨List.nodup_range', ?_, ?_⟩
 ·rw [List.nodup_cons];refine ⟨?_,List.nodup_range'⟩;simp only [List.mem_range'_1];omega
 ·intro x hx y hy;simp only [List.mem_range'_1,List.mem_cons] at hx hy;rcases hy with rfl | hy<;>omega
theorem Can.round {ps ts:List AV} {x:qC} {s s' m m':qb} {b n:Nat} (hps:AV.pls ps=true) (hts:AV.pls ts=true) (hb:AV.rowss ps=b) (hn:AV.rowss ts=n) (h1:wg (rmu b n) s s') (h2:wg (rmu b n) m m'):
  Can 0 ⟨s,m,(qS ps 0).2++.dead::((qS ts (b+1)).2++[x,.row w (qS ts (b+1)).1 true])⟩ ⟨s',m',(qS ps 0).2++.row w (qS ts (b+1)).1 true::(qS ts (b+1)).2⟩:=by
 subst hb hn;have hlp:=zO ps 0;have hlt:=zO ts (AV.rowss ps+1);refine Can.renum (rmu (AV.rowss ps) (AV.rowss ts)) qZY (Js (Q7 hps (fun i hi=>by rw [nZa];exact qRI hi) fun i o hi=> ?_) ⟨?_,Q7 hts (fun i hi=>qRH hi) fun i o hi=> ?_⟩) h1 h2
 ·rw [nZa,gAl (gSi.1 hi).1];exact hi
 ·refine .row (el:=(qS ts (AV.rowss ps+1)).1) (rw':=true) ?_ ⟨rfl,fun p hp=> ?_⟩
  ·rw [gAr (by omega),show AV.rowss ps+AV.rowss ts+2-(qS ps 0).2.length=AV.rowss ts+1+1 by omega,List.getElem?_cons_succ,gAr (by omega),hlt,
    show AV.rowss ts+1-AV.rowss ts=1 by omega]
   rfl
  ·exact (Z2 ts (AV.rowss ps+1) (AV.rowss ps+1) hts (fun i hi=>qRH hi)).2 p hp
 ·have hi':=(gSi.1 hi).1;rw [gAr (by omega),show AV.rowss ps+1+i-(qS ps 0).2.length=i+1 by omega,List.getElem?_cons_succ,gAl hi'];exact hi
theorem qWR {A:List qC} {o:qC}:(A++[o])[A.length]?=some o:=List.getElem?_concat_length
theorem Can.push {ps A:List AV} {t:AV} {s s' m m':qb} {h h':List qC} {b n:Nat} (hps:AV.pls ps=true) (hA:AV.pls A=true) (ht:t.pl=true) (hb:AV.rowss ps=b) (hn:AV.rowss A+t.rows=n)
  (hh:h=(qS ps 0).2++.dead::((qS A (b+1)).2++((lay t (b+1+AV.rowss A)).2++[.row w [(lay t (b+1+AV.rowss A)).1] true,.row w ((qS A (b+1)).1++[(lay t (b+1+AV.rowss A)).1]) true])))
  (hh':h'=(qS ps 0).2++.row w (qS (A++[t]) (b+1)).1 true::(qS (A++[t]) (b+1)).2) (h1:wg (rmu b n) s s') (h2:wg (rmu b n) m m'):Can 0 ⟨s,m,h⟩ ⟨s',m',h'⟩:=by
 have hp:AV.pls (A++[t])=true:=by
  have:∀B:List AV,AV.pls B=true→AV.pls (B++[t])=true:=by
   intro B
   induction B with
   | nil=>intro _;simp only [List.nil_append,AV.pls,ht,Bool.and_true]
   | cons y B ih=>
    intro hB;simp only [AV.pls,bAt] at hB;simp only [List.cons_append,AV.pls,hB.1,ih hB.2,Bool.and_self]
  exact this A hA
 have r:=Can.round (w:=w) (x:=.row w [(lay t (b+1+AV.rowss A)).1] true) (s:=s) (s':=s') (m:=m) (m':=m') (b:=b) (n:=n) hps hp hb (by rw [qRL];simp only [AV.rowss,Nat.add_zero];exact hn) h1 h2;subst hh hh';simp only [w8,qS,lAn,lAa] at r⊢;exact r
def smu (b:Nat):List (Option Nat):=(List.range' 0 b).map some++[none]
theorem qR6 {b i:Nat} (hi:i<b):(smu b)[i]?=some (some i):=by
 unfold smu;rw [gAl (by simpa using hi),gMp,List.getElem?_range' (by omega)];simp
theorem qaT {b:Nat}:(smu b)[b]?=some none:=by
 unfold smu;rw [gAr (by simp)];simp
theorem qL8:∀{l:List (Option Nat)},zW l=true→zW (l++[none])=true
 |[],_=>rfl
 | none::l,h=>by simp only [List.cons_append,zW] at h⊢;exact qL8 h
 | some j::l,h=>by
  simp only [List.cons_append,zW,bAt,List.all_append,List.all_cons,List.all_nil,Bool.and_true] at h⊢;exact ⟨h.1,qL8 h.2⟩
theorem Can.start {ps:List AV} {s s' m m':qb} {h:List qC} {b:Nat} (hps:AV.pls ps=true) (hb:AV.rowss ps=b) (hh:h=(qS ps 0).2) (h1:wg (smu b) s s') (h2:wg (smu b) m m'):
  Can 0 ⟨s,m,h⟩ ⟨s',m',(qS ps 0).2++[.row w [] true]⟩:=by
 subst hb hh;refine Can.renum (smu (AV.rowss ps)) (qL8 (Qi List.nodup_range')) (Js (Q7 hps (fun i hi=>by rw [nZa];exact qR6 hi) fun i o hi=>by rw [nZa];exact hi) ⟨.ph,trivial⟩) h1 h2
end
structure wP (h:List qC) (id w:Nat) (ys:List AV) (h':List qC) (id':Nat):Prop where
 at':h'[id']?=some (.row w ys true)
 len:h.length≤h'.length
 pos:id'=id∨h.length≤id'
 keep:∀j,j<h.length→j≠id→h'[j]?=h[j]?
theorem wP.lt {h h':List qC} {id id' w:Nat} {ys:List AV} (g:wP h id w ys h' id'):id'<h'.length:=(gSi.1 g.at').1
theorem wP.refl {h:List qC} {id w:Nat} {ys:List AV} (h0:h[id]?=some (.row w ys true)):wP h id w ys h id:=⟨h0,Nat.le_refl _,.inl rfl,fun _ _ _=>rfl⟩
theorem wP.trans {h h1 h2:List qC} {id id1 id2 w:Nat} {ys zs:List AV} (a:wP h id w ys h1 id1) (b:wP h1 id1 w zs h2 id2):wP h id w zs h2 id2:=by
 have la:=a.len;have lb:=b.len;refine ⟨b.at',by omega, ?_,fun j hj hne=> ?_⟩
 ·rcases b.pos with e | e
  ·rcases a.pos with e2 | e2
   ·left;omega
   ·right;omega
  ·right;omega
 ·have h1:j≠id1:=by rcases a.pos with e | e<;>omega
  rw [b.keep j (by omega) h1,a.keep j hj hne]
theorem wP.app {h:List qC} {id w:Nat} {ys zs:List AV} (h0:h[id]?=some (.row w ys true)):wP h id w zs (h.set id .dead++[.row w zs true]) h.length:=by
 refine ⟨?_,by simp,.inr (Nat.le_refl _),fun j hj hne=> ?_⟩
 ·rw [gAr (by simp)];simp
 ·rw [gAl (by simpa using hj),gSn (Ne.symm hne)]
section
variable {E:Ev} {l:List qB} {ks:List Fr1} {s m:qb} {h:List qC} {Q:qX→VSt→Prop} {g e w id n:Nat} {as vs:List AV} {xs ys:List AV}
theorem qSH {ρ:Ren} {w:Nat} {xs:List AV} {r:AV} (h:RelV ρ (.lst w xs true) r):RelV ρ (.lst w xs false) r:=by
 simp only [RelV] at h⊢;rcases h with ⟨ys,c,h1,_,h3⟩ | h
 ·exact .inl ⟨ys,c,h1,nofun,h3⟩
 ·exact .inr h
inductive Jh:List AV→List AV→Prop
 | nil:Jh [] []
 | same {x:AV} {xs ys:List AV} (h:Jh xs ys):Jh (x::xs) (x::ys)
 | clip {w:Nat} {es xs ys:List AV} (h:Jh xs ys):Jh (.lst w es true::xs) (.lst w es false::ys)
theorem Jh.rel {ρ:Ren} {xs ys:List AV} (h:Jh xs ys):∀{ar:List AV},RelVs ρ xs ar→RelVs ρ ys ar:=by
 induction h with
 | nil=>exact fun h=>h
 | same _ ih=>
  intro ar h;simp only [RelVs] at h⊢;obtain ⟨b,bs,rfl,h1,h2⟩:=h;exact ⟨b,bs,rfl,h1,ih h2⟩
 | clip _ ih=>
  intro ar h;simp only [RelVs] at h⊢;obtain ⟨b,bs,rfl,h1,h2⟩:=h;exact ⟨b,bs,rfl,qSH h1,ih h2⟩
end
def Wk (ns:List Nat) (v v':AV):Prop:=∀(ρ:Ren) (r:AV),(∀n∈ns,ρ n=some none)→RelV ρ v r→RelV ρ v' r
inductive Wks (ns:List Nat):List AV→List AV→Prop
 | nil:Wks ns [] []
 | cons {a b:AV} {as bs:List AV} (h:Wk ns a b) (hs:Wks ns as bs):Wks ns (a::as) (b::bs)
section
variable {ns:List Nat}
theorem Wk.refl (v:AV):Wk ns v v:=fun _ _ _ h=>h
theorem Wks.refl:∀vs:List AV,Wks ns vs vs
 |[]=>.nil
 | v::vs=>.cons (.refl v) (Wks.refl vs)
theorem Wks.same {a:AV} {as bs:List AV} (hs:Wks ns as bs):Wks ns (a::as) (a::bs):=.cons (.refl a) hs
theorem Wks.app {as bs cs ds:List AV} (h:Wks ns as bs) (k:Wks ns cs ds):Wks ns (as++cs) (bs++ds):=by
 induction h with
 | nil=>exact k
 | cons h _ ih=>exact .cons h ih
theorem Wks.rel {as bs:List AV} (h:Wks ns as bs) {ρ:Ren} (hn:∀n∈ns,ρ n=some none):∀{rs:List AV},RelVs ρ as rs→RelVs ρ bs rs:=by
 induction h with
 | nil=>exact fun h=>h
 | cons h _ ih=>
  intro rs k;simp only [RelVs] at k⊢;obtain ⟨u,us,rfl,h1,h2⟩:=k;exact ⟨u,us,rfl,h ρ u hn h1,ih h2⟩
theorem Wks.len {as bs:List AV} (h:Wks ns as bs):as.length=bs.length:=by
 induction h with
 | nil=>rfl
 | cons _ _ ih=>simp [ih]
theorem Wk.nilL {w:Nat} {c:Bool}:Wk ns .nils (.lst w [] c):=fun ρ r _ h=>by
 simp only [RelV] at h⊢;exact .inr ⟨trivial,h⟩
theorem Wk.ph {n w:Nat} {c:Bool} (h:n∈ns):Wk ns .nils (.slice w n 0 0 c):=fun ρ r hn k=>by
 simp only [RelV] at k⊢;exact .inr ⟨hn n h,trivial,trivial,.inl k⟩
theorem Wk.agg {as bs:List AV} (h:Wks ns as bs):Wk ns (.agg as) (.agg bs):=fun ρ r hn k=>by
 simp only [RelV] at k⊢;obtain ⟨ds,h1,h2⟩:=k;exact ⟨ds,h1,h.rel hn h2⟩
theorem Wk.tup {as bs:List AV} (h:Wks ns as bs):Wk ns (.tup as) (.tup bs):=fun ρ r hn k=>by
 simp only [RelV] at k⊢;obtain ⟨ds,h1,h2⟩:=k;exact ⟨ds,h1,h.rel hn h2⟩
theorem Wk.clip {w:Nat} {xs:List AV}:Wk ns (.lst w xs true) (.lst w xs false):=fun ρ r _ h=>qSH h
inductive WkO (ns:List Nat):qC→qC→Prop
 | refl (o:qC):WkO ns o o
 | row {w:Nat} {xs ys:List AV} {rw':Bool} (h:Wks ns xs ys):WkO ns (.row w xs rw') (.row w ys rw')
 | dead (o:qC):WkO ns o .dead
def WkH (ns:List Nat) (h h':List qC):Prop:=h.length=h'.length∧∀(i:Nat) (o o':qC),h[i]?=some o→h'[i]?=some o'→WkO ns o o'
theorem WkH.refl (h:List qC):WkH ns h h:=⟨rfl,fun i o o' h1 h2=>by rw [h1] at h2;cases h2;exact .refl o⟩
theorem WkH.set {h:List qC} {i w:Nat} {xs ys:List AV} {rw':Bool} (hw:Wks ns xs ys):WkH ns (h.set i (.row w xs rw')) (h.set i (.row w ys rw')):=by
 refine ⟨by simp,fun j o o' h1 h2=> ?_⟩;rw [List.getElem?_set] at h1 h2;split at h1
 ·rename_i e;rw [if_pos e] at h2;split at h1
  ·rename_i hl;rw [if_pos hl] at h2;cases h1;cases h2;exact .row hw
  ·cases h1
 ·rename_i e;rw [if_neg e] at h2;rw [h1] at h2;cases h2;exact .refl o
theorem WkH.app {h k:List qC} {o o':qC} (hh:WkH ns h k) (ho:WkO ns o o'):WkH ns (h++[o]) (k++[o']):=by
 refine ⟨by simp [hh.1],fun j p p' h1 h2=> ?_⟩;rw [List.getElem?_append] at h1 h2;have hl:=hh.1;split at h1
 ·rename_i e;rw [if_pos (by omega)] at h2;exact hh.2 j p p' h1 h2
 ·rename_i e;rw [if_neg (by omega)] at h2;have e0:j-h.length=0:=by have:=(gSi.1 h1).1;simp at this;omega
  rw [e0] at h1;have e1:j-k.length=0:=by omega
  rw [e1] at h2;cases h1;cases h2;exact ho
theorem WkH.at' {h:List qC} {i w:Nat} {xs ys:List AV} {rw':Bool} (ho:h[i]?=some (.row w xs rw')) (hw:Wks ns xs ys):WkH ns h (h.set i (.row w ys rw')):=by
 refine ⟨by simp,fun j o o' h1 h2=> ?_⟩;rw [List.getElem?_set] at h2;split at h2
 ·rename_i e;subst e;split at h2
  ·rw [ho] at h1;cases h1;cases h2;exact .row hw
  ·cases h2
 ·rw [h1] at h2;cases h2;exact .refl o
theorem WkH.rel {h h':List qC} (hw:WkH ns h h') {ρ:Ren} {hr:AH} (hn:∀n∈ns,ρ n=some none) (hH:qd ρ h hr):qd ρ h' hr:=by
 have get:∀{i:Nat} {o':qC},h'[i]?=some o'→∃o,h[i]?=some o∧WkO ns o o':=fun {i o'} hi=>by
  have hl:i<h.length:=by rw [hw.1];exact (gSi.1 hi).1
  exact ⟨h[i],gEg hl,hw.2 i _ _ (gEg hl) hi⟩
 have nd:∀{o o':qC},WkO ns o o'→o'≠.dead→o≠.dead:=fun {o o'} h hd=>by cases h<;>first | exact absurd rfl hd | exact hd | simp
 refine ⟨fun i o' hi=> ?_,fun i j a o o' h1 h2 hi hj d1 d2=> ?_,fun i hi=>hH.out i (by rw [hw.1];exact hi),hH.is⟩
 ·obtain ⟨o,ho,hk⟩:=get hi;have:=hH.obj i o ho;cases hk with
  | refl=>exact this
  | dead=>trivial
  | row h=>
   rcases this with ⟨q1,rfl,q3⟩ | ⟨i',el',q1,q2,q3⟩
   ·cases h;exact .inl ⟨q1,rfl,q3⟩
   ·exact .inr ⟨i',el',q1,q2,h.rel hn q3⟩
 ·obtain ⟨p,hp,hk⟩:=get hi;obtain ⟨q,hq,hk2⟩:=get hj;exact hH.inj i j a p q h1 h2 hp hq (nd hk d1) (nd hk2 d2)
end
section
variable {Γ:Nat→Option AFn} {g:Nat} {vs vs':List AV} {h:List qC} {K:AV→List qC→Prop}
theorem Q4 {ρ:Ren}:∀n∈([]:List Nat),ρ n=some none:=fun n h=>by cases h
theorem SCall.arg (hw:Wks [] vs vs') (hs:SCall Γ g vs' h K):SCall Γ g vs h K:=fun ρ hr ar hH hv=>hs ρ hr ar hH (hw.rel Q4 hv)
theorem SCall.out (hs:SCall Γ g vs h fun v h'=>∃v' h'',Wk [] v v'∧WkH [] h' h''∧K v' h''):SCall Γ g vs h K:=fun ρ hr ar hH hv=>by
 obtain ⟨k,r,hr',ρ',v,h',hx,⟨v',h'',w1,w2,hk⟩,g1,g2,g3,g4⟩:=hs ρ hr ar hH hv;exact ⟨k,r,hr',ρ',v',h'',hx,hk,w2.rel Q4 g1,w1 ρ' r Q4 g2,g3,by rw [←w2.1];exact g4⟩
theorem SCall.ph {w:Nat} {h2:List qC} (hv:Wks [h.length] vs vs') (hh:WkH [h.length] (h++[.row w [] true]) h2) (hs:SCall Γ g vs' h2 K):SCall Γ g vs h K:=fun ρ hr ar hH hv'=>by
 have hle:=Ren.ext_le (x:=none) hH.none_at;have hn:∀n∈[h.length],(ρ.ext h.length none) n=some none:=fun n hn=>by simp at hn;subst hn;exact Ren.ext_same _ _ _
 obtain ⟨k,r,hr',ρ',v,h',hx,q,g1,g2,g3,g4⟩:=hs _ hr ar (hh.rel hn hH.nil) (hv.rel hn (RelVs.mono hle _ _ hv'));have hl:=hh.1;simp only [lAp,lCo,lNi] at hl;refine ⟨k,r,hr',ρ',v,h',hx,q,g1,g2,⟨fun a o h1 h2=>g3.pres a o h1 fun i hi=> ?_,fun i a hi=> ?_,g3.fr,fun i hi=> ?_⟩,by omega⟩
 ·by_cases e:i=h.length
  ·subst e;rw [Ren.ext_same] at hi;cases hi
  ·rw [Ren.ext_ne _ _ e] at hi;exact h2 i hi
 ·rcases g3.new i a hi with ⟨j,hj⟩ | hf
  ·by_cases e:j=h.length
   ·subst e;rw [Ren.ext_same] at hj;cases hj
   ·rw [Ren.ext_ne _ _ e] at hj;exact .inl ⟨j,hj⟩
  ·exact .inr hf
 ·rw [g3.base i (by omega),Ren.ext_ne _ _ (by omega)]
theorem SCall.runW {F:qN} (fz bp:List Nat) (hg:Γ g=some (.fn F)) (hok:F.body.ok=true) (hn:vs.length=F.np)
  (hR:R ⟨Γ,h.length,fz,bp⟩ [.code F.body] ⟨qP 0 vs,[],h⟩ (Jk F.res fun v h'=>∃v' h'',Wk [] v v'∧WkH [] h' h''∧K v' h'')):SCall Γ g vs h K:=SCall.out (SCall.run fz bp hg hok hn hR)
end
section
variable {s s' m m':qb} {h h':List qC}
def WkS (s s':qb):Prop:=∀n v',get s' n=some v'→∃v,get s n=some v∧Wk [] v v'
theorem WkS.nil:WkS s []:=fun n v h=>by cases h
theorem WkS.cons {n:Nat} {v v':AV} (h:get s n=some v) (hw:Wk [] v v') (hs:WkS s s'):WkS s ((n,v')::s'):=fun k u hu=>by
 rw [wG] at hu;split at hu
 ·rename_i e;subst e;cases hu;exact ⟨v,h,hw⟩
 ·exact hs k u hu
theorem Can.wk {b:Nat} (h1:WkS s s') (h2:WkS m m') (hh:WkH [] h h'):Can b ⟨s,m,h⟩ ⟨s',m',h'⟩:=fun ρ sr hS hb=>
 ⟨sr,ρ,fun _ _ _ _ h=>h,⟨fun n v hv=>let ⟨u,q1,q2⟩:=h1 n v hv;let ⟨r,q3,q4⟩:=hS.s n u q1;⟨r,q3,q2 ρ r Q4 q4⟩,
  fun n v hv=>let ⟨u,q1,q2⟩:=h2 n v hv;let ⟨r,q3,q4⟩:=hS.l n u q1;⟨r,q3,q2 ρ r Q4 q4⟩,hh.rel Q4 hS.h⟩,Fm.refl _ _ _,by rw [←hh.1];exact hb⟩
end
def GvS (H:List qC) (s s':qb):Prop:=∀n v',get s' n=some v'→∃v,get s n=some v∧(v=v'∨Cv H v v'∧v'.tree=true)
theorem GvS.nil {H:List qC} {s:qb}:GvS H s []:=fun n v h=>by cases h
theorem GvS.same {H:List qC} {s s':qb} {n:Nat} {v:AV} (h:get s n=some v) (hs:GvS H s s'):GvS H s ((n,v)::s'):=fun k u hu=>by
 rw [wG] at hu;split at hu
 ·rename_i e;subst e;cases hu;exact ⟨_,h,.inl rfl⟩
 ·exact hs k u hu
theorem GvS.cons {H:List qC} {s s':qb} {n:Nat} {v v':AV} (h:get s n=some v) (hc:Cv H v v') (ht:v'.tree=true) (hs:GvS H s s'):GvS H s ((n,v')::s'):=fun k u hu=>by
 rw [wG] at hu;split at hu
 ·rename_i e;subst e;cases hu;exact ⟨_,h,.inr ⟨hc,ht⟩⟩
 ·exact hs k u hu
theorem qd.without {ρ:Ren} {h:List qC} {hr:AH} (hH:qd ρ h hr) (ids:List Nat):qd ρ (without ids h) (hr.kill (zC ρ h ids)):=by
 refine ⟨fun i o hi=> ?_,fun i j a o o' q1 q2 hi hj d1 d2=>hH.inj i j a o o' q1 q2 (JG hi d1).2 (JG hj d2).2 d1 d2,fun i hi=>hH.out i (by simpa [Go.Ab.without] using hi),fun i a hi=> ?_⟩
 ·by_cases hd:o=.dead
  ·subst hd;trivial
  ·obtain ⟨q1,q2⟩:=JG hi hd;refine (hH.obj i o q2).mono (fun _ _ q=>q) fun a o' ha hq=> ?_;rw [←hq];show (hr.kill _) a=_;rw [AH.kill_at,if_neg];rw [List.contains_iff_mem,zo];rintro ⟨j,w,el,p1,p2,p3⟩;have:=hH.inj i j a _ _ ha p2 q2 p3 hd (by simp);subst this;have:ids.contains i=true:=by simpa using p1
   rw [this] at q1;cases q1
 ·obtain ⟨o,ho⟩:=hH.is i a hi;show ∃o,(hr.kill _) a=some o;rw [AH.kill_at];split
  ·exact ⟨_,rfl⟩
  ·exact ⟨o,ho⟩
theorem Can.give {b:Nat} {s s' m m':qb} {h:List qC} (ids:List Nat) (h1:GvS (only ids h) s s') (h2:GvS (only ids h) m m'):Can b ⟨s,m,h⟩ ⟨s',m',without ids h⟩:=fun ρ sr hS hb=>by
 have hO:qd ρ (only ids h) sr.h:=⟨fun i o hi=>by
   by_cases hd:o=.dead
   ·subst hd;trivial
   ·exact hS.h.obj i o (zn hi hd).2,fun i j a o o' h1 h2 hi hj d1 d2=>hS.h.inj i j a o o' h1 h2 (zn hi d1).2 (zn hj d2).2 d1 d2,
  fun i hi=>hS.h.out i (by simpa [only] using hi),hS.h.is⟩
 have slot:∀{s s':qb} {e:Env},RelE ρ s e→GvS (only ids h) s s'→∀n v',get s' n=some v'→∃r',(∃v0,lk e n=some v0∧qg sr.h (zC ρ h ids) v0 r')∧RelV ρ v' r':=by
  intro s s' e hE hg n v' hv;obtain ⟨v,q1,q2⟩:=hg n v' hv;obtain ⟨r,q3,q4⟩:=hE n v q1;rcases q2 with rfl | ⟨q2,q5⟩
  ·exact ⟨r,⟨r,q3,.refl _⟩,q4⟩
  ·obtain ⟨r',c1,c2⟩:=q2.conv hO (K:=zC ρ h ids) (fun i a w el ha ho=>by
    obtain ⟨q1,q2⟩:=zn ho (by simp);rw [List.contains_iff_mem,zo];exact ⟨i,w,el,by simpa using q1,ha,q2⟩) q4
   exact ⟨r',⟨r,q3,c1⟩,jw _ _ q5 c2⟩
 have env:∀{s s':qb} {e:Env},RelE ρ s e→GvS (only ids h) s s'→∃e':Env,(∀t v,lk e' t=some v→∃v0,lk e t=some v0∧qg sr.h (zC ρ h ids) v0 v)∧RelE ρ s' e':=by
  intro s s' e hE hg;refine ⟨fun n=>match hq:get s' n with
   | some v'=>some (Classical.choose (slot hE hg n v' hq))
   | none=>none,fun t v ht=> ?_,fun n v hv=> ?_⟩
  ·simp only [lk] at ht;split at ht
   ·rename_i v' hq;simp only [oSi] at ht;subst ht;exact (Classical.choose_spec (slot hE hg t v' hq)).1
   ·cases ht
  ·refine ⟨Classical.choose (slot hE hg n v hv), ?_,(Classical.choose_spec (slot hE hg n v hv)).2⟩;simp only [lk];split
   ·rename_i v' hq;have e:v'=v:=by rw [hq] at hv;exact Option.some.inj hv
    subst e;rfl
   ·rename_i hq;rw [hq] at hv;cases hv
 obtain ⟨e1,f1,f2⟩:=env hS.s h1;obtain ⟨e2,f3,f4⟩:=env hS.l h2;refine ⟨{s:=e1,l:=e2,h:=sr.h.kill (zC ρ h ids)},ρ,fun Γ k c o hx=>.frz (zC ρ h ids) ⟨hS.h.rows ids,f1,f3,rfl⟩ hx,⟨f2,f4,hS.h.without ids⟩,
  ⟨fun a o q1 q2=> ?_,fun i a hi=>.inl ⟨i,hi⟩,fun a ha=>(AH.fr_kill ha).1,fun _ _=>rfl⟩,by simpa [without] using hb⟩
 show (sr.h.kill _) a=_;rw [AH.kill_at,if_neg]
 ·exact q1
 ·rw [List.contains_iff_mem,zo];rintro ⟨j,w,el,p1,p2,p3⟩;exact q2 j p2
theorem Can.ph {b w:Nat} {s s' m m':qb} {h:List qC} (h1:∀n v',get s' n=some v'→∃v,get s n=some v∧Wk [h.length] v v') (h2:∀n v',get m' n=some v'→∃v,get m n=some v∧Wk [h.length] v v'):Can b ⟨s,m,h⟩ ⟨s',m',h++[.row w [] true]⟩:=fun ρ sr hS hb=>by
 have hle:=Ren.ext_le (x:=none) hS.h.none_at;have hn:∀n∈[h.length],(ρ.ext h.length none) n=some none:=fun n hn=>by simp at hn;subst hn;exact Ren.ext_same _ _ _
 exact ⟨sr,ρ.ext h.length none,fun _ _ _ _ h=>h,⟨fun n v hv=>let ⟨u,q1,q2⟩:=h1 n v hv;let ⟨r,q3,q4⟩:=hS.s n u q1;⟨r,q3,q2 _ r hn (RelV.mono hle _ _ q4)⟩,
  fun n v hv=>let ⟨u,q1,q2⟩:=h2 n v hv;let ⟨r,q3,q4⟩:=hS.l n u q1;⟨r,q3,q2 _ r hn (RelV.mono hle _ _ q4)⟩,hS.h.nil⟩,Fm.mkNil hS.h hb,by have:b≤h.length:=hb;simp;omega⟩
theorem Wk.ph2 {ns:List Nat} {n w:Nat} {c:Bool} (h:n∈ns):Wk ns (.lst w [] true) (.slice w n 0 0 c):=fun ρ r hn k=>by
 simp only [RelV] at k⊢;refine .inr ⟨hn n h,trivial,trivial, ?_⟩;rcases k with ⟨ys,c,rfl,h1,h2⟩ | ⟨_,rfl⟩
 ·simp only [RelVs] at h2;subst h2;rw [h1 (by first | rfl | trivial)];exact .inr rfl
 ·exact .inl rfl
def WkN (ns:List Nat) (s s':qb):Prop:=∀n v',get s' n=some v'→∃v,get s n=some v∧Wk ns v v'
theorem WkN.nil {ns:List Nat} {s:qb}:WkN ns s []:=fun n v h=>by cases h
theorem WkN.same {ns:List Nat} {s s':qb} {n:Nat} {v:AV} (h:get s n=some v) (hs:WkN ns s s'):WkN ns s ((n,v)::s'):=fun k u hu=>by
 rw [wG] at hu;split at hu
 ·rename_i e;subst e;cases hu;exact ⟨_,h,.refl _⟩
 ·exact hs k u hu
theorem WkN.cons {ns:List Nat} {s s':qb} {n:Nat} {v v':AV} (h:get s n=some v) (hw:Wk ns v v') (hs:WkN ns s s'):WkN ns s ((n,v')::s'):=fun k u hu=>by
 rw [wG] at hu;split at hu
 ·rename_i e;subst e;cases hu;exact ⟨v,h,hw⟩
 ·exact hs k u hu
theorem wA {ids:List Nat} {h:List qC} {j:Nat} (hj:j∉ids):(without ids h)[j]?=h[j]?:=by
 simp only [without,List.getElem?_mapIdx];cases h[j]? with
 | none=>rfl
 | some o=>simp [hj]
theorem jO {ids:List Nat} {h:List qC}:(without ids h).length=h.length:=by simp [without]
theorem Ja {ids:List Nat} {h:List qC} {j:Nat} (hj:j∈ids):(only ids h)[j]?=h[j]?:=by
 simp only [only,List.getElem?_mapIdx];cases h[j]? with
 | none=>rfl
 | some o=>simp [hj]
inductive HCv (H:List qC):AV→AV→Prop
 | same (v:AV):HCv H v v
 | cv {v v':AV} (h:Cv H v v') (ht:v'.tree=true):HCv H v v'
 | agg {cs ds:List AV} (hl:cs.length=ds.length) (hc:∀p∈cs.zip ds,HCv H p.1 p.2):HCv H (.agg cs) (.agg ds)
theorem Vi {ρ:Ren} {hr:AH} {K:List Nat}:∀{cs ds rs:List AV},cs.length=ds.length→(∀p∈cs.zip ds,∀{r:AV},RelV ρ p.1 r→∃r',qg hr K r r'∧RelV ρ p.2 r')→RelVs ρ cs rs→
  ∃rs',rs.length=rs'.length∧(∀p∈rs.zip rs',qg hr K p.1 p.2)∧RelVs ρ ds rs'
 |[],ds,rs,hl,_,h=>by
  have:ds=[]:=List.eq_nil_of_length_eq_zero (by simpa using hl.symm);subst this;simp only [RelVs] at h;subst h;exact ⟨[],rfl,fun p hp=>by simp at hp,by simp only [RelVs]⟩
 | c::cs,[],_,hl,_,_=>by simp at hl
 | c::cs,d::ds,rs,hl,hi,h=>by
  simp only [RelVs] at h;obtain ⟨r,rs,rfl,h1,h2⟩:=h;obtain ⟨r',q1,q2⟩:=hi (c,d) (by simp) h1;obtain ⟨rs',q3,q4,q5⟩:=Vi (by simpa using hl) (fun p hp=>hi p (by simp only [List.zip_cons_cons];exact List.mem_cons_of_mem _ hp)) h2;refine ⟨r'::rs',by simp [q3],fun p hp=> ?_,by simp only [RelVs];exact ⟨r',rs',rfl,q2,q5⟩⟩;simp only [List.zip_cons_cons,List.mem_cons] at hp;rcases hp with rfl | hp
  ·exact q1
  ·exact q4 p hp
theorem HCv.conv {ρ:Ren} {H:List qC} {hr:AH} (hh:qd ρ H hr) {K:List Nat} (hK:∀i a w el,ρ i=some (some a)→H[i]?=some (.row w el true)→K.contains a=true) {v t:AV} (hc:HCv H v t):
  ∀{r:AV},RelV ρ v r→∃r',qg hr K r r'∧RelV ρ t r':=by
 induction hc with
 | same v=>exact fun hr=>⟨_,.refl _,hr⟩
 | cv hc ht=>exact fun hr=>let ⟨r',q1,q2⟩:=hc.conv hh hK hr;⟨r',q1,jw _ _ ht q2⟩
 | @agg cs ds hl hc ih=>
  intro r hr;simp only [RelV] at hr;obtain ⟨rs,rfl,hr⟩:=hr;obtain ⟨rs',q1,q2,q3⟩:=Vi hl (fun p hp=>ih p hp) hr;exact ⟨.agg rs',.agg q1 q2,by simp only [RelV];exact ⟨rs',rfl,q3⟩⟩
theorem HCv.list {H:List qC} {a b:AV} {as bs:List AV} (h:HCv H a b) (hs:as.length=bs.length∧∀p∈as.zip bs,HCv H p.1 p.2):(a::as).length=(b::bs).length∧∀p∈(a::as).zip (b::bs),HCv H p.1 p.2:=⟨by simp [hs.1],fun p hp=>by
 simp only [List.zip_cons_cons,List.mem_cons] at hp;rcases hp with rfl | hp
 ·exact h
 ·exact hs.2 p hp⟩
theorem HCv.refls {H:List qC}:∀(as:List AV),as.length=as.length∧∀p∈as.zip as,HCv H p.1 p.2
 |[]=>⟨rfl,fun p hp=>by simp at hp⟩
 | a::as=>HCv.list (.same a) (HCv.refls as)
theorem HCv.apps {H:List qC}:∀(pre:List AV) {as bs:List AV},(as.length=bs.length∧∀p∈as.zip bs,HCv H p.1 p.2)→(pre++as).length=(pre++bs).length∧∀p∈(pre++as).zip (pre++bs),HCv H p.1 p.2
 |[],_,_,h=>h
 | a::pre,_,_,h=>HCv.list (.same a) (HCv.apps pre h)
theorem Can.giveH {b w id:Nat} {s m:qb} {h:List qC} {el el':List AV} (ids:List Nat) (hid:ids.contains id=false) (ho:h[id]?=some (.row w el true)) (h0:0<el.length) (hc:el.length=el'.length∧∀p∈el.zip el',HCv (only ids h) p.1 p.2):
  Can b ⟨s,m,h⟩ ⟨s,m,(without ids h).set id (.row w el' true)⟩:=fun ρ sr hS hb=>by
 have hO:qd ρ (only ids h) sr.h:=⟨fun i o hi=>by
   by_cases hd:o=.dead
   ·subst hd;trivial
   ·exact hS.h.obj i o (zn hi hd).2,fun i j a o o' h1 h2 hi hj d1 d2=>hS.h.inj i j a o o' h1 h2 (zn hi d1).2 (zn hj d2).2 d1 d2,
  fun i hi=>hS.h.out i (by simpa [only] using hi),hS.h.is⟩
 rcases hS.h.obj _ _ ho with ⟨_,q2,_⟩ | ⟨a,rel,q1,q2,q3⟩
 ·subst q2;simp at h0
 have hKa:(zC ρ h ids).contains a=false:=by
  by_cases hq:(zC ρ h ids).contains a=true
  ·rw [List.contains_iff_mem,zo] at hq;obtain ⟨j,w',el2,p1,p2,p3⟩:=hq;have:=hS.h.inj id j a _ _ q1 p2 ho p3 (by simp) (by simp);subst this;have:ids.contains id=true:=by simpa using p1
   rw [this] at hid;cases hid
  ·simpa using hq
 obtain ⟨rel',c1,c2,c3⟩:=Vi hc.1 (fun p hp=>(hc.2 p hp).conv hO (K:=zC ρ h ids) (fun i a w el ha ho=>by
  obtain ⟨q1,q2⟩:=zn ho (by simp);rw [List.contains_iff_mem,zo];exact ⟨i,w,el,by simpa using q1,ha,q2⟩)) q3
 have hw:=hS.h.without ids;have ho':(without ids h)[id]?=some (.row w el true):=by rw [wA (by simpa using hid)];exact ho
 refine ⟨{s:=sr.s,l:=sr.l,h:=(sr.h.kill (zC ρ h ids)).upd a (.row w rel' true)},ρ,fun Γ k c o hx=>.cvh (zC ρ h ids) a w rel rel' true (hS.h.rows ids) hKa q2 c1 c2 hx,⟨hS.s,hS.l, ?_⟩, ?_, ?_⟩
 ·exact hw.write q1 ho' (by simp) (.inr ⟨a,rel',q1,AH.upd_same _ _ _,c3⟩)
 ·refine Fm.trans ⟨fun x o p1 p2=> ?_,fun i x hx=>.inl ⟨i,hx⟩,fun x hx=>(AH.fr_kill hx).1,fun _ _=>rfl⟩ (Fm.write hw q1);show (sr.h.kill _) x=_;rw [AH.kill_at,if_neg]
  ·exact p1
  ·rw [List.contains_iff_mem,zo];rintro ⟨j,w,el,r1,r2,r3⟩;exact p2 j r2
 ·simpa [without] using hb
theorem SCall.giveH {Γ:Nat→Option AFn} {g:Nat} {vs vs':List AV} {h:List qC} {K:AV→List qC→Prop} (ids:List Nat) (hc:vs.length=vs'.length∧∀p∈vs.zip vs',HCv (only ids h) p.1 p.2) (hs:SCall Γ g vs' (without ids h) K):SCall Γ g vs h K:=fun ρ hr ar hH hv=>by
 have hO:qd ρ (only ids h) hr:=⟨fun i o hi=>by
   by_cases hd:o=.dead
   ·subst hd;trivial
   ·exact hH.obj i o (zn hi hd).2,fun i j a o o' h1 h2 hi hj d1 d2=>hH.inj i j a o o' h1 h2 (zn hi d1).2 (zn hj d2).2 d1 d2,
  fun i hi=>hH.out i (by simpa [only] using hi),hH.is⟩
 obtain ⟨ar',c1,c2,c3⟩:=Vi hc.1 (fun p hp=>(hc.2 p hp).conv hO (K:=zC ρ h ids) (fun i a w el ha ho=>by
  obtain ⟨q1,q2⟩:=zn ho (by simp);rw [List.contains_iff_mem,zo];exact ⟨i,w,el,by simpa using q1,ha,q2⟩)) hv
 obtain ⟨k,r,hr',ρ',v,h',hx,q,g1,g2,g3,g4⟩:=hs ρ (hr.kill (zC ρ h ids)) ar' (hH.without ids) c3;refine ⟨k,r,hr',ρ',v,h',.frzA _ (hH.rows ids) c1 c2 hx,q,g1,g2, ?_,by simpa [without] using g4⟩;rw [jO] at g3;refine Fm.trans ⟨fun x o p1 p2=> ?_,fun i x hx=>.inl ⟨i,hx⟩,fun x hx=>(AH.fr_kill hx).1,fun _ _=>rfl⟩ g3;show (hr.kill _) x=_;rw [AH.kill_at,if_neg]
 ·exact p1
 ·rw [List.contains_iff_mem,zo];rintro ⟨j,w,el,r1,r2,r3⟩;exact p2 j r2
def pmu (x y w:Nat):List (Option Nat):=(List.range' x y).map some++((List.range' 0 x).map some++(List.range' (x+y) w).map some)
theorem qM6 {x y w j k:Nat} (h:(j<y∧k=x+j)∨(y≤j∧j<x+y∧k+y=j)∨(x+y≤j∧j<x+y+w∧k=j)):(pmu x y w)[j]?=some (some k):=by
 unfold pmu;rcases h with ⟨h1,rfl⟩ | ⟨h1,h2,h3⟩ | ⟨h1,h2,rfl⟩
 ·rw [gAl (by simpa using h1),gMp,List.getElem?_range' h1];simp
 ·rw [gAr (by simpa using h1),gAl (by simp;omega),gMp,List.getElem?_range' (by simp;omega)];simp;omega
 ·rw [gAr (by simp;omega),gAr (by simp;omega),gMp,List.getElem?_range' (by simp;omega)];simp;omega
theorem qZB {x y w:Nat}:zW (pmu x y w)=true:=by
 have e:pmu x y w=(List.range' x y++(List.range' 0 x++List.range' (x+y) w)).map some:=by simp [pmu]
 rw [e];refine Qi ?_;rw [List.nodup_append];refine ⟨List.nodup_range', ?_,fun a ha b hb=> ?_⟩
 ·rw [List.nodup_append];refine ⟨List.nodup_range',List.nodup_range',fun a ha b hb=> ?_⟩;simp only [List.mem_range'_1] at ha hb;omega
 ·simp only [List.mem_append,List.mem_range'_1] at ha hb;omega
theorem FinF.swap {X Y W:List AV} {t v:AV} {h:List qC} (hX:AV.pls X=true) (hY:AV.pls Y=true) (hW:AV.pls W=true) (hh:h=(qS (X++(Y++W)) 0).2) (ht:(lay t 0).2=(qS (Y++(X++W)) 0).2)
  (hv:VR2 (pmu (AV.rowss X) (AV.rowss Y) (AV.rowss W)) v (lay t 0).1):FinF (some [v]) h t:=by
 refine ⟨pmu (AV.rowss X) (AV.rowss Y) (AV.rowss W),qZB, ?_,hv⟩;rw [ht];subst hh;have lX:=zO X 0;have lY:=zO Y (0+AV.rowss X);simp only [w8];have hx:(qS X 0).2.length=AV.rowss X:=lX;refine Js (Q7 hY (fun i hi=>qM6 (by omega)) fun i o hi=> ?_) (Js (Q7 hX (fun i hi=>qM6 (by omega)) fun i o hi=> ?_) (Q7 hW (fun i hi=>qM6 (by omega)) fun i o hi=> ?_))
 ·have hi':=(gSi.1 hi).1;rw [gAr (by omega),show AV.rowss X+i-(qS X 0).2.length=i by omega,gAl (by simpa [zO] using hi')];simpa only [nZa] using hi
 ·rw [show 0+i=i from nZa i,gAl (gSi.1 hi).1];exact hi
 ·have hi':=(gSi.1 hi).1;rw [gAr (by omega),gAr (by omega),show AV.rowss X+AV.rowss Y+i-(qS X 0).2.length-(qS Y (0+AV.rowss X)).2.length=i by omega];simpa only [nZa] using hi
theorem qSE:∀{as bs:List AV},AV.trees (as++bs)=(AV.trees as&&AV.trees bs)
 |[],_=>by simp [AV.trees]
 | a::as,bs=>by simp [AV.trees,qSE (as:=as),Bool.and_assoc]
section
variable {Γ:Nat→Option AFn} {g:Nat} {v x y:AV} {j:Nat} {sh:Option Nat}
theorem qg.subV {ρ:Ren} {hr:AH} {K:List Nat} {r:AV} (hp:x.part j sh=some y) (hy:0<y.cells.length) (h:RelV ρ (.ept x j) r):∃r',qg hr K r r'∧RelV ρ (.ept y 0) r':=by
 simp only [RelV] at h;obtain ⟨z,rfl,hz⟩:=h;obtain ⟨u,h1,h2⟩:=hz.part hp;refine ⟨.ept u 0,.sub h1 (by rw [h2.cellsLen];exact hy), ?_⟩;simp only [RelV];exact ⟨u,rfl,h2⟩
theorem Pure.lk {as bs:List AV} (hx:x.tree=true) (hp:x.part j sh=some y) (hy:0<y.cells.length) (h:Pure Γ g (as++.ept y 0::bs) v):Pure Γ g (as++.ept x j::bs) v:=by
 unfold Pure at h⊢;obtain ⟨t1,t2,h⟩:=h;refine ⟨?_,t2,fun hr ar har=> ?_⟩
 ·rw [qSE] at t1⊢;simp only [AV.trees,AV.tree,bAt] at t1⊢;exact ⟨t1.1,hx,t1.2.2⟩
 ·obtain ⟨as',br,rfl,ha,hb⟩:∃as' br,ar=as'++br∧RelVs ρ0 as as'∧RelVs ρ0 (.ept x j::bs) br:=⟨ar.take as.length,ar.drop as.length,(List.take_append_drop _ _).symm,by have:=har.take as.length;rwa [List.take_left] at this,by have:=har.drop as.length;rwa [List.drop_left] at this⟩;simp only [RelVs] at hb;obtain ⟨r,bs',rfl,hr1,hb⟩:=hb;obtain ⟨r',c1,c2⟩:=qg.subV (hr:=hr) (K:=[]) hp hy hr1;obtain ⟨k,w,hr',h1,h2,h3,h4⟩:=h (hr.kill []) (as'++r'::bs') (ha.append (by simp only [RelVs];exact ⟨r',bs',rfl,c2,hb⟩));have e:(hr.kill []).f=hr.f:=by funext i;rfl
  refine ⟨k,w,hr',.frzA [] (fun id hi=>by cases hi) (as':=as'++r'::bs') (by simp) (fun p hp=> ?_) h1,by rw [h2,e],fun a ha=>(AH.fr_kill (h3 a ha)).1,h4⟩;rw [List.zip_append (by rfl),List.zip_cons_cons] at hp;rcases List.mem_append.1 hp with q | q
  ·have:p.1=p.2:=by obtain ⟨i,hi,rfl⟩:=List.getElem_of_mem q;simp
   rw [this];exact .refl _
  ·rcases List.mem_cons.1 q with rfl | q
   ·exact c1
   ·have:p.1=p.2:=by obtain ⟨i,hi,rfl⟩:=List.getElem_of_mem q;simp
    rw [this];exact .refl _
theorem Pure.lk0 {bs:List AV} (hx:x.tree=true) (hp:x.part j sh=some y) (hy:0<y.cells.length) (h:Pure Γ g (.ept y 0::bs) v):Pure Γ g (.ept x j::bs) v:=Pure.lk (as:=[]) hx hp hy h
theorem Pure.lk1 {a:AV} {bs:List AV} (hx:x.tree=true) (hp:x.part j sh=some y) (hy:0<y.cells.length) (h:Pure Γ g (a::.ept y 0::bs) v):Pure Γ g (a::.ept x j::bs) v:=Pure.lk (as:=[a]) hx hp hy h
end
end Go.Ab
