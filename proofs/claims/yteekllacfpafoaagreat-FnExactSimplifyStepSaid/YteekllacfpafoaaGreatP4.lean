/- Texts AbO2 .. AbK: the abstract machine, its laws and contracts of functions: lemmas for the statement. No condition. -/
import Derived.Test.YteekllacfpafoaaGreatP3
set_option linter.unusedSimpArgs false
set_option linter.unusedVariables false
namespace Go.Ab
open Go
section
variable {Γ:Nat→Option AFn} {g:Nat}
def J0 (vs:Option (List AV)) (h:List qC) (t:AV):Prop:=match vs with
  | some vs=>∃μ,jj μ=true∧we μ h μ (lay t 0).2∧VR2 μ (zW vs) (lay t 0).1
  | none=>False
def Zb (res:List za) (t:AV):qX→VSt→Prop:=fun e st=>(e=.nrm∨e=.ret)∧J0 (zN (zk st) res) st.h t
@[go_sem] theorem zAU {res:List za} {t:AV} {s m:qg} {h:List qC}:Zb res t .ret ⟨s,m,h⟩=J0 (zN (zk ⟨s,m,h⟩) res) h t:=by
  simp [Zb]
@[go_sem] theorem zAT {res:List za} {t:AV} {s m:qg} {h:List qC}:Zb res t .nrm ⟨s,m,h⟩=J0 (zN (zk ⟨s,m,h⟩) res) h t:=by
  simp [Zb]
theorem Fresh.intro {F:qJ} {as:List AV} {t:AV} (fz bp:List Nat) (hg:Γ g=some (.fn F)) (hok:F.body.ok=true) (hn:as.length=F.np) (ht:AV.trees as=true) (hp:t.pl=true)
    (hR:R ⟨Γ,0,fz,bp⟩ [.code F.body] ⟨qL 0 as,[],[]⟩ (Zb F.res t)):Fresh Γ g as t:=by
  unfold Fresh
  refine ⟨ht,hp,fun hr ar har=> ?_⟩
  have hS:qw ρ0 ⟨qL 0 as,[],[]⟩ {s:=params 0 ar,l:=Env.empty,h:=hr}:=⟨Qy har,(fun n v h=>by cases h),⟨(fun i o h=>by simp at h),(fun i j a o o' h=>by cases h),(fun _ _=>rfl),(fun i a h=>by cases h)⟩⟩
  obtain ⟨k,e,sr',ρ',st',g1,⟨he,hq⟩,g3,g4,_⟩:=Sem.of (by simpa only [List.all_cons,List.all_nil,Bool.and_true,Fr1.ok] using hok) hR ρ0 _ hS (Nat.zero_le _)
  have hb:Ex Γ k (.code F.body {s:=params 0 ar,l:=Env.empty,h:=hr}) (.st e sr'):=by
    cases g1 with
    | code h h'=>cases h';exact h
    | codeX h he' hx h'=>cases e<;>simp [exK] at hx
    | codeE h he' hx=>exact h
  unfold J0 at hq
  split at hq
  · rename_i vs hvs
    obtain ⟨μ,m1,m2,m3⟩:=hq
    obtain ⟨rs,q1,q2⟩:=Q0 g3 hvs
    have hx:=Ex.fn hg (by rw [har.length];exact hn) hb he q1
    obtain ⟨r1,r2⟩:=qUE m1 m2 g3.h
    exact ⟨k+1,_,_,_,hx,r1,m3.rel (Zx q2),g4.trans r2⟩
  · exact hq.elim
mutual
theorem qSY {μ:List (Option Nat)}:∀(t:AV) (a b:Nat),t.pl=true→(∀i,i<t.rows→μ[b+i]?=some (some (a+i)))→VR2 μ (lay t a).1 (lay t b).1
  |.lst w xs _,a,b,_,h=>by
    simp only [lay]
    exact .slice (by have:=h 0 (by simp only [AV.rows];omega);simpa using this)
  |.agg xs,a,b,hp,h=>by
    simp only [lay]
    have:=Zn xs a b hp h
    exact .agg this.1 this.2
  |.tup xs,a,b,hp,h=>by
    simp only [lay]
    have:=Zn xs a b hp h
    exact .tup this.1 this.2
  |.bool _,_,_,_,_ |.int _ _,_,_,_,_ |.str _,_,_,_,_ |.nilp,_,_,_,_ |.nils,_,_,_,_ |.nilm,_,_,_,_ |.nilf,_,_,_,_ |.nili,_,_,_,_=>by
    simp only [lay];exact .tree rfl
  |.any,_,_,hp,_ |.ptr _ _ _,_,_,hp,_ |.slice _ _ _ _ _,_,_,hp,_ |.map _,_,_,hp,_ |.ept _ _,_,_,hp,_ |.fn _ _,_,_,hp,_ |.iface _ _,_,_,hp,_=>by cases hp
theorem Zn {μ:List (Option Nat)}:∀(xs:List AV) (a b:Nat),AV.pls xs=true→(∀i,i<AV.rowss xs→μ[b+i]?=some (some (a+i)))→VR2s μ (qU xs a).1 (qU xs b).1
  |[],_,_,_,_=>VR2s.nil
  | x::xs,a,b,hp,h=>by
    simp only [AV.pls,Bool.and_eq_true] at hp
    simp only [AV.rowss] at h
    simp only [qU,qo]
    refine .cons (qSY x a b hp.1 fun i hi=>h i (by omega)) (Zn xs _ _ hp.2 fun i hi=> ?_)
    rw [show b+x.rows+i=b+(x.rows+i) by omega,show a+x.rows+i=a+(x.rows+i) by omega]
    exact h _ (by omega)
end
mutual
theorem qSX {μ:List (Option Nat)} {h:List qC}:∀(t:AV) (a b:Nat),t.pl=true→(∀i,i<t.rows→μ[b+i]?=some (some (a+i)))→(∀i o,(lay t a).2[i]?=some o→h[a+i]?=some o)→
    ∀i o,(lay t b).2[i]?=some o→OR2 μ h (some (a+i)) o
  |.lst w xs _,a,b,hp,hm,hh,i,o,hi=>by
    simp only [lay] at hi hh
    simp only [AV.rows] at hm
    have hm':∀i,i<AV.rowss xs→μ[b+1+i]?=some (some (a+1+i)):=fun i hi=>by
      rw [show b+1+i=b+(i+1) by omega,show a+1+i=a+(i+1) by omega];exact hm _ (by omega)
    cases i with
    | zero=>
      simp only [List.getElem?_cons_zero,Option.some.injEq] at hi
      subst hi
      exact .row (hh 0 _ rfl) (Zn xs _ _ hp hm')
    | succ i=>
      have:=Zm xs (a+1) (b+1) hp hm' (fun i o hi=>by
        rw [show a+1+i=a+(i+1) by omega];exact hh (i+1) o (by simpa using hi)) i o (by simpa using hi)
      rw [show a+1+i=a+(i+1) by omega] at this;exact this
  |.agg xs,a,b,hp,hm,hh,i,o,hi=>by
    simp only [lay] at hi hh
    exact Zm xs a b hp hm hh i o hi
  |.tup xs,a,b,hp,hm,hh,i,o,hi=>by
    simp only [lay] at hi hh
    exact Zm xs a b hp hm hh i o hi
  |.bool _,_,_,_,_,_,_,_,h |.int _ _,_,_,_,_,_,_,_,h |.str _,_,_,_,_,_,_,_,h |.nilp,_,_,_,_,_,_,_,h |.nils,_,_,_,_,_,_,_,h |.nilm,_,_,_,_,_,_,_,h |.nilf,_,_,_,_,_,_,_,h |.nili,_,_,_,_,_,_,_,h=>by
    simp [lay] at h
  |.any,_,_,hp,_,_,_,_,_ |.ptr _ _ _,_,_,hp,_,_,_,_,_ |.slice _ _ _ _ _,_,_,hp,_,_,_,_,_ |.map _,_,_,hp,_,_,_,_,_ |.ept _ _,_,_,hp,_,_,_,_,_ |.fn _ _,_,_,hp,_,_,_,_,_ |.iface _ _,_,_,hp,_,_,_,_,_=>by cases hp
theorem Zm {μ:List (Option Nat)} {h:List qC}:∀(xs:List AV) (a b:Nat),AV.pls xs=true→(∀i,i<AV.rowss xs→μ[b+i]?=some (some (a+i)))→(∀i o,(qU xs a).2[i]?=some o→h[a+i]?=some o)→
    ∀i o,(qU xs b).2[i]?=some o→OR2 μ h (some (a+i)) o
  |[],_,_,_,_,_,_,_,hi=>by simp [qU] at hi
  | x::xs,a,b,hp,hm,hh,i,o,hi=>by
    simp only [AV.pls,Bool.and_eq_true] at hp
    simp only [AV.rowss] at hm
    simp only [qU,qo] at hi hh
    rcases Nat.lt_or_ge i x.rows with q | q
    · rw [List.getElem?_append_left (by rw [qo];exact q)] at hi
      exact qSX x a b hp.1 (fun i hi=>hm i (by omega)) (fun i o hi=>hh i o (by rw [List.getElem?_append_left (List.getElem?_eq_some_iff.1 hi).1];exact hi)) i o hi
    · rw [List.getElem?_append_right (by rw [qo];exact q),qo] at hi
      have:=Zm xs (a+x.rows) (b+x.rows) hp.2 (fun i hi=>by
        rw [show b+x.rows+i=b+(x.rows+i) by omega,show a+x.rows+i=a+(x.rows+i) by omega];exact hm _ (by omega)) (fun i o hi=>by
        rw [show a+x.rows+i=a+(x.rows+i) by omega]
        exact hh _ o (by rw [List.getElem?_append_right (by rw [qo];omega),qo,Nat.add_sub_cancel_left];exact hi)) (i-x.rows) o hi
      rw [show a+x.rows+(i-x.rows)=a+i by omega] at this;exact this
end
theorem qPT {μ:List (Option Nat)} {h:List qC}:∀{r:List (Option Nat)} {h':List qC},r.length=h'.length→(∀(i:Nat) (j:Option Nat) (o:qC),r[i]?=some j→h'[i]?=some o→OR2 μ h j o)→we μ h r h'
  |[],[],_,_=>trivial
  | j::r,o::h',hl,hh=>⟨hh 0 j o rfl rfl,qPT (by simpa using hl) fun i j o h1 h2=>hh (i+1) j o (by simpa using h1) (by simpa using h2)⟩
  |[],_::_,hl,_=>by simp at hl
  | _::_,[],hl,_=>by simp at hl
theorem Yk:∀{l:List Nat},l.Nodup→jj (l.map some)=true
  |[],_=>rfl
  | x::l,h=>by
    rw [List.nodup_cons] at h
    simp only [List.map_cons,jj,Bool.and_eq_true,List.all_eq_true]
    refine ⟨fun y hy=> ?_,Yk h.2⟩
    obtain ⟨z,hz,rfl⟩:=List.mem_map.1 hy
    have:x≠z:=fun e=>h.1 (by rw [e];exact hz)
    have hb:Nat.beq x z=false:=by
      rw [←Bool.not_eq_true];intro q;exact this (Nat.eq_of_beq_eq_true q)
    show (!Nat.beq x z)=true
    rw [hb];rfl
theorem Jb {vs:List AV} {h pre post:List qC} {t:AV} (hp:t.pl=true) (hv:zW vs=(lay t pre.length).1) (hh:h=pre++((lay t pre.length).2++post)):J0 (some vs) h t:=by
  have hm:∀i,i<t.rows→((List.range' pre.length t.rows).map some)[0+i]?=some (some (pre.length+i)):=fun i hi=>by
    rw [List.getElem?_map,List.getElem?_range' (by omega)]
    simp
  refine ⟨(List.range' pre.length t.rows).map some,Yk (List.nodup_range'),qPT (by simp [qo]) fun i j o h1 h2=> ?_, ?_⟩
  · have hi:i<t.rows:=by have:=(List.getElem?_eq_some_iff.1 h2).1;rw [qo] at this;exact this
    have:=hm i hi
    rw [Nat.zero_add] at this
    rw [this] at h1;cases h1
    refine qSX t pre.length 0 hp hm (fun i o hi=> ?_) i o h2
    rw [hh,List.getElem?_append_right (by omega),Nat.add_sub_cancel_left,List.getElem?_append_left (List.getElem?_eq_some_iff.1 hi).1]
    exact hi
  · rw [hv];exact qSY t _ _ hp hm
def Mark (Γ:Nat→Option AFn) (g:Nat) (t t':AV) (k k':Int):Prop:=
  t.pl=true∧t'.pl=true∧t'.rows=t.rows∧∀ρ hr r,qp ρ (lay t 0).2 hr→RelV ρ (lay t 0).1 r→∃kk hr' ρ',Ex Γ kk (.call g [r,.int .i64 k] hr) (.res (.ok (.int .i64 k')) hr')∧qp ρ' (lay t' 0).2 hr'∧Fm t.rows ρ hr ρ' hr'
def YP (vs:Option (List AV)) (h:List qC) (k:Int) (os:List qC):Prop:=vs=some [.int .i64 k]∧h=os
def Zd (res:List za) (k:Int) (os:List qC):qX→VSt→Prop:=fun e st=>(e=.nrm∨e=.ret)∧YP (zN (zk st) res) st.h k os
@[go_sem] theorem zAY {res:List za} {k:Int} {os:List qC} {s m:qg} {h:List qC}:Zd res k os .ret ⟨s,m,h⟩=YP (zN (zk ⟨s,m,h⟩) res) h k os:=by
  simp [Zd]
@[go_sem] theorem zAX {res:List za} {k:Int} {os:List qC} {s m:qg} {h:List qC}:Zd res k os .nrm ⟨s,m,h⟩=YP (zN (zk ⟨s,m,h⟩) res) h k os:=by
  simp [Zd]
theorem Yt {h os:List qC} {k k':Int} (hk:k=k') (hh:h=os):YP (some [.int .i64 k]) h k' os:=⟨by rw [hk],hh⟩
theorem Mark.intro {F:qJ} {t t':AV} {k k':Int} (hg:Γ g=some (.fn F)) (hok:F.body.ok=true) (hn:F.np=2) (hp:t.pl=true) (hp':t'.pl=true) (hl:t'.rows=t.rows)
    (hR:R ⟨Γ,t.rows,[],[]⟩ [.code F.body] ⟨qL 0 [(lay t 0).1,.int .i64 k],[],(lay t 0).2⟩ (Zd F.res k' (lay t' 0).2)):Mark Γ g t t' k k':=by
  refine ⟨hp,hp',hl,fun ρ hr r hH hv=> ?_⟩
  have hS:qw ρ ⟨qL 0 [(lay t 0).1,.int .i64 k],[],(lay t 0).2⟩ {s:=params 0 [r,.int .i64 k],l:=Env.empty,h:=hr}:=
    ⟨Qy (by simp only [RelVs];exact ⟨_,_,rfl,hv,_,_,rfl,by simp only [RelV],rfl⟩),(fun n v h=>by cases h),hH⟩
  obtain ⟨kk,e,sr',ρ',st',g1,⟨he,hq⟩,g3,g4,_⟩:=Sem.of (by simpa only [List.all_cons,List.all_nil,Bool.and_true,Fr1.ok] using hok) hR ρ _ hS (by rw [qo];exact Nat.le_refl _)
  have hb:Ex Γ kk (.code F.body {s:=params 0 [r,.int .i64 k],l:=Env.empty,h:=hr}) (.st e sr'):=by
    cases g1 with
    | code h h'=>cases h';exact h
    | codeX h he' hx h'=>cases e<;>simp [exK] at hx
    | codeE h he' hx=>exact h
  obtain ⟨q1,q2⟩:=hq
  obtain ⟨rs,q3,q4⟩:=Q0 g3 q1
  have hx:=Ex.fn hg (by rw [hn];rfl) hb he q3
  have hr1:RelV ρ' (.int .i64 k') (zW rs):=Zx q4
  simp only [RelV] at hr1
  rw [hr1] at hx
  exact ⟨kk+1,_,ρ',hx,by rw [←q2];exact g3.h,g4⟩
theorem SCall.mark {K:AV→List qC→Prop} {pre post h:List qC} {t t':AV} {k k':Int} {v:AV} (hm:Mark Γ g t t' k k') (hh:h=pre++((lay t pre.length).2++post)) (hva:v=(lay t pre.length).1)
    (hk:K (.int .i64 k') (pre++((lay t' pre.length).2++post))):SCall Γ g [v,.int .i64 k] h K:=fun ρ hr ar hH hv=>by
  obtain ⟨hp,hp',hl,hm⟩:=hm
  subst hh
  subst hva
  simp only [RelVs,RelV] at hv
  obtain ⟨r,rs,rfl,hv,_,_,rfl,rfl,rfl⟩:=hv
  obtain ⟨n,hn⟩:∃n,n=pre.length:=⟨_,rfl⟩
  rw [←hn] at hH hv hk
  have mid:∀i,(hi:i<t.rows)→∃w xs b,(pre++((lay t n).2++post))[n+i]?=some (.row w (qU xs b).1 true)∧(lay t n).2[i]?=some (.row w (qU xs b).1 true):=fun i hi=>by
    have hlt:i<(lay t n).2.length:=by rw [qo];exact hi
    obtain ⟨w,xs,b,e,_⟩:=J7 t n i _ hp (gEg hlt)
    refine ⟨w,xs,b, ?_,by rw [gEg hlt,e]⟩
    rw [List.getElem?_append_right (by omega),←hn,Nat.add_sub_cancel_left,List.getElem?_append_left hlt,gEg hlt,e]
  have sh:Sh2 ρ n (fun i=>if i<t.rows then ρ (n+i) else none) 0 t.rows:=fun i hi=>by
    simp only [Nat.zero_add];rw [if_pos hi]
  have lies:Lies ρ n (lay t n).2 hr:=fun i o hi=>hH.obj (n+i) o (by
    rw [List.getElem?_append_right (by omega),←hn,Nat.add_sub_cancel_left,List.getElem?_append_left (List.getElem?_eq_some_iff.1 hi).1];exact hi)
  have lies0:=Y8 t n 0 hp sh (fun _ _ _ _ _ h=>h) lies
  have hH0:qp (fun i=>if i<t.rows then ρ (n+i) else none) (lay t 0).2 hr:=by
    refine ⟨fun i o hi=>by have:=lies0 i o hi;rwa [Nat.zero_add] at this,fun i j a o o' h1 h2 _ _ _ _=> ?_,fun i hi=> ?_,fun i a ha=> ?_⟩
    · try simp only at h1 h2
      split at h1
      · rename_i q1
        split at h2
        · rename_i q2
          obtain ⟨w1,x1,b1,e1,_⟩:=mid i q1
          obtain ⟨w2,x2,b2,e2,_⟩:=mid j q2
          have:=hH.inj _ _ a _ _ h1 h2 e1 e2 (by simp) (by simp)
          omega
        · cases h2
      · cases h1
    · rw [qo] at hi;show (if i<t.rows then ρ (n+i) else none)=none;rw [if_neg (by omega)]
    · try simp only at ha
      split at ha
      · exact hH.is _ a ha
      · cases ha
  obtain ⟨kk,hr',ρ',hx,hH',hF⟩:=hm _ hr r hH0 (qPD t n 0 r hp sh hv)
  have hρ:∀i,ρ' i=if i<t.rows then ρ (n+i) else none:=fun i=>by
    by_cases q:i<t.rows
    · exact hF.base i q
    · rw [if_neg q];exact hH'.out i (by rw [qo];omega)
  have sh':Sh2 ρ' 0 ρ n t'.rows:=fun i hi=>by
    rw [Nat.zero_add,hρ,if_pos (by omega)]
  have lies':Lies ρ n (lay t' n).2 hr':=Y8 t' 0 n hp' sh' (fun _ _ _ _ _ h=>h) (fun i o hi=>by rw [Nat.zero_add];exact hH'.obj i o hi)
  have out:∀(i a:Nat) (o:qC),(i<n∨n+t.rows≤i)→(pre++((lay t n).2++post))[i]?=some o→o≠.dead→ρ i=some (some a)→∀x,hr a=some x→hr' a=some x:=fun i a o hi ho hd ha x hxx=>by
    refine hF.pres a x hxx fun j hj=> ?_
    try simp only at hj
    split at hj
    · rename_i q
      obtain ⟨w,xs,b,e,_⟩:=mid j q
      have:=hH.inj _ _ a _ _ ha hj ho e hd (by simp)
      omega
    · cases hj
  have hlen:(lay t' n).2.length=t.rows:=by rw [qo,hl]
  have hlen0:(lay t n).2.length=t.rows:=by rw [qo]
  have oldAt:∀(i:Nat) (o:qC),(pre++((lay t' n).2++post))[i]?=some o→(i<n∨n+t.rows≤i)→(pre++((lay t n).2++post))[i]?=some o:=fun i o ho hi=>by
    rcases hi with q | q
    · rw [List.getElem?_append_left (by omega)] at ho⊢;exact ho
    · rw [List.getElem?_append_right (by omega),List.getElem?_append_right (by omega)] at ho⊢
      rw [hlen] at ho;rw [hlen0];exact ho
  refine ⟨kk,_,hr',ρ,_,_,hx,hk,⟨fun i o hi=> ?_,fun i j a o o' h1 h2 hi hj d1 d2=> ?_,fun i hi=>hH.out i (by simp only [List.length_append,hlen,hlen0] at hi⊢;exact hi),fun i a ha=> ?_⟩,by simp only [RelV],⟨fun a o ho hno=>hF.pres a o ho fun j hj=> ?_,fun i a ha=>.inl ⟨i,ha⟩,hF.fr,fun _ _=>rfl⟩,by simp only [List.length_append,qo,hl];omega⟩
  · by_cases q:i<n∨n+t.rows≤i
    · have ho:=oldAt i o hi q
      by_cases hd:o=.dead
      · subst hd;trivial
      · exact (hH.obj i o ho).mono (fun _ _ h=>h) fun a x ha hxx=>out i a o q ho hd ha x hxx
    · have q1:n≤i:=by omega
      have:=lies' (i-n) o (by
        rw [List.getElem?_append_right (by omega),List.getElem?_append_left (by rw [hlen];omega),←hn] at hi
        exact hi)
      rwa [show n+(i-n)=i by omega] at this
  · have back:∀(i:Nat) (o:qC),(pre++((lay t' n).2++post))[i]?=some o→o≠.dead→∃o2,(pre++((lay t n).2++post))[i]?=some o2∧o2≠.dead:=fun i o ho hd=>by
      by_cases q:i<n∨n+t.rows≤i
      · exact ⟨o,oldAt i o ho q,hd⟩
      · obtain ⟨w,xs,b,e,_⟩:=mid (i-n) (by omega)
        rw [show n+(i-n)=i by omega] at e
        exact ⟨_,e,by simp⟩
    obtain ⟨o2,e1,e2⟩:=back i o hi d1
    obtain ⟨o3,e3,e4⟩:=back j o' hj d2
    exact hH.inj i j a o2 o3 h1 h2 e1 e3 e2 e4
  · obtain ⟨o,ho⟩:=hH.is i a ha
    by_cases q:∃j,ρ' j=some (some a)
    · obtain ⟨j,hj⟩:=q;exact hH'.is j a hj
    · refine ⟨o,hF.pres a o ho fun j hj=>q ⟨j, ?_⟩⟩
      rw [hρ];exact hj
  · try simp only at hj
    split at hj
    · exact hno _ hj
    · cases hj
mutual
def AV.cn:AV→Bool
  |.lst w xs c=>decide (0<w)&& !c&&AV.cns xs
  |.agg xs |.tup xs=>AV.cns xs
  | _=>true
def AV.cns:List AV→Bool
  |[]=>true
  | x::xs=>AV.cn x&&AV.cns xs
end
theorem qg6 {h:List qC} {a b:AV} {as bs:List AV} (x:Cv h a b) (y:∀p∈as.zip bs,Cv h p.1 p.2):∀p∈(a::as).zip (b::bs),Cv h p.1 p.2:=fun p hp=>by
  simp only [List.zip_cons_cons,List.mem_cons] at hp
  rcases hp with rfl | hp
  · exact x
  · exact y p hp
mutual
theorem qSZ {h:List qC}:∀(t:AV) (a:Nat),t.pl=true→t.cn=true→(∀i o,(lay t a).2[i]?=some o→h[a+i]?=some o)→Cv h (lay t a).1 t
  |.lst w xs c,a,hp,hc,hh=>by
    simp only [AV.cn,Bool.and_eq_true,decide_eq_true_eq,Bool.not_eq_true'] at hc
    obtain ⟨⟨h0,rfl⟩,hc⟩:=hc
    simp only [lay] at hh⊢
    have l:=wG xs (a+1)
    refine .slc (hh 0 _ rfl) (by omega) h0 (by rw [List.drop_zero,←l,List.take_length,l]) ?_
    rw [List.drop_zero,←l,List.take_length]
    exact VA xs (a+1) hp hc fun i o hi=>by
      rw [show a+1+i=a+(i+1) by omega];exact hh (i+1) o (by simpa using hi)
  |.agg xs,a,hp,hc,hh=>by
    simp only [lay] at hh⊢
    exact .agg (wG xs a) (VA xs a hp hc hh)
  |.tup xs,a,hp,hc,hh=>by
    simp only [lay] at hh⊢
    exact .tup (wG xs a) (VA xs a hp hc hh)
  |.bool _,_,_,_,_ |.int _ _,_,_,_,_ |.str _,_,_,_,_ |.nilp,_,_,_,_ |.nils,_,_,_,_ |.nilm,_,_,_,_ |.nilf,_,_,_,_ |.nili,_,_,_,_=>by
    simp only [lay];exact .refl rfl
  |.any,_,hp,_,_ |.ptr _ _ _,_,hp,_,_ |.slice _ _ _ _ _,_,hp,_,_ |.map _,_,hp,_,_ |.ept _ _,_,hp,_,_ |.fn _ _,_,hp,_,_ |.iface _ _,_,hp,_,_=>by cases hp
theorem VA {h:List qC}:∀(xs:List AV) (a:Nat),AV.pls xs=true→AV.cns xs=true→(∀i o,(qU xs a).2[i]?=some o→h[a+i]?=some o)→∀p∈(qU xs a).1.zip xs,Cv h p.1 p.2
  |[],_,_,_,_=>fun p hp=>by simp at hp
  | x::xs,a,hp,hc,hh=>by
    simp only [AV.pls,Bool.and_eq_true] at hp
    simp only [AV.cns,Bool.and_eq_true] at hc
    simp only [qU,qo] at hh⊢
    refine qg6 (qSZ x a hp.1 hc.1 fun i o hi=>hh i o (by rw [List.getElem?_append_left (List.getElem?_eq_some_iff.1 hi).1];exact hi)) (VA xs _ hp.2 hc.2 fun i o hi=> ?_)
    rw [show a+x.rows+i=a+(x.rows+i) by omega]
    exact hh _ o (by rw [List.getElem?_append_right (by rw [qo];omega),qo,Nat.add_sub_cancel_left];exact hi)
end
theorem Y7 {pre post h:List qC} {t:AV} (hp:t.pl=true) (hc:t.cn=true) (hh:h=pre++((lay t pre.length).2++post)):Cv h (lay t pre.length).1 t:=
  qSZ t _ hp hc fun i o hi=>by
    rw [hh,List.getElem?_append_right (by omega),Nat.add_sub_cancel_left,List.getElem?_append_left (List.getElem?_eq_some_iff.1 hi).1];exact hi
end
section
variable {E:Ev} {ks:List Fr1} {s m:qg} {h:List qC} {Q:qX→VSt→Prop} {l:List qB}
theorem j4 {ck:Bool} {k e:Nat} {vs:List AV} {t:AV} (hp:Fresh E.Γ k vs t) (hr:R E (.ops l::ks) ⟨(e,(lay t h.length).1)::s,m,h++(lay t h.length).2⟩ Q):zp E (some (k,vs)) ck (some e) l ks ⟨s,m,h⟩ Q:=by
  unfold zp
  cases ck
  · exact SCall.fresh hp hr
  · exact SCallK.fresh hp hr
theorem qXQ {ck:Bool} {k e:Nat} {vs vs':List AV} {t:AV} (hc:Cvs h vs vs') (hp:Fresh E.Γ k vs' t) (hr:R E (.ops l::ks) ⟨(e,(lay t h.length).1)::s,m,h++(lay t h.length).2⟩ Q):zp E (some (k,vs)) ck (some e) l ks ⟨s,m,h⟩ Q:=by
  unfold zp
  cases ck
  · exact SCall.freshL hc hp hr
  · exact SCallK.freshL hc hp hr
theorem qXS {k e:Nat} {pre post:List qC} {t t':AV} {a b:Int} {v:AV} (hm:Mark E.Γ k t t' a b) (hh:h=pre++((lay t pre.length).2++post)) (hv:v=(lay t pre.length).1)
    (hr:R E (.ops l::ks) ⟨(e,.int .i64 b)::s,m,pre++((lay t' pre.length).2++post)⟩ Q):zp E (some (k,[v,.int .i64 a])) false (some e) l ks ⟨s,m,h⟩ Q:=by
  unfold zp;exact SCall.mark hm hh hv hr
end
end Go.Ab
namespace Go.Ab
open Go
section
variable {α:Type} {enc:α→AV} {w:Nat} {sh:Option Nat} {Γ:Nat→Option AFn} {g gc:Nat}
theorem jW (h:∀x,(enc x).pl=true):∀xs:List α,AV.pls (xs.map enc)=true
  |[]=>rfl
  | x::xs=>by simp only [List.map_cons,AV.pls,h x,jW h xs,Bool.and_self]
theorem qOL (h:∀x,(enc x).cn=true):∀xs:List α,AV.cns (xs.map enc)=true
  |[]=>rfl
  | x::xs=>by simp only [List.map_cons,AV.cns,h x,qOL h xs,Bool.and_self]
theorem Zl {t:AV} {n:Nat} (hp:t.pl=true):(lay t n).1.cells.length=t.cells.length:=by
  cases t<;>first
    | rfl
    | (cases hp;done)
    | (simp only [lay,AV.cells];exact wG _ _)
theorem qbR {t:AV} {n:Nat} (hp:t.pl=true):(∃cs,(lay t n).1=.agg cs)↔∃cs,t=.agg cs:=by
  cases t<;>simp [lay]<;>first
    | (cases hp;done)
    | skip
theorem qS1 {t:AV} {n k:Nat} (hp:t.pl=true) (ha:∃cs,t=.agg cs) (hk:t.cells.length=k):(lay t n).1.part 0 (some k)=some (lay t n).1:=by
  obtain ⟨cs,rfl⟩:=ha
  simp only [AV.cells] at hk
  simp only [lay,AV.part,AV.cells,wG,hk,Nat.zero_add,Nat.le_refl,if_true,List.drop_zero]
  rw [List.take_of_length_le (by rw [wG];omega)]
theorem qY4 {z:AV} {A:List AV} {i n:Nat} (hl:A.length=i) (hi:i<n):(A++List.replicate (n-i) z)[i]?=some z:=by
  rw [List.getElem?_append_right (by omega),hl,Nat.sub_self,List.getElem?_replicate,if_pos (by omega)]
theorem qf5 {z v:AV} {A:List AV} {i n:Nat} (hl:A.length=i) (hi:i<n):(A++List.replicate (n-i) z).set i v=A++(v::List.replicate (n-(i+1)) z):=by
  rw [List.set_append_right _ _ (by omega),hl,Nat.sub_self,show n-i=(n-(i+1))+1 by omega,List.replicate_succ,List.set_cons_zero]
theorem qVI {z:AV} (hs:Sh enc w sh) (hpl:∀x,(enc x).pl=true) (hz:z.tree=true) (hzl:z.cells.length=w) (hza:(∃cs,z=.agg cs)↔sh≠none) (hg:Γ g=some (.fn (toS w sh z gc))) (xs:List α) (hc:∀x∈xs,Fresh Γ gc [enc x] (enc x)) (hl:xs.length≤1048576):
    Fresh Γ g [.lst w (xs.map enc) false] (.lst w (xs.map enc) false):=by
  have ht:AV.trees (xs.map enc)=true:=zg hs.tree xs
  refine Fresh.intro [] [] hg (by simp [toS,qH.ok,AOp.ok,JC,Ao.ok,AV.tree,hz,qB.o,qB.d,qB.ck,AOp.isCall]) rfl (by simp [AV.trees,AV.tree,ht]) (jW hpl xs) ?_
  simp only [toS,qL,go_sem,Nat.reduceEqDiff,reduceIte]
  refine VQ (by simp only [List.length_map,LIM];omega) ?_
  simp only [go_sem,Nat.reduceEqDiff,reduceIte]
  refine Sem.loop (fun i:Nat=>i≤xs.length)
    (fun i=>(⟨[(0,.lst w (xs.map enc) false),(3,.slice w 0 0 xs.length false),(4,.int .i64 (i:Nat))],[],.row w ((qU ((xs.take i).map enc) 1).1++List.replicate (xs.length-i) z) true::(qU ((xs.take i).map enc) 1).2⟩:VSt)) (fun i=>xs.length-i) 0
    (by simp [Fr1.ok,qH.ok,AOp.ok,JC,Ao.ok,AV.tree,qB.o,qB.d,qB.ck,AOp.isCall]) (Nat.zero_le _) ?_ ?_
  · simp only [List.take_zero,List.map_nil,qU,List.nil_append,Nat.sub_zero,List.length_map,List.length_nil]
    exact Can.sub (by simp [go_sem]) trivial
  · intro i hi
    simp only [go_sem,Nat.reduceEqDiff,reduceIte]
    refine qD ?_ ?_<;>intro hc2<;>simp only [hc2,go_sem,Nat.reduceEqDiff,reduceIte]
    · have hlt:i<xs.length:=by have:=odT hc2;(try simp only [List.length_map] at this);omega
      have hA:(qU ((xs.take i).map enc) 1).1.length=i:=by rw [wG];simp;omega
      simp only [List.getElem?_map,gEg hlt,Option.map_some,hs.part,go_sem,Nat.reduceEqDiff,reduceIte,Bool.not_true]
      refine j4 (hc xs[i] (List.getElem_mem hlt)) ?_
      simp only [go_sem,Nat.reduceEqDiff,reduceIte,z0 hlt,Nat.zero_add,List.cons_append]
      refine jM (by rw [Zl (hpl _)];exact hs.len _) rfl (qY4 hA hlt) (Zz hzl (by rw [Zl (hpl _)];exact hs.len _) (by rw [hza,qbR (hpl _),hs.agg]) hs.pos) ?_
      rw [qf5 hA hlt]
      simp only [go_sem,Nat.reduceEqDiff,reduceIte,qe (show i<4611686018427387904 by omega),List.set_cons_zero]
      refine qY (i+1) (by omega) (by omega) ?_
      have e:(xs.take (i+1)).map enc=(xs.take i).map enc++[enc xs[i]]:=by
        rw [List.take_succ_eq_append_getElem hlt,List.map_append];rfl
      simp only [e,Y9,qU,List.append_nil,List.append_assoc,List.length_cons,jo,List.cons_append,List.nil_append,Nat.add_comm 1]
      exact Can.sub (by simp [go_sem]) trivial
    · have hge:i=xs.length:=by have:=odF hc2;(try simp only [List.length_map] at this);omega
      subst hge
      simp only [List.take_length,Nat.sub_self,List.replicate_zero,List.append_nil]
      exact Jb (pre:=[]) (post:=[]) (jW hpl xs) (by simp [zW,lay]) (by simp [lay])
theorem lI (ys:List Int):∀n,qU (ys.map qE) n=(ys.map qE,[]):=by
  induction ys with
  | nil=>intro n;rfl
  | cons y ys ih=>intro n;simp only [List.map_cons,qU,qE,lay,List.length_nil,Nat.add_zero,List.nil_append,ih]
theorem qgU (hg:Γ g=some (.fn WB)) (xs:List Int) (hl:xs.length≤1048576):Fresh Γ g [.lst 1 (xs.map qE) false] (.lst 1 (xs.map qE) false):=by
  have ht:AV.trees (xs.map qE)=true:=zg shI.tree xs
  refine Fresh.intro [] [] hg (by kernel_rfl) rfl (by simp [AV.trees,AV.tree,ht]) (jW (fun _=>rfl) xs) ?_
  simp only [WB,qL,go_sem,Nat.reduceEqDiff,reduceIte]
  refine VQ (by simp only [List.length_map,LIM];omega) ?_
  simp only [go_sem,Nat.reduceEqDiff,reduceIte]
  refine Sem.loop (fun i:Nat=>i≤xs.length)
    (fun i=>(⟨[(0,.lst 1 (xs.map qE) false),(3,.slice 1 0 0 xs.length false),(4,.int .i64 (i:Nat))],[],[.row 1 ((xs.take i).map qE++List.replicate (xs.length-i) (.int .i64 0)) true]⟩:VSt)) (fun i=>xs.length-i) 0
    (by kernel_rfl) (Nat.zero_le _) ?_ ?_
  · simp only [List.take_zero,List.map_nil,List.nil_append,Nat.sub_zero,List.length_map,List.length_nil]
    exact Can.sub (by simp [go_sem]) trivial
  · intro i hi
    simp only [go_sem,Nat.reduceEqDiff,reduceIte]
    refine qD ?_ ?_<;>intro hc2<;>simp only [hc2,go_sem,Nat.reduceEqDiff,reduceIte]
    · have hlt:i<xs.length:=by have:=odT hc2;(try simp only [List.length_map] at this);omega
      simp only [List.getElem?_map,gEg hlt,Option.map_some,shI.part,go_sem,Nat.reduceEqDiff,reduceIte,z0 hlt,Nat.zero_add]
      refine jM (shI.len _) rfl (qOW hlt) (Zz (k:=1) rfl (shI.len _) (by simp [qE]) (by decide)) ?_
      rw [qQB hlt]
      simp only [go_sem,Nat.reduceEqDiff,reduceIte,qe (show i<4611686018427387904 by omega)]
      exact qY (i+1) (by omega) (by omega) (Can.sub (by simp [go_sem]) trivial)
    · have hge:i=xs.length:=by have:=odF hc2;(try simp only [List.length_map] at this);omega
      subst hge
      simp only [List.take_length,Nat.sub_self,List.replicate_zero,List.append_nil]
      exact Jb (pre:=[]) (post:=[]) (jW (fun _=>rfl) xs) (by simp [zW,lay]) (by simp [lay,lI])
def mkL (f:α→Int→α) (c:α→Nat):List α→Int→List α
  |[],_=>[]
  | x::xs,k=>f x k::mkL f c xs (k+c x)
theorem wv (f:α→Int→α) (c:α→Nat):∀(xs:List α) (k:Int),(mkL f c xs k).length=xs.length
  |[],_=>rfl
  | x::xs,k=>by simp only [mkL,List.length_cons,wv f c xs]
theorem qPQ (f:α→Int→α) (c:α→Nat):∀(xs ys:List α) (k:Int),mkL f c (xs++ys) k=mkL f c xs k++mkL f c ys (k+qF c xs)
  |[],ys,k=>by simp [mkL,qF]
  | x::xs,ys,k=>by
    simp only [List.cons_append,mkL,qPQ f c xs ys,qF]
    congr 3
    omega
theorem qTI (f:α→Int→α) (c:α→Nat) {xs:List α} {i:Nat} (h:i<xs.length) (k:Int):mkL f c (xs.take (i+1)) k=mkL f c (xs.take i) k++[f xs[i] (k+qF c (xs.take i))]:=by
  rw [List.take_succ_eq_append_getElem h,qPQ];rfl
theorem qTH (f:α→Int→α) (c:α→Nat) {xs:List α} {i:Nat} (h:i<xs.length) (k:Int):(mkL f c xs k)[i]?=some (f xs[i] (k+qF c (xs.take i))):=by
  have e:xs=xs.take i++xs[i]::xs.drop (i+1):=by rw [←List.drop_eq_getElem_cons h,List.take_append_drop]
  have:mkL f c xs k=mkL f c (xs.take i) k++mkL f c (xs[i]::xs.drop (i+1)) (k+qF c (xs.take i)):=by
    rw [←qPQ,←e]
  rw [this,List.getElem?_append_right (by rw [wv];simp;omega),wv]
  simp [mkL,show min i xs.length=i by omega]
theorem qVE (c:α→Nat) {xs:List α} {i:Nat} (h:i<xs.length):qF c (xs.take (i+1))=qF c (xs.take i)+c xs[i]:=by
  have:∀(xs ys:List α),qF c (xs++ys)=qF c xs+qF c ys:=by
    intro xs ys;induction xs with
    | nil=>simp [qF]
    | cons x xs ih=>simp only [List.cons_append,qF,ih];omega
  rw [List.take_succ_eq_append_getElem h,this];simp [qF]
theorem qVC (c:α→Nat) (xs:List α) (i:Nat):qF c (xs.take i)≤qF c xs:=by
  have:∀(xs ys:List α),qF c (xs++ys)=qF c xs+qF c ys:=by
    intro xs ys;induction xs with
    | nil=>simp [qF]
    | cons x xs ih=>simp only [List.cons_append,qF,ih];omega
  have h:=this (xs.take i) (xs.drop i)
  rw [List.take_append_drop] at h;omega
def mkI (_:Int) (k:Int):Int:=k
def ctI (_:Int):Nat:=1
theorem JZ:∀xs:List Int,qF ctI xs=xs.length
  |[]=>rfl
  | x::xs=>by simp only [qF,JZ xs,ctI,List.length_cons];omega
def qTE:qJ:=⟨2,19,[.t 4],
 .seq (.reg true [⟨0,some 4,none,.mov (.c (.int .i64 0)),[]⟩]) (.seq (.seq (.reg true [⟨0,some 5,none,.mov (.c (.int .i64 0)),[]⟩]) (.blk 0 (.loop (.seq (.seq (.reg true [⟨0,some 6,none,.mov (.t 5),[]⟩,
⟨1,some 7,none,.mov (.t 0),[]⟩,
⟨2,some 8,none,.len (.t 7),[]⟩,
⟨3,some 9,none,.bin .lss (.t 6) (.t 8),[]⟩]) (.cond (.t 9) (.skip) (.exit 0))) (.seq (.blk 1 (.seq (.reg true [⟨0,some 12,none,.mov (.t 0),[]⟩,
⟨1,some 13,none,.mov (.t 5),[]⟩,
⟨2,some 14,none,.mov (.t 1),[]⟩,
⟨3,some 15,none,.iaddr 1 (.t 12) (.t 13),[]⟩,
⟨4,none,none,.store 1 (.t 15) (.t 14),[]⟩]) (.reg true [⟨0,some 16,none,.mov (.t 1),[]⟩,
⟨1,some 17,none,.bin .add (.t 16) (.c (.int .i64 1)),[]⟩,
⟨2,some 1,none,.mov (.t 17),[]⟩]))) (.reg true [⟨0,some 10,none,.mov (.t 5),[]⟩,
⟨1,some 11,none,.bin .add (.t 10) (.c (.int .i64 1)),[]⟩,
⟨2,some 5,none,.mov (.t 11),[]⟩])))))) (.seq (.reg true [⟨0,some 18,none,.mov (.t 1),[]⟩,
⟨1,some 4,none,.mov (.t 18),[]⟩]) (.ret)))⟩
def qSJ:qJ:=⟨2,21,[.t 4],
 .seq (.reg true [⟨0,some 4,none,.mov (.c (.int .i64 0)),[]⟩]) (.seq (.seq (.reg true [⟨0,some 5,none,.mov (.c (.int .i64 0)),[]⟩]) (.blk 0 (.loop (.seq (.seq (.reg true [⟨0,some 6,none,.mov (.t 5),[]⟩,
⟨1,some 7,none,.mov (.t 0),[]⟩,
⟨2,some 8,none,.len (.t 7),[]⟩,
⟨3,some 9,none,.bin .lss (.t 6) (.t 8),[]⟩]) (.cond (.t 9) (.skip) (.exit 0))) (.seq (.blk 1 (.seq (.seq (.reg true [⟨0,some 12,none,.mov (.t 0),[]⟩,
⟨1,some 13,none,.mov (.t 5),[]⟩,
⟨2,some 14,none,.iaddr 1 (.t 12) (.t 13),[]⟩,
⟨3,some 15,none,.load none (.t 14),[]⟩,
⟨4,some 16,none,.mov (.t 1),[]⟩,
⟨5,some 17,none,.bin .neq (.t 15) (.t 16),[]⟩]) (.cond (.t 17) (.seq (.reg true [⟨0,some 4,none,.mov (.c (.int .i64 (-1))),[]⟩]) (.ret)) (.skip))) (.reg true [⟨0,some 18,none,.mov (.t 1),[]⟩,
⟨1,some 19,none,.bin .add (.t 18) (.c (.int .i64 1)),[]⟩,
⟨2,some 1,none,.mov (.t 19),[]⟩]))) (.reg true [⟨0,some 10,none,.mov (.t 5),[]⟩,
⟨1,some 11,none,.bin .add (.t 10) (.c (.int .i64 1)),[]⟩,
⟨2,some 5,none,.mov (.t 11),[]⟩])))))) (.seq (.reg true [⟨0,some 20,none,.mov (.t 1),[]⟩,
⟨1,some 4,none,.mov (.t 20),[]⟩]) (.ret)))⟩
theorem wu {A B:List AV} {e:AV} {i:Nat} (h:A.length=i):(A++e::B)[i]?=some e:=by
  rw [List.getElem?_append_right (by omega),h,Nat.sub_self];rfl
theorem Jn {A B:List AV} {e v:AV} {i:Nat} (h:A.length=i):(A++e::B).set i v=A++v::B:=by
  rw [List.set_append_right _ _ (by omega),h,Nat.sub_self,List.set_cons_zero]
theorem Vn (ys:List Int):AV.rowss (ys.map qE)=0:=by
  have:=jo (ys.map qE) 0
  rw [lI] at this;exact this.symm
theorem JJ {xs:List AV} {c:Bool} {n:Nat}:(lay (.lst w xs c) n).1=.slice w n 0 xs.length false:=nr rfl
theorem qbS {A B:List AV} {t:AV} {c:Bool}:(lay (.lst w (A++t::B) c) 0).2=.row w ((qU A 1).1++(lay t (1+AV.rowss A)).1::(qU B (1+AV.rowss A+t.rows)).1) true::((qU A 1).2++((lay t (1+AV.rowss A)).2++(qU B (1+AV.rowss A+t.rows)).2)):=by
  simp only [lay,Y9,qU,qo,Nat.zero_add]
theorem qS0 {A B:List α} {z:α} {c:Bool}:(lay (.lst w ((A++z::B).map enc) c) 0).2=.row w ((qU (A.map enc) 1).1++(lay (enc z) (1+AV.rowss (A.map enc))).1::(qU (B.map enc) (1+AV.rowss (A.map enc)+(enc z).rows)).1) true::((qU (A.map enc) 1).2++((lay (enc z) (1+AV.rowss (A.map enc))).2++(qU (B.map enc) (1+AV.rowss (A.map enc)+(enc z).rows)).2)):=by
  rw [List.map_append,List.map_cons];exact qbS
theorem zd (f:α→Int→α) (c:α→Nat) (h:∀x k,(enc (f x k)).rows=(enc x).rows):∀(xs:List α) (k:Int),AV.rowss ((mkL f c xs k).map enc)=AV.rowss (xs.map enc)
  |[],_=>rfl
  | x::xs,k=>by simp only [mkL,List.map_cons,AV.rowss,h,zd f c h xs]
theorem Vv {c z:α→Nat} (h:∀x,c x≤16+16*z x):∀xs:List α,qF c xs≤16*(xs.length+qF z xs)
  |[]=>Nat.le_refl _
  | x::xs=>by have:=Vv h xs;have:=h x;simp only [qF,List.length_cons];omega
theorem qdU {F:qJ} (hg:Γ g=some (.fn F)) (hF:F=qTE) (xs:List Int) (k:Int) (h0:0≤k) (hk:k+(qF ctI xs:Nat)≤4611686018427387904) (hz:xs.length≤4194304):
    Mark Γ g (.lst 1 (xs.map qE) false) (.lst 1 ((mkL mkI ctI xs k).map qE) false) k (k+(qF ctI xs:Nat)):=by
  subst hF
  rw [JZ] at hk⊢
  refine Mark.intro hg (by kernel_rfl) rfl (jW (fun _=>rfl) xs) (jW (fun _=>rfl) _) (by simp only [AV.rows,zd mkI ctI (enc:=qE) (fun _ _=>rfl)]) ?_
  simp only [qTE,qL,lay,lI,go_sem,Nat.reduceEqDiff,reduceIte,List.length_map]
  refine Sem.loop (fun i:Nat=>i≤xs.length) (fun i=>(⟨[(0,.slice 1 0 0 xs.length false),(1,.int .i64 (k+(i:Nat))),(5,.int .i64 (i:Nat))],[],[.row 1 ((mkL mkI ctI (xs.take i) k).map qE++(xs.drop i).map qE) true]⟩:VSt)) (fun i=>xs.length-i) 0
    (by kernel_rfl) (Nat.zero_le _) (by simp only [List.take_zero,mkL,List.map_nil,List.nil_append,List.drop_zero,Int.ofNat_zero,Int.natCast_zero,Int.add_zero];exact Can.sub (by simp [go_sem]) (by simp [go_sem])) ?_
  intro i hi
  simp only [go_sem,Nat.reduceEqDiff,reduceIte]
  refine qD ?_ ?_<;>intro hc<;>simp only [hc,go_sem,Nat.reduceEqDiff,reduceIte]
  · have hlt:i<xs.length:=by have:=odT hc;omega
    have hA:((mkL mkI ctI (xs.take i) k).map qE).length=i:=by rw [List.length_map,wv];simp;omega
    rw [List.drop_eq_getElem_cons hlt,List.map_cons]
    simp only [z0 hlt,Nat.zero_add,go_sem,Nat.reduceEqDiff,reduceIte]
    refine jM (v:=.int .i64 (k+(i:Nat))) (e':=.int .i64 (k+(i:Nat))) (by rfl) (by rfl) (wu hA) (by rfl) ?_
    simp only [List.set_cons_zero,Jn hA,go_sem,Nat.reduceEqDiff,reduceIte]
    rw [qi (n:=k+(i:Nat)+1) (by omega) (by omega)]
    simp only [qe (show i<4611686018427387904 by omega),go_sem,Nat.reduceEqDiff,reduceIte]
    refine qY (i+1) (by omega) (by omega) ?_
    have e:mkL mkI ctI (xs.take (i+1)) k=mkL mkI ctI (xs.take i) k++[k+(i:Nat)]:=by
      rw [qTI _ _ hlt,JZ,List.length_take,show min i xs.length=i by omega];rfl
    rw [e,List.map_append,List.append_assoc]
    simp only [Int.natCast_add,Int.cast_ofNat_Int,←Int.add_assoc]
    exact Can.sub (by simp [go_sem]) (by simp [go_sem])
  · have hge:i=xs.length:=by have:=odF hc;omega
    subst hge
    refine Yt rfl ?_
    rw [List.take_length,List.drop_length,List.map_nil,List.append_nil]
theorem qbA {F:qJ} (hg:Γ g=some (.fn F)) (hF:F=qSJ) (xs:List Int) (k:Int) (h0:0≤k) (hk:k+(qF ctI xs:Nat)≤4611686018427387904) (hz:xs.length≤4194304):
    Pure Γ g [.lst 1 ((mkL mkI ctI xs k).map qE) false,.int .i64 k] (.int .i64 (k+(qF ctI xs:Nat))):=by
  subst hF
  rw [JZ] at hk⊢
  refine Pure.intro [] [] hg (by kernel_rfl) rfl (by simp [AV.trees,AV.tree,zg shI.tree]) rfl ?_
  simp only [qSJ,qL,go_sem,Nat.reduceEqDiff,reduceIte,List.length_map]
  refine Sem.loop (fun i:Nat=>i≤xs.length) (fun i=>(⟨[(0,.lst 1 ((mkL mkI ctI xs k).map qE) false),(1,.int .i64 (k+(i:Nat))),(5,.int .i64 (i:Nat))],[],[]⟩:VSt)) (fun i=>xs.length-i) 0
    (by kernel_rfl) (Nat.zero_le _) (by simp only [Int.ofNat_zero,Int.natCast_zero,Int.add_zero];exact Can.sub (by simp [go_sem]) (by simp [go_sem])) ?_
  intro i hi
  simp only [go_sem,Nat.reduceEqDiff,reduceIte,List.length_map,wv]
  refine qD ?_ ?_<;>intro hc<;>simp only [hc,go_sem,Nat.reduceEqDiff,reduceIte]
  · have hlt:i<xs.length:=by have:=odT hc;omega
    have hget:=qTH mkI ctI hlt k
    rw [JZ,List.length_take,show min i xs.length=i by omega] at hget
    simp only [List.getElem?_map,hget,Option.map_some,mkI,qE,go_sem,Nat.reduceEqDiff,reduceIte,decide_true,Bool.not_true]
    rw [qi (n:=k+(i:Nat)+1) (by omega) (by omega)]
    simp only [qe (show i<4611686018427387904 by omega),go_sem,Nat.reduceEqDiff,reduceIte]
    refine qY (i+1) (by omega) (by omega) ?_
    simp only [Int.natCast_add,Int.cast_ofNat_Int,←Int.add_assoc]
    exact Can.sub (by simp [go_sem]) (by simp [go_sem])
  · have hge:i=xs.length:=by have:=odF hc;omega
    subst hge
    exact qK rfl rfl
section
variable {E:Ev} {ks:List Fr1} {s m:qg} {h:List qC} {Q:qX→VSt→Prop} {l:List qB}
theorem JX {k e n:Nat} {pre post:List qC} {t t':AV} {a b:Int} {v:AV} (hm:Mark E.Γ k t t' a b) (hn:pre.length=n) (hh:h=pre++((lay t n).2++post)) (hv:v=(lay t n).1)
    (hr:R E (.ops l::ks) ⟨(e,.int .i64 b)::s,m,pre++((lay t' n).2++post)⟩ Q):zp E (some (k,[v,.int .i64 a])) false (some e) l ks ⟨s,m,h⟩ Q:=by
  subst hn;exact qXS hm hh hv hr
end
end
end Go.Ab
namespace Go.Ab
open Go
section
variable {Γ:Nat→Option AFn} {g:Nat} {w:Nat} {z:AV}
def ZY (w:Nat):qJ:=⟨1,8,[.t 2],.seq (.reg true [⟨0,some 2,none,.mov (.c (.nils)),[]⟩]) (.seq (.seq (.reg true [⟨0,some 3,none,.mov (.t 0),[]⟩,
⟨1,some 4,none,.isnil 1 false (.t 3),[]⟩]) (.cond (.t 4) (.seq (.reg true [⟨0,some 2,none,.mov (.c (.nils)),[]⟩]) (.ret)) (.skip))) (.seq (.reg true [⟨0,some 5,none,.mov (.c (.lst w [] true)),[]⟩,
⟨1,some 6,none,.mov (.t 0),[]⟩,
⟨2,some 7,none,.app w (.t 5) (.t 6),[]⟩,
⟨3,some 2,none,.mov (.t 7),[]⟩]) (.ret)))⟩
theorem qRK (hg:Γ g=some (.fn (ZY w))) (h:AH):Ex Γ 1 (.call g [.nils] h) (.res (.ok .nils) h):=by
  refine .fn (st:=⟨((((params 0 [.nils]).set 2 .nils).set 3 .nils).set 4 (.bool true)).set 2 .nils,Env.empty,h⟩) (e:=.ret) hg rfl ?_ (.inr rfl) rfl
  refine .seqN (.reg (.step rfl ⟨.nils,rfl,rfl⟩ trivial .nil) (.inl rfl)) (.seqX (.seqN (.reg (.step rfl ⟨.nils,rfl,rfl⟩ trivial (.step rfl ⟨.bool true,rfl,rfl⟩ trivial .nil)) (.inl rfl)) ?_) (by simp))
  exact .cond (t:=true) rfl (.seqN (.reg (.step rfl ⟨.nils,rfl,rfl⟩ trivial .nil) (.inl rfl)) .ret)
theorem qX0 (hg:Γ g=some (.fn (ZY w))) (h:AH) (id:Nat):Ex Γ 1 (.call g [.slice w id 0 0 false] h) (.res (.ok (.lst w [] true)) h):=by
  refine .fn (st:=⟨(((((((params 0 [.slice w id 0 0 false]).set 2 .nils).set 3 (.slice w id 0 0 false)).set 4 (.bool false)).set 5 (.lst w [] true)).set 6 (.slice w id 0 0 false)).set 7 (.lst w [] true)).set 2 (.lst w [] true),Env.empty,h⟩) (e:=.ret) hg rfl ?_ (.inr rfl) rfl
  refine .seqN (.reg (.step rfl ⟨.nils,rfl,rfl⟩ trivial .nil) (.inl rfl)) (.seqN (.seqN (.reg (.step rfl ⟨.slice w id 0 0 false,rfl,rfl⟩ trivial (.step rfl ⟨.bool false,rfl,rfl⟩ trivial .nil)) (.inl rfl)) (.cond (t:=false) rfl .cskip)) (.seqN (.reg ?_ (.inl rfl)) .ret))
  refine .step rfl ⟨.lst w [] true,rfl,rfl⟩ trivial (.step rfl ⟨.slice w id 0 0 false,rfl,rfl⟩ trivial (.step (st':=⟨((((((params 0 [.slice w id 0 0 false]).set 2 .nils).set 3 (.slice w id 0 0 false)).set 4 (.bool false)).set 5 (.lst w [] true)).set 6 (.slice w id 0 0 false)).set 7 (.lst w [] true),Env.empty,h⟩) rfl ?_ trivial (.step rfl ⟨.lst w [] true,rfl,rfl⟩ trivial .nil)))
  exact ⟨.lst w [] true,.slice w id 0 0 false,rfl,rfl,[],rfl,rfl,rfl,rfl⟩
theorem qe9 (hr:AH):qp ρ0 [] hr:=⟨(fun i o h=>by simp at h),(fun i j a o o' h=>by cases h),(fun _ _=>rfl),(fun i a h=>by cases h)⟩
theorem qXZ (hg:Γ g=some (.fn (ZY w))) {xs:List AV} (hf:∀n,qU xs n=(xs,[])) (hp:AV.pls xs=true) (ht:AV.trees xs=true) (hl:xs.length≤4194304):
    Fresh Γ g [.lst w xs false] (.lst w xs false):=by
  cases xs with
  | cons x xs=>
    refine Fresh.intro [] [] hg rfl rfl (by simp only [AV.trees,AV.tree] at ht⊢;simp [ht]) hp ?_
    simp only [ZY,qL,go_sem,Nat.reduceEqDiff,reduceIte]
    refine ZO Els.lst (by simp only [List.length_cons] at hl⊢;omega) ?_
    simp only [go_sem,Nat.reduceEqDiff,reduceIte]
    exact Jb (pre:=[]) (post:=[]) hp (by simp [zW,lay]) (by simp [lay,hf])
  | nil=>
    refine ⟨rfl,rfl,fun hr ar har=> ?_⟩
    have hn:∀hr',qp (ρ0.ext 0 none) [.row w [] true] hr':=fun hr'=>(qe9 hr').nil
    simp only [RelVs,RelV] at har
    obtain ⟨r,rs,rfl,hr0,rfl⟩:=har
    have hfm:∀hr':AH,(∀a o,hr a=some o→hr' a=some o)→(∀a,hr'.fr a→hr.fr a)→Fm 0 ρ0 hr (ρ0.ext 0 none) hr':=fun hr' h1 h2=>⟨fun a o q _=>h1 a o q,(fun i a q=>by
      by_cases e:i=0
      · subst e;rw [Ren.ext_same] at q;cases q
      · rw [Ren.ext_ne _ _ e] at q;cases q),h2,fun i hi=>by omega⟩
    rcases hr0 with ⟨ys,c,rfl,_,hys⟩ | ⟨_,rfl⟩
    · subst hys
      obtain ⟨id,hid⟩:=hr.fresh
      have hx1:Ex Γ 1 (.call g [.nils] hr) (.res (.ok (.lst w [] true)) (hr.kill [])):=.frzR [] (fun i hi=>by simp at hi) .nils (qRK hg hr)
      refine ⟨1,_,_,ρ0.ext 0 none,.nilc id hid (fun i o q=>by rw [AH.kill_at];simpa using q) (fun i o q=>q) rfl hx1 (qX0 hg _ id),hn _,by simp [lay,RelV,Ren.ext_same],hfm _ (fun a o q=>q) fun a q=>AH.fr_tomb (AH.fr_tomb' q)⟩
    · exact ⟨1,_,_,ρ0.ext 0 none,qRK hg hr,hn _,by simp [lay,RelV,Ren.ext_same],hfm _ (fun a o q=>q) fun a q=>q⟩
theorem qPR {μ:List (Option Nat)} {h:List qC}:∀{r1 r2:List (Option Nat)} {h1 h2:List qC},we μ h r1 h1→we μ h r2 h2→we μ h (r1++r2) (h1++h2)
  |[],_,[],_,_,k=>k
  | _::_,_,_::_,_,j,k=>⟨j.1,qPR j.2 k⟩
  |[],_,_::_,_,j,_=>j.elim
  | _::_,_,[],_,j,_=>j.elim
theorem qPS {μ:List (Option Nat)} {h:List qC} {xs:List AV} {a b:Nat} (hp:AV.pls xs=true) (hm:∀i,i<AV.rowss xs→μ[b+i]?=some (some (a+i))) (hh:∀i o,(qU xs a).2[i]?=some o→h[a+i]?=some o):
    we μ h ((List.range' a (AV.rowss xs)).map some) (qU xs b).2:=by
  refine qPT (by simp [jo]) fun i j o h1 h2=> ?_
  have hi:i<AV.rowss xs:=by have:=(List.getElem?_eq_some_iff.1 h2).1;rw [jo] at this;exact this
  rw [List.getElem?_map,List.getElem?_range' (by omega)] at h1
  simp only [Nat.one_mul,Option.map_some,Option.some.injEq] at h1
  subst h1
  exact Zm xs a b hp hm hh i o h2
def rmu (b n:Nat):List (Option Nat):=(List.range' 0 b).map some++some (b+n+2)::(List.range' (b+1) n).map some
theorem qUG {b n i:Nat} (hi:i<b):(rmu b n)[i]?=some (some i):=by
  unfold rmu
  rw [List.getElem?_append_left (by simpa using hi),List.getElem?_map,List.getElem?_range' (by omega)]
  simp
theorem qfC {b n:Nat}:(rmu b n)[b]?=some (some (b+n+2)):=by
  unfold rmu
  rw [List.getElem?_append_right (by simp)]
  simp
theorem qUF {b n i:Nat} (hi:i<n):(rmu b n)[b+1+i]?=some (some (b+1+i)):=by
  unfold rmu
  rw [List.getElem?_append_right (by simp;omega)]
  have e:b+1+i-((List.range' 0 b).map some).length=i+1:=by simp;omega
  rw [e,List.getElem?_cons_succ,List.getElem?_map,List.getElem?_range' (by omega)]
  simp
theorem qfD {b n:Nat}:jj (rmu b n)=true:=by
  have e:rmu b n=(List.range' 0 b++(b+n+2)::List.range' (b+1) n).map some:=by simp [rmu]
  rw [e]
  refine Yk ?_
  rw [List.nodup_append]
  refine ⟨List.nodup_range', ?_, ?_⟩
  · rw [List.nodup_cons]
    refine ⟨?_,List.nodup_range'⟩
    simp only [List.mem_range'_1];omega
  · intro x hx y hy
    simp only [List.mem_range'_1,List.mem_cons] at hx hy
    rcases hy with rfl | hy<;>omega
theorem Can.round {ps ts:List AV} {x:qC} {s s' m m':qg} {b n:Nat} (hps:AV.pls ps=true) (hts:AV.pls ts=true) (hb:AV.rowss ps=b) (hn:AV.rowss ts=n) (h1:w4 (rmu b n) s s') (h2:w4 (rmu b n) m m'):
    Can 0 ⟨s,m,(qU ps 0).2++.dead::((qU ts (b+1)).2++[x,.row w (qU ts (b+1)).1 true])⟩ ⟨s',m',(qU ps 0).2++.row w (qU ts (b+1)).1 true::(qU ts (b+1)).2⟩:=by
  subst hb hn
  have hlp:=jo ps 0
  have hlt:=jo ts (AV.rowss ps+1)
  refine Can.renum (rmu (AV.rowss ps) (AV.rowss ts)) qfD (qPR (qPS hps (fun i hi=>by rw [Nat.zero_add];exact qUG hi) fun i o hi=> ?_) ⟨?_,qPS hts (fun i hi=>qUF hi) fun i o hi=> ?_⟩) h1 h2
  · rw [Nat.zero_add,List.getElem?_append_left (List.getElem?_eq_some_iff.1 hi).1];exact hi
  · refine .row (el:=(qU ts (AV.rowss ps+1)).1) (rw':=true) ?_ ⟨rfl,fun p hp=> ?_⟩
    · rw [List.getElem?_append_right (by omega),show AV.rowss ps+AV.rowss ts+2-(qU ps 0).2.length=AV.rowss ts+1+1 by omega,List.getElem?_cons_succ,List.getElem?_append_right (by omega),hlt,
        show AV.rowss ts+1-AV.rowss ts=1 by omega]
      rfl
    · exact (Zn ts (AV.rowss ps+1) (AV.rowss ps+1) hts (fun i hi=>qUF hi)).2 p hp
  · have hi':=(List.getElem?_eq_some_iff.1 hi).1
    rw [List.getElem?_append_right (by omega),show AV.rowss ps+1+i-(qU ps 0).2.length=i+1 by omega,List.getElem?_cons_succ,List.getElem?_append_left hi']
    exact hi
theorem Je {A:List qC} {o:qC}:(A++[o])[A.length]?=some o:=List.getElem?_concat_length
theorem Can.push {ps A:List AV} {t:AV} {s s' m m':qg} {h h':List qC} {b n:Nat} (hps:AV.pls ps=true) (hA:AV.pls A=true) (ht:t.pl=true) (hb:AV.rowss ps=b) (hn:AV.rowss A+t.rows=n)
    (hh:h=(qU ps 0).2++.dead::((qU A (b+1)).2++((lay t (b+1+AV.rowss A)).2++[.row w [(lay t (b+1+AV.rowss A)).1] true,.row w ((qU A (b+1)).1++[(lay t (b+1+AV.rowss A)).1]) true])))
    (hh':h'=(qU ps 0).2++.row w (qU (A++[t]) (b+1)).1 true::(qU (A++[t]) (b+1)).2) (h1:w4 (rmu b n) s s') (h2:w4 (rmu b n) m m'):Can 0 ⟨s,m,h⟩ ⟨s',m',h'⟩:=by
  have hp:AV.pls (A++[t])=true:=by
    have:∀B:List AV,AV.pls B=true→AV.pls (B++[t])=true:=by
      intro B
      induction B with
      | nil=>intro _;simp only [List.nil_append,AV.pls,ht,Bool.and_true]
      | cons y B ih=>
        intro hB
        simp only [AV.pls,Bool.and_eq_true] at hB
        simp only [List.cons_append,AV.pls,hB.1,ih hB.2,Bool.and_self]
    exact this A hA
  have r:=Can.round (w:=w) (x:=.row w [(lay t (b+1+AV.rowss A)).1] true) (s:=s) (s':=s') (m:=m) (m':=m') (b:=b) (n:=n) hps hp hb (by rw [qUI];simp only [AV.rowss,Nat.add_zero];exact hn) h1 h2
  subst hh hh'
  simp only [Y9,qU,List.append_nil,List.append_assoc] at r⊢
  exact r
def smu (b:Nat):List (Option Nat):=(List.range' 0 b).map some++[none]
theorem qU3 {b i:Nat} (hi:i<b):(smu b)[i]?=some (some i):=by
  unfold smu
  rw [List.getElem?_append_left (by simpa using hi),List.getElem?_map,List.getElem?_range' (by omega)]
  simp
theorem qgG {b:Nat}:(smu b)[b]?=some none:=by
  unfold smu
  rw [List.getElem?_append_right (by simp)]
  simp
theorem qOS:∀{l:List (Option Nat)},jj l=true→jj (l++[none])=true
  |[],_=>rfl
  | none::l,h=>by simp only [List.cons_append,jj] at h⊢;exact qOS h
  | some j::l,h=>by
    simp only [List.cons_append,jj,Bool.and_eq_true,List.all_append,List.all_cons,List.all_nil,Bool.and_true] at h⊢
    exact ⟨h.1,qOS h.2⟩
theorem Can.start {ps:List AV} {s s' m m':qg} {h:List qC} {b:Nat} (hps:AV.pls ps=true) (hb:AV.rowss ps=b) (hh:h=(qU ps 0).2) (h1:w4 (smu b) s s') (h2:w4 (smu b) m m'):
    Can 0 ⟨s,m,h⟩ ⟨s',m',(qU ps 0).2++[.row w [] true]⟩:=by
  subst hb hh
  refine Can.renum (smu (AV.rowss ps)) (qOS (Yk List.nodup_range')) (qPR (qPS hps (fun i hi=>by rw [Nat.zero_add];exact qU3 hi) fun i o hi=>by rw [Nat.zero_add];exact hi) ⟨.ph,trivial⟩) h1 h2
end
end Go.Ab
namespace Go.Ab
open Go
structure zE (h:List qC) (id w:Nat) (ys:List AV) (h':List qC) (id':Nat):Prop where
  at':h'[id']?=some (.row w ys true)
  len:h.length≤h'.length
  pos:id'=id∨h.length≤id'
  keep:∀j,j<h.length→j≠id→h'[j]?=h[j]?
theorem zE.lt {h h':List qC} {id id' w:Nat} {ys:List AV} (g:zE h id w ys h' id'):id'<h'.length:=(List.getElem?_eq_some_iff.1 g.at').1
theorem zE.refl {h:List qC} {id w:Nat} {ys:List AV} (h0:h[id]?=some (.row w ys true)):zE h id w ys h id:=⟨h0,Nat.le_refl _,.inl rfl,fun _ _ _=>rfl⟩
theorem zE.trans {h h1 h2:List qC} {id id1 id2 w:Nat} {ys zs:List AV} (a:zE h id w ys h1 id1) (b:zE h1 id1 w zs h2 id2):zE h id w zs h2 id2:=by
  have la:=a.len;have lb:=b.len
  refine ⟨b.at',by omega, ?_,fun j hj hne=> ?_⟩
  · rcases b.pos with e | e
    · rcases a.pos with e2 | e2
      · left;omega
      · right;omega
    · right;omega
  · have h1:j≠id1:=by rcases a.pos with e | e<;>omega
    rw [b.keep j (by omega) h1,a.keep j hj hne]
theorem zE.app {h:List qC} {id w:Nat} {ys zs:List AV} (h0:h[id]?=some (.row w ys true)):zE h id w zs (h.set id .dead++[.row w zs true]) h.length:=by
  refine ⟨?_,by simp,.inr (Nat.le_refl _),fun j hj hne=> ?_⟩
  · rw [List.getElem?_append_right (by simp)];simp
  · rw [List.getElem?_append_left (by simpa using hj),List.getElem?_set_ne (Ne.symm hne)]
def Acc (Γ:Nat→Option AFn) (g:Nat) (as:List AV) (w:Nat) (xs ys:List AV):Prop:=
  ∀(h:List qC) (id:Nat) (K:AV→List qC→Prop),h[id]?=some (.row w xs true)→
    (∀h' id',zE h id w ys h' id'→K (.slice w id' 0 ys.length false) h')→SCall Γ g (as++[.slice w id 0 xs.length false]) h K
section
variable {E:Ev} {l:List qB} {ks:List Fr1} {s m:qg} {h:List qC} {Q:qX→VSt→Prop} {g e w id n:Nat} {as vs:List AV} {xs ys:List AV}
theorem ZW (hp:Acc E.Γ g as w xs ys) (ho:h[id]?=some (.row w xs true)) (hn:xs.length=n) (hv:as++[.slice w id 0 n false]=vs)
    (hr:∀h' id',zE h id w ys h' id'→R E (.ops l::ks) ⟨(e,.slice w id' 0 ys.length false)::s,m,h'⟩ Q):zp E (some (g,vs)) false (some e) l ks ⟨s,m,h⟩ Q:=by
  subst hv hn
  exact zO (hp h id _ ho hr)
theorem SCall.fromNil {Γ:Nat→Option AFn} {K:AV→List qC→Prop} (hs:SCall Γ g (as++[.slice w h.length 0 0 false]) (h++[.row w [] true]) K):SCall Γ g (as++[.nils]) h K:=fun ρ hr ar hH hv=>by
  have hle:=Ren.ext_le (x:=none) hH.none_at
  have hv':RelVs (ρ.ext h.length none) (as++[.slice w h.length 0 0 false]) ar:=by
    rw [RelVs.iff] at hv⊢
    refine ⟨by rw [hv.1];simp,fun i a b ha hb=> ?_⟩
    rw [List.getElem?_append] at ha
    split at ha
    · rename_i hi
      exact (RelV.mono hle) _ _ (hv.2 i a b (by rw [List.getElem?_append_left hi];exact ha) hb)
    · rename_i hi
      have h0:i-as.length=0:=by
        have:=(List.getElem?_eq_some_iff.1 ha).1
        simp at this;omega
      rw [h0] at ha
      simp only [List.getElem?_cons_zero,Option.some.injEq] at ha
      have:=hv.2 i .nils b (by rw [List.getElem?_append_right (by omega),h0];rfl) hb
      simp only [RelV] at this
      subst ha this
      simp [RelV,Ren.ext_same]
  obtain ⟨k,r,hr',ρ',v,h',hx,q,g1,g2,g3,g4⟩:=hs _ hr ar hH.nil hv'
  simp only [List.length_append,List.length_cons,List.length_nil] at g3 g4
  refine ⟨k,r,hr',ρ',v,h',hx,q,g1,g2,⟨fun a o h1 h2=>g3.pres a o h1 fun i hi=> ?_,fun i a hi=> ?_,g3.fr,fun i hi=> ?_⟩,by omega⟩
  · by_cases e:i=h.length
    · subst e;rw [Ren.ext_same] at hi;cases hi
    · rw [Ren.ext_ne _ _ e] at hi;exact h2 i hi
  · rcases g3.new i a hi with ⟨j,hj⟩ | hf
    · by_cases e:j=h.length
      · subst e;rw [Ren.ext_same] at hj;cases hj
      · rw [Ren.ext_ne _ _ e] at hj;exact .inl ⟨j,hj⟩
    · exact .inr hf
  · rw [g3.base i (by omega),Ren.ext_ne _ _ (by omega)]
theorem qgX {ρ:Ren} {w:Nat} {xs:List AV} {r:AV} (h:RelV ρ (.lst w xs true) r):RelV ρ (.lst w xs false) r:=by
  simp only [RelV] at h⊢
  rcases h with ⟨ys,c,h1,_,h3⟩ | h
  · exact .inl ⟨ys,c,h1,nofun,h3⟩
  · exact .inr h
inductive JT:List AV→List AV→Prop
  | nil:JT [] []
  | same {x:AV} {xs ys:List AV} (h:JT xs ys):JT (x::xs) (x::ys)
  | clip {w:Nat} {es xs ys:List AV} (h:JT xs ys):JT (.lst w es true::xs) (.lst w es false::ys)
theorem JT.rel {ρ:Ren} {xs ys:List AV} (h:JT xs ys):∀{ar:List AV},RelVs ρ xs ar→RelVs ρ ys ar:=by
  induction h with
  | nil=>exact fun h=>h
  | same _ ih=>
    intro ar h
    simp only [RelVs] at h⊢
    obtain ⟨b,bs,rfl,h1,h2⟩:=h
    exact ⟨b,bs,rfl,h1,ih h2⟩
  | clip _ ih=>
    intro ar h
    simp only [RelVs] at h⊢
    obtain ⟨b,bs,rfl,h1,h2⟩:=h
    exact ⟨b,bs,rfl,qgX h1,ih h2⟩
theorem qXV {vs':List AV} {ck:Bool} {k:Nat} {st:VSt} {d:Option Nat} (hw:JT vs vs') (hp:zp E (some (k,vs')) ck d l ks st Q):zp E (some (k,vs)) ck d l ks st Q:=by
  unfold zp at hp⊢
  cases ck
  · exact fun ρ hr ar hH hv=>hp ρ hr ar hH (hw.rel hv)
  · exact fun ρ hr ar hH hv=>hp ρ hr ar hH (hw.rel hv)
theorem JW (hp:Acc E.Γ g as w [] ys) (hv:as++[.nils]=vs)
    (hr:∀h' id',zE (h++[.row w [] true]) h.length w ys h' id'→R E (.ops l::ks) ⟨(e,.slice w id' 0 ys.length false)::s,m,h'⟩ Q):zp E (some (g,vs)) false (some e) l ks ⟨s,m,h⟩ Q:=by
  subst hv
  exact zO (SCall.fromNil (hp (h++[.row w [] true]) h.length _ (by simp) hr))
end
end Go.Ab
namespace Go.Ab
open Go
section
variable {E:Ev} {ks:List Fr1} {Q:qX→VSt→Prop}
def outJ {β:Type} (E:Ev) (J:β→Prop) (sttJ:β→VSt) (s:VSt):Prop:=∃b,J b∧Can E.b s (sttJ b)
def loopJ {α β:Type} (E:Ev) (I:α→Prop) (stt:α→VSt) (m:α→Nat) (a:α) (n:Nat) (J:β→Prop) (sttJ:β→VSt) (ks:List Fr1) (Q:qX→VSt→Prop):qX→VSt→Prop
  |.nrm,s=>∃a',I a'∧m a'<m a∧Can E.b s (stt a')
  |.exit k,s=>if k=n then outJ E J sttJ s else w8 E (.exit k) (exK (.exit k) ks) s Q
  |.ret,s=>Q .ret s
  |.pan v,s=>Q (.pan v) s
theorem Yr {v:AV}:∀ks:List Fr1,exK (.pan v) ks=none
  |[]=>rfl
  |.code _::ks=>by rw [Za];exact Yr ks
  |.blk _::ks=>Yr ks
  |.ops _::ks=>Yr ks
theorem j9 {α β:Type} {c c2:qH} {n:Nat} (I:α→Prop) (stt:α→VSt) (m:α→Nat) (a0:α) (J:β→Prop) (sttJ:β→VSt) {st:VSt} (hok:(Fr1.code (.loop c)::.blk n::.code c2::ks).all Fr1.ok=true) (hi:I a0) (h0:Can E.b st (stt a0))
    (h:∀a,I a→R E [.code c] (stt a) (loopJ E I stt m a n J sttJ (.code c2::ks) Q)) (hJ:∀b,J b→R E (.code c2::ks) (sttJ b) Q):Sem E (.code (.loop c)::.blk n::.code c2::ks) st Q:=by
  have hok2:=hok
  simp only [List.all_cons,Bool.and_eq_true,Fr1.ok] at hok
  have hc:c.ok=true:=by have:=hok.1;simpa only [qH.ok] using this
  have hok3:(Fr1.code c2::ks).all Fr1.ok=true:=by simp only [List.all_cons,Bool.and_eq_true,Fr1.ok];exact hok.2.2
  have key:∀n' a,m a=n'→I a→Sem E (.code (.loop c)::.blk n::.code c2::ks) (stt a) Q:=by
    intro n'
    induction n' using Nat.strongRecOn with
    | _ n' ih=>
    intro a hm hia ρ sr hS hb
    obtain ⟨k,e,sr1,ρ1,st1,g1,g2,g3,g4,g5⟩:=Sem.of (by simpa only [List.all_cons,List.all_nil,Bool.and_true,Fr1.ok] using hc) (h a hia) ρ sr hS hb
    have done:∀e1,e1≠.nrm→Ex E.Γ k (.code c sr) (.st e1 sr1)→loopJ E I stt m a n J sttJ (.code c2::ks) Q e1 st1→
        ∃k e sr' ρ' st',ExF E.Γ k (.code (.loop c)::.blk n::.code c2::ks) sr e sr'∧Q e st'∧qw ρ' st' sr'∧Fm E.b ρ sr.h ρ' sr'.h∧E.b≤st'.h.length:=by
      intro e1 he hx hq
      have hq:(match exK e1 (.blk n::.code c2::ks) with | some ks'=>Sem E ks' st1 Q | none=>Q e1 st1):=by
        cases e1 with
        | nrm=>exact absurd rfl he
        | ret=>rw [show exK .ret (.blk n::.code c2::ks)=none from JF _];exact hq
        | pan v=>rw [show exK (.pan v) (.blk n::.code c2::ks)=none from Yr _];exact hq
        | exit q=>
          simp only [Go.Ab.loopJ] at hq
          by_cases hqn:q=n
          · subst hqn
            rw [if_pos rfl] at hq
            rw [qRZ,if_pos rfl]
            obtain ⟨b,hb1,hb2⟩:=hq
            exact Sem.can hb2 (Sem.of hok3 (hJ b hb1))
          · rw [if_neg hqn] at hq
            rw [qRZ,if_neg hqn]
            unfold w8 at hq
            split at hq
            · rename_i ks' hk;simp only [hk];exact Sem.of (JE hk hok3) hq
            · rename_i hk;simp only [hk];exact hq
      split at hq
      · rename_i ks' hk
        obtain ⟨k2,e2,sr2,ρ2,st2,q1,q2,q3,q4,q5⟩:=hq ρ1 sr1 g3 g5
        exact ⟨max k k2,e2,sr2,ρ2,st2,.codeX (.loopX (hx.le (Nat.le_max_left _ _)) he) he hk (q1.le (Nat.le_max_right _ _)),q2,q3,g4.trans q4,q5⟩
      · rename_i hk
        exact ⟨k,e1,sr1,ρ1,st1,.codeE (.loopX hx he) he hk,hq,g3,g4,g5⟩
    cases g1 with
    | code hx h'=>
      cases h'
      obtain ⟨a',hia',hlt,hcan⟩:=g2
      obtain ⟨sr2,ρ2,a1,a2,a3,a4⟩:=hcan ρ1 sr1 g3 g5
      obtain ⟨k2,e2,sr3,ρ3,st3,q1,q2,q3,q4,q5⟩:=ih (m a') (by omega) a' rfl hia' ρ2 sr2 a2 a4
      refine ⟨max k k2,e2,sr3,ρ3,st3, ?_,q2,q3,g4.trans (a3.trans q4),q5⟩
      cases q1 with
      | code h h'=>exact .code (.loopN (hx.le (Nat.le_max_left _ _)) (a1 _ _ _ _ (h.le (Nat.le_max_right _ _)))) (h'.le (Nat.le_max_right _ _))
      | codeX h he hx' h'=>exact .codeX (.loopN (hx.le (Nat.le_max_left _ _)) (a1 _ _ _ _ (h.le (Nat.le_max_right _ _)))) he hx' (h'.le (Nat.le_max_right _ _))
      | codeE h he hx'=>exact .codeE (.loopN (hx.le (Nat.le_max_left _ _)) (a1 _ _ _ _ (h.le (Nat.le_max_right _ _)))) he hx'
    | codeX hx he hk h'=>cases h'<;>simp [exK] at hk
    | codeE hx he hk=>exact done _ he hx g2
  exact Sem.can h0 (key _ a0 rfl hi)
@[go_sem] theorem zDX {α β:Type} {I:α→Prop} {stt:α→VSt} {me:α→Nat} {a:α} {n k:Nat} {J:β→Prop} {sttJ:β→VSt} {st:VSt}:loopJ E I stt me a n J sttJ ks Q (.exit k) st=if k=n then outJ E J sttJ st else w8 E (.exit k) (exK (.exit k) ks) st Q:=nr rfl
@[go_sem] theorem zDY {α β:Type} {I:α→Prop} {stt:α→VSt} {me:α→Nat} {a:α} {n:Nat} {J:β→Prop} {sttJ:β→VSt} {st:VSt}:loopJ E I stt me a n J sttJ ks Q .ret st=Q .ret st:=nr rfl
theorem jP {α β:Type} {I:α→Prop} {stt:α→VSt} {me:α→Nat} {a:α} {n:Nat} {J:β→Prop} {sttJ:β→VSt} {st:VSt} (a':α) (h1:I a') (h2:me a'<me a) (h3:Can E.b st (stt a')):loopJ E I stt me a n J sttJ ks Q .nrm st:=⟨a',h1,h2,h3⟩
theorem jA {β:Type} {J:β→Prop} {sttJ:β→VSt} {st:VSt} (b:β) (h1:J b) (h2:Can E.b st (sttJ b)):outJ E J sttJ st:=⟨b,h1,h2⟩
end
end Go.Ab
namespace Go.Ab
open Go
def PureR (Γ:Nat→Option AFn) (g:Nat) (as:List AV) (P:AV→Prop):Prop:=
  AV.trees as=true∧(∀v,P v→v.tree=true)∧∀hr ar,RelVs ρ0 as ar→∃v,P v∧∃k r hr',Ex Γ k (.call g ar hr) (.res (.ok r) hr')∧hr'.f=hr.f∧(∀a,hr'.fr a→hr.fr a)∧RelV ρ0 v r
section
variable {Γ:Nat→Option AFn} {g:Nat} {vs vs':List AV} {h:List qC}
theorem SCallP.pureR {K:AV→Prop} {P:AV→Prop} (hp:PureR Γ g vs P) (hk:∀v,P v→K v):SCallP Γ g vs h K:=fun ρ hr ar hH hv=>by
  obtain ⟨t1,t2,hp⟩:=hp
  obtain ⟨v,hv1,k,r,hr',h1,h2,h3,h4⟩:=hp hr ar (wO _ _ t1 hv)
  exact ⟨k,r,hr',v,h1,h2,h3,hk v hv1,wN _ _ (t2 v hv1) h4⟩
theorem SCall.giveR {K:AV→List qC→Prop} {P:AV→Prop} (ids:List Nat) (hc:Cvs (only ids h) vs vs') (hp:PureR Γ g vs' P) (hk:∀v,P v→K v (wQ ids h)):SCall Γ g vs h K:=fun ρ hr ar hH hv=>by
  obtain ⟨t1,t2,hp⟩:=hp
  have hO:qp ρ (only ids h) hr:=⟨fun i o hi=>by
      by_cases hd:o=.dead
      · subst hd;trivial
      · exact hH.obj i o (wI hi hd).2,fun i j a o o' h1 h2 hi hj d1 d2=>hH.inj i j a o o' h1 h2 (wI hi d1).2 (wI hj d2).2 d1 d2,
    fun i hi=>hH.out i (by simpa [only] using hi),hH.is⟩
  obtain ⟨rs',g1,g2,g3⟩:=hc.conv hO (K:=z5 ρ h ids) (fun i a w el ha ho=>by
    obtain ⟨q1,q2⟩:=wI ho (by simp)
    rw [List.contains_iff_mem,je]
    exact ⟨i,w,el,by simpa using q1,ha,q2⟩) hv
  obtain ⟨v,hv1,k,r,hr',h1,h2,h3,h4⟩:=hp (hr.kill (z5 ρ h ids)) rs' g3
  refine ⟨k,r,hr',ρ,v,wQ ids h,.frzA _ (hH.rows ids) g1 g2 h1,hk v hv1,⟨fun i o hi=> ?_,fun i j a o o' q1 q2 hi hj d1 d2=>hH.inj i j a o o' q1 q2 (ZA hi d1).2 (ZA hj d2).2 d1 d2,
    fun i hi=>hH.out i (by simpa [wQ] using hi),fun i a hi=> ?_⟩,wN _ _ (t2 v hv1) h4,⟨fun a o q1 q2=> ?_,fun i a hi=>.inl ⟨i,hi⟩,fun a ha=>(AH.fr_kill (h3 a ha)).1,fun _ _=>rfl⟩,by simp [wQ]⟩
  · by_cases hd:o=.dead
    · subst hd;trivial
    · obtain ⟨q1,q2⟩:=ZA hi hd
      refine (hH.obj i o q2).mono (fun _ _ q=>q) fun a o' ha hq=> ?_
      rw [h2,←hq]
      show (hr.kill _) a=_
      rw [AH.kill_at,if_neg]
      rw [List.contains_iff_mem,je]
      rintro ⟨j,w,el,p1,p2,p3⟩
      have:=hH.inj i j a _ _ ha p2 q2 p3 hd (by simp)
      subst this
      have:ids.contains i=true:=by simpa using p1
      rw [this] at q1;cases q1
  · obtain ⟨o,ho⟩:=hH.is i a hi
    rw [h2]
    show ∃o,(hr.kill _) a=some o
    rw [AH.kill_at]
    split
    · exact ⟨_,rfl⟩
    · exact ⟨o,ho⟩
  · rw [h2]
    show (hr.kill _) a=_
    rw [AH.kill_at,if_neg]
    · exact q1
    · rw [List.contains_iff_mem,je]
      rintro ⟨j,w,el,p1,p2,p3⟩
      exact q2 j p2
def Zf (res:List za) (P:AV→Prop):qX→VSt→Prop:=fun e st=>(e=.nrm∨e=.ret)∧match zN (zk st) res with
  | some vs=>∃v,P v∧Cv st.h (zW vs) v
  | none=>False
theorem PureR.intro {F:qJ} {as:List AV} {P:AV→Prop} (fz bp:List Nat) (hg:Γ g=some (.fn F)) (hok:F.body.ok=true) (hn:as.length=F.np) (ht:AV.trees as=true) (hv:∀v,P v→v.tree=true)
    (hR:R ⟨Γ,0,fz,bp⟩ [.code F.body] ⟨qL 0 as,[],[]⟩ (Zf F.res P)):PureR Γ g as P:=by
  refine ⟨ht,hv,fun hr ar har=> ?_⟩
  have hS:qw ρ0 ⟨qL 0 as,[],[]⟩ {s:=params 0 ar,l:=Env.empty,h:=hr}:=⟨Qy har,(fun n v h=>by cases h),⟨(fun i o h=>by simp at h),(fun i j a o o' h=>by cases h),(fun _ _=>rfl),(fun i a h=>by cases h)⟩⟩
  obtain ⟨k,e,sr',ρ',st',g1,⟨he,hq⟩,g3,g4,_⟩:=Sem.of (by simpa only [List.all_cons,List.all_nil,Bool.and_true,Fr1.ok] using hok) hR ρ0 _ hS (Nat.zero_le _)
  have hb:Ex Γ k (.code F.body {s:=params 0 ar,l:=Env.empty,h:=hr}) (.st e sr'):=by
    cases g1 with
    | code h h'=>cases h';exact h
    | codeX h he' hx h'=>cases e<;>simp [exK] at hx
    | codeE h he' hx=>exact h
  split at hq
  · rename_i vs hvs
    obtain ⟨v,hv1,hq⟩:=hq
    obtain ⟨rs,q1,q2⟩:=Q0 g3 hvs
    have hx:=Ex.fn hg (by rw [har.length];exact hn) hb he q1
    obtain ⟨r',c1,c2⟩:=Cv.conv g3.h (K:=z5 ρ' st'.h (List.range st'.h.length)) (fun i a w el ha ho=>by
      rw [List.contains_iff_mem,je]
      exact ⟨i,w,el,List.mem_range.2 (JL ho),ha,ho⟩) hq (Zx q2)
    have hx2:=Ex.frzR _ (g3.h.rows _) c1 hx
    have hold:∀id o,hr id=some o→(sr'.h.kill (z5 ρ' st'.h (List.range st'.h.length))) id=some o:=fun id o ho=>by
      rw [AH.kill_at,if_neg]
      · exact g4.pres id o ho (fun i hi=>by cases hi)
      · rw [List.contains_iff_mem,je]
        rintro ⟨i,w,el,_,p2,_⟩
        rcases g4.new i id p2 with ⟨j,hj⟩ | hf
        · cases hj
        · have:hr id=none:=hf.1
          rw [this] at ho;cases ho
    exact ⟨v,hv1,k+1,r',_,.drop hold (WC _ _ (hv v hv1) c2) hx2,rfl,fun a ha=>AH.fr_of_tomb ha,c2⟩
  · exact hq.elim
end
section
variable {E:Ev} {l:List qB} {ks:List Fr1} {s m:qg} {h:List qC} {Q:qX→VSt→Prop}
theorem qRF {ck:Bool} {k:Nat} {vs:List AV} {e:Nat} {P:AV→Prop} (hp:PureR E.Γ k vs P) (hr:∀v,P v→R E (.ops l::ks) ⟨(e,v)::s,m,h⟩ Q):zp E (some (k,vs)) ck (some e) l ks ⟨s,m,h⟩ Q:=by
  unfold zp
  cases ck
  · simp only [Bool.false_eq_true,if_false];exact SCall.ofP (SCallP.pureR hp hr)
  · simp only [if_true];exact SCallK.ofP (SCallP.pureR hp hr)
theorem qXR {k:Nat} {vs vs':List AV} {e:Nat} {P:AV→Prop} (ids:List Nat) (hc:Cvs (only ids h) vs vs') (hp:PureR E.Γ k vs' P) (hr:∀v,P v→R E (.ops l::ks) ⟨(e,v)::s,m,wQ ids h⟩ Q):zp E (some (k,vs)) false (some e) l ks ⟨s,m,h⟩ Q:=by
  unfold zp
  simp only [Bool.false_eq_true,if_false]
  exact SCall.giveR ids hc hp hr
def QN (vs:Option (List AV)) (h:List qC) (P:AV→Prop):Prop:=match vs with
  | some vs=>∃v,P v∧Cv h (zW vs) v
  | none=>False
@[go_sem] theorem zA0 {res:List za} {P:AV→Prop}:Zf res P .ret ⟨s,m,h⟩=QN (zN (zk ⟨s,m,h⟩) res) h P:=by
  simp [Zf,QN];all_goals rfl
@[go_sem] theorem zAZ {res:List za} {P:AV→Prop}:Zf res P .nrm ⟨s,m,h⟩=QN (zN (zk ⟨s,m,h⟩) res) h P:=by
  simp [Zf,QN];all_goals rfl
theorem qR5 {v' v:AV} {P:AV→Prop} (hp:P v) (hc:Cv h v' v):QN (some [v']) h P:=⟨v,hp,hc⟩
end
attribute [irreducible] PureR QN
end Go.Ab
