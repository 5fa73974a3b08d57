/- Texts AbO2 .. AbK: the abstract machine, its laws and contracts of functions: lemmas for the statement. No condition. -/
import Derived.Test.YteekllacfpafoaaGreatP3
set_option linter.unusedSimpArgs false
set_option linter.unusedVariables false
namespace Go.Ab
open Go
section
variable {Γ:Nat→Option AFn} {g:Nat}
def FinF (vs:Option (List AV)) (h:List AObj) (t:AV):Prop:=match vs with
  | some vs=>∃μ,dist μ=true∧qJL μ h μ (lay t 0).2∧VR2 μ (qBU vs) (lay t 0).1
  | none=>False
def finF (res:List ARes) (t:AV):AExit→VSt→Prop:=fun e st=>(e=.nrm∨e=.ret)∧FinF (qBC (toSt st) res) st.h t
@[go_sem] theorem zIJ {res:List ARes} {t:AV} {s m:LEnv} {h:List AObj}:finF res t .ret ⟨s,m,h⟩=FinF (qBC (toSt ⟨s,m,h⟩) res) h t:=by
  simp [finF]
@[go_sem] theorem zII {res:List ARes} {t:AV} {s m:LEnv} {h:List AObj}:finF res t .nrm ⟨s,m,h⟩=FinF (qBC (toSt ⟨s,m,h⟩) res) h t:=by
  simp [finF]
theorem qGN.intro {F:AFun} {as:List AV} {t:AV} (fz bp:List Nat) (hg:Γ g=some (.fn F)) (hok:F.body.ok=true) (hn:as.length=F.np) (ht:AV.trees as=true) (hp:t.pl=true)
    (hR:R ⟨Γ,0,fz,bp⟩ [.code F.body] ⟨qAC 0 as,[],[]⟩ (finF F.res t)):qGN Γ g as t:=by
  unfold qGN
  refine ⟨ht,hp,fun hr ar har=> ?_⟩
  have hS:RelS ρ0 ⟨qAC 0 as,[],[]⟩ {s:=params 0 ar,l:=Env.empty,h:=hr}:=⟨qC6 har,(fun n v h=>by cases h),⟨(fun i o h=>by simp at h),(fun i j a o o' h=>by cases h),(fun _ _=>rfl),(fun i a h=>by cases h)⟩⟩
  obtain ⟨k,e,sr',ρ',st',g1,⟨he,hq⟩,g3,g4,_⟩:=Sem.of (by simpa only [List.all_cons,List.all_nil,Bool.and_true,Fr1.ok] using hok) hR ρ0 _ hS (Nat.zero_le _)
  have hb:Ex Γ k (.code F.body {s:=params 0 ar,l:=Env.empty,h:=hr}) (.st e sr'):=by
    cases g1 with
    | code h h'=>cases h';exact h
    | codeX h he' hx h'=>cases e<;>simp [exK] at hx
    | codeE h he' hx=>exact h
  unfold FinF at hq
  split at hq
  · rename_i vs hvs
    obtain ⟨μ,m1,m2,m3⟩:=hq
    obtain ⟨rs,q1,q2⟩:=qC7 g3 hvs
    have hx:=Ex.fn hg (by rw [har.length];exact hn) hb he q1
    obtain ⟨r1,r2⟩:=qe3 m1 m2 g3.h
    exact ⟨k+1,_,_,_,hx,r1,m3.rel (qD1 q2),g4.trans r2⟩
  · exact hq.elim
mutual
theorem qiI {μ:List (Option Nat)}:∀(t:AV) (a b:Nat),t.pl=true→(∀i,i<t.rows→μ[b+i]?=some (some (a+i)))→VR2 μ (lay t a).1 (lay t b).1
  |.lst w xs _,a,b,_,h=>by
    simp only [lay]
    exact .slice (by have:=h 0 (by simp only [AV.rows];omega);simpa using this)
  |.agg xs,a,b,hp,h=>by
    simp only [lay]
    have:=qF4 xs a b hp h
    exact .agg this.1 this.2
  |.tup xs,a,b,hp,h=>by
    simp only [lay]
    have:=qF4 xs a b hp h
    exact .tup this.1 this.2
  |.bool _,_,_,_,_ |.int _ _,_,_,_,_ |.str _,_,_,_,_ |.nilp,_,_,_,_ |.nils,_,_,_,_ |.nilm,_,_,_,_ |.nilf,_,_,_,_ |.nili,_,_,_,_=>by
    simp only [lay];exact .tree rfl
  |.any,_,_,hp,_ |.ptr _ _ _,_,_,hp,_ |.slice _ _ _ _ _,_,_,hp,_ |.map _,_,_,hp,_ |.ept _ _,_,_,hp,_ |.fn _ _,_,_,hp,_ |.iface _ _,_,_,hp,_=>by cases hp
theorem qF4 {μ:List (Option Nat)}:∀(xs:List AV) (a b:Nat),AV.pls xs=true→(∀i,i<AV.rowss xs→μ[b+i]?=some (some (a+i)))→VR2s μ (lays xs a).1 (lays xs b).1
  |[],_,_,_,_=>VR2s.nil
  | x::xs,a,b,hp,h=>by
    simp only [AV.pls,Bool.and_eq_true] at hp
    simp only [AV.rowss] at h
    simp only [lays,qB2]
    refine .cons (qiI x a b hp.1 fun i hi=>h i (by omega)) (qF4 xs _ _ hp.2 fun i hi=> ?_)
    rw [show b+x.rows+i=b+(x.rows+i) by omega,show a+x.rows+i=a+(x.rows+i) by omega]
    exact h _ (by omega)
end
mutual
theorem qiH {μ:List (Option Nat)} {h:List AObj}:∀(t:AV) (a b:Nat),t.pl=true→(∀i,i<t.rows→μ[b+i]?=some (some (a+i)))→(∀i o,(lay t a).2[i]?=some o→h[a+i]?=some o)→
    ∀i o,(lay t b).2[i]?=some o→OR2 μ h (some (a+i)) o
  |.lst w xs _,a,b,hp,hm,hh,i,o,hi=>by
    simp only [lay] at hi hh
    simp only [AV.rows] at hm
    have hm':∀i,i<AV.rowss xs→μ[b+1+i]?=some (some (a+1+i)):=fun i hi=>by
      rw [show b+1+i=b+(i+1) by omega,show a+1+i=a+(i+1) by omega];exact hm _ (by omega)
    cases i with
    | zero=>
      simp only [List.getElem?_cons_zero,Option.some.injEq] at hi
      subst hi
      exact .row (hh 0 _ rfl) (qF4 xs _ _ hp hm')
    | succ i=>
      have:=qF3 xs (a+1) (b+1) hp hm' (fun i o hi=>by
        rw [show a+1+i=a+(i+1) by omega];exact hh (i+1) o (by simpa using hi)) i o (by simpa using hi)
      rw [show a+1+i=a+(i+1) by omega] at this;exact this
  |.agg xs,a,b,hp,hm,hh,i,o,hi=>by
    simp only [lay] at hi hh
    exact qF3 xs a b hp hm hh i o hi
  |.tup xs,a,b,hp,hm,hh,i,o,hi=>by
    simp only [lay] at hi hh
    exact qF3 xs a b hp hm hh i o hi
  |.bool _,_,_,_,_,_,_,_,h |.int _ _,_,_,_,_,_,_,_,h |.str _,_,_,_,_,_,_,_,h |.nilp,_,_,_,_,_,_,_,h |.nils,_,_,_,_,_,_,_,h |.nilm,_,_,_,_,_,_,_,h |.nilf,_,_,_,_,_,_,_,h |.nili,_,_,_,_,_,_,_,h=>by
    simp [lay] at h
  |.any,_,_,hp,_,_,_,_,_ |.ptr _ _ _,_,_,hp,_,_,_,_,_ |.slice _ _ _ _ _,_,_,hp,_,_,_,_,_ |.map _,_,_,hp,_,_,_,_,_ |.ept _ _,_,_,hp,_,_,_,_,_ |.fn _ _,_,_,hp,_,_,_,_,_ |.iface _ _,_,_,hp,_,_,_,_,_=>by cases hp
theorem qF3 {μ:List (Option Nat)} {h:List AObj}:∀(xs:List AV) (a b:Nat),AV.pls xs=true→(∀i,i<AV.rowss xs→μ[b+i]?=some (some (a+i)))→(∀i o,(lays xs a).2[i]?=some o→h[a+i]?=some o)→
    ∀i o,(lays xs b).2[i]?=some o→OR2 μ h (some (a+i)) o
  |[],_,_,_,_,_,_,_,hi=>by simp [lays] at hi
  | x::xs,a,b,hp,hm,hh,i,o,hi=>by
    simp only [AV.pls,Bool.and_eq_true] at hp
    simp only [AV.rowss] at hm
    simp only [lays,qB2] at hi hh
    rcases Nat.lt_or_ge i x.rows with q | q
    · rw [List.getElem?_append_left (by rw [qB2];exact q)] at hi
      exact qiH x a b hp.1 (fun i hi=>hm i (by omega)) (fun i o hi=>hh i o (by rw [List.getElem?_append_left (List.getElem?_eq_some_iff.1 hi).1];exact hi)) i o hi
    · rw [List.getElem?_append_right (by rw [qB2];exact q),qB2] at hi
      have:=qF3 xs (a+x.rows) (b+x.rows) hp.2 (fun i hi=>by
        rw [show b+x.rows+i=b+(x.rows+i) by omega,show a+x.rows+i=a+(x.rows+i) by omega];exact hm _ (by omega)) (fun i o hi=>by
        rw [show a+x.rows+i=a+(x.rows+i) by omega]
        exact hh _ o (by rw [List.getElem?_append_right (by rw [qB2];omega),qB2,Nat.add_sub_cancel_left];exact hi)) (i-x.rows) o hi
      rw [show a+x.rows+(i-x.rows)=a+i by omega] at this;exact this
end
theorem qTT {μ:List (Option Nat)} {h:List AObj}:∀{r:List (Option Nat)} {h':List AObj},r.length=h'.length→(∀(i:Nat) (j:Option Nat) (o:AObj),r[i]?=some j→h'[i]?=some o→OR2 μ h j o)→qJL μ h r h'
  |[],[],_,_=>trivial
  | j::r,o::h',hl,hh=>⟨hh 0 j o rfl rfl,qTT (by simpa using hl) fun i j o h1 h2=>hh (i+1) j o (by simpa using h1) (by simpa using h2)⟩
  |[],_::_,hl,_=>by simp at hl
  | _::_,[],hl,_=>by simp at hl
theorem qHE:∀{l:List Nat},l.Nodup→dist (l.map some)=true
  |[],_=>rfl
  | x::l,h=>by
    rw [List.nodup_cons] at h
    simp only [List.map_cons,dist,Bool.and_eq_true,List.all_eq_true]
    refine ⟨fun y hy=> ?_,qHE h.2⟩
    obtain ⟨z,hz,rfl⟩:=List.mem_map.1 hy
    have:x≠z:=fun e=>h.1 (by rw [e];exact hz)
    have hb:Nat.beq x z=false:=by
      rw [←Bool.not_eq_true];intro q;exact this (Nat.eq_of_beq_eq_true q)
    show (!Nat.beq x z)=true
    rw [hb];rfl
theorem qh5 {vs:List AV} {h pre post:List AObj} {t:AV} (hp:t.pl=true) (hv:qBU vs=(lay t pre.length).1) (hh:h=pre++((lay t pre.length).2++post)):FinF (some vs) h t:=by
  have hm:∀i,i<t.rows→((List.range' pre.length t.rows).map some)[0+i]?=some (some (pre.length+i)):=fun i hi=>by
    rw [List.getElem?_map,List.getElem?_range' (by omega)]
    simp
  refine ⟨(List.range' pre.length t.rows).map some,qHE (List.nodup_range'),qTT (by simp [qB2]) fun i j o h1 h2=> ?_, ?_⟩
  · have hi:i<t.rows:=by have:=(List.getElem?_eq_some_iff.1 h2).1;rw [qB2] at this;exact this
    have:=hm i hi
    rw [Nat.zero_add] at this
    rw [this] at h1;cases h1
    refine qiH t pre.length 0 hp hm (fun i o hi=> ?_) i o h2
    rw [hh,List.getElem?_append_right (by omega),Nat.add_sub_cancel_left,List.getElem?_append_left (List.getElem?_eq_some_iff.1 hi).1]
    exact hi
  · rw [hv];exact qiI t _ _ hp hm
def Mark (Γ:Nat→Option AFn) (g:Nat) (t t':AV) (k k':Int):Prop:=
  t.pl=true∧t'.pl=true∧t'.rows=t.rows∧∀ρ hr r,RelH ρ (lay t 0).2 hr→RelV ρ (lay t 0).1 r→∃kk hr' ρ',Ex Γ kk (.call g [r,.int .i64 k] hr) (.res (.ok (.int .i64 k')) hr')∧RelH ρ' (lay t' 0).2 hr'∧Fm t.rows ρ hr ρ' hr'
def FinM (vs:Option (List AV)) (h:List AObj) (k:Int) (os:List AObj):Prop:=vs=some [.int .i64 k]∧h=os
def finM (res:List ARes) (k:Int) (os:List AObj):AExit→VSt→Prop:=fun e st=>(e=.nrm∨e=.ret)∧FinM (qBC (toSt st) res) st.h k os
@[go_sem] theorem zIN {res:List ARes} {k:Int} {os:List AObj} {s m:LEnv} {h:List AObj}:finM res k os .ret ⟨s,m,h⟩=FinM (qBC (toSt ⟨s,m,h⟩) res) h k os:=by
  simp [finM]
@[go_sem] theorem zIM {res:List ARes} {k:Int} {os:List AObj} {s m:LEnv} {h:List AObj}:finM res k os .nrm ⟨s,m,h⟩=FinM (qBC (toSt ⟨s,m,h⟩) res) h k os:=by
  simp [finM]
theorem Mark.intro {F:AFun} {t t':AV} {k k':Int} (hg:Γ g=some (.fn F)) (hok:F.body.ok=true) (hn:F.np=2) (hp:t.pl=true) (hp':t'.pl=true) (hl:t'.rows=t.rows)
    (hR:R ⟨Γ,t.rows,[],[]⟩ [.code F.body] ⟨qAC 0 [(lay t 0).1,.int .i64 k],[],(lay t 0).2⟩ (finM F.res k' (lay t' 0).2)):Mark Γ g t t' k k':=by
  refine ⟨hp,hp',hl,fun ρ hr r hH hv=> ?_⟩
  have hS:RelS ρ ⟨qAC 0 [(lay t 0).1,.int .i64 k],[],(lay t 0).2⟩ {s:=params 0 [r,.int .i64 k],l:=Env.empty,h:=hr}:=
    ⟨qC6 (by simp only [qAL];exact ⟨_,_,rfl,hv,_,_,rfl,by simp only [RelV],rfl⟩),(fun n v h=>by cases h),hH⟩
  obtain ⟨kk,e,sr',ρ',st',g1,⟨he,hq⟩,g3,g4,_⟩:=Sem.of (by simpa only [List.all_cons,List.all_nil,Bool.and_true,Fr1.ok] using hok) hR ρ _ hS (by rw [qB2];exact Nat.le_refl _)
  have hb:Ex Γ kk (.code F.body {s:=params 0 [r,.int .i64 k],l:=Env.empty,h:=hr}) (.st e sr'):=by
    cases g1 with
    | code h h'=>cases h';exact h
    | codeX h he' hx h'=>cases e<;>simp [exK] at hx
    | codeE h he' hx=>exact h
  obtain ⟨q1,q2⟩:=hq
  obtain ⟨rs,q3,q4⟩:=qC7 g3 q1
  have hx:=Ex.fn hg (by rw [hn];rfl) hb he q3
  have hr1:RelV ρ' (.int .i64 k') (qBU rs):=qD1 q4
  simp only [RelV] at hr1
  rw [hr1] at hx
  exact ⟨kk+1,_,ρ',hx,by rw [←q2];exact g3.h,g4⟩
end
section
variable {E:Ev} {ks:List Fr1} {s m:LEnv} {h:List AObj} {Q:AExit→VSt→Prop} {l:List AOper}
theorem qEX {ck:Bool} {k e:Nat} {vs:List AV} {t:AV} (hp:qGN E.Γ k vs t) (hr:R E (.ops l::ks) ⟨(e,(lay t h.length).1)::s,m,h++(lay t h.length).2⟩ Q):qD5 E (some (k,vs)) ck (some e) l ks ⟨s,m,h⟩ Q:=by
  unfold qD5
  cases ck
  · exact qAZ.fresh hp hr
  · exact qE7.fresh hp hr
end
end Go.Ab
namespace Go.Ab
open Go
section
variable {α:Type} {enc:α→AV} {w:Nat} {sh:Option Nat} {Γ:Nat→Option AFn} {g gc:Nat}
theorem qTX (h:∀x,(enc x).pl=true):∀xs:List α,AV.pls (xs.map enc)=true
  |[]=>rfl
  | x::xs=>by simp only [List.map_cons,AV.pls,h x,qTX h xs,Bool.and_self]
theorem lI (ys:List Int):∀n,lays (ys.map encI) n=(ys.map encI,[]):=by
  induction ys with
  | nil=>intro n;rfl
  | cons y ys ih=>intro n;simp only [List.map_cons,lays,encI,lay,List.length_nil,Nat.add_zero,List.nil_append,ih]
section
variable {E:Ev} {ks:List Fr1} {s m:LEnv} {h:List AObj} {Q:AExit→VSt→Prop} {l:List AOper}
end
end
end Go.Ab
namespace Go.Ab
open Go
section
variable {Γ:Nat→Option AFn} {g:Nat} {w:Nat} {z:AV}
def qUH (w:Nat):AFun:=⟨1,8,[.t 2],.seq (.reg true [⟨0,some 2,none,.mov (.c (.nils)),[]⟩]) (.seq (.seq (.reg true [⟨0,some 3,none,.mov (.t 0),[]⟩,
⟨1,some 4,none,.isnil 1 false (.t 3),[]⟩]) (.cond (.t 4) (.seq (.reg true [⟨0,some 2,none,.mov (.c (.nils)),[]⟩]) (.ret)) (.skip))) (.seq (.reg true [⟨0,some 5,none,.mov (.c (.lst w [] true)),[]⟩,
⟨1,some 6,none,.mov (.t 0),[]⟩,
⟨2,some 7,none,.app w (.t 5) (.t 6),[]⟩,
⟨3,some 2,none,.mov (.t 7),[]⟩]) (.ret)))⟩
theorem qUI (hg:Γ g=some (.fn (qUH w))) (h:AH):Ex Γ 1 (.call g [.nils] h) (.res (.ok .nils) h):=by
  refine .fn (st:=⟨((((params 0 [.nils]).set 2 .nils).set 3 .nils).set 4 (.bool true)).set 2 .nils,Env.empty,h⟩) (e:=.ret) hg rfl ?_ (.inr rfl) rfl
  refine .seqN (.reg (.step rfl ⟨.nils,rfl,rfl⟩ trivial .nil) (.inl rfl)) (.seqX (.seqN (.reg (.step rfl ⟨.nils,rfl,rfl⟩ trivial (.step rfl ⟨.bool true,rfl,rfl⟩ trivial .nil)) (.inl rfl)) ?_) (by simp))
  exact .cond (t:=true) rfl (.seqN (.reg (.step rfl ⟨.nils,rfl,rfl⟩ trivial .nil) (.inl rfl)) .ret)
theorem qhV (hg:Γ g=some (.fn (qUH w))) (h:AH) (id:Nat):Ex Γ 1 (.call g [.slice w id 0 0 false] h) (.res (.ok (.lst w [] true)) h):=by
  refine .fn (st:=⟨(((((((params 0 [.slice w id 0 0 false]).set 2 .nils).set 3 (.slice w id 0 0 false)).set 4 (.bool false)).set 5 (.lst w [] true)).set 6 (.slice w id 0 0 false)).set 7 (.lst w [] true)).set 2 (.lst w [] true),Env.empty,h⟩) (e:=.ret) hg rfl ?_ (.inr rfl) rfl
  refine .seqN (.reg (.step rfl ⟨.nils,rfl,rfl⟩ trivial .nil) (.inl rfl)) (.seqN (.seqN (.reg (.step rfl ⟨.slice w id 0 0 false,rfl,rfl⟩ trivial (.step rfl ⟨.bool false,rfl,rfl⟩ trivial .nil)) (.inl rfl)) (.cond (t:=false) rfl .cskip)) (.seqN (.reg ?_ (.inl rfl)) .ret))
  refine .step rfl ⟨.lst w [] true,rfl,rfl⟩ trivial (.step rfl ⟨.slice w id 0 0 false,rfl,rfl⟩ trivial (.step (st':=⟨((((((params 0 [.slice w id 0 0 false]).set 2 .nils).set 3 (.slice w id 0 0 false)).set 4 (.bool false)).set 5 (.lst w [] true)).set 6 (.slice w id 0 0 false)).set 7 (.lst w [] true),Env.empty,h⟩) rfl ?_ trivial (.step rfl ⟨.lst w [] true,rfl,rfl⟩ trivial .nil)))
  exact ⟨.lst w [] true,.slice w id 0 0 false,rfl,rfl,[],rfl,rfl,rfl,rfl⟩
theorem zP8 (hr:AH):RelH ρ0 [] hr:=⟨(fun i o h=>by simp at h),(fun i j a o o' h=>by cases h),(fun _ _=>rfl),(fun i a h=>by cases h)⟩
theorem qc9 (hg:Γ g=some (.fn (qUH w))) {xs:List AV} (hf:∀n,lays xs n=(xs,[])) (hp:AV.pls xs=true) (ht:AV.trees xs=true) (hl:xs.length≤4194304):
    qGN Γ g [.lst w xs false] (.lst w xs false):=by
  cases xs with
  | cons x xs=>
    refine qGN.intro [] [] hg rfl rfl (by simp only [AV.trees,AV.tree] at ht⊢;simp [ht]) hp ?_
    simp only [qUH,qAC,go_sem,Nat.reduceEqDiff,reduceIte]
    refine qI5 Els.lst (by simp only [List.length_cons] at hl⊢;omega) ?_
    simp only [go_sem,Nat.reduceEqDiff,reduceIte]
    exact qh5 (pre:=[]) (post:=[]) hp (by simp [qBU,lay]) (by simp [lay,hf])
  | nil=>
    refine ⟨rfl,rfl,fun hr ar har=> ?_⟩
    have hn:∀hr',RelH (ρ0.ext 0 none) [.row w [] true] hr':=fun hr'=>(zP8 hr').nil
    simp only [qAL,RelV] at har
    obtain ⟨r,rs,rfl,hr0,rfl⟩:=har
    have hfm:∀hr':AH,(∀a o,hr a=some o→hr' a=some o)→(∀a,hr'.fr a→hr.fr a)→Fm 0 ρ0 hr (ρ0.ext 0 none) hr':=fun hr' h1 h2=>⟨fun a o q _=>h1 a o q,(fun i a q=>by
      by_cases e:i=0
      · subst e;rw [Ren.ext_same] at q;cases q
      · rw [Ren.ext_ne _ _ e] at q;cases q),h2,fun i hi=>by omega⟩
    rcases hr0 with ⟨ys,c,rfl,_,hys⟩ | ⟨_,rfl⟩
    · subst hys
      obtain ⟨id,hid⟩:=hr.fresh
      have hx1:Ex Γ 1 (.call g [.nils] hr) (.res (.ok (.lst w [] true)) (hr.kill [])):=.frzR [] (fun i hi=>by simp at hi) .nils (qUI hg hr)
      refine ⟨1,_,_,ρ0.ext 0 none,.nilc id hid (fun i o q=>by rw [AH.kill_at];simpa using q) (fun i o q=>q) rfl hx1 (qhV hg _ id),hn _,by simp [lay,RelV,Ren.ext_same],hfm _ (fun a o q=>q) fun a q=>AH.fr_tomb (AH.fr_tomb' q)⟩
    · exact ⟨1,_,_,ρ0.ext 0 none,qUI hg hr,hn _,by simp [lay,RelV,Ren.ext_same],hfm _ (fun a o q=>q) fun a q=>q⟩
theorem qJM {μ:List (Option Nat)} {h:List AObj}:∀{r1 r2:List (Option Nat)} {h1 h2:List AObj},qJL μ h r1 h1→qJL μ h r2 h2→qJL μ h (r1++r2) (h1++h2)
  |[],_,[],_,_,k=>k
  | _::_,_,_::_,_,j,k=>⟨j.1,qJM j.2 k⟩
  |[],_,_::_,_,j,_=>j.elim
  | _::_,_,[],_,j,_=>j.elim
theorem qGY {μ:List (Option Nat)} {h:List AObj} {xs:List AV} {a b:Nat} (hp:AV.pls xs=true) (hm:∀i,i<AV.rowss xs→μ[b+i]?=some (some (a+i))) (hh:∀i o,(lays xs a).2[i]?=some o→h[a+i]?=some o):
    qJL μ h ((List.range' a (AV.rowss xs)).map some) (lays xs b).2:=by
  refine qTT (by simp [qDP]) fun i j o h1 h2=> ?_
  have hi:i<AV.rowss xs:=by have:=(List.getElem?_eq_some_iff.1 h2).1;rw [qDP] at this;exact this
  rw [List.getElem?_map,List.getElem?_range' (by omega)] at h1
  simp only [Nat.one_mul,Option.map_some,Option.some.injEq] at h1
  subst h1
  exact qF3 xs a b hp hm hh i o h2
def rmu (b n:Nat):List (Option Nat):=(List.range' 0 b).map some++some (b+n+2)::(List.range' (b+1) n).map some
theorem zG7 {b n i:Nat} (hi:i<b):(rmu b n)[i]?=some (some i):=by
  unfold rmu
  rw [List.getElem?_append_left (by simpa using hi),List.getElem?_map,List.getElem?_range' (by omega)]
  simp
theorem qnD {b n i:Nat} (hi:i<n):(rmu b n)[b+1+i]?=some (some (b+1+i)):=by
  unfold rmu
  rw [List.getElem?_append_right (by simp;omega)]
  have e:b+1+i-((List.range' 0 b).map some).length=i+1:=by simp;omega
  rw [e,List.getElem?_cons_succ,List.getElem?_map,List.getElem?_range' (by omega)]
  simp
theorem qmQ {b n:Nat}:dist (rmu b n)=true:=by
  have e:rmu b n=(List.range' 0 b++(b+n+2)::List.range' (b+1) n).map some:=by simp [rmu]
  rw [e]
  refine qHE ?_
  rw [List.nodup_append]
  refine ⟨List.nodup_range', ?_, ?_⟩
  · rw [List.nodup_cons]
    refine ⟨?_,List.nodup_range'⟩
    simp only [List.mem_range'_1];omega
  · intro x hx y hy
    simp only [List.mem_range'_1,List.mem_cons] at hx hy
    rcases hy with rfl | hy<;>omega
theorem Can.round {ps ts:List AV} {x:AObj} {s s' m m':LEnv} {b n:Nat} (hps:AV.pls ps=true) (hts:AV.pls ts=true) (hb:AV.rowss ps=b) (hn:AV.rowss ts=n) (h1:qFA (rmu b n) s s') (h2:qFA (rmu b n) m m'):
    Can 0 ⟨s,m,(lays ps 0).2++.dead::((lays ts (b+1)).2++[x,.row w (lays ts (b+1)).1 true])⟩ ⟨s',m',(lays ps 0).2++.row w (lays ts (b+1)).1 true::(lays ts (b+1)).2⟩:=by
  subst hb hn
  have hlp:=qDP ps 0
  have hlt:=qDP ts (AV.rowss ps+1)
  refine Can.renum (rmu (AV.rowss ps) (AV.rowss ts)) qmQ (qJM (qGY hps (fun i hi=>by rw [Nat.zero_add];exact zG7 hi) fun i o hi=> ?_) ⟨?_,qGY hts (fun i hi=>qnD hi) fun i o hi=> ?_⟩) h1 h2
  · rw [Nat.zero_add,List.getElem?_append_left (List.getElem?_eq_some_iff.1 hi).1];exact hi
  · refine .row (el:=(lays ts (AV.rowss ps+1)).1) (rw':=true) ?_ ⟨rfl,fun p hp=> ?_⟩
    · rw [List.getElem?_append_right (by omega),show AV.rowss ps+AV.rowss ts+2-(lays ps 0).2.length=AV.rowss ts+1+1 by omega,List.getElem?_cons_succ,List.getElem?_append_right (by omega),hlt,
        show AV.rowss ts+1-AV.rowss ts=1 by omega]
      rfl
    · exact (qF4 ts (AV.rowss ps+1) (AV.rowss ps+1) hts (fun i hi=>qnD hi)).2 p hp
  · have hi':=(List.getElem?_eq_some_iff.1 hi).1
    rw [List.getElem?_append_right (by omega),show AV.rowss ps+1+i-(lays ps 0).2.length=i+1 by omega,List.getElem?_cons_succ,List.getElem?_append_left hi']
    exact hi
theorem qFH {A:List AObj} {o:AObj}:(A++[o])[A.length]?=some o:=List.getElem?_concat_length
theorem Can.push {ps A:List AV} {t:AV} {s s' m m':LEnv} {h h':List AObj} {b n:Nat} (hps:AV.pls ps=true) (hA:AV.pls A=true) (ht:t.pl=true) (hb:AV.rowss ps=b) (hn:AV.rowss A+t.rows=n)
    (hh:h=(lays ps 0).2++.dead::((lays A (b+1)).2++((lay t (b+1+AV.rowss A)).2++[.row w [(lay t (b+1+AV.rowss A)).1] true,.row w ((lays A (b+1)).1++[(lay t (b+1+AV.rowss A)).1]) true])))
    (hh':h'=(lays ps 0).2++.row w (lays (A++[t]) (b+1)).1 true::(lays (A++[t]) (b+1)).2) (h1:qFA (rmu b n) s s') (h2:qFA (rmu b n) m m'):Can 0 ⟨s,m,h⟩ ⟨s',m',h'⟩:=by
  have hp:AV.pls (A++[t])=true:=by
    have:∀B:List AV,AV.pls B=true→AV.pls (B++[t])=true:=by
      intro B
      induction B with
      | nil=>intro _;simp only [List.nil_append,AV.pls,ht,Bool.and_true]
      | cons y B ih=>
        intro hB
        simp only [AV.pls,Bool.and_eq_true] at hB
        simp only [List.cons_append,AV.pls,hB.1,ih hB.2,Bool.and_self]
    exact this A hA
  have r:=Can.round (w:=w) (x:=.row w [(lay t (b+1+AV.rowss A)).1] true) (s:=s) (s':=s') (m:=m) (m':=m') (b:=b) (n:=n) hps hp hb (by rw [qVM];simp only [AV.rowss,Nat.add_zero];exact hn) h1 h2
  subst hh hh'
  simp only [qeJ,lays,List.append_nil,List.append_assoc] at r⊢
  exact r
def smu (b:Nat):List (Option Nat):=(List.range' 0 b).map some++[none]
theorem zHE {b i:Nat} (hi:i<b):(smu b)[i]?=some (some i):=by
  unfold smu
  rw [List.getElem?_append_left (by simpa using hi),List.getElem?_map,List.getElem?_range' (by omega)]
  simp
theorem qJC:∀{l:List (Option Nat)},dist l=true→dist (l++[none])=true
  |[],_=>rfl
  | none::l,h=>by simp only [List.cons_append,dist] at h⊢;exact qJC h
  | some j::l,h=>by
    simp only [List.cons_append,dist,Bool.and_eq_true,List.all_append,List.all_cons,List.all_nil,Bool.and_true] at h⊢
    exact ⟨h.1,qJC h.2⟩
theorem Can.start {ps:List AV} {s s' m m':LEnv} {h:List AObj} {b:Nat} (hps:AV.pls ps=true) (hb:AV.rowss ps=b) (hh:h=(lays ps 0).2) (h1:qFA (smu b) s s') (h2:qFA (smu b) m m'):
    Can 0 ⟨s,m,h⟩ ⟨s',m',(lays ps 0).2++[.row w [] true]⟩:=by
  subst hb hh
  refine Can.renum (smu (AV.rowss ps)) (qJC (qHE List.nodup_range')) (qJM (qGY hps (fun i hi=>by rw [Nat.zero_add];exact zHE hi) fun i o hi=>by rw [Nat.zero_add];exact hi) ⟨.ph,trivial⟩) h1 h2
end
end Go.Ab
namespace Go.Ab
open Go
structure Grown (h:List AObj) (id w:Nat) (ys:List AV) (h':List AObj) (id':Nat):Prop where
  at':h'[id']?=some (.row w ys true)
  len:h.length≤h'.length
  pos:id'=id∨h.length≤id'
  keep:∀j,j<h.length→j≠id→h'[j]?=h[j]?
theorem Grown.lt {h h':List AObj} {id id' w:Nat} {ys:List AV} (g:Grown h id w ys h' id'):id'<h'.length:=(List.getElem?_eq_some_iff.1 g.at').1
theorem Grown.refl {h:List AObj} {id w:Nat} {ys:List AV} (h0:h[id]?=some (.row w ys true)):Grown h id w ys h id:=⟨h0,Nat.le_refl _,.inl rfl,fun _ _ _=>rfl⟩
theorem Grown.trans {h h1 h2:List AObj} {id id1 id2 w:Nat} {ys zs:List AV} (a:Grown h id w ys h1 id1) (b:Grown h1 id1 w zs h2 id2):Grown h id w zs h2 id2:=by
  have la:=a.len;have lb:=b.len
  refine ⟨b.at',by omega, ?_,fun j hj hne=> ?_⟩
  · rcases b.pos with e | e
    · rcases a.pos with e2 | e2
      · left;omega
      · right;omega
    · right;omega
  · have h1:j≠id1:=by rcases a.pos with e | e<;>omega
    rw [b.keep j (by omega) h1,a.keep j hj hne]
theorem Grown.app {h:List AObj} {id w:Nat} {ys zs:List AV} (h0:h[id]?=some (.row w ys true)):Grown h id w zs (h.set id .dead++[.row w zs true]) h.length:=by
  refine ⟨?_,by simp,.inr (Nat.le_refl _),fun j hj hne=> ?_⟩
  · rw [List.getElem?_append_right (by simp)];simp
  · rw [List.getElem?_append_left (by simpa using hj),List.getElem?_set_ne (Ne.symm hne)]
def Acc (Γ:Nat→Option AFn) (g:Nat) (as:List AV) (w:Nat) (xs ys:List AV):Prop:=
  ∀(h:List AObj) (id:Nat) (K:AV→List AObj→Prop),h[id]?=some (.row w xs true)→
    (∀h' id',Grown h id w ys h' id'→K (.slice w id' 0 ys.length false) h')→qAZ Γ g (as++[.slice w id 0 xs.length false]) h K
section
variable {E:Ev} {l:List AOper} {ks:List Fr1} {s m:LEnv} {h:List AObj} {Q:AExit→VSt→Prop} {g e w id n:Nat} {as vs:List AV} {xs ys:List AV}
theorem qFP (hp:Acc E.Γ g as w xs ys) (ho:h[id]?=some (.row w xs true)) (hn:xs.length=n) (hv:as++[.slice w id 0 n false]=vs)
    (hr:∀h' id',Grown h id w ys h' id'→R E (.ops l::ks) ⟨(e,.slice w id' 0 ys.length false)::s,m,h'⟩ Q):qD5 E (some (g,vs)) false (some e) l ks ⟨s,m,h⟩ Q:=by
  subst hv hn
  exact qAS (hp h id _ ho hr)
theorem qAZ.fromNil {Γ:Nat→Option AFn} {K:AV→List AObj→Prop} (hs:qAZ Γ g (as++[.slice w h.length 0 0 false]) (h++[.row w [] true]) K):qAZ Γ g (as++[.nils]) h K:=fun ρ hr ar hH hv=>by
  have hle:=Ren.ext_le (x:=none) hH.none_at
  have hv':qAL (ρ.ext h.length none) (as++[.slice w h.length 0 0 false]) ar:=by
    rw [qAL.iff] at hv⊢
    refine ⟨by rw [hv.1];simp,fun i a b ha hb=> ?_⟩
    rw [List.getElem?_append] at ha
    split at ha
    · rename_i hi
      exact (RelV.mono hle) _ _ (hv.2 i a b (by rw [List.getElem?_append_left hi];exact ha) hb)
    · rename_i hi
      have h0:i-as.length=0:=by
        have:=(List.getElem?_eq_some_iff.1 ha).1
        simp at this;omega
      rw [h0] at ha
      simp only [List.getElem?_cons_zero,Option.some.injEq] at ha
      have:=hv.2 i .nils b (by rw [List.getElem?_append_right (by omega),h0];rfl) hb
      simp only [RelV] at this
      subst ha this
      simp [RelV,Ren.ext_same]
  obtain ⟨k,r,hr',ρ',v,h',hx,q,g1,g2,g3,g4⟩:=hs _ hr ar hH.nil hv'
  simp only [List.length_append,List.length_cons,List.length_nil] at g3 g4
  refine ⟨k,r,hr',ρ',v,h',hx,q,g1,g2,⟨fun a o h1 h2=>g3.pres a o h1 fun i hi=> ?_,fun i a hi=> ?_,g3.fr,fun i hi=> ?_⟩,by omega⟩
  · by_cases e:i=h.length
    · subst e;rw [Ren.ext_same] at hi;cases hi
    · rw [Ren.ext_ne _ _ e] at hi;exact h2 i hi
  · rcases g3.new i a hi with ⟨j,hj⟩ | hf
    · by_cases e:j=h.length
      · subst e;rw [Ren.ext_same] at hj;cases hj
      · rw [Ren.ext_ne _ _ e] at hj;exact .inl ⟨j,hj⟩
    · exact .inr hf
  · rw [g3.base i (by omega),Ren.ext_ne _ _ (by omega)]
theorem zHH {ρ:Ren} {w:Nat} {xs:List AV} {r:AV} (h:RelV ρ (.lst w xs true) r):RelV ρ (.lst w xs false) r:=by
  simp only [RelV] at h⊢
  rcases h with ⟨ys,c,h1,_,h3⟩ | h
  · exact .inl ⟨ys,c,h1,nofun,h3⟩
  · exact .inr h
inductive Weak:List AV→List AV→Prop
  | nil:Weak [] []
  | same {x:AV} {xs ys:List AV} (h:Weak xs ys):Weak (x::xs) (x::ys)
  | clip {w:Nat} {es xs ys:List AV} (h:Weak xs ys):Weak (.lst w es true::xs) (.lst w es false::ys)
theorem Weak.rel {ρ:Ren} {xs ys:List AV} (h:Weak xs ys):∀{ar:List AV},qAL ρ xs ar→qAL ρ ys ar:=by
  induction h with
  | nil=>exact fun h=>h
  | same _ ih=>
    intro ar h
    simp only [qAL] at h⊢
    obtain ⟨b,bs,rfl,h1,h2⟩:=h
    exact ⟨b,bs,rfl,h1,ih h2⟩
  | clip _ ih=>
    intro ar h
    simp only [qAL] at h⊢
    obtain ⟨b,bs,rfl,h1,h2⟩:=h
    exact ⟨b,bs,rfl,zHH h1,ih h2⟩
theorem qhU {vs':List AV} {ck:Bool} {k:Nat} {st:VSt} {d:Option Nat} (hw:Weak vs vs') (hp:qD5 E (some (k,vs')) ck d l ks st Q):qD5 E (some (k,vs)) ck d l ks st Q:=by
  unfold qD5 at hp⊢
  cases ck
  · exact fun ρ hr ar hH hv=>hp ρ hr ar hH (hw.rel hv)
  · exact fun ρ hr ar hH hv=>hp ρ hr ar hH (hw.rel hv)
theorem qCW (hp:Acc E.Γ g as w [] ys) (hv:as++[.nils]=vs)
    (hr:∀h' id',Grown (h++[.row w [] true]) h.length w ys h' id'→R E (.ops l::ks) ⟨(e,.slice w id' 0 ys.length false)::s,m,h'⟩ Q):qD5 E (some (g,vs)) false (some e) l ks ⟨s,m,h⟩ Q:=by
  subst hv
  exact qAS (qAZ.fromNil (hp (h++[.row w [] true]) h.length _ (by simp) hr))
end
end Go.Ab
namespace Go.Ab
open Go
section
variable {E:Ev} {ks:List Fr1} {Q:AExit→VSt→Prop}
def outJ {β:Type} (E:Ev) (J:β→Prop) (sttJ:β→VSt) (s:VSt):Prop:=∃b,J b∧Can E.b s (sttJ b)
def loopJ {α β:Type} (E:Ev) (I:α→Prop) (stt:α→VSt) (m:α→Nat) (a:α) (n:Nat) (J:β→Prop) (sttJ:β→VSt) (ks:List Fr1) (Q:AExit→VSt→Prop):AExit→VSt→Prop
  |.nrm,s=>∃a',I a'∧m a'<m a∧Can E.b s (stt a')
  |.exit k,s=>if k=n then outJ E J sttJ s else qKX E (.exit k) (exK (.exit k) ks) s Q
  |.ret,s=>Q .ret s
  |.pan v,s=>Q (.pan v) s
theorem qHF {v:AV}:∀ks:List Fr1,exK (.pan v) ks=none
  |[]=>rfl
  |.code _::ks=>by rw [qFX];exact qHF ks
  |.blk _::ks=>qHF ks
  |.ops _::ks=>qHF ks
theorem qB5 {α β:Type} {c c2:ACode} {n:Nat} (I:α→Prop) (stt:α→VSt) (m:α→Nat) (a0:α) (J:β→Prop) (sttJ:β→VSt) {st:VSt} (hok:(Fr1.code (.loop c)::.blk n::.code c2::ks).all Fr1.ok=true) (hi:I a0) (h0:Can E.b st (stt a0))
    (h:∀a,I a→R E [.code c] (stt a) (loopJ E I stt m a n J sttJ (.code c2::ks) Q)) (hJ:∀b,J b→R E (.code c2::ks) (sttJ b) Q):Sem E (.code (.loop c)::.blk n::.code c2::ks) st Q:=by
  have hok2:=hok
  simp only [List.all_cons,Bool.and_eq_true,Fr1.ok] at hok
  have hc:c.ok=true:=by have:=hok.1;simpa only [ACode.ok] using this
  have hok3:(Fr1.code c2::ks).all Fr1.ok=true:=by simp only [List.all_cons,Bool.and_eq_true,Fr1.ok];exact hok.2.2
  have key:∀n' a,m a=n'→I a→Sem E (.code (.loop c)::.blk n::.code c2::ks) (stt a) Q:=by
    intro n'
    induction n' using Nat.strongRecOn with
    | _ n' ih=>
    intro a hm hia ρ sr hS hb
    obtain ⟨k,e,sr1,ρ1,st1,g1,g2,g3,g4,g5⟩:=Sem.of (by simpa only [List.all_cons,List.all_nil,Bool.and_true,Fr1.ok] using hc) (h a hia) ρ sr hS hb
    have done:∀e1,e1≠.nrm→Ex E.Γ k (.code c sr) (.st e1 sr1)→loopJ E I stt m a n J sttJ (.code c2::ks) Q e1 st1→
        ∃k e sr' ρ' st',ExF E.Γ k (.code (.loop c)::.blk n::.code c2::ks) sr e sr'∧Q e st'∧RelS ρ' st' sr'∧Fm E.b ρ sr.h ρ' sr'.h∧E.b≤st'.h.length:=by
      intro e1 he hx hq
      have hq:(match exK e1 (.blk n::.code c2::ks) with | some ks'=>Sem E ks' st1 Q | none=>Q e1 st1):=by
        cases e1 with
        | nrm=>exact absurd rfl he
        | ret=>rw [show exK .ret (.blk n::.code c2::ks)=none from qD8 _];exact hq
        | pan v=>rw [show exK (.pan v) (.blk n::.code c2::ks)=none from qHF _];exact hq
        | exit q=>
          simp only [Go.Ab.loopJ] at hq
          by_cases hqn:q=n
          · subst hqn
            rw [if_pos rfl] at hq
            rw [zF4,if_pos rfl]
            obtain ⟨b,hb1,hb2⟩:=hq
            exact Sem.can hb2 (Sem.of hok3 (hJ b hb1))
          · rw [if_neg hqn] at hq
            rw [zF4,if_neg hqn]
            unfold qKX at hq
            split at hq
            · rename_i ks' hk;simp only [hk];exact Sem.of (qFY hk hok3) hq
            · rename_i hk;simp only [hk];exact hq
      split at hq
      · rename_i ks' hk
        obtain ⟨k2,e2,sr2,ρ2,st2,q1,q2,q3,q4,q5⟩:=hq ρ1 sr1 g3 g5
        exact ⟨max k k2,e2,sr2,ρ2,st2,.codeX (.loopX (hx.le (Nat.le_max_left _ _)) he) he hk (q1.le (Nat.le_max_right _ _)),q2,q3,g4.trans q4,q5⟩
      · rename_i hk
        exact ⟨k,e1,sr1,ρ1,st1,.codeE (.loopX hx he) he hk,hq,g3,g4,g5⟩
    cases g1 with
    | code hx h'=>
      cases h'
      obtain ⟨a',hia',hlt,hcan⟩:=g2
      obtain ⟨sr2,ρ2,a1,a2,a3,a4⟩:=hcan ρ1 sr1 g3 g5
      obtain ⟨k2,e2,sr3,ρ3,st3,q1,q2,q3,q4,q5⟩:=ih (m a') (by omega) a' rfl hia' ρ2 sr2 a2 a4
      refine ⟨max k k2,e2,sr3,ρ3,st3, ?_,q2,q3,g4.trans (a3.trans q4),q5⟩
      cases q1 with
      | code h h'=>exact .code (.loopN (hx.le (Nat.le_max_left _ _)) (a1 _ _ _ _ (h.le (Nat.le_max_right _ _)))) (h'.le (Nat.le_max_right _ _))
      | codeX h he hx' h'=>exact .codeX (.loopN (hx.le (Nat.le_max_left _ _)) (a1 _ _ _ _ (h.le (Nat.le_max_right _ _)))) he hx' (h'.le (Nat.le_max_right _ _))
      | codeE h he hx'=>exact .codeE (.loopN (hx.le (Nat.le_max_left _ _)) (a1 _ _ _ _ (h.le (Nat.le_max_right _ _)))) he hx'
    | codeX hx he hk h'=>cases h'<;>simp [exK] at hk
    | codeE hx he hk=>exact done _ he hx g2
  exact Sem.can h0 (key _ a0 rfl hi)
@[go_sem] theorem qyG {α β:Type} {I:α→Prop} {stt:α→VSt} {me:α→Nat} {a:α} {n k:Nat} {J:β→Prop} {sttJ:β→VSt} {st:VSt}:loopJ E I stt me a n J sttJ ks Q (.exit k) st=if k=n then outJ E J sttJ st else qKX E (.exit k) (exK (.exit k) ks) st Q:=nr rfl
@[go_sem] theorem zGM {α β:Type} {I:α→Prop} {stt:α→VSt} {me:α→Nat} {a:α} {n:Nat} {J:β→Prop} {sttJ:β→VSt} {st:VSt}:loopJ E I stt me a n J sttJ ks Q .ret st=Q .ret st:=nr rfl
theorem qA8 {α β:Type} {I:α→Prop} {stt:α→VSt} {me:α→Nat} {a:α} {n:Nat} {J:β→Prop} {sttJ:β→VSt} {st:VSt} (a':α) (h1:I a') (h2:me a'<me a) (h3:Can E.b st (stt a')):loopJ E I stt me a n J sttJ ks Q .nrm st:=⟨a',h1,h2,h3⟩
theorem qBN {β:Type} {J:β→Prop} {sttJ:β→VSt} {st:VSt} (b:β) (h1:J b) (h2:Can E.b st (sttJ b)):outJ E J sttJ st:=⟨b,h1,h2⟩
end
end Go.Ab
namespace Go.Ab
open Go
def qI0 (Γ:Nat→Option AFn) (g:Nat) (as:List AV) (P:AV→Prop):Prop:=
  AV.trees as=true∧(∀v,P v→v.tree=true)∧∀hr ar,qAL ρ0 as ar→∃v,P v∧∃k r hr',Ex Γ k (.call g ar hr) (.res (.ok r) hr')∧hr'.f=hr.f∧(∀a,hr'.fr a→hr.fr a)∧RelV ρ0 v r
section
variable {Γ:Nat→Option AFn} {g:Nat} {vs vs':List AV} {h:List AObj}
theorem qC1.pureR {K:AV→Prop} {P:AV→Prop} (hp:qI0 Γ g vs P) (hk:∀v,P v→K v):qC1 Γ g vs h K:=fun ρ hr ar hH hv=>by
  obtain ⟨t1,t2,hp⟩:=hp
  obtain ⟨v,hv1,k,r,hr',h1,h2,h3,h4⟩:=hp hr ar (qBX _ _ t1 hv)
  exact ⟨k,r,hr',v,h1,h2,h3,hk v hv1,qCD _ _ (t2 v hv1) h4⟩
theorem qAZ.giveR {K:AV→List AObj→Prop} {P:AV→Prop} (ids:List Nat) (hc:Cvs (only ids h) vs vs') (hp:qI0 Γ g vs' P) (hk:∀v,P v→K v (qC0 ids h)):qAZ Γ g vs h K:=fun ρ hr ar hH hv=>by
  obtain ⟨t1,t2,hp⟩:=hp
  have hO:RelH ρ (only ids h) hr:=⟨fun i o hi=>by
      by_cases hd:o=.dead
      · subst hd;trivial
      · exact hH.obj i o (qCY hi hd).2,fun i j a o o' h1 h2 hi hj d1 d2=>hH.inj i j a o o' h1 h2 (qCY hi d1).2 (qCY hj d2).2 d1 d2,
    fun i hi=>hH.out i (by simpa [only] using hi),hH.is⟩
  obtain ⟨rs',g1,g2,g3⟩:=hc.conv hO (K:=qGD ρ h ids) (fun i a w el ha ho=>by
    obtain ⟨q1,q2⟩:=qCY ho (by simp)
    rw [List.contains_iff_mem,qBV]
    exact ⟨i,w,el,by simpa using q1,ha,q2⟩) hv
  obtain ⟨v,hv1,k,r,hr',h1,h2,h3,h4⟩:=hp (hr.kill (qGD ρ h ids)) rs' g3
  refine ⟨k,r,hr',ρ,v,qC0 ids h,.frzA _ (hH.rows ids) g1 g2 h1,hk v hv1,⟨fun i o hi=> ?_,fun i j a o o' q1 q2 hi hj d1 d2=>hH.inj i j a o o' q1 q2 (qC9 hi d1).2 (qC9 hj d2).2 d1 d2,
    fun i hi=>hH.out i (by simpa [qC0] using hi),fun i a hi=> ?_⟩,qCD _ _ (t2 v hv1) h4,⟨fun a o q1 q2=> ?_,fun i a hi=>.inl ⟨i,hi⟩,fun a ha=>(AH.fr_kill (h3 a ha)).1,fun _ _=>rfl⟩,by simp [qC0]⟩
  · by_cases hd:o=.dead
    · subst hd;trivial
    · obtain ⟨q1,q2⟩:=qC9 hi hd
      refine (hH.obj i o q2).mono (fun _ _ q=>q) fun a o' ha hq=> ?_
      rw [h2,←hq]
      show (hr.kill _) a=_
      rw [AH.kill_at,if_neg]
      rw [List.contains_iff_mem,qBV]
      rintro ⟨j,w,el,p1,p2,p3⟩
      have:=hH.inj i j a _ _ ha p2 q2 p3 hd (by simp)
      subst this
      have:ids.contains i=true:=by simpa using p1
      rw [this] at q1;cases q1
  · obtain ⟨o,ho⟩:=hH.is i a hi
    rw [h2]
    show ∃o,(hr.kill _) a=some o
    rw [AH.kill_at]
    split
    · exact ⟨_,rfl⟩
    · exact ⟨o,ho⟩
  · rw [h2]
    show (hr.kill _) a=_
    rw [AH.kill_at,if_neg]
    · exact q1
    · rw [List.contains_iff_mem,qBV]
      rintro ⟨j,w,el,p1,p2,p3⟩
      exact q2 j p2
def qh6 (res:List ARes) (P:AV→Prop):AExit→VSt→Prop:=fun e st=>(e=.nrm∨e=.ret)∧match qBC (toSt st) res with
  | some vs=>∃v,P v∧Cv st.h (qBU vs) v
  | none=>False
theorem qI0.intro {F:AFun} {as:List AV} {P:AV→Prop} (fz bp:List Nat) (hg:Γ g=some (.fn F)) (hok:F.body.ok=true) (hn:as.length=F.np) (ht:AV.trees as=true) (hv:∀v,P v→v.tree=true)
    (hR:R ⟨Γ,0,fz,bp⟩ [.code F.body] ⟨qAC 0 as,[],[]⟩ (qh6 F.res P)):qI0 Γ g as P:=by
  refine ⟨ht,hv,fun hr ar har=> ?_⟩
  have hS:RelS ρ0 ⟨qAC 0 as,[],[]⟩ {s:=params 0 ar,l:=Env.empty,h:=hr}:=⟨qC6 har,(fun n v h=>by cases h),⟨(fun i o h=>by simp at h),(fun i j a o o' h=>by cases h),(fun _ _=>rfl),(fun i a h=>by cases h)⟩⟩
  obtain ⟨k,e,sr',ρ',st',g1,⟨he,hq⟩,g3,g4,_⟩:=Sem.of (by simpa only [List.all_cons,List.all_nil,Bool.and_true,Fr1.ok] using hok) hR ρ0 _ hS (Nat.zero_le _)
  have hb:Ex Γ k (.code F.body {s:=params 0 ar,l:=Env.empty,h:=hr}) (.st e sr'):=by
    cases g1 with
    | code h h'=>cases h';exact h
    | codeX h he' hx h'=>cases e<;>simp [exK] at hx
    | codeE h he' hx=>exact h
  split at hq
  · rename_i vs hvs
    obtain ⟨v,hv1,hq⟩:=hq
    obtain ⟨rs,q1,q2⟩:=qC7 g3 hvs
    have hx:=Ex.fn hg (by rw [har.length];exact hn) hb he q1
    obtain ⟨r',c1,c2⟩:=Cv.conv g3.h (K:=qGD ρ' st'.h (List.range st'.h.length)) (fun i a w el ha ho=>by
      rw [List.contains_iff_mem,qBV]
      exact ⟨i,w,el,List.mem_range.2 (qB6 ho),ha,ho⟩) hq (qD1 q2)
    have hx2:=Ex.frzR _ (g3.h.rows _) c1 hx
    have hold:∀id o,hr id=some o→(sr'.h.kill (qGD ρ' st'.h (List.range st'.h.length))) id=some o:=fun id o ho=>by
      rw [AH.kill_at,if_neg]
      · exact g4.pres id o ho (fun i hi=>by cases hi)
      · rw [List.contains_iff_mem,qBV]
        rintro ⟨i,w,el,_,p2,_⟩
        rcases g4.new i id p2 with ⟨j,hj⟩ | hf
        · cases hj
        · have:hr id=none:=hf.1
          rw [this] at ho;cases ho
    exact ⟨v,hv1,k+1,r',_,.drop hold (qJT _ _ (hv v hv1) c2) hx2,rfl,fun a ha=>AH.fr_of_tomb ha,c2⟩
  · exact hq.elim
end
section
variable {E:Ev} {l:List AOper} {ks:List Fr1} {s m:LEnv} {h:List AObj} {Q:AExit→VSt→Prop}
theorem qKB {ck:Bool} {k:Nat} {vs:List AV} {e:Nat} {P:AV→Prop} (hp:qI0 E.Γ k vs P) (hr:∀v,P v→R E (.ops l::ks) ⟨(e,v)::s,m,h⟩ Q):qD5 E (some (k,vs)) ck (some e) l ks ⟨s,m,h⟩ Q:=by
  unfold qD5
  cases ck
  · simp only [Bool.false_eq_true,if_false];exact qAZ.ofP (qC1.pureR hp hr)
  · simp only [if_true];exact qE7.ofP (qC1.pureR hp hr)
theorem qfQ {k:Nat} {vs vs':List AV} {e:Nat} {P:AV→Prop} (ids:List Nat) (hc:Cvs (only ids h) vs vs') (hp:qI0 E.Γ k vs' P) (hr:∀v,P v→R E (.ops l::ks) ⟨(e,v)::s,m,qC0 ids h⟩ Q):qD5 E (some (k,vs)) false (some e) l ks ⟨s,m,h⟩ Q:=by
  unfold qD5
  simp only [Bool.false_eq_true,if_false]
  exact qAZ.giveR ids hc hp hr
def FinR (vs:Option (List AV)) (h:List AObj) (P:AV→Prop):Prop:=match vs with
  | some vs=>∃v,P v∧Cv h (qBU vs) v
  | none=>False
@[go_sem] theorem zIP {res:List ARes} {P:AV→Prop}:qh6 res P .ret ⟨s,m,h⟩=FinR (qBC (toSt ⟨s,m,h⟩) res) h P:=by
  simp [qh6,FinR];all_goals rfl
@[go_sem] theorem zIO {res:List ARes} {P:AV→Prop}:qh6 res P .nrm ⟨s,m,h⟩=FinR (qBC (toSt ⟨s,m,h⟩) res) h P:=by
  simp [qh6,FinR];all_goals rfl
theorem qh7 {v' v:AV} {P:AV→Prop} (hp:P v) (hc:Cv h v' v):FinR (some [v']) h P:=⟨v,hp,hc⟩
end
attribute [irreducible] qI0 FinR
end Go.Ab
