/- Texts AbO2 .. AbK: the abstract machine, its laws and contracts of functions: lemmas for the statement. No condition. -/
import Derived.Test.YtdcoliamajikfaaGreatDoorP4
set_option linter.unusedSimpArgs false
set_option linter.unusedVariables false
namespace Go.Ab
open Go
section
variable {Γ:Nat→Option AFn} {g:Nat}
def FinF(vs:Option (List AV))(h:List AObj)(t:AV):Prop:=match vs with
  | some vs=>∃μ,dist μ=true∧objsC μ h μ (lay t 0).2∧VR2 μ (packed vs) (lay t 0).1
  | none=>False
def finF(res:List ARes)(t:AV):AExit→VSt→Prop:=fun e st=>(e=.nrm∨e=.ret)∧FinF (resAll (toSt st) res) st.h t
@[go_sem] theorem finF_ret{res:List ARes}{t:AV}{s m:LEnv}{h:List AObj}:finF res t .ret ⟨s,m,h⟩=FinF (resAll (toSt ⟨s,m,h⟩) res) h t:=by
  simp[finF]
@[go_sem] theorem finF_nrm{res:List ARes}{t:AV}{s m:LEnv}{h:List AObj}:finF res t .nrm ⟨s,m,h⟩=FinF (resAll (toSt ⟨s,m,h⟩) res) h t:=by
  simp[finF]
theorem Fresh.intro{F:AFun}{as:List AV}{t:AV}(fz bp:List Nat)(hg:Γ g=some (.fn F))(hok:F.body.ok=true)(hn:as.length=F.np)(ht:AV.trees as=true)(hp:t.pl=true)
    (hR:R ⟨Γ,0,fz,bp⟩ [.code F.body] ⟨vparams 0 as,[],[]⟩ (finF F.res t)):Fresh Γ g as t:=by
  unfold Fresh;refine⟨ht,hp,fun hr ar har=> ?_⟩;have hS:RelS ρ0 ⟨vparams 0 as,[],[]⟩ {s:=params 0 ar,l:=Env.empty,h:=hr}:=⟨params_rel har,(fun n v h=>by cases h),⟨(fun i o h=>by simp at h),(fun i j a o o' h=>by cases h),(fun _ _=>rfl),(fun i a h=>by cases h)⟩⟩;obtain⟨k,e,sr',ρ',st',g1,⟨he,hq⟩,g3,g4,_⟩:=Sem.of (by simpa only [List.all_cons,List.all_nil,Bool.and_true,Fr1.ok]using hok) hR ρ0 _ hS (Nat.zero_le _);have hb:Ex Γ k (.code F.body {s:=params 0 ar,l:=Env.empty,h:=hr}) (.st e sr'):=by
    cases g1 with
    | code h h'=>cases h';exact h
    | codeX h he' hx h'=>cases e<;>simp[exK]at hx
    | codeE h he' hx=>exact h
  unfold FinF at hq;split at hq
  · rename_i vs hvs;obtain⟨μ,m1,m2,m3⟩:=hq;obtain⟨rs,q1,q2⟩:=resAll_rel g3 hvs;have hx:=Ex.fn hg (by rw[har.length];exact hn) hb he q1;obtain⟨r1,r2⟩:=renum_ok m1 m2 g3.h;exact⟨k+1,_,_,_,hx,r1,m3.rel (packed_rel q2),g4.trans r2⟩
  · exact hq.elim
mutual
theorem lay_VR2{μ:List (Option Nat)}:∀(t:AV)(a b:Nat),t.pl=true→(∀i,i<t.rows→μ[b+i]?=some (some (a+i)))→VR2 μ (lay t a).1 (lay t b).1
  |.lst w xs _,a,b,_,h=>by
    simp only[lay];exact .slice (by have:=h 0 (by simp only[AV.rows];omega);simpa using this)
  |.agg xs,a,b,hp,h=>by
    simp only[lay];have:=lays_VR2 xs a b hp h;exact .agg this.1 this.2
  |.tup xs,a,b,hp,h=>by
    simp only[lay];have:=lays_VR2 xs a b hp h;exact .tup this.1 this.2
  |.bool _,_,_,_,_ |.int _ _,_,_,_,_ |.str _,_,_,_,_ |.nilp,_,_,_,_ |.nils,_,_,_,_ |.nilm,_,_,_,_ |.nilf,_,_,_,_ |.nili,_,_,_,_=>by
    simp only[lay];exact .tree rfl
  |.any,_,_,hp,_ |.ptr _ _ _,_,_,hp,_ |.slice _ _ _ _ _,_,_,hp,_ |.map _,_,_,hp,_ |.ept _ _,_,_,hp,_ |.fn _ _,_,_,hp,_ |.iface _ _,_,_,hp,_=>by cases hp
theorem lays_VR2{μ:List (Option Nat)}:∀(xs:List AV)(a b:Nat),AV.pls xs=true→(∀i,i<AV.rowss xs→μ[b+i]?=some (some (a+i)))→VR2s μ (lays xs a).1 (lays xs b).1
  |[],_,_,_,_=>VR2s.nil
  | x::xs,a,b,hp,h=>by
    simp only[AV.pls,Bool.and_eq_true]at hp;simp only[AV.rowss]at h;simp only[lays,lay_len];refine .cons (lay_VR2 x a b hp.1 fun i hi=>h i (by omega)) (lays_VR2 xs _ _ hp.2 fun i hi=> ?_);rw[show b+x.rows+i=b+(x.rows+i) by omega,show a+x.rows+i=a+(x.rows+i) by omega];exact h _ (by omega)
end
mutual
theorem lay_OR2{μ:List (Option Nat)}{h:List AObj}:∀(t:AV)(a b:Nat),t.pl=true→(∀i,i<t.rows→μ[b+i]?=some (some (a+i)))→(∀i o,(lay t a).2[i]?=some o→h[a+i]?=some o)→
    ∀i o,(lay t b).2[i]?=some o→OR2 μ h (some (a+i)) o
  |.lst w xs _,a,b,hp,hm,hh,i,o,hi=>by
    simp only[lay]at hi hh;simp only[AV.rows]at hm;have hm':∀i,i<AV.rowss xs→μ[b+1+i]?=some (some (a+1+i)):=fun i hi=>by
      rw[show b+1+i=b+(i+1) by omega,show a+1+i=a+(i+1) by omega];exact hm _ (by omega)
    cases i with
    | zero=>
      simp only[List.getElem?_cons_zero,Option.some.injEq]at hi;subst hi;exact .row (hh 0 _ rfl) (lays_VR2 xs _ _ hp hm')
    | succ i=>
      have:=lays_OR2 xs (a+1) (b+1) hp hm' (fun i o hi=>by
        rw[show a+1+i=a+(i+1) by omega];exact hh (i+1) o (by simpa using hi)) i o (by simpa using hi)
      rw[show a+1+i=a+(i+1) by omega]at this;exact this
  |.agg xs,a,b,hp,hm,hh,i,o,hi=>by
    simp only[lay]at hi hh;exact lays_OR2 xs a b hp hm hh i o hi
  |.tup xs,a,b,hp,hm,hh,i,o,hi=>by
    simp only[lay]at hi hh;exact lays_OR2 xs a b hp hm hh i o hi
  |.bool _,_,_,_,_,_,_,_,h |.int _ _,_,_,_,_,_,_,_,h |.str _,_,_,_,_,_,_,_,h |.nilp,_,_,_,_,_,_,_,h |.nils,_,_,_,_,_,_,_,h |.nilm,_,_,_,_,_,_,_,h |.nilf,_,_,_,_,_,_,_,h |.nili,_,_,_,_,_,_,_,h=>by
    simp[lay]at h
  |.any,_,_,hp,_,_,_,_,_ |.ptr _ _ _,_,_,hp,_,_,_,_,_ |.slice _ _ _ _ _,_,_,hp,_,_,_,_,_ |.map _,_,_,hp,_,_,_,_,_ |.ept _ _,_,_,hp,_,_,_,_,_ |.fn _ _,_,_,hp,_,_,_,_,_ |.iface _ _,_,_,hp,_,_,_,_,_=>by cases hp
theorem lays_OR2{μ:List (Option Nat)}{h:List AObj}:∀(xs:List AV)(a b:Nat),AV.pls xs=true→(∀i,i<AV.rowss xs→μ[b+i]?=some (some (a+i)))→(∀i o,(lays xs a).2[i]?=some o→h[a+i]?=some o)→
    ∀i o,(lays xs b).2[i]?=some o→OR2 μ h (some (a+i)) o
  |[],_,_,_,_,_,_,_,hi=>by simp[lays]at hi
  | x::xs,a,b,hp,hm,hh,i,o,hi=>by
    simp only[AV.pls,Bool.and_eq_true]at hp;simp only[AV.rowss]at hm;simp only[lays,lay_len]at hi hh;rcases Nat.lt_or_ge i x.rows with q | q
    · rw[List.getElem?_append_left (by rw[lay_len];exact q)]at hi;exact lay_OR2 x a b hp.1 (fun i hi=>hm i (by omega)) (fun i o hi=>hh i o (by rw[List.getElem?_append_left (List.getElem?_eq_some_iff.1 hi).1];exact hi)) i o hi
    · rw[List.getElem?_append_right (by rw[lay_len];exact q),lay_len]at hi;have:=lays_OR2 xs (a+x.rows) (b+x.rows) hp.2 (fun i hi=>by
        rw[show b+x.rows+i=b+(x.rows+i) by omega,show a+x.rows+i=a+(x.rows+i) by omega];exact hm _ (by omega)) (fun i o hi=>by
        rw[show a+x.rows+i=a+(x.rows+i) by omega];exact hh _ o (by rw[List.getElem?_append_right (by rw[lay_len];omega),lay_len,Nat.add_sub_cancel_left];exact hi)) (i-x.rows) o hi
      rw[show a+x.rows+(i-x.rows)=a+i by omega]at this;exact this
end
theorem objsC_of{μ:List (Option Nat)}{h:List AObj}:∀{r:List (Option Nat)}{h':List AObj},r.length=h'.length→(∀(i:Nat)(j:Option Nat)(o:AObj),r[i]?=some j→h'[i]?=some o→OR2 μ h j o)→objsC μ h r h'
  |[],[],_,_=>trivial
  | j::r,o::h',hl,hh=>⟨hh 0 j o rfl rfl,objsC_of (by simpa using hl) fun i j o h1 h2=>hh (i+1) j o (by simpa using h1) (by simpa using h2)⟩
  |[],_::_,hl,_=>by simp at hl
  | _::_,[],hl,_=>by simp at hl
theorem dist_map:∀{l:List Nat},l.Nodup→dist (l.map some)=true
  |[],_=>rfl
  | x::l,h=>by
    rw[List.nodup_cons]at h;simp only[List.map_cons,dist,Bool.and_eq_true,List.all_eq_true];refine⟨fun y hy=> ?_,dist_map h.2⟩;obtain⟨z,hz,rfl⟩:=List.mem_map.1 hy;have:x≠z:=fun e=>h.1 (by rw[e];exact hz);have hb:Nat.beq x z=false:=by
      rw[←Bool.not_eq_true];intro q;exact this (Nat.eq_of_beq_eq_true q)
    show (!Nat.beq x z)=true;rw[hb];rfl
def Mark(Γ:Nat→Option AFn)(g:Nat)(t t':AV)(k k':Int):Prop:=
  t.pl=true∧t'.pl=true∧t'.rows=t.rows∧∀ρ hr r,RelH ρ (lay t 0).2 hr→RelV ρ (lay t 0).1 r→∃kk hr' ρ',Ex Γ kk (.call g [r,.int .i64 k] hr) (.res (.ok (.int .i64 k')) hr')∧RelH ρ' (lay t' 0).2 hr'∧Fm t.rows ρ hr ρ' hr'
def FinM(vs:Option (List AV))(h:List AObj)(k:Int)(os:List AObj):Prop:=vs=some [.int .i64 k]∧h=os
def finM(res:List ARes)(k:Int)(os:List AObj):AExit→VSt→Prop:=fun e st=>(e=.nrm∨e=.ret)∧FinM (resAll (toSt st) res) st.h k os
@[go_sem] theorem finM_ret{res:List ARes}{k:Int}{os:List AObj}{s m:LEnv}{h:List AObj}:finM res k os .ret ⟨s,m,h⟩=FinM (resAll (toSt ⟨s,m,h⟩) res) h k os:=by
  simp[finM]
@[go_sem] theorem finM_nrm{res:List ARes}{k:Int}{os:List AObj}{s m:LEnv}{h:List AObj}:finM res k os .nrm ⟨s,m,h⟩=FinM (resAll (toSt ⟨s,m,h⟩) res) h k os:=by
  simp[finM]
theorem Mark.intro{F:AFun}{t t':AV}{k k':Int}(hg:Γ g=some (.fn F))(hok:F.body.ok=true)(hn:F.np=2)(hp:t.pl=true)(hp':t'.pl=true)(hl:t'.rows=t.rows)
    (hR:R ⟨Γ,t.rows,[],[]⟩ [.code F.body] ⟨vparams 0 [(lay t 0).1,.int .i64 k],[],(lay t 0).2⟩ (finM F.res k' (lay t' 0).2)):Mark Γ g t t' k k':=by
  refine⟨hp,hp',hl,fun ρ hr r hH hv=> ?_⟩;have hS:RelS ρ ⟨vparams 0 [(lay t 0).1,.int .i64 k],[],(lay t 0).2⟩ {s:=params 0 [r,.int .i64 k],l:=Env.empty,h:=hr}:=
    ⟨params_rel (by simp only[RelVs];exact⟨_,_,rfl,hv,_,_,rfl,by simp only[RelV],rfl⟩),(fun n v h=>by cases h),hH⟩
  obtain⟨kk,e,sr',ρ',st',g1,⟨he,hq⟩,g3,g4,_⟩:=Sem.of (by simpa only [List.all_cons,List.all_nil,Bool.and_true,Fr1.ok]using hok) hR ρ _ hS (by rw[lay_len];exact Nat.le_refl _);have hb:Ex Γ kk (.code F.body {s:=params 0 [r,.int .i64 k],l:=Env.empty,h:=hr}) (.st e sr'):=by
    cases g1 with
    | code h h'=>cases h';exact h
    | codeX h he' hx h'=>cases e<;>simp[exK]at hx
    | codeE h he' hx=>exact h
  obtain⟨q1,q2⟩:=hq;obtain⟨rs,q3,q4⟩:=resAll_rel g3 q1;have hx:=Ex.fn hg (by rw[hn];rfl) hb he q3;have hr1:RelV ρ' (.int .i64 k') (packed rs):=packed_rel q4;simp only[RelV]at hr1;rw[hr1]at hx;exact⟨kk+1,_,ρ',hx,by rw[←q2];exact g3.h,g4⟩
theorem SCall.mark{K:AV→List AObj→Prop}{pre post h:List AObj}{t t':AV}{k k':Int}{v:AV}(hm:Mark Γ g t t' k k')(hh:h=pre++((lay t pre.length).2++post))(hva:v=(lay t pre.length).1)
    (hk:K (.int .i64 k') (pre++((lay t' pre.length).2++post))):SCall Γ g [v,.int .i64 k] h K:=fun ρ hr ar hH hv=>by
  obtain⟨hp,hp',hl,hm⟩:=hm;subst hh;subst hva;simp only[RelVs,RelV]at hv;obtain⟨r,rs,rfl,hv,_,_,rfl,rfl,rfl⟩:=hv;obtain⟨n,hn⟩:∃n,n=pre.length:=⟨_,rfl⟩;rw[←hn]at hH hv hk;have mid:∀i,(hi:i<t.rows)→∃w xs b,(pre++((lay t n).2++post))[n+i]?=some (.row w (lays xs b).1 true)∧(lay t n).2[i]?=some (.row w (lays xs b).1 true):=fun i hi=>by
    have hlt:i<(lay t n).2.length:=by rw[lay_len];exact hi
    obtain⟨w,xs,b,e,_⟩:=lay_rows t n i _ hp (List.getElem?_eq_getElem hlt);refine⟨w,xs,b, ?_,by rw[List.getElem?_eq_getElem hlt,e]⟩;rw[List.getElem?_append_right (by omega),←hn,Nat.add_sub_cancel_left,List.getElem?_append_left hlt,List.getElem?_eq_getElem hlt,e]
  have sh:Sh2 ρ n (fun i=>if i<t.rows then ρ (n+i)else none) 0 t.rows:=fun i hi=>by
    simp only[Nat.zero_add];rw[if_pos hi]
  have lies:Lies ρ n (lay t n).2 hr:=fun i o hi=>hH.obj (n+i) o (by
    rw[List.getElem?_append_right (by omega),←hn,Nat.add_sub_cancel_left,List.getElem?_append_left (List.getElem?_eq_some_iff.1 hi).1];exact hi)
  have lies0:=lay_lies t n 0 hp sh (fun _ _ _ _ _ h=>h) lies;have hH0:RelH (fun i=>if i<t.rows then ρ (n+i)else none) (lay t 0).2 hr:=by
    refine⟨fun i o hi=>by have:=lies0 i o hi;rwa[Nat.zero_add]at this,fun i j a o o' h1 h2 _ _ _ _=> ?_,fun i hi=> ?_,fun i a ha=> ?_⟩
    · try simp only at h1 h2
      split at h1
      · rename_i q1;split at h2
        · rename_i q2;obtain⟨w1,x1,b1,e1,_⟩:=mid i q1;obtain⟨w2,x2,b2,e2,_⟩:=mid j q2;have:=hH.inj _ _ a _ _ h1 h2 e1 e2 (by simp) (by simp);omega
        · cases h2
      · cases h1
    · rw[lay_len]at hi;show (if i<t.rows then ρ (n+i)else none)=none;rw[if_neg (by omega)]
    · try simp only at ha
      split at ha
      · exact hH.is _ a ha
      · cases ha
  obtain⟨kk,hr',ρ',hx,hH',hF⟩:=hm _ hr r hH0 (lay_rel t n 0 r hp sh hv);have hρ:∀i,ρ' i=if i<t.rows then ρ (n+i)else none:=fun i=>by
    by_cases q:i<t.rows
    · exact hF.base i q
    · rw[if_neg q];exact hH'.out i (by rw[lay_len];omega)
  have sh':Sh2 ρ' 0 ρ n t'.rows:=fun i hi=>by
    rw[Nat.zero_add,hρ,if_pos (by omega)]
  have lies':Lies ρ n (lay t' n).2 hr':=lay_lies t' 0 n hp' sh' (fun _ _ _ _ _ h=>h) (fun i o hi=>by rw[Nat.zero_add];exact hH'.obj i o hi);have out:∀(i a:Nat)(o:AObj),(i<n∨n+t.rows≤i)→(pre++((lay t n).2++post))[i]?=some o→o≠.dead→ρ i=some (some a)→∀x,hr a=some x→hr' a=some x:=fun i a o hi ho hd ha x hxx=>by
    refine hF.pres a x hxx fun j hj=> ?_
    try simp only at hj
    split at hj
    · rename_i q;obtain⟨w,xs,b,e,_⟩:=mid j q;have:=hH.inj _ _ a _ _ ha hj ho e hd (by simp);omega
    · cases hj
  have hlen:(lay t' n).2.length=t.rows:=by rw[lay_len,hl]
  have hlen0:(lay t n).2.length=t.rows:=by rw[lay_len]
  have oldAt:∀(i:Nat)(o:AObj),(pre++((lay t' n).2++post))[i]?=some o→(i<n∨n+t.rows≤i)→(pre++((lay t n).2++post))[i]?=some o:=fun i o ho hi=>by
    rcases hi with q | q
    · rw[List.getElem?_append_left (by omega)]at ho⊢;exact ho
    · rw[List.getElem?_append_right (by omega),List.getElem?_append_right (by omega)]at ho⊢;rw[hlen]at ho;rw[hlen0];exact ho
  refine⟨kk,_,hr',ρ,_,_,hx,hk,⟨fun i o hi=> ?_,fun i j a o o' h1 h2 hi hj d1 d2=> ?_,fun i hi=>hH.out i (by simp only[List.length_append,hlen,hlen0]at hi⊢;exact hi),fun i a ha=> ?_⟩,by simp only[RelV],⟨fun a o ho hno=>hF.pres a o ho fun j hj=> ?_,fun i a ha=>.inl ⟨i,ha⟩,hF.fr,fun _ _=>rfl⟩,by simp only[List.length_append,lay_len,hl];omega⟩
  · by_cases q:i<n∨n+t.rows≤i
    · have ho:=oldAt i o hi q;by_cases hd:o=.dead
      · subst hd;trivial
      · exact(hH.obj i o ho).mono (fun _ _ h=>h) fun a x ha hxx=>out i a o q ho hd ha x hxx
    · have q1:n≤i:=by omega
      have:=lies' (i-n) o (by
        rw[List.getElem?_append_right (by omega),List.getElem?_append_left (by rw[hlen];omega),←hn]at hi;exact hi)
      rwa[show n+(i-n)=i by omega]at this
  · have back:∀(i:Nat)(o:AObj),(pre++((lay t' n).2++post))[i]?=some o→o≠.dead→∃o2,(pre++((lay t n).2++post))[i]?=some o2∧o2≠.dead:=fun i o ho hd=>by
      by_cases q:i<n∨n+t.rows≤i
      · exact⟨o,oldAt i o ho q,hd⟩
      · obtain⟨w,xs,b,e,_⟩:=mid (i-n) (by omega);rw[show n+(i-n)=i by omega]at e;exact⟨_,e,by simp⟩
    obtain⟨o2,e1,e2⟩:=back i o hi d1;obtain⟨o3,e3,e4⟩:=back j o' hj d2;exact hH.inj i j a o2 o3 h1 h2 e1 e3 e2 e4
  · obtain⟨o,ho⟩:=hH.is i a ha;by_cases q:∃j,ρ' j=some (some a)
    · obtain⟨j,hj⟩:=q;exact hH'.is j a hj
    · refine⟨o,hF.pres a o ho fun j hj=>q ⟨j, ?_⟩⟩;rw[hρ];exact hj
  · try simp only at hj
    split at hj
    · exact hno _ hj
    · cases hj
mutual
def AV.cn:AV→Bool
  |.lst w xs c=>decide (0<w)&& !c&&AV.cns xs
  |.agg xs |.tup xs=>AV.cns xs
  | _=>true
def AV.cns:List AV→Bool
  |[]=>true
  | x::xs=>AV.cn x&&AV.cns xs
end
theorem zip_cons{h:List AObj}{a b:AV}{as bs:List AV}(x:Cv h a b)(y:∀p∈as.zip bs,Cv h p.1 p.2):∀p∈(a::as).zip (b::bs),Cv h p.1 p.2:=fun p hp=>by
  simp only[List.zip_cons_cons,List.mem_cons]at hp;rcases hp with rfl | hp
  · exact x
  · exact y p hp
mutual
theorem lay_cv{h:List AObj}:∀(t:AV)(a:Nat),t.pl=true→t.cn=true→(∀i o,(lay t a).2[i]?=some o→h[a+i]?=some o)→Cv h (lay t a).1 t
  |.lst w xs c,a,hp,hc,hh=>by
    simp only[AV.cn,Bool.and_eq_true,decide_eq_true_eq,Bool.not_eq_true']at hc;obtain⟨⟨h0,rfl⟩,hc⟩:=hc;simp only[lay]at hh⊢;have l:=lays_length xs (a+1);refine .slc (hh 0 _ rfl) (by omega) h0 (by rw[List.drop_zero,←l,List.take_length,l]) ?_;rw[List.drop_zero,←l,List.take_length];exact lays_cv xs (a+1) hp hc fun i o hi=>by
      rw[show a+1+i=a+(i+1) by omega];exact hh (i+1) o (by simpa using hi)
  |.agg xs,a,hp,hc,hh=>by
    simp only[lay]at hh⊢;exact .agg (lays_length xs a) (lays_cv xs a hp hc hh)
  |.tup xs,a,hp,hc,hh=>by
    simp only[lay]at hh⊢;exact .tup (lays_length xs a) (lays_cv xs a hp hc hh)
  |.bool _,_,_,_,_ |.int _ _,_,_,_,_ |.str _,_,_,_,_ |.nilp,_,_,_,_ |.nils,_,_,_,_ |.nilm,_,_,_,_ |.nilf,_,_,_,_ |.nili,_,_,_,_=>by
    simp only[lay];exact .refl rfl
  |.any,_,hp,_,_ |.ptr _ _ _,_,hp,_,_ |.slice _ _ _ _ _,_,hp,_,_ |.map _,_,hp,_,_ |.ept _ _,_,hp,_,_ |.fn _ _,_,hp,_,_ |.iface _ _,_,hp,_,_=>by cases hp
theorem lays_cv{h:List AObj}:∀(xs:List AV)(a:Nat),AV.pls xs=true→AV.cns xs=true→(∀i o,(lays xs a).2[i]?=some o→h[a+i]?=some o)→∀p∈(lays xs a).1.zip xs,Cv h p.1 p.2
  |[],_,_,_,_=>fun p hp=>by simp at hp
  | x::xs,a,hp,hc,hh=>by
    simp only[AV.pls,Bool.and_eq_true]at hp;simp only[AV.cns,Bool.and_eq_true]at hc;simp only[lays,lay_len]at hh⊢;refine zip_cons (lay_cv x a hp.1 hc.1 fun i o hi=>hh i o (by rw[List.getElem?_append_left (List.getElem?_eq_some_iff.1 hi).1];exact hi)) (lays_cv xs _ hp.2 hc.2 fun i o hi=> ?_);rw[show a+x.rows+i=a+(x.rows+i) by omega];exact hh _ o (by rw[List.getElem?_append_right (by rw[lay_len];omega),lay_len,Nat.add_sub_cancel_left];exact hi)
end
theorem lay_at{pre post h:List AObj}{t:AV}(hp:t.pl=true)(hc:t.cn=true)(hh:h=pre++((lay t pre.length).2++post)):Cv h (lay t pre.length).1 t:=
  lay_cv t _ hp hc fun i o hi=>by
    rw[hh,List.getElem?_append_right (by omega),Nat.add_sub_cancel_left,List.getElem?_append_left (List.getElem?_eq_some_iff.1 hi).1];exact hi
end
section
variable {E:Ev} {ks:List Fr1} {s m:LEnv} {h:List AObj} {Q:AExit→VSt→Prop} {l:List AOper}
theorem call_fresh{ck:List AOper}{k e:Nat}{vs:List AV}{t:AV}(hp:Fresh E.Γ k vs t)(hr:R E (.ops l::ks) ⟨(e,(lay t h.length).1)::s,m,h++(lay t h.length).2⟩ Q):Call1 E (some (k,vs)) ck (some e) l ks ⟨s,m,h⟩ Q:=by
  unfold Call1;cases ck
  · exact SCallX.of (SCall.fresh hp hr)
  · exact Or.inl (SCallK.fresh hp hr)
end
end Go.Ab
namespace Go.Ab
open Go
section
variable {α:Type} {enc:α→AV} {w:Nat} {sh:Option Nat} {Γ:Nat→Option AFn} {g gc:Nat}
theorem lay_cellsLen{t:AV}{n:Nat}(hp:t.pl=true):(lay t n).1.cells.length=t.cells.length:=by
  cases t<;>first
    | rfl
    | (cases hp;done)
    | (simp only[lay,AV.cells];exact lays_length _ _)
theorem lay_part{t:AV}{n k:Nat}(hp:t.pl=true)(ha:∃cs,t=.agg cs)(hk:t.cells.length=k):(lay t n).1.part 0 (some k)=some (lay t n).1:=by
  obtain⟨cs,rfl⟩:=ha;simp only[AV.cells]at hk;simp only[lay,AV.part,AV.cells,lays_length,hk,Nat.zero_add,Nat.le_refl,if_true,List.drop_zero];rw[List.take_of_length_le (by rw[lays_length];omega)]
theorem sumN_succ(c:α→Nat){xs:List α}{i:Nat}(h:i<xs.length):sumN c (xs.take (i+1))=sumN c (xs.take i)+c xs[i]:=by
  have:∀(xs ys:List α),sumN c (xs++ys)=sumN c xs+sumN c ys:=by
    intro xs ys;induction xs with
    | nil=>simp[sumN]
    | cons x xs ih=>simp only[List.cons_append,sumN,ih];omega
  rw[List.take_succ_eq_append_getElem h,this];simp[sumN]
theorem sumN_le(c:α→Nat)(xs:List α)(i:Nat):sumN c (xs.take i)≤sumN c xs:=by
  have:∀(xs ys:List α),sumN c (xs++ys)=sumN c xs+sumN c ys:=by
    intro xs ys;induction xs with
    | nil=>simp[sumN]
    | cons x xs ih=>simp only[List.cons_append,sumN,ih];omega
  have h:=this (xs.take i) (xs.drop i);rw[List.take_append_drop]at h;omega
section
variable {E:Ev} {ks:List Fr1} {s m:LEnv} {h:List AObj} {Q:AExit→VSt→Prop} {l:List AOper}
end
end
end Go.Ab
namespace Go.Ab
open Go
section
variable {Γ:Nat→Option AFn} {g:Nat} {w:Nat} {z:AV}
theorem objsC_app{μ:List (Option Nat)}{h:List AObj}:∀{r1 r2:List (Option Nat)}{h1 h2:List AObj},objsC μ h r1 h1→objsC μ h r2 h2→objsC μ h (r1++r2) (h1++h2)
  |[],_,[],_,_,k=>k
  | _::_,_,_::_,_,j,k=>⟨j.1,objsC_app j.2 k⟩
  |[],_,_::_,_,j,_=>j.elim
  | _::_,_,[],_,j,_=>j.elim
theorem objsC_lays{μ:List (Option Nat)}{h:List AObj}{xs:List AV}{a b:Nat}(hp:AV.pls xs=true)(hm:∀i,i<AV.rowss xs→μ[b+i]?=some (some (a+i)))(hh:∀i o,(lays xs a).2[i]?=some o→h[a+i]?=some o):
    objsC μ h ((List.range' a (AV.rowss xs)).map some) (lays xs b).2:=by
  refine objsC_of (by simp[lays_len]) fun i j o h1 h2=> ?_;have hi:i<AV.rowss xs:=by have:=(List.getElem?_eq_some_iff.1 h2).1;rw[lays_len]at this;exact this
  rw[List.getElem?_map,List.getElem?_range' (by omega)]at h1;simp only[Nat.one_mul,Option.map_some,Option.some.injEq]at h1;subst h1;exact lays_OR2 xs a b hp hm hh i o h2
def rmu(b n:Nat):List (Option Nat):=(List.range' 0 b).map some++some (b+n+2)::(List.range' (b+1) n).map some
theorem rmu_lo{b n i:Nat}(hi:i<b):(rmu b n)[i]?=some (some i):=by
  unfold rmu;rw[List.getElem?_append_left (by simpa using hi),List.getElem?_map,List.getElem?_range' (by omega)];simp
theorem rmu_hi{b n i:Nat}(hi:i<n):(rmu b n)[b+1+i]?=some (some (b+1+i)):=by
  unfold rmu;rw[List.getElem?_append_right (by simp;omega)];have e:b+1+i-((List.range' 0 b).map some).length=i+1:=by simp;omega
  rw[e,List.getElem?_cons_succ,List.getElem?_map,List.getElem?_range' (by omega)];simp
theorem rmu_dist{b n:Nat}:dist (rmu b n)=true:=by
  have e:rmu b n=(List.range' 0 b++(b+n+2)::List.range' (b+1) n).map some:=by simp[rmu]
  rw[e];refine dist_map ?_;rw[List.nodup_append];refine⟨List.nodup_range', ?_, ?_⟩
  · rw[List.nodup_cons];refine⟨?_,List.nodup_range'⟩;simp only[List.mem_range'_1];omega
  · intro x hx y hy;simp only[List.mem_range'_1,List.mem_cons]at hx hy;rcases hy with rfl | hy<;>omega
theorem Can.round{ps ts:List AV}{x:AObj}{s s' m m':LEnv}{b n:Nat}(hps:AV.pls ps=true)(hts:AV.pls ts=true)(hb:AV.rowss ps=b)(hn:AV.rowss ts=n)(h1:slotsC (rmu b n) s s')(h2:slotsC (rmu b n) m m'):
    Can 0 ⟨s,m,(lays ps 0).2++.dead::((lays ts (b+1)).2++[x,.row w (lays ts (b+1)).1 true])⟩ ⟨s',m',(lays ps 0).2++.row w (lays ts (b+1)).1 true::(lays ts (b+1)).2⟩:=by
  subst hb hn;have hlp:=lays_len ps 0;have hlt:=lays_len ts (AV.rowss ps+1);refine Can.renum (rmu (AV.rowss ps) (AV.rowss ts)) rmu_dist (objsC_app (objsC_lays hps (fun i hi=>by rw[Nat.zero_add];exact rmu_lo hi) fun i o hi=> ?_) ⟨?_,objsC_lays hts (fun i hi=>rmu_hi hi) fun i o hi=> ?_⟩) h1 h2
  · rw[Nat.zero_add,List.getElem?_append_left (List.getElem?_eq_some_iff.1 hi).1];exact hi
  · refine .row (el:=(lays ts (AV.rowss ps+1)).1) (rw':=true) ?_ ⟨rfl,fun p hp=> ?_⟩
    · rw[List.getElem?_append_right (by omega),show AV.rowss ps+AV.rowss ts+2-(lays ps 0).2.length=AV.rowss ts+1+1 by omega,List.getElem?_cons_succ,List.getElem?_append_right (by omega),hlt,
        show AV.rowss ts+1-AV.rowss ts=1 by omega]
      rfl
    · exact(lays_VR2 ts (AV.rowss ps+1) (AV.rowss ps+1) hts (fun i hi=>rmu_hi hi)).2 p hp
  · have hi':=(List.getElem?_eq_some_iff.1 hi).1;rw[List.getElem?_append_right (by omega),show AV.rowss ps+1+i-(lays ps 0).2.length=i+1 by omega,List.getElem?_cons_succ,List.getElem?_append_left hi'];exact hi
theorem Can.push{ps A:List AV}{t:AV}{s s' m m':LEnv}{h h':List AObj}{b n:Nat}(hps:AV.pls ps=true)(hA:AV.pls A=true)(ht:t.pl=true)(hb:AV.rowss ps=b)(hn:AV.rowss A+t.rows=n)
    (hh:h=(lays ps 0).2++.dead::((lays A (b+1)).2++((lay t (b+1+AV.rowss A)).2++[.row w [(lay t (b+1+AV.rowss A)).1] true,.row w ((lays A (b+1)).1++[(lay t (b+1+AV.rowss A)).1]) true])))
    (hh':h'=(lays ps 0).2++.row w (lays (A++[t]) (b+1)).1 true::(lays (A++[t]) (b+1)).2) (h1:slotsC (rmu b n) s s') (h2:slotsC (rmu b n) m m'):Can 0 ⟨s,m,h⟩ ⟨s',m',h'⟩:=by
  have hp:AV.pls (A++[t])=true:=by
    have:∀B:List AV,AV.pls B=true→AV.pls (B++[t])=true:=by
      intro B
      induction B with
      | nil=>intro _;simp only[List.nil_append,AV.pls,ht,Bool.and_true]
      | cons y B ih=>
        intro hB;simp only[AV.pls,Bool.and_eq_true]at hB;simp only[List.cons_append,AV.pls,hB.1,ih hB.2,Bool.and_self]
    exact this A hA
  have r:=Can.round (w:=w) (x:=.row w [(lay t (b+1+AV.rowss A)).1] true) (s:=s) (s':=s') (m:=m) (m':=m') (b:=b) (n:=n) hps hp hb (by rw[rowss_app];simp only[AV.rowss,Nat.add_zero];exact hn) h1 h2;subst hh hh';simp only[lays_app,lays,List.append_nil,List.append_assoc]at r⊢;exact r
def smu(b:Nat):List (Option Nat):=(List.range' 0 b).map some++[none]
theorem smu_lo{b i:Nat}(hi:i<b):(smu b)[i]?=some (some i):=by
  unfold smu;rw[List.getElem?_append_left (by simpa using hi),List.getElem?_map,List.getElem?_range' (by omega)];simp
theorem dist_none:∀{l:List (Option Nat)},dist l=true→dist (l++[none])=true
  |[],_=>rfl
  | none::l,h=>by simp only[List.cons_append,dist]at h⊢;exact dist_none h
  | some j::l,h=>by
    simp only[List.cons_append,dist,Bool.and_eq_true,List.all_append,List.all_cons,List.all_nil,Bool.and_true]at h⊢;exact⟨h.1,dist_none h.2⟩
theorem Can.start{ps:List AV}{s s' m m':LEnv}{h:List AObj}{b:Nat}(hps:AV.pls ps=true)(hb:AV.rowss ps=b)(hh:h=(lays ps 0).2)(h1:slotsC (smu b) s s')(h2:slotsC (smu b) m m'):
    Can 0 ⟨s,m,h⟩ ⟨s',m',(lays ps 0).2++[.row w [] true]⟩:=by
  subst hb hh;refine Can.renum (smu (AV.rowss ps)) (dist_none (dist_map List.nodup_range')) (objsC_app (objsC_lays hps (fun i hi=>by rw[Nat.zero_add];exact smu_lo hi) fun i o hi=>by rw[Nat.zero_add];exact hi) ⟨.ph,trivial⟩) h1 h2
end
end Go.Ab
namespace Go.Ab
open Go
section
variable {μ μ':List (Option Nat)} {h h':List AObj}
theorem VR2s.hd{a b:AV}{as bs:List AV}(x:VR2s μ (a::as) (b::bs)):VR2 μ a b∧VR2s μ as bs:=
  ⟨x.2 (a,b) (by simp),by have:=x.1;simpa using this,fun p hp=>x.2 p (by simp only[List.zip_cons_cons];exact List.mem_cons_of_mem _ hp)⟩
theorem VR2.aggs{v:AV}{ds:List AV}(x:VR2 μ v (.agg ds)):∃cs,v=.agg cs∧VR2s μ cs ds:=by
  cases x with
  | tree ht=>exact⟨ds,rfl,VR2s.trees (by simpa only [AV.tree]using ht)⟩
  | agg hl hc=>exact⟨_,rfl,hl,hc⟩
theorem VR2.tups{v:AV}{ds:List AV}(x:VR2 μ v (.tup ds)):∃cs,v=.tup cs∧VR2s μ cs ds:=by
  cases x with
  | tree ht=>exact⟨ds,rfl,VR2s.trees (by simpa only [AV.tree]using ht)⟩
  | tup hl hc=>exact⟨_,rfl,hl,hc⟩
theorem VR2.slc0{v:AV}{w a b n:Nat}(h:μ'[b]?=μ[a]?)(x:VR2 μ v (.slice w a 0 n false)):VR2 μ' v (.slice w b 0 n false):=by
  cases x with
  | tree ht=>simp[AV.tree]at ht
  | slice hm=>exact .slice (h.trans hm)
  | ph hm=>exact .ph (h.trans hm)
  | ph2 hm=>exact .ph2 (h.trans hm)
mutual
theorem VR2.move:∀(t:AV)(a b:Nat)(v:AV),t.pl=true→(∀i,i<t.rows→μ'[b+i]?=μ[a+i]?)→VR2 μ v (lay t a).1→VR2 μ' v (lay t b).1
  |.lst w xs c,a,b,v,hp,hm,hv=>by
    simp only[lay]at hv⊢;exact hv.slc0 (by have:=hm 0 (by simp only[AV.rows];omega);simpa using this)
  |.agg xs,a,b,v,hp,hm,hv=>by
    simp only[lay]at hv⊢;obtain⟨cs,rfl,hc⟩:=hv.aggs;have:=VR2.moves xs a b cs hp hm hc;exact .agg this.1 this.2
  |.tup xs,a,b,v,hp,hm,hv=>by
    simp only[lay]at hv⊢;obtain⟨cs,rfl,hc⟩:=hv.tups;have:=VR2.moves xs a b cs hp hm hc;exact .tup this.1 this.2
  |.bool _,_,_,_,_,_,hv |.int _ _,_,_,_,_,_,hv |.str _,_,_,_,_,_,hv |.nilp,_,_,_,_,_,hv |.nils,_,_,_,_,_,hv |.nilm,_,_,_,_,_,hv |.nilf,_,_,_,_,_,hv |.nili,_,_,_,_,_,hv=>by
    simp only[lay]at hv⊢;cases hv;exact .tree (by rfl)
  |.any,_,_,_,hp,_,_ |.ptr _ _ _,_,_,_,hp,_,_ |.slice _ _ _ _ _,_,_,_,hp,_,_ |.map _,_,_,_,hp,_,_ |.ept _ _,_,_,_,hp,_,_ |.fn _ _,_,_,_,hp,_,_ |.iface _ _,_,_,_,hp,_,_=>by cases hp
theorem VR2.moves:∀(xs:List AV)(a b:Nat)(vs:List AV),AV.pls xs=true→(∀i,i<AV.rowss xs→μ'[b+i]?=μ[a+i]?)→VR2s μ vs (lays xs a).1→VR2s μ' vs (lays xs b).1
  |[],a,b,vs,_,_,hv=>by
    have:vs=[]:=List.eq_nil_of_length_eq_zero hv.1;subst this;exact VR2s.nil
  | x::xs,a,b,vs,hp,hm,hv=>by
    simp only[AV.pls,Bool.and_eq_true]at hp;simp only[AV.rowss]at hm;simp only[lays,lay_len]at hv⊢;cases vs with
    | nil=>have:=hv.1;simp at this
    | cons v vs=>
      obtain⟨h1,h2⟩:=hv.hd;refine .cons (VR2.move x a b v hp.1 (fun i hi=>hm i (by omega)) h1) (VR2.moves xs _ _ vs hp.2 (fun i hi=> ?_) h2);rw[show b+x.rows+i=b+(x.rows+i) by omega,show a+x.rows+i=a+(x.rows+i) by omega];exact hm _ (by omega)
end
mutual
theorem OR2.move:∀(t:AV)(a b:Nat),t.pl=true→(∀i,i<t.rows→μ'[b+i]?=μ[a+i]?)→∀(i:Nat)(j:Option Nat)(o o':AObj),(lay t a).2[i]?=some o→(lay t b).2[i]?=some o'→OR2 μ h j o→OR2 μ' h j o'
  |.lst w xs c,a,b,hp,hm,i,j,o,o',h1,h2,ho=>by
    simp only[lay]at h1 h2;simp only[AV.rows]at hm;have hm':∀i,i<AV.rowss xs→μ'[b+1+i]?=μ[a+1+i]?:=fun i hi=>by
      rw[show b+1+i=b+(i+1) by omega,show a+1+i=a+(i+1) by omega];exact hm _ (by omega)
    cases i with
    | zero=>
      simp only[List.getElem?_cons_zero,Option.some.injEq]at h1 h2;subst h1 h2;generalize he:(lays xs (a+1)).1=el at ho;cases ho with
      | ph=>
        have:xs=[]:=List.eq_nil_of_length_eq_zero (by rw[←lays_length xs (a+1),he];rfl);subst this;exact .ph
      | row hr hv=>
        rw[←he]at hv;exact .row hr (VR2.moves xs _ _ _ hp hm' hv)
    | succ i=>
      simp only[List.getElem?_cons_succ]at h1 h2;exact OR2.moves xs (a+1) (b+1) hp hm' i j o o' h1 h2 ho
  |.agg xs,a,b,hp,hm,i,j,o,o',h1,h2,ho=>by
    simp only[lay]at h1 h2;exact OR2.moves xs a b hp hm i j o o' h1 h2 ho
  |.tup xs,a,b,hp,hm,i,j,o,o',h1,h2,ho=>by
    simp only[lay]at h1 h2;exact OR2.moves xs a b hp hm i j o o' h1 h2 ho
  |.bool _,_,_,_,_,_,_,_,_,h1,_,_ |.int _ _,_,_,_,_,_,_,_,_,h1,_,_ |.str _,_,_,_,_,_,_,_,_,h1,_,_ |.nilp,_,_,_,_,_,_,_,_,h1,_,_ |.nils,_,_,_,_,_,_,_,_,h1,_,_ |.nilm,_,_,_,_,_,_,_,_,h1,_,_ |.nilf,_,_,_,_,_,_,_,_,h1,_,_ |.nili,_,_,_,_,_,_,_,_,h1,_,_=>by
    simp[lay]at h1
  |.any,_,_,hp,_,_,_,_,_,_,_,_ |.ptr _ _ _,_,_,hp,_,_,_,_,_,_,_,_ |.slice _ _ _ _ _,_,_,hp,_,_,_,_,_,_,_,_ |.map _,_,_,hp,_,_,_,_,_,_,_,_ |.ept _ _,_,_,hp,_,_,_,_,_,_,_,_ |.fn _ _,_,_,hp,_,_,_,_,_,_,_,_ |.iface _ _,_,_,hp,_,_,_,_,_,_,_,_=>by cases hp
theorem OR2.moves:∀(xs:List AV)(a b:Nat),AV.pls xs=true→(∀i,i<AV.rowss xs→μ'[b+i]?=μ[a+i]?)→∀(i:Nat)(j:Option Nat)(o o':AObj),(lays xs a).2[i]?=some o→(lays xs b).2[i]?=some o'→OR2 μ h j o→OR2 μ' h j o'
  |[],_,_,_,_,_,_,_,_,h1,_,_=>by simp[lays]at h1
  | x::xs,a,b,hp,hm,i,j,o,o',h1,h2,ho=>by
    simp only[AV.pls,Bool.and_eq_true]at hp;simp only[AV.rowss]at hm;simp only[lays,lay_len]at h1 h2;rcases Nat.lt_or_ge i x.rows with q | q
    · rw[List.getElem?_append_left (by rw[lay_len];exact q)]at h1 h2;exact OR2.move x a b hp.1 (fun i hi=>hm i (by omega)) i j o o' h1 h2 ho
    · rw[List.getElem?_append_right (by rw[lay_len];exact q),lay_len]at h1 h2;refine OR2.moves xs (a+x.rows) (b+x.rows) hp.2 (fun i hi=> ?_) (i-x.rows) j o o' h1 h2 ho;rw[show b+x.rows+i=b+(x.rows+i) by omega,show a+x.rows+i=a+(x.rows+i) by omega];exact hm _ (by omega)
end
theorem objsC_move{r:List (Option Nat)}{t:AV}{a b:Nat}(hp:t.pl=true)(hm:∀i,i<t.rows→μ'[b+i]?=μ[a+i]?)(ho:objsC μ h r (lay t a).2):objsC μ' h r (lay t b).2:=by
  have hl:=objsC_len ho;rw[lay_len]at hl;refine objsC_of (by rw[hl,lay_len]) fun i j o' h1 h2=> ?_;have hi:i<(lay t a).2.length:=by have:=(List.getElem?_eq_some_iff.1 h2).1;rw[lay_len]at this⊢;exact this
  obtain⟨j',hj,hor⟩:=objsC_at ho i _ (List.getElem?_eq_getElem hi);rw[h1]at hj;cases hj;exact OR2.move t a b hp hm i j _ o' (List.getElem?_eq_getElem hi) h2 hor
theorem objsC_moves{r:List (Option Nat)}{xs:List AV}{a b:Nat}(hp:AV.pls xs=true)(hm:∀i,i<AV.rowss xs→μ'[b+i]?=μ[a+i]?)(ho:objsC μ h r (lays xs a).2):objsC μ' h r (lays xs b).2:=by
  have hl:=objsC_len ho;rw[lays_len]at hl;refine objsC_of (by rw[hl,lays_len]) fun i j o' h1 h2=> ?_;have hi:i<(lays xs a).2.length:=by have:=(List.getElem?_eq_some_iff.1 h2).1;rw[lays_len]at this⊢;exact this
  obtain⟨j',hj,hor⟩:=objsC_at ho i _ (List.getElem?_eq_getElem hi);rw[h1]at hj;cases hj;exact OR2.moves xs a b hp hm i j _ o' (List.getElem?_eq_getElem hi) h2 hor
theorem objsC_heap:∀{r:List (Option Nat)}{os:List AObj},(∀j,some j∈r→h'[j]?=h[j]?)→objsC μ h r os→objsC μ h' r os
  |[],[],_,k=>k
  | j::r,o::os,hh,k=>by
    refine⟨?_,objsC_heap (fun i hi=>hh i (List.mem_cons_of_mem _ hi)) k.2⟩;have k1:=k.1;cases k1 with
    | dead=>exact .dead
    | ph=>exact .ph
    | row ho he=>exact .row ((hh _ (by simp)).trans ho) he
    | map ho hk hv=>exact .map ((hh _ (by simp)).trans ho) hk hv
  |[],_::_,_,k=>k.elim
  | _::_,[],_,k=>k.elim
theorem dist_app:∀{a b:List (Option Nat)},dist a=true→dist b=true→(∀j,some j∈a→some j∉b)→dist (a++b)=true
  |[],b,_,hb,_=>hb
  | none::a,b,ha,hb,hn=>by
    simp only[List.cons_append,dist]at ha⊢;exact dist_app ha hb fun j hj=>hn j (List.mem_cons_of_mem _ hj)
  | some j::a,b,ha,hb,hn=>by
    simp only[List.cons_append,dist,Bool.and_eq_true,List.all_eq_true]at ha⊢;refine⟨fun x hx=> ?_,dist_app ha.2 hb fun j hj=>hn j (List.mem_cons_of_mem _ hj)⟩;rcases List.mem_append.1 hx with hx | hx
    · exact ha.1 x hx
    · cases x with
      | none=>rfl
      | some k=>
        have:j≠k:=by rintro rfl;exact hn j (by simp) hx
        have hb:Nat.beq j k=false:=by rw[←Bool.not_eq_true];intro q;exact this (Nat.eq_of_beq_eq_true q)
        simp only[hb];rfl
theorem dist_one{k:Nat}{b:List (Option Nat)}(hb:dist b=true)(hn:some k∉b):dist (some k::b)=true:=by
  have:=dist_app (a:=[some k]) (b:=b) rfl hb (fun j hj=>by simp at hj;subst hj;exact hn);exact this
end
theorem VR2s.app{μ:List (Option Nat)}:∀{as bs cs ds:List AV},VR2s μ as bs→VR2s μ cs ds→VR2s μ (as++cs) (bs++ds)
  |[],[],_,_,_,k=>k
  | a::as,b::bs,_,_,j,k=>VR2s.cons j.hd.1 (VR2s.app j.hd.2 k)
  |[],_::_,_,_,j,_=>by have:=j.1;simp at this
  | _::_,[],_,_,j,_=>by have:=j.1;simp at this
structure OwnT(S:List (Option Nat))(h:List AObj)(v t:AV):Prop where
  p:t.pl=true
  d:dist S=true
  o:objsC S h S (lay t 0).2
  v:VR2 S v (lay t 0).1
structure OwnTs(S:List (Option Nat))(h:List AObj)(vs ts:List AV):Prop where
  p:AV.pls ts=true
  d:dist S=true
  o:objsC S h S (lays ts 0).2
  v:VR2s S vs (lays ts 0).1
theorem pls_app:∀{as bs:List AV},AV.pls (as++bs)=(AV.pls as&&AV.pls bs)
  |[],_=>by simp[AV.pls]
  | a::as,bs=>by simp[AV.pls,pls_app (as:=as),Bool.and_assoc]
section
variable {S S':List (Option Nat)} {h h':List AObj} {v t:AV} {vs ts vs' ts':List AV}
theorem OwnT.len(x:OwnT S h v t):S.length=t.rows:=by rw[objsC_len x.o,lay_len]
theorem OwnTs.len(x:OwnTs S h vs ts):S.length=AV.rowss ts:=by rw[objsC_len x.o,lays_len]
theorem OwnTs.cnt(x:OwnTs S h vs ts):vs.length=ts.length:=by rw[x.v.1,lays_length]
theorem OwnT.heap(x:OwnT S h v t)(hh:∀j,some j∈S→h'[j]?=h[j]?):OwnT S h' v t:=⟨x.p,x.d,objsC_heap hh x.o,x.v⟩
theorem OwnTs.heap(x:OwnTs S h vs ts)(hh:∀j,some j∈S→h'[j]?=h[j]?):OwnTs S h' vs ts:=⟨x.p,x.d,objsC_heap hh x.o,x.v⟩
theorem OwnTs.nil:OwnTs [] h [] []:=⟨rfl,rfl,trivial,VR2s.nil⟩
theorem OwnTs.app(x:OwnTs S h vs ts)(y:OwnTs S' h vs' ts')(hn:∀j,some j∈S→some j∉S'):OwnTs (S++S') h (vs++vs') (ts++ts'):=by
  have l1:=x.len;have l2:=y.len;have m1:∀i,i<AV.rowss ts→(S++S')[0+i]?=S[0+i]?:=fun i hi=>List.getElem?_append_left (by omega);have m2:∀i,i<AV.rowss ts'→(S++S')[0+AV.rowss ts+i]?=S'[0+i]?:=fun i hi=>by
    rw[List.getElem?_append_right (by omega)];congr 1;omega
  refine⟨by rw[pls_app,x.p,y.p];rfl,dist_app x.d y.d hn, ?_, ?_⟩
  · rw[lays_app];exact objsC_app (objsC_moves x.p m1 x.o) (objsC_moves y.p m2 y.o)
  · rw[lays_app];exact VR2s.app (VR2.moves _ _ _ _ x.p m1 x.v) (VR2.moves _ _ _ _ y.p m2 y.v)
theorem OwnT.one(x:OwnT S h v t):OwnTs S h [v] [t]:=by
  refine⟨by simp[AV.pls,x.p],x.d, ?_, ?_⟩
  · simp only[lays,List.append_nil];exact x.o
  · simp only[lays];exact VR2s.cons x.v VR2s.nil
theorem OwnTs.snoc(x:OwnTs S h vs ts)(y:OwnT S' h v t)(hn:∀j,some j∈S→some j∉S'):OwnTs (S++S') h (vs++[v]) (ts++[t]):=x.app y.one hn
theorem OwnTs.scal(x:OwnTs S h vs ts){a:AV}(ha:∀n,lay a n=(a,[]))(hp:a.pl=true)(ht:a.tree=true):OwnTs S h (vs++[a]) (ts++[a]):=by
  have y:OwnTs [] h [a] [a]:=⟨by simp[AV.pls,hp],rfl,by simp only[lays,ha];trivial,by simp only[lays,ha];exact VR2s.cons (.tree ht) VR2s.nil⟩;have:=x.app y (fun j hj=>by simp);rwa[List.append_nil]at this
theorem OwnTs.agg(x:OwnTs S h vs ts):OwnT S h (.agg vs) (.agg ts):=⟨by simp only[AV.pl];exact x.p,x.d,by simp only[lay];exact x.o,by simp only[lay];exact .agg x.v.1 x.v.2⟩
theorem OwnTs.tup(x:OwnTs S h vs ts):OwnT S h (.tup vs) (.tup ts):=⟨by simp only[AV.pl];exact x.p,x.d,by simp only[lay];exact x.o,by simp only[lay];exact .tup x.v.1 x.v.2⟩
theorem OwnT.aggs{w:AV}(x:OwnT S h w (.agg ts)):∃vs,w=.agg vs∧OwnTs S h vs ts:=by
  have hv:=x.v;simp only[lay]at hv;obtain⟨cs,rfl,hc⟩:=hv.aggs;exact⟨cs,rfl,by have:=x.p;simp only[AV.pl]at this;exact this,x.d,by have:=x.o;simp only[lay]at this;exact this,hc⟩
theorem OwnTs.row{k w:Nat}(x:OwnTs S h vs ts)(hr:h[k]?=some (.row w vs true))(hn:some k∉S):OwnT (some k::S) h (.slice w k 0 ts.length false) (.lst w ts false):=by
  have m:∀i,i<AV.rowss ts→(some k::S)[0+1+i]?=S[0+i]?:=fun i hi=>by
    rw[show 0+1+i=i+1 by omega,List.getElem?_cons_succ,Nat.zero_add]
  refine⟨by simp only[AV.pl];exact x.p,dist_one x.d hn, ?_, ?_⟩
  · simp only[lay];exact⟨.row hr (VR2.moves _ _ _ _ x.p m x.v),objsC_moves x.p m x.o⟩
  · simp only[lay];exact .slice (by simp)
theorem OwnT.nils{w:Nat}{c:Bool}:OwnT [none] h .nils (.lst w [] false):=by
  refine⟨rfl,rfl, ?_, ?_⟩
  · simp only[lay,lays];exact⟨.ph,trivial⟩
  · simp only[lay,lays,List.length_nil];exact .ph rfl
theorem OwnT.new{pre post:List AObj}{n:Nat}(hp:t.pl=true)(hn:pre.length=n)(hh:h=pre++((lay t n).2++post)):OwnT ((List.range' n t.rows).map some) h (lay t n).1 t:=by
  subst hn;have hm:∀i,i<t.rows→((List.range' pre.length t.rows).map some)[0+i]?=some (some (pre.length+i)):=fun i hi=>by
    rw[List.getElem?_map,List.getElem?_range' (by omega)];simp
  refine⟨hp,dist_map (List.nodup_range'),objsC_of (by simp[lay_len]) fun i j o h1 h2=> ?_,lay_VR2 t _ _ hp hm⟩;have hi:i<t.rows:=by have:=(List.getElem?_eq_some_iff.1 h2).1;rw[lay_len]at this;exact this
  have:=hm i hi;rw[Nat.zero_add]at this;rw[this]at h1;cases h1;refine lay_OR2 t pre.length 0 hp hm (fun i o hi=> ?_) i o h2;rw[hh,List.getElem?_append_right (by omega),Nat.add_sub_cancel_left,List.getElem?_append_left (List.getElem?_eq_some_iff.1 hi).1];exact hi
theorem OwnT.fin{ws:List AV}(x:OwnT S h (packed ws) t):FinF (some ws) h t:=⟨S,x.d,x.o,x.v⟩
end
theorem lt_some'{α:Type}{xs:List α}{i:Nat}{x:α}(h:xs[i]?=some x):i<xs.length:=(List.getElem?_eq_some_iff.1 h).1
theorem own_push{S S1:List (Option Nat)}{g mid:List AObj}{k w:Nat}{vs ts:List AV}{X t:AV}(hO:OwnTs S g vs ts)(hS:∀j,some j∈S→j<g.length)(hk:g[k]?=some (.row w vs true))(hn:some k∉S)
    (hX:OwnT S1 (g++mid) X t) (hS1:∀j,some j∈S1→g.length≤j∧j<g.length+mid.length):
    ∃G,G=(((g++mid)++[AObj.row w [X] true]).set k .dead)++[AObj.row w (vs++[X]) true]∧OwnTs (S++S1) G (vs++[X]) (ts++[t])∧(∀j,some j∈S++S1→j<G.length)∧G[g.length+mid.length+1]?=some (.row w (vs++[X]) true)∧some (g.length+mid.length+1)∉S++S1∧
      (∀j,j<g.length→j≠k→G[j]?=g[j]?)∧g.length≤G.length∧∀j,some j∈S++S1→some j∈S∨g.length≤j:=by
  have lk:=lt_some' hk;have a1:∀j,j<g.length+mid.length→j≠k→((((g++mid)++[AObj.row w [X] true]).set k .dead)++[AObj.row w (vs++[X]) true])[j]?=(g++mid)[j]?:=fun j hj hne=>by
    rw[List.getElem?_append_left (by simp;omega),List.getElem?_set_ne (Ne.symm hne),List.getElem?_append_left (by simp;omega)]
  refine⟨_,rfl, ?_,fun j hj=> ?_, ?_,fun q=> ?_,fun j hj hne=> ?_,by simp;omega,fun j hj=> ?_⟩
  · refine(hO.heap fun j hj=> ?_).snoc (hX.heap fun j hj=> ?_) fun j hj hj2=> ?_
    · have:=hS j hj;rw[a1 j (by omega) (by rintro rfl;exact hn hj),List.getElem?_append_left this]
    · have:=hS1 j hj;exact a1 j (by omega) (by omega)
    · have:=hS j hj;have:=hS1 j hj2;omega
  · rcases List.mem_append.1 hj with q | q
    · have:=hS j q;simp;omega
    · have:=hS1 j q;simp;omega
  · rw[List.getElem?_append_right (by simp;omega)];simp only[List.length_set,List.length_append,List.length_cons,List.length_nil];rw[show g.length+mid.length+1-(g.length+mid.length+(0+1))=0 by omega];rfl
  · rcases List.mem_append.1 q with q | q
    · have:=hS _ q;omega
    · have:=hS1 _ q;omega
  · rw[a1 j (by omega) hne,List.getElem?_append_left hj]
  · rcases List.mem_append.1 hj with q | q
    · exact .inl q
    · exact .inr (hS1 j q).1
structure IFs(S0:List (Option Nat))(cs0 ts0:List AV)(w:Nat)(g:List AObj)(si:Nat)(S:List (Option Nat))(vs ts:List AV):Prop where
  c:OwnTs S0 g cs0 ts0
  c0:∀j,some j∈S0→j<g.length
  o:OwnTs S g vs ts
  o0:∀j,some j∈S→j<g.length
  r:g[si]?=some (.row w vs true)
  n1:some si∉S
  n2:some si∉S0
  n3:∀j,some j∈S0→some j∉S
section
variable {S0 S S1:List (Option Nat)} {cs0 ts0 vs ts:List AV} {w si:Nat} {g mid:List AObj} {X t:AV}
theorem IFs.start(hc:OwnTs S0 g cs0 ts0)(h0:∀j,some j∈S0→j<g.length):IFs S0 cs0 ts0 w (g++[.row w [] true]) g.length [] [] []:=
  ⟨hc.heap fun j hj=>List.getElem?_append_left (h0 j hj),fun j hj=>by have:=h0 j hj;simp;omega,OwnTs.nil,fun j hj=>by simp at hj,by simp,by simp,fun q=>by have:=h0 _ q;omega,fun j _ hj=>by simp at hj⟩
theorem IFs.push(h:IFs S0 cs0 ts0 w g si S vs ts)(hX:OwnT S1 (g++mid) X t)(hS1:∀j,some j∈S1→g.length≤j∧j<g.length+mid.length):
    IFs S0 cs0 ts0 w ((((g++mid)++[AObj.row w [X] true]).set si .dead)++[AObj.row w (vs++[X]) true]) (g.length+mid.length+1) (S++S1) (vs++[X]) (ts++[t]):=by
  obtain⟨G,hG,q1,q2,q3,q4,q5,q6,q7⟩:=own_push h.o h.o0 h.r h.n1 hX hS1;rw[←hG];refine⟨h.c.heap fun j hj=>q5 j (h.c0 j hj) (by rintro rfl;exact h.n2 hj),fun j hj=>by have:=h.c0 j hj;omega,q1,q2,q3,q4,fun q=>by have:=h.c0 _ q;omega,fun j hj hj2=> ?_⟩;rcases q7 j hj2 with q | q
  · exact h.n3 j hj q
  · have:=h.c0 j hj;omega
theorem IFs.done{n:Nat}(h:IFs S0 cs0 ts0 w g si S vs ts)(hn:ts.length=n):OwnTs (S0++some si::S) g (cs0++[.slice w si 0 n false]) (ts0++[.lst w ts false])∧∀j,some j∈S0++some si::S→j<g.length:=by
  subst hn;refine⟨h.c.snoc (h.o.row h.r h.n1) fun j hj hj2=> ?_,fun j hj=> ?_⟩
  · rcases List.mem_cons.1 hj2 with q | q
    · cases q;exact h.n2 hj
    · exact h.n3 j hj q
  · rcases List.mem_append.1 hj with q | q
    · exact h.c0 j q
    · rcases List.mem_cons.1 q with q | q
      · cases q;exact lt_some' h.r
      · exact h.o0 j q
end
mutual
theorem own_cv{S:List (Option Nat)}{h:List AObj}:∀(t:AV)(a:Nat)(v:AV),t.pl=true→t.cn=true→VR2 S v (lay t a).1→(∀i o,(lay t a).2[i]?=some o→∃j,S[a+i]?=some j∧OR2 S h j o)→Cv h v t
  |.lst w xs c,a,v,hp,hc,hv,hh=>by
    simp only[AV.cn,Bool.and_eq_true,decide_eq_true_eq,Bool.not_eq_true']at hc;obtain⟨⟨h0,rfl⟩,hc⟩:=hc;simp only[lay]at hv hh;obtain⟨j,hj,ho⟩:=hh 0 _ rfl;rw[Nat.add_zero]at hj;have l:=lays_length xs (a+1);generalize hnn:xs.length=n at hv;cases hv with
    | tree ht=>simp[AV.tree]at ht
    | slice hm=>
      rw[hm]at hj;cases hj;generalize hel:(lays xs (a+1)).1=el at ho;cases ho with
      | row hr he=>
        have le:=he.1;rw[←hel,l]at le;rw[←hel]at he;refine .slc hr (by omega) h0 (by rw[List.drop_zero,←hnn,←le,List.take_length]) ?_;rw[List.drop_zero,←hnn,←le,List.take_length];exact own_cvs xs (a+1) _ hp hc he fun i o hi=>by
          rw[show a+1+i=a+(i+1) by omega];exact hh (i+1) o (by simpa using hi)
    | ph hm=>
      have:xs=[]:=List.eq_nil_of_length_eq_zero hnn;subst this;exact .nils
    | ph2 hm=>
      have:xs=[]:=List.eq_nil_of_length_eq_zero hnn;subst this;exact .clip
  |.agg xs,a,v,hp,hc,hv,hh=>by
    simp only[lay]at hv hh;obtain⟨cs,rfl,hcs⟩:=hv.aggs;exact .agg (by rw[hcs.1,lays_length]) (own_cvs xs a cs hp hc hcs hh)
  |.tup xs,a,v,hp,hc,hv,hh=>by
    simp only[lay]at hv hh;obtain⟨cs,rfl,hcs⟩:=hv.tups;exact .tup (by rw[hcs.1,lays_length]) (own_cvs xs a cs hp hc hcs hh)
  |.bool _,_,_,_,_,hv,_ |.int _ _,_,_,_,_,hv,_ |.str _,_,_,_,_,hv,_ |.nilp,_,_,_,_,hv,_ |.nils,_,_,_,_,hv,_ |.nilm,_,_,_,_,hv,_ |.nilf,_,_,_,_,hv,_ |.nili,_,_,_,_,hv,_=>by
    simp only[lay]at hv;cases hv;exact .refl rfl
  |.any,_,_,hp,_,_,_ |.ptr _ _ _,_,_,hp,_,_,_ |.slice _ _ _ _ _,_,_,hp,_,_,_ |.map _,_,_,hp,_,_,_ |.ept _ _,_,_,hp,_,_,_ |.fn _ _,_,_,hp,_,_,_ |.iface _ _,_,_,hp,_,_,_=>by cases hp
theorem own_cvs{S:List (Option Nat)}{h:List AObj}:∀(xs:List AV)(a:Nat)(vs:List AV),AV.pls xs=true→AV.cns xs=true→VR2s S vs (lays xs a).1→(∀i o,(lays xs a).2[i]?=some o→∃j,S[a+i]?=some j∧OR2 S h j o)→∀p∈vs.zip xs,Cv h p.1 p.2
  |[],_,_,_,_,_,_=>fun p hp=>by simp at hp
  | x::xs,a,vs,hp,hc,hv,hh=>by
    simp only[AV.pls,Bool.and_eq_true]at hp;simp only[AV.cns,Bool.and_eq_true]at hc;simp only[lays,lay_len]at hv hh;cases vs with
    | nil=>exact fun p hp=>by simp at hp
    | cons v vs=>
      obtain⟨h1,h2⟩:=hv.hd;refine zip_cons (own_cv x a v hp.1 hc.1 h1 fun i o hi=>hh i o (by rw[List.getElem?_append_left (List.getElem?_eq_some_iff.1 hi).1];exact hi)) (own_cvs xs _ vs hp.2 hc.2 h2 fun i o hi=> ?_);rw[show a+x.rows+i=a+(x.rows+i) by omega];exact hh _ o (by rw[List.getElem?_append_right (by rw[lay_len];omega),lay_len,Nat.add_sub_cancel_left];exact hi)
end
theorem OwnT.cv{S:List (Option Nat)}{h:List AObj}{v t:AV}(x:OwnT S h v t)(hc:t.cn=true):Cv h v t:=
  own_cv t 0 v x.p hc x.v fun i o hi=>by
    obtain⟨j,q1,q2⟩:=objsC_at x.o i o hi;exact⟨j,by rw[Nat.zero_add];exact q1,q2⟩
end Go.Ab
namespace Go.Ab
attribute [go_sem] Bool.not_true Bool.not_false Bool.false_eq_true List.length_cons List.length_nil List.getElem?_cons_zero List.getElem?_cons_succ decide_true eq_self List.length_map
attribute [go_sem] reduceIte Nat.reduceAdd Nat.reduceEqDiff
end Go.Ab
namespace Go.Ab
open Go
theorem objsC_split{μ:List (Option Nat)}{h:List AObj}:∀{r:List (Option Nat)}{a b:List AObj},objsC μ h r (a++b)→objsC μ h (r.take a.length) a∧objsC μ h (r.drop a.length) b
  | r,[],b,k=>⟨by simp;trivial,by simpa using k⟩
  |[],o::a,b,k=>k.elim
  | j::r,o::a,b,k=>by
    have:=objsC_split (r:=r) (a:=a) (b:=b) k.2;exact⟨⟨k.1,this.1⟩,this.2⟩
theorem dist_take:∀{l:List (Option Nat)}{n:Nat},dist l=true→dist (l.take n)=true
  |[],_,_=>by simp[dist]
  | _::_,0,_=>by simp[dist]
  | none::l,n+1,h=>by
    simp only[List.take_succ_cons,dist]at h⊢;exact dist_take h
  | some j::l,n+1,h=>by
    simp only[List.take_succ_cons,dist,Bool.and_eq_true,List.all_eq_true]at h⊢;exact⟨fun x hx=>h.1 x (List.mem_of_mem_take hx),dist_take h.2⟩
theorem dist_drop:∀{l:List (Option Nat)}{n:Nat},dist l=true→dist (l.drop n)=true
  |[],_,_=>by simp[dist]
  | _::_,0,h=>by simpa using h
  | none::l,n+1,h=>by
    simp only[List.drop_succ_cons,dist]at h⊢;exact dist_drop h
  | some j::l,n+1,h=>by
    simp only[List.drop_succ_cons,dist,Bool.and_eq_true]at h⊢;exact dist_drop h.2
section
variable {S:List (Option Nat)} {h h':List AObj} {v t:AV} {vs ts:List AV}
theorem OwnTs.uncons(x:OwnTs S h (v::vs) (t::ts)):∃S1 S2,S=S1++S2∧OwnT S1 h v t∧OwnTs S2 h vs ts:=by
  have l:=x.len;simp only[AV.rowss]at l;have hp:=x.p;simp only[AV.pls,Bool.and_eq_true]at hp;have ho:=x.o;simp only[lays]at ho;obtain⟨o1,o2⟩:=objsC_split ho;rw[lay_len]at o1 o2;rw[Nat.zero_add]at o2;have hv:=x.v;simp only[lays]at hv;obtain⟨v1,v2⟩:=hv.hd;rw[lay_len,Nat.zero_add]at v2;have m1:∀i,i<t.rows→(S.take t.rows)[0+i]?=S[0+i]?:=fun i hi=>by
    rw[Nat.zero_add,List.getElem?_take,if_pos hi]
  have m2:∀i,i<AV.rowss ts→(S.drop t.rows)[0+i]?=S[t.rows+i]?:=fun i hi=>by
    rw[Nat.zero_add,List.getElem?_drop]
  refine⟨S.take t.rows,S.drop t.rows,(List.take_append_drop _ _).symm,⟨hp.1,dist_take x.d,objsC_move hp.1 m1 o1,VR2.move _ _ _ _ hp.1 m1 v1⟩,⟨hp.2,dist_drop x.d,objsC_moves hp.2 m2 o2,VR2.moves _ _ _ _ hp.2 m2 v2⟩⟩
theorem OwnTs.at:∀{ts vs:List AV}{S:List (Option Nat)}{i:Nat}{t:AV},OwnTs S h vs ts→ts[i]?=some t→∃v S1,vs[i]?=some v∧OwnT S1 h v t∧∀j,j∈S1→j∈S
  |[],_,_,_,_,_,hi=>by simp at hi
  | t0::ts,vs,S,i,t,x,hi=>by
    have:=x.cnt;cases vs with
    | nil=>simp at this
    | cons v vs=>
      obtain⟨S1,S2,rfl,y1,y2⟩:=x.uncons;cases i with
      | zero=>simp only[List.getElem?_cons_zero,Option.some.injEq]at hi;subst hi;exact⟨v,S1,rfl,y1,fun j hj=>List.mem_append_left _ hj⟩
      | succ i=>
        simp only[List.getElem?_cons_succ]at hi;obtain⟨v',S',q1,q2,q3⟩:=OwnTs.at y2 hi;exact⟨v',S',q1,q2,fun j hj=>List.mem_append_right _ (q3 j hj)⟩
theorem OwnT.lst{w:Nat}{xs:List AV}{c:Bool}(x:OwnT S h v (.lst w xs c))(hn:none∉S):∃id vs S',S=some id::S'∧v=.slice w id 0 xs.length false∧h[id]?=some (.row w vs true)∧OwnTs S' h vs xs:=by
  have hp:=x.p;simp only[AV.pl]at hp;have ho:=x.o;have hv:=x.v;have l:=x.len;simp only[AV.rows]at l;simp only[lay]at ho hv;cases S with
  | nil=>(simp at l;try omega)
  | cons j S'=>
    cases j with
    | none=>exact absurd (List.mem_cons_self) hn
    | some id=>
      have m:∀i,i<AV.rowss xs→S'[0+i]?=(some id::S')[0+1+i]?:=fun i hi=>by
        rw[show 0+1+i=i+1 by omega,List.getElem?_cons_succ,Nat.zero_add]
      obtain⟨o1,o2⟩:=ho;have l2:=lays_length xs (0+1);have hd:=x.d;simp only[dist,Bool.and_eq_true]at hd;generalize hel:(lays xs (0+1)).1=el at o1;cases o1 with
      | row hr he=>
        rename_i el0;rw[←hel]at he;refine⟨id,el0,S',rfl, ?_,hr,hp,hd.2,objsC_moves hp m o2,VR2.moves _ _ _ _ hp m he⟩;generalize xs.length=n at hv;cases hv with
        | tree ht=>simp[AV.tree]at ht
        | slice hm=>simp at hm;rw[hm]
        | ph hm=>simp at hm
        | ph2 hm=>simp at hm
theorem VR2.scal{μ:List (Option Nat)}{a:AV}(x:VR2 μ v a)(ha:a.tree=true)(hn:∀w xs c,a≠.lst w xs c)(h1:∀cs,a≠.agg cs)(h2:∀cs,a≠.tup cs)(h3:∀g cs,a≠.fn g cs):v=a:=by
  cases x with
  | tree _=>rfl
  | ptr _=>simp[AV.tree]at ha
  | slice _=>simp[AV.tree]at ha
  | map _=>simp[AV.tree]at ha
  | ph _=>simp[AV.tree]at ha
  | ph2 _=>simp[AV.tree]at ha
  | nilL=>exact absurd rfl (hn _ _ _)
  | clip _=>exact absurd rfl (hn _ _ _)
  | agg _ _=>exact absurd rfl (h1 _)
  | fn _ _=>exact absurd rfl (h3 _ _)
  | tup _ _=>exact absurd rfl (h2 _)
theorem VR2.int{μ:List (Option Nat)}{k:IntKind}{n:Int}(x:VR2 μ v (.int k n)):v=.int k n:=x.scal rfl (by simp) (by simp) (by simp) (by simp)
theorem OwnT.int{k:IntKind}{n:Int}(x:OwnT S h v (.int k n)):v=.int k n∧S=[]:=by
  have:=x.v;simp only[lay]at this;have l:=x.len;simp only[AV.rows]at l;exact⟨this.int,List.eq_nil_of_length_eq_zero l⟩
end
end Go.Ab
namespace Go.Ab
open Go
def pmu(x y w:Nat):List (Option Nat):=(List.range' x y).map some++((List.range' 0 x).map some++(List.range' (x+y) w).map some)
theorem pmu_at{x y w j k:Nat}(h:(j<y∧k=x+j)∨(y≤j∧j<x+y∧k+y=j)∨(x+y≤j∧j<x+y+w∧k=j)):(pmu x y w)[j]?=some (some k):=by
  unfold pmu;rcases h with⟨h1,rfl⟩ | ⟨h1,h2,h3⟩ | ⟨h1,h2,rfl⟩
  · rw[List.getElem?_append_left (by simpa using h1),List.getElem?_map,List.getElem?_range' h1];simp
  · rw[List.getElem?_append_right (by simpa using h1),List.getElem?_append_left (by simp;omega),List.getElem?_map,List.getElem?_range' (by simp;omega)];simp;omega
  · rw[List.getElem?_append_right (by simp;omega),List.getElem?_append_right (by simp;omega),List.getElem?_map,List.getElem?_range' (by simp;omega)];simp;omega
theorem pmu_dist{x y w:Nat}:dist (pmu x y w)=true:=by
  have e:pmu x y w=(List.range' x y++(List.range' 0 x++List.range' (x+y) w)).map some:=by simp[pmu]
  rw[e];refine dist_map ?_;rw[List.nodup_append];refine⟨List.nodup_range', ?_,fun a ha b hb=> ?_⟩
  · rw[List.nodup_append];refine⟨List.nodup_range',List.nodup_range',fun a ha b hb=> ?_⟩;simp only[List.mem_range'_1]at ha hb;omega
  · simp only[List.mem_append,List.mem_range'_1]at ha hb;omega
theorem FinF.swap{X Y W:List AV}{t v:AV}{h:List AObj}(hX:AV.pls X=true)(hY:AV.pls Y=true)(hW:AV.pls W=true)(hh:h=(lays (X++(Y++W)) 0).2)(ht:(lay t 0).2=(lays (Y++(X++W)) 0).2)
    (hv:VR2 (pmu (AV.rowss X) (AV.rowss Y) (AV.rowss W)) v (lay t 0).1):FinF (some [v]) h t:=by
  refine⟨pmu (AV.rowss X) (AV.rowss Y) (AV.rowss W),pmu_dist, ?_,hv⟩;rw[ht];subst hh;have lX:=lays_len X 0;have lY:=lays_len Y (0+AV.rowss X);simp only[lays_app];have hx:(lays X 0).2.length=AV.rowss X:=lX;refine objsC_app (objsC_lays hY (fun i hi=>pmu_at (by omega)) fun i o hi=> ?_) (objsC_app (objsC_lays hX (fun i hi=>pmu_at (by omega)) fun i o hi=> ?_) (objsC_lays hW (fun i hi=>pmu_at (by omega)) fun i o hi=> ?_))
  · have hi':=(List.getElem?_eq_some_iff.1 hi).1;rw[List.getElem?_append_right (by omega),show AV.rowss X+i-(lays X 0).2.length=i by omega,List.getElem?_append_left (by simpa[lays_len]using hi')];simpa only [Nat.zero_add]using hi
  · rw[show 0+i=i from Nat.zero_add i,List.getElem?_append_left (List.getElem?_eq_some_iff.1 hi).1];exact hi
  · have hi':=(List.getElem?_eq_some_iff.1 hi).1;rw[List.getElem?_append_right (by omega),List.getElem?_append_right (by omega),show AV.rowss X+AV.rowss Y+i-(lays X 0).2.length-(lays Y (0+AV.rowss X)).2.length=i by omega];simpa only [Nat.zero_add]using hi
end Go.Ab
namespace Go.Ab
open Go
def emu(c b n:Nat):List (Option Nat):=(List.range' c b).map some++some (c+b+n+2)::(List.range' (c+b+1) n).map some
theorem emu_at{c b n j k:Nat}(h:(j<b∧k=c+j)∨(j=b∧k=c+b+n+2)∨(b<j∧j<b+n+1∧k=c+j)):(emu c b n)[j]?=some (some k):=by
  unfold emu;rcases h with⟨h1,rfl⟩ | ⟨rfl,rfl⟩ | ⟨h1,h2,rfl⟩
  · rw[List.getElem?_append_left (by simpa using h1),List.getElem?_map,List.getElem?_range' h1];simp
  · rw[List.getElem?_append_right (by simp)];simp
  · rw[List.getElem?_append_right (by simp;omega)];have e:j-((List.range' c b).map some).length=(j-b-1)+1:=by simp;omega
    rw[e,List.getElem?_cons_succ,List.getElem?_map,List.getElem?_range' (by omega)];simp;omega
theorem emu_dist{c b n:Nat}:dist (emu c b n)=true:=by
  have e:emu c b n=(List.range' c b++(c+b+n+2)::List.range' (c+b+1) n).map some:=by simp[emu]
  rw[e];refine dist_map ?_;rw[List.nodup_append];refine⟨List.nodup_range', ?_, ?_⟩
  · rw[List.nodup_cons];refine⟨?_,List.nodup_range'⟩;simp only[List.mem_range'_1];omega
  · intro x hx y hy;simp only[List.mem_range'_1,List.mem_cons]at hx hy;rcases hy with rfl | hy<;>omega
theorem FinF.grow{c w:Nat}{pre h:List AObj}{X W el vs:List AV}{x:AObj}{t:AV}(hpre:pre.length=c)(hX:AV.pls X=true)(hW:AV.pls W=true)(hel:AV.trees el=true)
    (hh:h=pre++((lays X c).2++.dead::((lays W (c+AV.rowss X+1)).2++[x,.row w el true]))) (ht:(lay t 0).2=(lays X 0).2++.row w el true::(lays W (AV.rowss X+1)).2)
    (hv:VR2 (emu c (AV.rowss X) (AV.rowss W)) (packed vs) (lay t 0).1):FinF (some vs) h t:=by
  refine⟨emu c (AV.rowss X) (AV.rowss W),emu_dist, ?_,hv⟩;rw[ht];subst hh hpre;have lX:=lays_len X pre.length;have lW:=lays_len W (pre.length+AV.rowss X+1);refine objsC_app (objsC_lays hX (fun i hi=>emu_at (by omega)) fun i o hi=> ?_) ⟨?_,objsC_lays hW (fun i hi=>emu_at (by omega)) fun i o hi=> ?_⟩
  · rw[List.getElem?_append_right (by omega),Nat.add_sub_cancel_left,List.getElem?_append_left (List.getElem?_eq_some_iff.1 hi).1];exact hi
  · refine .row (el:=el) (rw':=true) ?_ (VR2s.trees hel);rw[List.getElem?_append_right (by omega),List.getElem?_append_right (by omega),show pre.length+AV.rowss X+AV.rowss W+2-pre.length-(lays X pre.length).2.length=AV.rowss W+1+1 by omega,List.getElem?_cons_succ,
      List.getElem?_append_right (by omega),show AV.rowss W+1-(lays W (pre.length+AV.rowss X+1)).2.length=1 by omega]
    rfl
  · have hi':=(List.getElem?_eq_some_iff.1 hi).1;rw[List.getElem?_append_right (by omega),List.getElem?_append_right (by omega),show pre.length+AV.rowss X+1+i-pre.length-(lays X pre.length).2.length=i+1 by omega,List.getElem?_cons_succ,List.getElem?_append_left hi'];exact hi
end Go.Ab
namespace Go.Ab
open Go
theorem Fresh.pure{Γ:Nat→Option AFn}{g:Nat}{vs:List AV}{t:AV}(hp:Fresh Γ g vs t)(hc:t.cn=true)(ht:t.tree=true):Pure Γ g vs t:=by
  unfold Fresh at hp;unfold Pure;obtain⟨t1,t2,hp⟩:=hp;refine⟨t1,ht,fun hr ar har=> ?_⟩;obtain⟨k,r,hr',ρ',h1,h2,h3,h4⟩:=hp hr ar har;obtain⟨r',q1,q2⟩:=(lay_cv (h:=(lay t 0).2) t 0 t2 hc (fun i o hi=>by rw[Nat.zero_add];exact hi)).conv h2 (K:=reals ρ' (lay t 0).2 (List.range t.rows)) (fun i a w el ha ho=>by
    rw[List.contains_iff_mem,reals_mem];exact⟨i,w,el,List.mem_range.2 (by have:=(List.getElem?_eq_some_iff.1 ho).1;rw[lay_len]at this;exact this),ha,ho⟩) h3
  have hrow:Rows hr' (reals ρ' (lay t 0).2 (List.range t.rows)):=fun a ha=>by
    rw[List.contains_iff_mem,reals_mem]at ha;obtain⟨i,w,el,_,q2,q3⟩:=ha;rcases h2.obj i _ q3 with⟨q,_⟩ | ⟨i',el',p1,p2,p3⟩
    · rw[q]at q2;cases q2
    · rw[p1]at q2;cases q2;exact⟨_,p2,rfl⟩
  have hx:=Ex.frzR _ hrow q1 h1;have hkeep:∀id o,hr id=some o→(hr'.kill (reals ρ' (lay t 0).2 (List.range t.rows))) id=some o:=fun id o ho=>by
    rw[AH.kill_at];have:(reals ρ' (lay t 0).2 (List.range t.rows)).contains id=false:=by
      rw[←Bool.not_eq_true,List.contains_iff_mem,reals_mem];rintro⟨i,w,el,_,q,_⟩;have:=(h4.new0 q).1;rw[ho]at this;cases this
    rw[this];simpa using h4.pres id o ho (fun i hi=>by cases hi)
  exact⟨k,r',_,.drop hkeep (tree_of _ _ ht q2) hx,rfl,fun a ha=>AH.fr_of_tomb ha,q2⟩
end Go.Ab
namespace Go.Ab
open Go
end Go.Ab
namespace Go.Ab
open Go
section
variable {E:Ev} {ks:List Fr1} {Q:AExit→VSt→Prop}
def outJ{β:Type}(E:Ev)(J:β→Prop)(sttJ:β→VSt)(s:VSt):Prop:=∃b,J b∧Can E.b s (sttJ b)
def loopJ{α β:Type}(E:Ev)(I:α→Prop)(stt:α→VSt)(m:α→Nat)(a:α)(n:Nat)(J:β→Prop)(sttJ:β→VSt)(ks:List Fr1)(Q:AExit→VSt→Prop):AExit→VSt→Prop
  |.nrm,s=>∃a',I a'∧m a'<m a∧Can E.b s (stt a')
  |.exit k,s=>if k=n then outJ E J sttJ s else Exit1 E (.exit k) (exK (.exit k) ks) s Q
  |.ret,s=>Q .ret s
  |.pan v,s=>Q (.pan v) s
@[go_sem] theorem loopJ_exit{α β:Type}{I:α→Prop}{stt:α→VSt}{me:α→Nat}{a:α}{n k:Nat}{J:β→Prop}{sttJ:β→VSt}{st:VSt}:loopJ E I stt me a n J sttJ ks Q (.exit k) st=if k=n then outJ E J sttJ st else Exit1 E (.exit k) (exK (.exit k) ks) st Q:=nr rfl
@[go_sem] theorem loopJ_ret{α β:Type}{I:α→Prop}{stt:α→VSt}{me:α→Nat}{a:α}{n:Nat}{J:β→Prop}{sttJ:β→VSt}{st:VSt}:loopJ E I stt me a n J sttJ ks Q .ret st=Q .ret st:=nr rfl
end
end Go.Ab
namespace Go.Ab
open Go
def PureR(Γ:Nat→Option AFn)(g:Nat)(as:List AV)(P:AV→Prop):Prop:=
  AV.trees as=true∧(∀v,P v→v.tree=true)∧∀hr ar,RelVs ρ0 as ar→∃v,P v∧∃k r hr',Ex Γ k (.call g ar hr) (.res (.ok r) hr')∧hr'.f=hr.f∧(∀a,hr'.fr a→hr.fr a)∧RelV ρ0 v r
section
variable {Γ:Nat→Option AFn} {g:Nat} {vs vs':List AV} {h:List AObj}
theorem SCallP.pureR{K:AV→Prop}{P:AV→Prop}(hp:PureR Γ g vs P)(hk:∀v,P v→K v):SCallP Γ g vs h K:=fun ρ hr ar hH hv=>by
  obtain⟨t1,t2,hp⟩:=hp;obtain⟨v,hv1,k,r,hr',h1,h2,h3,h4⟩:=hp hr ar (trees_any _ _ t1 hv);exact⟨k,r,hr',v,h1,h2,h3,hk v hv1,tree_any _ _ (t2 v hv1) h4⟩
def finQR(res:List ARes)(P:AV→Prop):AExit→VSt→Prop:=fun e st=>(e=.nrm∨e=.ret)∧match resAll (toSt st) res with
  | some vs=>∃v,P v∧Cv st.h (packed vs) v
  | none=>False
theorem PureR.intro{F:AFun}{as:List AV}{P:AV→Prop}(fz bp:List Nat)(hg:Γ g=some (.fn F))(hok:F.body.ok=true)(hn:as.length=F.np)(ht:AV.trees as=true)(hv:∀v,P v→v.tree=true)
    (hR:R ⟨Γ,0,fz,bp⟩ [.code F.body] ⟨vparams 0 as,[],[]⟩ (finQR F.res P)):PureR Γ g as P:=by
  refine⟨ht,hv,fun hr ar har=> ?_⟩;have hS:RelS ρ0 ⟨vparams 0 as,[],[]⟩ {s:=params 0 ar,l:=Env.empty,h:=hr}:=⟨params_rel har,(fun n v h=>by cases h),⟨(fun i o h=>by simp at h),(fun i j a o o' h=>by cases h),(fun _ _=>rfl),(fun i a h=>by cases h)⟩⟩;obtain⟨k,e,sr',ρ',st',g1,⟨he,hq⟩,g3,g4,_⟩:=Sem.of (by simpa only [List.all_cons,List.all_nil,Bool.and_true,Fr1.ok]using hok) hR ρ0 _ hS (Nat.zero_le _);have hb:Ex Γ k (.code F.body {s:=params 0 ar,l:=Env.empty,h:=hr}) (.st e sr'):=by
    cases g1 with
    | code h h'=>cases h';exact h
    | codeX h he' hx h'=>cases e<;>simp[exK]at hx
    | codeE h he' hx=>exact h
  split at hq
  · rename_i vs hvs;obtain⟨v,hv1,hq⟩:=hq;obtain⟨rs,q1,q2⟩:=resAll_rel g3 hvs;have hx:=Ex.fn hg (by rw[har.length];exact hn) hb he q1;obtain⟨r',c1,c2⟩:=Cv.conv g3.h (K:=reals ρ' st'.h (List.range st'.h.length)) (fun i a w el ha ho=>by
      rw[List.contains_iff_mem,reals_mem];exact⟨i,w,el,List.mem_range.2 (lt_of_some ho),ha,ho⟩) hq (packed_rel q2)
    have hx2:=Ex.frzR _ (g3.h.rows _) c1 hx;have hold:∀id o,hr id=some o→(sr'.h.kill (reals ρ' st'.h (List.range st'.h.length))) id=some o:=fun id o ho=>by
      rw[AH.kill_at,if_neg]
      · exact g4.pres id o ho (fun i hi=>by cases hi)
      · rw[List.contains_iff_mem,reals_mem];rintro⟨i,w,el,_,p2,_⟩;rcases g4.new i id p2 with⟨j,hj⟩ | hf
        · cases hj
        · have:hr id=none:=hf.1;rw[this]at ho;cases ho
    exact⟨v,hv1,k+1,r',_,.drop hold (tree_of _ _ (hv v hv1) c2) hx2,rfl,fun a ha=>AH.fr_of_tomb ha,c2⟩
  · exact hq.elim
end
section
variable {E:Ev} {l:List AOper} {ks:List Fr1} {s m:LEnv} {h:List AObj} {Q:AExit→VSt→Prop}
theorem call_pureR{ck:List AOper}{k:Nat}{vs:List AV}{e:Nat}{P:AV→Prop}(hp:PureR E.Γ k vs P)(hr:∀v,P v→R E (.ops l::ks) ⟨(e,v)::s,m,h⟩ Q):Call1 E (some (k,vs)) ck (some e) l ks ⟨s,m,h⟩ Q:=by
  unfold Call1;cases ck
  · exact SCallX.of (SCall.ofP (SCallP.pureR hp hr))
  · exact Or.inl (SCallK.ofP (SCallP.pureR hp hr))
def FinR(vs:Option (List AV))(h:List AObj)(P:AV→Prop):Prop:=match vs with
  | some vs=>∃v,P v∧Cv h (packed vs) v
  | none=>False
@[go_sem] theorem finR_ret{res:List ARes}{P:AV→Prop}:finQR res P .ret ⟨s,m,h⟩=FinR (resAll (toSt ⟨s,m,h⟩) res) h P:=by
  simp[finQR,FinR];all_goals rfl
@[go_sem] theorem finR_nrm{res:List ARes}{P:AV→Prop}:finQR res P .nrm ⟨s,m,h⟩=FinR (resAll (toSt ⟨s,m,h⟩) res) h P:=by
  simp[finQR,FinR];all_goals rfl
theorem finR_cv{v' v:AV}{P:AV→Prop}(hp:P v)(hc:Cv h v' v):FinR (some [v']) h P:=⟨v,hp,hc⟩
end
attribute [irreducible] PureR FinR
end Go.Ab
