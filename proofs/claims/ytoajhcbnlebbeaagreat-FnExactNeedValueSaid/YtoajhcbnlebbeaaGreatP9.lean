/- Texts Nee20 .. Nee23: the abstract machine, its laws and contracts of functions: lemmas for the statement. No condition. -/
import Derived.Test.YtoajhcbnlebbeaaGreatP8
set_option linter.unusedSimpArgs false
set_option linter.unusedVariables false
namespace Go.Ab
open Go
section
variable {μ μ':List (Option Nat)} {h h':List qC}
theorem VR2s.hd {a b:AV} {as bs:List AV} (x:VR2s μ (a::as) (b::bs)):VR2 μ a b∧VR2s μ as bs:=
  ⟨x.2 (a,b) (by simp),by have:=x.1;simpa using this,fun p hp=>x.2 p (by simp only [List.zip_cons_cons];exact List.mem_cons_of_mem _ hp)⟩
theorem VR2.aggs {v:AV} {ds:List AV} (x:VR2 μ v (.agg ds)):∃cs,v=.agg cs∧VR2s μ cs ds:=by
  cases x with
  | tree ht=>exact ⟨ds,rfl,VR2s.trees (by simpa only [AV.tree] using ht)⟩
  | agg hl hc=>exact ⟨_,rfl,hl,hc⟩
theorem VR2.tups {v:AV} {ds:List AV} (x:VR2 μ v (.tup ds)):∃cs,v=.tup cs∧VR2s μ cs ds:=by
  cases x with
  | tree ht=>exact ⟨ds,rfl,VR2s.trees (by simpa only [AV.tree] using ht)⟩
  | tup hl hc=>exact ⟨_,rfl,hl,hc⟩
theorem VR2.slc0 {v:AV} {w a b n:Nat} (h:μ'[b]?=μ[a]?) (x:VR2 μ v (.slice w a 0 n false)):VR2 μ' v (.slice w b 0 n false):=by
  cases x with
  | tree ht=>simp [AV.tree] at ht
  | slice hm=>exact .slice (h.trans hm)
  | ph hm=>exact .ph (h.trans hm)
  | ph2 hm=>exact .ph2 (h.trans hm)
mutual
theorem VR2.move:∀(t:AV) (a b:Nat) (v:AV),t.pl=true→(∀i,i<t.rows→μ'[b+i]?=μ[a+i]?)→VR2 μ v (lay t a).1→VR2 μ' v (lay t b).1
  |.lst w xs c,a,b,v,hp,hm,hv=>by
    simp only [lay] at hv⊢;exact hv.slc0 (by have:=hm 0 (by simp only [AV.rows];omega);simpa using this)
  |.agg xs,a,b,v,hp,hm,hv=>by
    simp only [lay] at hv⊢;obtain ⟨cs,rfl,hc⟩:=hv.aggs;have:=VR2.moves xs a b cs hp hm hc;exact .agg this.1 this.2
  |.tup xs,a,b,v,hp,hm,hv=>by
    simp only [lay] at hv⊢;obtain ⟨cs,rfl,hc⟩:=hv.tups;have:=VR2.moves xs a b cs hp hm hc;exact .tup this.1 this.2
  |.bool _,_,_,_,_,_,hv |.int _ _,_,_,_,_,_,hv |.str _,_,_,_,_,_,hv |.nilp,_,_,_,_,_,hv |.nils,_,_,_,_,_,hv |.nilm,_,_,_,_,_,hv |.nilf,_,_,_,_,_,hv |.nili,_,_,_,_,_,hv=>by
    simp only [lay] at hv⊢;cases hv;exact .tree (by rfl)
  |.any,_,_,_,hp,_,_ |.ptr _ _ _,_,_,_,hp,_,_ |.slice _ _ _ _ _,_,_,_,hp,_,_ |.map _,_,_,_,hp,_,_ |.ept _ _,_,_,_,hp,_,_ |.fn _ _,_,_,_,hp,_,_ |.iface _ _,_,_,_,hp,_,_=>by cases hp
theorem VR2.moves:∀(xs:List AV) (a b:Nat) (vs:List AV),AV.pls xs=true→(∀i,i<AV.rowss xs→μ'[b+i]?=μ[a+i]?)→VR2s μ vs (qN xs a).1→VR2s μ' vs (qN xs b).1
  |[],a,b,vs,_,_,hv=>by
    have:vs=[]:=List.eq_nil_of_length_eq_zero hv.1;subst this;exact VR2s.nil
  | x::xs,a,b,vs,hp,hm,hv=>by
    simp only [AV.pls,bAt] at hp;simp only [AV.rowss] at hm;simp only [qN,qa] at hv⊢;cases vs with
    | nil=>have:=hv.1;simp at this
    | cons v vs=>
      obtain ⟨h1,h2⟩:=hv.hd;refine .cons (VR2.move x a b v hp.1 (fun i hi=>hm i (by omega)) h1) (VR2.moves xs _ _ vs hp.2 (fun i hi=> ?_) h2);rw [show b+x.rows+i=b+(x.rows+i) by omega,show a+x.rows+i=a+(x.rows+i) by omega];exact hm _ (by omega)
end
mutual
theorem OR2.move:∀(t:AV) (a b:Nat),t.pl=true→(∀i,i<t.rows→μ'[b+i]?=μ[a+i]?)→∀(i:Nat) (j:Option Nat) (o o':qC),(lay t a).2[i]?=some o→(lay t b).2[i]?=some o'→OR2 μ h j o→OR2 μ' h j o'
  |.lst w xs c,a,b,hp,hm,i,j,o,o',h1,h2,ho=>by
    simp only [lay] at h1 h2;simp only [AV.rows] at hm;have hm':∀i,i<AV.rowss xs→μ'[b+1+i]?=μ[a+1+i]?:=fun i hi=>by
      rw [show b+1+i=b+(i+1) by omega,show a+1+i=a+(i+1) by omega];exact hm _ (by omega)
    cases i with
    | zero=>
      simp only [List.getElem?_cons_zero,Option.some.injEq] at h1 h2;subst h1 h2;generalize he:(qN xs (a+1)).1=el at ho;cases ho with
      | ph=>
        have:xs=[]:=List.eq_nil_of_length_eq_zero (by rw [←ja xs (a+1),he];rfl);subst this;exact .ph
      | row hr hv=>
        rw [←he] at hv;exact .row hr (VR2.moves xs _ _ _ hp hm' hv)
    | succ i=>
      simp only [List.getElem?_cons_succ] at h1 h2;exact OR2.moves xs (a+1) (b+1) hp hm' i j o o' h1 h2 ho
  |.agg xs,a,b,hp,hm,i,j,o,o',h1,h2,ho=>by
    simp only [lay] at h1 h2;exact OR2.moves xs a b hp hm i j o o' h1 h2 ho
  |.tup xs,a,b,hp,hm,i,j,o,o',h1,h2,ho=>by
    simp only [lay] at h1 h2;exact OR2.moves xs a b hp hm i j o o' h1 h2 ho
  |.bool _,_,_,_,_,_,_,_,_,h1,_,_ |.int _ _,_,_,_,_,_,_,_,_,h1,_,_ |.str _,_,_,_,_,_,_,_,_,h1,_,_ |.nilp,_,_,_,_,_,_,_,_,h1,_,_ |.nils,_,_,_,_,_,_,_,_,h1,_,_ |.nilm,_,_,_,_,_,_,_,_,h1,_,_ |.nilf,_,_,_,_,_,_,_,_,h1,_,_ |.nili,_,_,_,_,_,_,_,_,h1,_,_=>by
    simp [lay] at h1
  |.any,_,_,hp,_,_,_,_,_,_,_,_ |.ptr _ _ _,_,_,hp,_,_,_,_,_,_,_,_ |.slice _ _ _ _ _,_,_,hp,_,_,_,_,_,_,_,_ |.map _,_,_,hp,_,_,_,_,_,_,_,_ |.ept _ _,_,_,hp,_,_,_,_,_,_,_,_ |.fn _ _,_,_,hp,_,_,_,_,_,_,_,_ |.iface _ _,_,_,hp,_,_,_,_,_,_,_,_=>by cases hp
theorem OR2.moves:∀(xs:List AV) (a b:Nat),AV.pls xs=true→(∀i,i<AV.rowss xs→μ'[b+i]?=μ[a+i]?)→∀(i:Nat) (j:Option Nat) (o o':qC),(qN xs a).2[i]?=some o→(qN xs b).2[i]?=some o'→OR2 μ h j o→OR2 μ' h j o'
  |[],_,_,_,_,_,_,_,_,h1,_,_=>by simp [qN] at h1
  | x::xs,a,b,hp,hm,i,j,o,o',h1,h2,ho=>by
    simp only [AV.pls,bAt] at hp;simp only [AV.rowss] at hm;simp only [qN,qa] at h1 h2;rcases Nat.lt_or_ge i x.rows with q | q
    · rw [List.getElem?_append_left (by rw [qa];exact q)] at h1 h2;exact OR2.move x a b hp.1 (fun i hi=>hm i (by omega)) i j o o' h1 h2 ho
    · rw [List.getElem?_append_right (by rw [qa];exact q),qa] at h1 h2;refine OR2.moves xs (a+x.rows) (b+x.rows) hp.2 (fun i hi=> ?_) (i-x.rows) j o o' h1 h2 ho;rw [show b+x.rows+i=b+(x.rows+i) by omega,show a+x.rows+i=a+(x.rows+i) by omega];exact hm _ (by omega)
end
theorem qKF {r:List (Option Nat)} {t:AV} {a b:Nat} (hp:t.pl=true) (hm:∀i,i<t.rows→μ'[b+i]?=μ[a+i]?) (ho:zx μ h r (lay t a).2):zx μ' h r (lay t b).2:=by
  have hl:=Qi ho;rw [qa] at hl;refine Zm (by rw [hl,qa]) fun i j o' h1 h2=> ?_;have hi:i<(lay t a).2.length:=by have:=(List.getElem?_eq_some_iff.1 h2).1;rw [qa] at this⊢;exact this
  obtain ⟨j',hj,hor⟩:=Qg ho i _ (gEg hi);rw [h1] at hj;cases hj;exact OR2.move t a b hp hm i j _ o' (gEg hi) h2 hor
theorem qKG {r:List (Option Nat)} {xs:List AV} {a b:Nat} (hp:AV.pls xs=true) (hm:∀i,i<AV.rowss xs→μ'[b+i]?=μ[a+i]?) (ho:zx μ h r (qN xs a).2):zx μ' h r (qN xs b).2:=by
  have hl:=Qi ho;rw [zt] at hl;refine Zm (by rw [hl,zt]) fun i j o' h1 h2=> ?_;have hi:i<(qN xs a).2.length:=by have:=(List.getElem?_eq_some_iff.1 h2).1;rw [zt] at this⊢;exact this
  obtain ⟨j',hj,hor⟩:=Qg ho i _ (gEg hi);rw [h1] at hj;cases hj;exact OR2.moves xs a b hp hm i j _ o' (gEg hi) h2 hor
theorem qGO:∀{r:List (Option Nat)} {os:List qC},(∀j,some j∈r→h'[j]?=h[j]?)→zx μ h r os→zx μ h' r os
  |[],[],_,k=>k
  | j::r,o::os,hh,k=>by
    refine ⟨?_,qGO (fun i hi=>hh i (List.mem_cons_of_mem _ hi)) k.2⟩;have k1:=k.1;cases k1 with
    | dead=>exact .dead
    | ph=>exact .ph
    | row ho he=>exact .row ((hh _ (by simp)).trans ho) he
    | map ho hk hv=>exact .map ((hh _ (by simp)).trans ho) hk hv
  |[],_::_,_,k=>k.elim
  | _::_,[],_,k=>k.elim
theorem ZQ:∀{a b:List (Option Nat)},zS a=true→zS b=true→(∀j,some j∈a→some j∉b)→zS (a++b)=true
  |[],b,_,hb,_=>hb
  | none::a,b,ha,hb,hn=>by
    simp only [List.cons_append,zS] at ha⊢;exact ZQ ha hb fun j hj=>hn j (List.mem_cons_of_mem _ hj)
  | some j::a,b,ha,hb,hn=>by
    simp only [List.cons_append,zS,bAt,List.all_eq_true] at ha⊢;refine ⟨fun x hx=> ?_,ZQ ha.2 hb fun j hj=>hn j (List.mem_cons_of_mem _ hj)⟩;rcases List.mem_append.1 hx with hx | hx
    · exact ha.1 x hx
    · cases x with
      | none=>rfl
      | some k=>
        have:j≠k:=by rintro rfl;exact hn j (by simp) hx
        have hb:Nat.beq j k=false:=by rw [←Bool.not_eq_true];intro q;exact this (Nat.eq_of_beq_eq_true q)
        simp only [hb];rfl
theorem qOK {k:Nat} {b:List (Option Nat)} (hb:zS b=true) (hn:some k∉b):zS (some k::b)=true:=by
  have:=ZQ (a:=[some k]) (b:=b) rfl hb (fun j hj=>by simp at hj;subst hj;exact hn);exact this
end
structure jM (S:List (Option Nat)) (h:List qC) (v:AV) (t:qA):Prop where
  d:zS S=true
  o:zx S h S (lay t.enc 0).2
  v:VR2 S v (lay t.enc 0).1
section
variable {S:List (Option Nat)} {h h':List qC} {v:AV} {t:qA}
theorem jM.heap (hO:jM S h v t) (hh:∀j,some j∈S→h'[j]?=h[j]?):jM S h' v t:=⟨hO.d,qGO hh hO.o,hO.v⟩
theorem jM.len (hO:jM S h v t):S.length=t.enc.rows:=by rw [Qi hO.o,qa]
theorem jM.aggv (hO:jM S h v t):∃cs,v=.agg cs∧cs.length=4:=by
  have:=hO.v;rw [qA.layE] at this;obtain ⟨cs,rfl,hc⟩:=this.aggs;exact ⟨cs,rfl,hc.1⟩
theorem jM.leaf {k x:Int}:jM [none,none] h (.agg [.int .i64 k,.int .i64 x,.nils,.nils]) (.mk k x [] []):=by
  have e:lay (qA.mk k x [] []).enc 0=(.agg [.int .i64 k,.int .i64 x,.slice 1 0 0 0 false,.slice 4 1 0 0 false],[.row 1 [] true,.row 4 [] true]):=by
    simp [qA.layE,qA.Kind,qA.Value,qA.Data,qA.Kids,AV.rows,AV.rowss,lay,qN]
  refine ⟨rfl,by rw [e];exact ⟨.ph,.ph,trivial⟩, ?_⟩;rw [e];exact .agg rfl (VR2s.cons (.tree rfl) (VR2s.cons (.tree rfl) (VR2s.cons (.ph rfl) (VR2s.cons (.ph rfl) VR2s.nil)))).2
end
structure jX (SS:List (Option Nat)) (h:List qC) (vs:List AV) (ts:List qA):Prop where
  d:zS SS=true
  o:zx (none::none::SS) h SS (qN (ts.map qA.enc) 2).2
  v:VR2s (none::none::SS) vs (qN (ts.map qA.enc) 2).1
section
variable {SS S:List (Option Nat)} {h h':List qC} {vs:List AV} {ts:List qA} {v:AV} {t:qA}
theorem jX.nil:jX [] h [] []:=⟨rfl,trivial,VR2s.nil⟩
theorem jX.heap (hO:jX SS h vs ts) (hh:∀j,some j∈SS→h'[j]?=h[j]?):jX SS h' vs ts:=⟨hO.d,qGO hh hO.o,hO.v⟩
theorem jX.len (hO:jX SS h vs ts):SS.length=AV.rowss (ts.map qA.enc):=by rw [Qi hO.o,zt]
theorem VR2s.app {μ:List (Option Nat)}:∀{as bs cs ds:List AV},VR2s μ as bs→VR2s μ cs ds→VR2s μ (as++cs) (bs++ds)
  |[],[],_,_,_,k=>k
  | a::as,b::bs,_,_,j,k=>VR2s.cons j.hd.1 (VR2s.app j.hd.2 k)
  |[],_::_,_,_,j,_=>by have:=j.1;simp at this
  | _::_,[],_,_,j,_=>by have:=j.1;simp at this
theorem Vb (ts:List qA):AV.pls (ts.map qA.enc)=true:=jK qA.plx ts
theorem jX.snoc (hK:jX SS h vs ts) (hO:jM S h v t) (hn:∀j,some j∈SS→some j∉S):jX (SS++S) h (vs++[v]) (ts++[t]):=by
  have l1:=hK.len;have l2:=hO.len;have e:(ts++[t]).map qA.enc=ts.map qA.enc++[t.enc]:=by simp
  have m1:∀i,i<AV.rowss (ts.map qA.enc)→(none::none::(SS++S))[2+i]?=(none::none::SS)[2+i]?:=fun i hi=>by
    rw [show 2+i=i+1+1 by omega];simp only [List.getElem?_cons_succ];rw [List.getElem?_append_left (by omega)]
  have m2:∀i,i<t.enc.rows→(none::none::(SS++S))[2+AV.rowss (ts.map qA.enc)+i]?=S[0+i]?:=fun i hi=>by
    rw [show 2+AV.rowss (ts.map qA.enc)+i=(AV.rowss (ts.map qA.enc)+i)+1+1 by omega];simp only [List.getElem?_cons_succ];rw [List.getElem?_append_right (by omega)];congr 1;omega
  refine ⟨ZQ hK.d hO.d hn, ?_, ?_⟩
  · rw [e,JX];refine Jb (qKG (Vb ts) m1 hK.o) ?_;simp only [qN,List.append_nil];exact qKF (qA.plx t) m2 hO.o
  · rw [e,JX];refine VR2s.app (VR2.moves _ _ _ _ (Vb ts) m1 hK.v) ?_;simp only [qN];exact VR2s.cons (VR2.move _ _ _ _ (qA.plx t) m2 hO.v) VR2s.nil
theorem jX.con {kr:Nat} {x:Int} (hK:jX SS h vs ts) (hr:h[kr]?=some (.row 4 vs true)) (hn:some kr∉SS):jM (none::some kr::SS) h (.agg [.int .i64 8,.int .i64 x,.nils,.slice 4 kr 0 ts.length false]) (.mk 8 x [] ts):=by
  have e:lay (qA.mk 8 x [] ts).enc 0=(.agg [.int .i64 8,.int .i64 x,.slice 1 0 0 0 false,.slice 4 1 0 ts.length false],.row 1 [] true::.row 4 (qN (ts.map qA.enc) 2).1 true::(qN (ts.map qA.enc) 2).2):=by
    simp [qA.layE,qA.Kind,qA.Value,qA.Data,qA.Kids,AV.rows,AV.rowss,lay,qN]
  have m:∀i,i<AV.rowss (ts.map qA.enc)→(none::some kr::SS)[2+i]?=(none::none::SS)[2+i]?:=fun i hi=>by
    rw [show 2+i=i+1+1 by omega];simp only [List.getElem?_cons_succ]
  refine ⟨by simp only [zS];exact qOK hK.d hn, ?_, ?_⟩
  · rw [e];exact ⟨.ph,.row hr (VR2.moves _ _ _ _ (Vb ts) m hK.v),qKG (Vb ts) m hK.o⟩
  · rw [e];exact .agg rfl (VR2s.cons (.tree rfl) (VR2s.cons (.tree rfl) (VR2s.cons (.ph rfl) (VR2s.cons (.slice rfl) VR2s.nil)))).2
end
end Go.Ab
namespace Go.Ab
open Go
set_option maxRecDepth 10000
set_option maxHeartbeats 2000000
section
variable {P Q:Nat→Prop} {b:qH} {ci cid nid id:Nat} {h:List qC} {M:qD} {cs:List Int} {l n:Nat} {K:AV→List qC→Prop}
theorem len4 {xs:List AV} (h:xs.length=4):∃a b c d,xs=[a,b,c,d]:=by
  match xs,h with
  |[a,b,c,d],_=>exact ⟨a,b,c,d,rfl⟩
theorem s726 {x:Int} (hK:K (.agg [.int .i64 2,.int .i64 x,.nils,.nils]) h):SCall Gm 726 [.int .i64 x] h K:=by
  refine SCall.run [] [] g726 (by kernel_rfl) rfl ?_;simp only [ZE,qK,go_sem]
  repeat' (first | (refine qY (k:=4) rfl rfl ⟨_,rfl⟩ (by decide) ?_;simp only [go_sem]))
  exact hK
structure VP where
  i:Nat
  g:List qC
  kr:Nat
  SS:List (Option Nat)
  vs:List AV
  ts:List qA
  M:qD
  cs:List Int
  l:Nat
  n:Nat
theorem s345 (hb:BI b):∀(f:Nat) {P:Nat→Prop} {h:List qC} {M:qD} {cs:List Int} {l n d:Nat} {K:AV→List qC→Prop},f+d=81→IS P ci cid nid id h M cs l n→MI b M→l≤20000→n≤400→
    (∀(h':List qC) (S:List (Option Nat)) (v:AV),jM S h' v (qp b f M cs l n).t→(∀j,some j∈S→h.length≤j)→IS (fun i=>P i∨some i∈S) ci cid nid id h' (qp b f M cs l n).M (qp b f M cs l n).cs (qp b f M cs l n).l (qp b f M cs l n).n→Keep P h h'→(qp b f M cs l n).e=0→K (.tup [v,.int .i64 0]) h')→
    (∀h',Keep P h h'→(qp b f M cs l n).e≠0→K (.tup [.agg [.int .i64 0,.int .i64 0,.nils,.nils],.int .i64 (qp b f M cs l n).e]) h')→SCall Gm 345 [.ptr cid 0 0,b.enc,.ptr id 0 0,.int .i64 (d:Nat),.ptr nid 0 0] h K:=by
  intro f
  induction f with
  | zero=>
    intro P h M cs l n d K hfd hF hM hl hn hK0 hK1;refine SCall.run [] [76] g345 (by kernel_rfl) rfl ?_;simp only [ZD,qK];simp only [List.contains_cons,List.contains_nil,Option.getD_some,Option.getD_none,Nat.reduceBEq,Bool.or_false,Bool.false_or,Bool.or_self,bFt,Bool.or_true,Bool.true_or,if_false,if_true,go_sem];refine qd rfl ?_
    try simp only [List.contains_cons,List.contains_nil,Option.getD_some,Option.getD_none,Nat.reduceBEq,Bool.or_false,Bool.false_or,Bool.or_self,bFt,Bool.or_true,Bool.true_or,if_false,if_true,go_sem]
    simp only [hF.q,go_sem];refine qo rfl hF.q rfl (show (AV.int .i64 (n:Nat)).put 0 (.int .i64 (IntKind.i64.wrap ((n:Int)+1)))=some (.int .i64 (IntKind.i64.wrap ((n:Int)+1))) from rfl) ?_;simp only [List.set_cons_zero];rw [zC (n:=(n:Int)+1) (by omega) (by omega),show (n:Int)+1=((n+1:Nat):Int) by omega];obtain ⟨hF1,k1⟩:=hF.nodes (n+1);generalize List.set h nid _=h1 at*
    try simp only [List.contains_cons,List.contains_nil,Option.getD_some,Option.getD_none,Nat.reduceBEq,Bool.or_false,Bool.false_or,Bool.or_self,bFt,Bool.or_true,Bool.true_or,if_false,if_true,go_sem]
    simp only [hF1.q,go_sem];refine qq ?_ ?_<;>intro hc<;>simp only [hc,go_sem]
    · refine qI ?_ ?_<;>intro hc<;>simp only [hc,go_sem]
      · try simp only [List.contains_cons,List.contains_nil,Option.getD_some,Option.getD_none,Nat.reduceBEq,Bool.or_false,Bool.false_or,Bool.or_self,bFt,Bool.or_true,Bool.true_or,if_false,if_true,go_sem]
        refine qY (k:=4) rfl rfl ⟨_,rfl⟩ (by decide) ?_
        try simp only [List.contains_cons,List.contains_nil,Option.getD_some,Option.getD_none,Nat.reduceBEq,Bool.or_false,Bool.false_or,Bool.or_self,bFt,Bool.or_true,Bool.true_or,if_false,if_true,go_sem]
        exact hK1 _ k1 (show ¬(4:Int)=0 by decide)
      · have:=odF hc;omega
    · try simp only [List.contains_cons,List.contains_nil,Option.getD_some,Option.getD_none,Nat.reduceBEq,Bool.or_false,Bool.false_or,Bool.or_self,bFt,Bool.or_true,Bool.true_or,if_false,if_true,go_sem]
      refine qY (k:=4) rfl rfl ⟨_,rfl⟩ (by decide) ?_
      try simp only [List.contains_cons,List.contains_nil,Option.getD_some,Option.getD_none,Nat.reduceBEq,Bool.or_false,Bool.false_or,Bool.or_self,bFt,Bool.or_true,Bool.true_or,if_false,if_true,go_sem]
      exact hK1 _ k1 (show ¬(4:Int)=0 by decide)
  | succ f ih=>
    intro P h M cs l n d K hfd hF hM hl hn hK0 hK1;refine SCall.run [] [76] g345 (by kernel_rfl) rfl ?_;simp only [ZD,qK];simp only [List.contains_cons,List.contains_nil,Option.getD_some,Option.getD_none,Nat.reduceBEq,Bool.or_false,Bool.false_or,Bool.or_self,bFt,Bool.or_true,Bool.true_or,if_false,if_true,go_sem];refine qd rfl ?_
    try simp only [List.contains_cons,List.contains_nil,Option.getD_some,Option.getD_none,Nat.reduceBEq,Bool.or_false,Bool.false_or,Bool.or_self,bFt,Bool.or_true,Bool.true_or,if_false,if_true,go_sem]
    simp only [hF.q,go_sem];refine qo rfl hF.q rfl (show (AV.int .i64 (n:Nat)).put 0 (.int .i64 (IntKind.i64.wrap ((n:Int)+1)))=some (.int .i64 (IntKind.i64.wrap ((n:Int)+1))) from rfl) ?_;simp only [List.set_cons_zero];rw [zC (n:=(n:Int)+1) (by omega) (by omega),show (n:Int)+1=((n+1:Nat):Int) by omega];obtain ⟨hF1,hK2⟩:=hF.nodes (n+1);have hlen1:(h.set nid (.row 1 [.int .i64 ((n+1:Nat):Int)] true)).length=h.length:=by simp
    generalize List.set h nid _=h1 at*
    try simp only [List.contains_cons,List.contains_nil,Option.getD_some,Option.getD_none,Nat.reduceBEq,Bool.or_false,Bool.false_or,Bool.or_self,bFt,Bool.or_true,Bool.true_or,if_false,if_true,go_sem]
    simp only [hF1.q,go_sem];refine qq ?_ ?_<;>intro hc<;>simp only [hc,go_sem]
    · have hn4:¬400≤n:=by have:=odF hc;omega
      refine qI ?_ ?_<;>intro hc<;>simp only [hc,go_sem]
      · have:=odT hc;omega
      clear hc
      try simp only [List.contains_cons,List.contains_nil,Option.getD_some,Option.getD_none,Nat.reduceBEq,Bool.or_false,Bool.false_or,Bool.or_self,bFt,Bool.or_true,Bool.true_or,if_false,if_true,go_sem]
      have hwh:∀{r:WR},qp b (f+1) M cs l n=r→((∀(h':List qC) (S:List (Option Nat)) (v:AV),jM S h' v r.t→(∀j,some j∈S→h1.length≤j)→IS (fun i=>P i∨some i∈S) ci cid nid id h' r.M r.cs r.l r.n→Keep P h1 h'→r.e=0→K (.tup [v,.int .i64 0]) h')∧
          (∀h',Keep P h1 h'→r.e≠0→K (.tup [.agg [.int .i64 0,.int .i64 0,.nils,.nils],.int .i64 r.e]) h')):=fun hr=>by
        rw [hr] at hK0 hK1;exact ⟨fun h' S v q1 q2 q3 q4 q5=>hK0 h' S v q1 (fun j hj=>by have:=q2 j hj;omega) q3 (hK2.trans q4) q5,fun h' q1 q2=>hK1 h' (hK2.trans q1) q2⟩
      clear hK0 hK1;unfold qp at hwh;rw [if_neg hn4] at hwh;have hrun:=Vh hb l (cs:=cs) hM;refine qc (s478 hb hF1 hM hl (fun h2 hF2 k2 h0=> ?_) fun h2 k2 h0=> ?_);rotate_left
      · rw [if_pos h0] at hwh;obtain ⟨_,hK1⟩:=hwh rfl
        try simp only [List.contains_cons,List.contains_nil,Option.getD_some,Option.getD_none,Nat.reduceBEq,Bool.or_false,Bool.false_or,Bool.or_self,bFt,Bool.or_true,Bool.true_or,if_false,if_true,go_sem]
        refine qI ?_ ?_<;>intro hc<;>simp only [hc,go_sem]
        · try simp only [List.contains_cons,List.contains_nil,Option.getD_some,Option.getD_none,Nat.reduceBEq,Bool.or_false,Bool.false_or,Bool.or_self,bFt,Bool.or_true,Bool.true_or,if_false,if_true,go_sem]
          refine qY (k:=4) rfl rfl ⟨_,rfl⟩ (by decide) ?_
          try simp only [List.contains_cons,List.contains_nil,Option.getD_some,Option.getD_none,Nat.reduceBEq,Bool.or_false,Bool.false_or,Bool.or_self,bFt,Bool.or_true,Bool.true_or,if_false,if_true,go_sem]
          exact hK1 _ k2 h0
        · exact absurd (by simpa using hc) h0
      rw [if_neg (by simpa using h0)] at hwh;obtain ⟨hM2,hd2,hm2,hc2,hl2⟩:=hrun h0;generalize qU b l M cs=r at*;obtain ⟨e2,M2,cs2,l2⟩:=r;simp only at hwh hM2 hd2 hm2 hc2 hl2 hF2 h0;subst h0;obtain ⟨hst,hv2⟩:=qIU hd2;have ht:=hM2.c.t;have hen:=hM2.c.l
      try simp only [List.contains_cons,List.contains_nil,Option.getD_some,Option.getD_none,Nat.reduceBEq,Bool.or_false,Bool.false_or,Bool.or_self,bFt,Bool.or_true,Bool.true_or,if_false,if_true,go_sem]
      obtain ⟨si,hi,js,hN⟩:=hF2.m;have hp1:zp (some 5) 0 0 h2[id]?=some M2.Control.enc:=by rw [hN.o];rfl
      have hk2':h1.length≤h2.length:=k2.1;simp only [W5];simp only [List.contains_cons,List.contains_nil,Option.getD_some,Option.getD_none,Nat.reduceBEq,Bool.or_false,Bool.false_or,Bool.or_self,bFt,Bool.or_true,Bool.true_or,if_false,if_true,go_sem];rw [hp1]
      try simp only [List.contains_cons,List.contains_nil,Option.getD_some,Option.getD_none,Nat.reduceBEq,Bool.or_false,Bool.false_or,Bool.or_self,bFt,Bool.or_true,Bool.true_or,if_false,if_true,go_sem]
      clear hp1 hN si hi js;refine qY (k:=5) rfl qW.ln ⟨_,rfl⟩ (by decide) ?_
      try simp only [List.contains_cons,List.contains_nil,Option.getD_some,Option.getD_none,Nat.reduceBEq,Bool.or_false,Bool.false_or,Bool.or_self,bFt,Bool.or_true,Bool.true_or,if_false,if_true,go_sem]
      have hkk:M2.Control.Term.Kind=2∨M2.Control.Term.Kind=4∨M2.Control.Term.Kind=8:=by
        unfold qW.val at hv2;split at hv2
        · rename_i q;rcases q with q | q<;>simp [q]
        · split at hv2
          · rename_i q;simp [q]
          · cases hv2
      rcases hkk with hk | hk | hk
      · rw [if_pos hk] at hwh;obtain ⟨hK0,_⟩:=hwh rfl;simp only [J0,W6];simp only [hk,Int.reduceEq,decide_true,decide_false,List.contains_cons,List.contains_nil,Option.getD_some,Option.getD_none,Nat.reduceBEq,Bool.or_false,Bool.false_or,Bool.or_self,bFt,Bool.or_true,Bool.true_or,if_false,if_true,go_sem];refine qc (s726 ?_)
        try simp only [List.contains_cons,List.contains_nil,Option.getD_some,Option.getD_none,Nat.reduceBEq,Bool.or_false,Bool.false_or,Bool.or_self,bFt,Bool.or_true,Bool.true_or,if_false,if_true,go_sem]
        refine qY (k:=4) rfl rfl ⟨_,rfl⟩ (by decide) ?_
        try simp only [List.contains_cons,List.contains_nil,Option.getD_some,Option.getD_none,Nat.reduceBEq,Bool.or_false,Bool.false_or,Bool.or_self,bFt,Bool.or_true,Bool.true_or,if_false,if_true,go_sem]
        exact hK0 _ [none,none] _ .leaf (by simp) (hF2.out ⟨Nat.le_refl _,fun _ _ _=>rfl⟩ fun j hj=>by
          rcases hj with hj | hj
          · exact ⟨.inl hj,hF2.pl hj⟩
          · simp at hj) k2 rfl
      · rw [if_neg (by omega),if_pos hk] at hwh;obtain ⟨_,hK1⟩:=hwh rfl
        try simp only [J0]
        simp only [hk,Int.reduceEq,decide_true,decide_false,List.contains_cons,List.contains_nil,Option.getD_some,Option.getD_none,Nat.reduceBEq,Bool.or_false,Bool.false_or,Bool.or_self,bFt,Bool.or_true,Bool.true_or,if_false,if_true,go_sem];refine qY (k:=4) rfl rfl ⟨_,rfl⟩ (by decide) ?_
        try simp only [List.contains_cons,List.contains_nil,Option.getD_some,Option.getD_none,Nat.reduceBEq,Bool.or_false,Bool.false_or,Bool.or_self,bFt,Bool.or_true,Bool.true_or,if_false,if_true,go_sem]
        exact hK1 _ k2 (show ¬(5:Int)=0 by decide)
      rw [if_neg (by omega),if_neg (by omega)] at hwh;simp only [J0,W7,W8,Wy];simp only [hk,Int.reduceEq,decide_true,decide_false,List.contains_cons,List.contains_nil,Option.getD_some,Option.getD_none,Nat.reduceBEq,Bool.or_false,Bool.false_or,Bool.or_self,bFt,Bool.or_true,Bool.true_or,if_false,if_true,go_sem];refine qY (k:=4) rfl rfl ⟨_,rfl⟩ (by decide) ?_
      try simp only [List.contains_cons,List.contains_nil,Option.getD_some,Option.getD_none,Nat.reduceBEq,Bool.or_false,Bool.false_or,Bool.or_self,bFt,Bool.or_true,Bool.true_or,if_false,if_true,go_sem]
      have hpl:∀j,P j→j<h2.length:=fun j hj=>hF2.pl hj;refine Sem.loop (fun q:VP=>q.i≤M2.Control.Env.length∧IS (fun j=>P j∨j=q.kr∨some j∈q.SS) ci cid nid id q.g q.M q.cs q.l q.n∧MI b q.M∧q.l≤20000∧q.n≤400∧q.g[q.kr]?=some (.row 4 q.vs true)∧jX q.SS q.g q.vs q.ts∧q.ts.length=q.i∧h2.length≤q.kr∧(∀j,some j∈q.SS→h2.length≤j)∧some q.kr∉q.SS∧Keep P h2 q.g∧M2.Heap.length≤q.M.Heap.length∧
          zr (qp b f) M2.Control.Env M2 cs2 l2 (n+1)=(zr (qp b f) (M2.Control.Env.drop q.i) q.M q.cs q.l q.n).pre q.ts)
        (fun q=>(⟨[(0,.ptr cid 0 0),(2,.ptr id 0 0),(3,.int .i64 (d:Nat)),(4,.ptr nid 0 0),(62,.lst 1 (M2.Control.Env.map qE) false),(63,.int .i64 (M2.Control.Env.length:Nat)),(64,.int .i64 (q.i:Nat))],[(6,b.enc),(10,.agg [.int .i64 0,.int .i64 0,.nils,.nils]),(14,.agg [.int .i64 8,.int .i64 M2.Control.Term.Value,.nils,.slice 4 q.kr 0 q.i false])],q.g⟩:VSt)) (fun q=>M2.Control.Env.length-q.i) ⟨0,h2++[.row 4 [] true],h2.length,[],[],[],M2,cs2,l2,n+1⟩ (by kernel_rfl)
        ⟨Nat.zero_le _, ?_,hM2,by simp only;omega,by simp only;omega,by simp,.nil,rfl,Nat.le_refl _,by simp,by simp,⟨by simp,fun i hi=>List.getElem?_append_left (hpl i hi)⟩,Nat.le_refl _,rfl⟩ ?_ ?_
      · refine hF2.out ⟨by simp,fun i hi _=>List.getElem?_append_left hi⟩ fun j hj=> ?_;rcases hj with hj | rfl | hj
        · have:=hpl j hj;exact ⟨.inl hj,by simp;omega⟩
        · exact ⟨.inr (Nat.le_refl _),by simp⟩
        · simp at hj
      · refine Can.ph (w:=4) (WkN.same (by simp [go_sem]) (WkN.same (by simp [go_sem]) (WkN.same (by simp [go_sem]) (WkN.same (by simp [go_sem]) (WkN.same (by simp [go_sem]) (WkN.same (by simp [go_sem]) (WkN.same (by simp [go_sem]) .nil)))))))
          (WkN.same (by simp [go_sem]) (WkN.same (by simp [go_sem]) (WkN.cons (v:=.agg [.int .i64 8,.int .i64 M2.Control.Term.Value,.nils,.nils]) (by simp [go_sem]) (.agg (.same (.same (.same (.cons (.ph (by simp)) .nil))))) .nil)))
      rintro ⟨i,g,kr,SS,vs,ts,M3,cs3,l3,n3⟩ ⟨gi,gF,gM,gl,gn,gk,gO,gt,gkr,gss,gks,gK,gH,gf⟩;simp only at gi gF gM gl gn gk gO gt gkr gss gks gK gH gf⊢;have hnP:¬P kr:=fun q=>by have:=hpl _ q;omega
      have hvl:vs.length=i:=by rw [gO.v.1,ja,List.length_map,gt]
      try simp only [Wx,W9]
      try simp only [List.contains_cons,List.contains_nil,Option.getD_some,Option.getD_none,Nat.reduceBEq,Bool.or_false,Bool.false_or,Bool.or_self,bFt,Bool.or_true,Bool.true_or,if_false,if_true,go_sem]
      refine qI ?_ ?_<;>intro hc<;>simp only [hc,go_sem]
      · have hlt:i<M2.Control.Env.length:=by have:=odT hc;omega
        clear hc;simp only [List.getElem?_map,gEg hlt,Option.map_some,go_sem];simp only [qE]
        try simp only [List.contains_cons,List.contains_nil,Option.getD_some,Option.getD_none,Nat.reduceBEq,Bool.or_false,Bool.false_or,Bool.or_self,bFt,Bool.or_true,Bool.true_or,if_false,if_true,go_sem]
        refine qL c727 ?_
        try simp only [List.contains_cons,List.contains_nil,Option.getD_some,Option.getD_none,Nat.reduceBEq,Bool.or_false,Bool.false_or,Bool.or_self,bFt,Bool.or_true,Bool.true_or,if_false,if_true,go_sem]
        have hae:=hM2.c.e _ (gMm hlt);have hdr:=List.drop_eq_getElem_cons hlt;generalize M2.Control.Env[i]=a at*;have gM':=gM.at1 hae.1 (show a<(M3.Heap.length:Int) by omega);rw [hdr,qI2] at gf;obtain ⟨si,hi,js,hN⟩:=gF.m;have o1:(g++[qC.row 1 [AV.int .i64 a] true])[id]?=_:=(List.getElem?_append_left (qi hN.o)).trans hN.o;refine qo rfl o1 rfl (zg (pre:=[]) rfl rfl) ?_
        try simp only [List.contains_cons,List.contains_nil,Option.getD_some,Option.getD_none,Nat.reduceBEq,Bool.or_false,Bool.false_or,Bool.or_self,bFt,Bool.or_true,Bool.true_or,if_false,if_true,go_sem]
        obtain ⟨h3,c1,n1,k3⟩:=Yj (bb:=h.length) (t:=.mk 1 0 [] []) (env:=[a]) (e:=g.length) (g:=g++[qC.row 1 [AV.int .i64 a] true]) hN (by simp) (fun i hi=>List.getElem?_append_left hi) List.getElem?_concat_length (Nat.le_refl _);refine Sem.can (c1 _ _) (Sem.reg (by kernel_rfl) ?_);clear c1 o1 hN si hi js;obtain ⟨gF3',gK3⟩:=gF.go n1 k3;have gF3:IS (fun j=>P j∨j=kr∨some j∈SS) ci cid nid id h3 (M3.at1 a) cs3 l3 n3:=gF3';clear gF3';simp only [Wz,W0,W4];simp only [List.contains_cons,List.contains_nil,Option.getD_some,Option.getD_none,Nat.reduceBEq,Bool.or_false,Bool.false_or,Bool.or_self,bFt,Bool.or_true,Bool.true_or,if_false,if_true,go_sem];rw [zC (n:=(d:Int)+1) (by omega) (by omega),show (d:Int)+1=((d+1:Nat):Int) by omega];have hgood:=Vz hb f (M3.at1 a) cs3 l3 n3 gM';have gK3':Keep P h2 h3:=gK.trans (gK3.sub fun _=>.inl);refine qc (ih (by omega) gF3 gM' gl gn (fun h4 S v hO hS hF4 k4 h0=> ?_) fun h4 k4 h0=> ?_)
        · rw [if_neg (by simpa using h0)] at gf;obtain ⟨w0,w1,w2,w3,w4,w5⟩:=hgood h0;have e1:(M3.at1 a).Heap.length=M3.Heap.length:=rfl;generalize qp b f (M3.at1 a) cs3 l3 n3=r at*;obtain ⟨vc,rfl,hvc⟩:=hO.aggv;obtain ⟨x0,x1,x2,x3,rfl⟩:=len4 hvc
          try simp only [List.contains_cons,List.contains_nil,Option.getD_some,Option.getD_none,Nat.reduceBEq,Bool.or_false,Bool.false_or,Bool.or_self,bFt,Bool.or_true,Bool.true_or,if_false,if_true,go_sem]
          refine qY (k:=4) rfl hvc ⟨_,rfl⟩ (by decide) ?_
          try simp only [List.contains_cons,List.contains_nil,Option.getD_some,Option.getD_none,Nat.reduceBEq,Bool.or_false,Bool.false_or,Bool.or_self,bFt,Bool.or_true,Bool.true_or,if_false,if_true,go_sem]
          have hpl4:∀j,(P j∨j=kr∨some j∈SS)→j<h4.length:=fun j hj=>hF4.pl (.inl hj);have q4:h4[kr]?=some (.row 4 vs true):=(k4.2 kr (.inr (.inl rfl))).trans ((gK3.2 kr (.inr (.inl rfl))).trans gk);have l4:=qi q4;refine jl (xs:=vs) (js:=[]) List.getElem?_concat_length (by rw [List.getElem?_append_left l4,List.append_nil];exact q4) hvl (by omega) ?_;have e5:(h4++[qC.row 4 [AV.agg [x0,x1,x2,x3]] true]).length=h4.length+1:=by simp
          rw [e5]
          try simp only [List.contains_cons,List.contains_nil,Option.getD_some,Option.getD_none,Nat.reduceBEq,Bool.or_false,Bool.false_or,Bool.or_self,bFt,Bool.or_true,Bool.true_or,if_false,if_true,go_sem]
          rw [zA (show i<4611686018427387904 by omega)];obtain ⟨g5,hg5⟩:∃g5,g5=((h4++[qC.row 4 [AV.agg [x0,x1,x2,x3]] true]).set kr .dead)++[qC.row 4 (vs++[AV.agg [x0,x1,x2,x3]]) true]:=⟨_,rfl⟩;rw [←hg5];have hold:∀j,j<h4.length→j≠kr→g5[j]?=h4[j]?:=fun j hj hn=>by rw [hg5,List.getElem?_append_left (by simp;omega),List.getElem?_set_ne (Ne.symm hn),List.getElem?_append_left hj]
          have hgl:g5.length=h4.length+2:=by rw [hg5];simp
          have hSP:∀j,some j∈S→j<h4.length:=fun j hj=>hF4.pl (.inr hj);have hSk:∀j,some j∈S→j≠kr:=fun j hj=>by have:=hS j hj;have:=qi gk;have:=gK3.1;omega
          have hSS:∀j,some j∈SS→j<h3.length:=fun j hj=>by have:=gF3.pl (.inr (.inr hj));exact this
          have hSSk:∀j,some j∈SS→j≠kr:=fun j hj e=>gks (e▸hj);refine qx ⟨i+1,g5,h4.length+1,SS++S,vs++[.agg [x0,x1,x2,x3]],ts++[r.t],r.M,r.cs,r.l,r.n⟩ ⟨by simp only;omega,hF4.out ⟨(by first | omega | (simp only;omega)),fun j hj hn=>hold j hj fun e=>hn (.inl (.inr (.inl e)))⟩ fun j hj=> ?_,w1,by simp only;omega,w5, ?_,(gO.heap (fun j hj=> ?_)).snoc (hO.heap fun j hj=>hold j (hSP j hj) (hSk j hj)) (fun j hj hj2=> ?_),by simp only [lAp,List.length_cons,List.length_nil];omega,by simp only;omega,fun j hj=> ?_, ?_,gK3'.trans ((k4.sub fun _=>.inl).trans ⟨(by first | omega | (simp only;omega)),fun j hj=>hold j (hpl4 j (.inl hj)) fun e=>hnP (e▸hj)⟩),by simp only;omega, ?_⟩ (by simp only;omega) (Can.sub (by simp [go_sem]) (by simp [go_sem]))
          · simp only at hj;rcases hj with hj | rfl | hj
            · have:=hpl4 j (.inl hj);exact ⟨.inl (.inl (.inl hj)),(by first | omega | (simp only;omega))⟩
            · exact ⟨.inr (by first | omega | (simp only;omega)),(by first | omega | (simp only;omega))⟩
            · rcases List.mem_append.1 hj with hj | hj
              · have:=hpl4 j (.inr (.inr hj));exact ⟨.inl (.inl (.inr (.inr hj))),(by first | omega | (simp only;omega))⟩
              · have:=hSP j hj;exact ⟨.inl (.inr hj),(by first | omega | (simp only;omega))⟩
          · simp only;rw [hg5,List.getElem?_append_right (by simp)];simp
          · rw [hold j (hpl4 j (.inr (.inr hj))) (hSSk j hj),k4.2 j (.inr (.inr hj)),gK3.2 j (.inr (.inr hj))]
          · have:=hS j hj2;have:=hSS j hj;omega
          · rcases List.mem_append.1 hj with hj | hj
            · exact gss j hj
            · have:=hS j hj;have:=gK3'.1;omega
          · simp only [List.mem_append,not_or];exact ⟨fun q=>by have:=hSS _ q;have:=k4.1;omega,fun q=>by have:=hSP _ q;omega⟩
          · simp only;rw [gf,WF.pre_pre]
        · rw [if_pos h0] at gf;rw [gf] at hwh;rw [if_pos (by simpa [WF.pre] using h0)] at hwh;obtain ⟨_,hK1⟩:=hwh rfl
          try simp only [List.contains_cons,List.contains_nil,Option.getD_some,Option.getD_none,Nat.reduceBEq,Bool.or_false,Bool.false_or,Bool.or_self,bFt,Bool.or_true,Bool.true_or,if_false,if_true,go_sem]
          refine qY (k:=4) rfl rfl ⟨_,rfl⟩ (by decide) ?_
          try simp only [List.contains_cons,List.contains_nil,Option.getD_some,Option.getD_none,Nat.reduceBEq,Bool.or_false,Bool.false_or,Bool.or_self,bFt,Bool.or_true,Bool.true_or,if_false,if_true,go_sem]
          refine qI ?_ ?_<;>intro hc<;>simp only [hc,go_sem]
          · try simp only [List.contains_cons,List.contains_nil,Option.getD_some,Option.getD_none,Nat.reduceBEq,Bool.or_false,Bool.false_or,Bool.or_self,bFt,Bool.or_true,Bool.true_or,if_false,if_true,go_sem]
            refine qY (k:=4) rfl rfl ⟨_,rfl⟩ (by decide) ?_
            try simp only [List.contains_cons,List.contains_nil,Option.getD_some,Option.getD_none,Nat.reduceBEq,Bool.or_false,Bool.false_or,Bool.or_self,bFt,Bool.or_true,Bool.true_or,if_false,if_true,go_sem]
            exact hK1 _ (k2.trans (gK3'.trans (k4.sub fun _=>.inl))) h0
          · exact absurd (by simpa using hc) h0
      · obtain rfl:i=M2.Control.Env.length:=by have:=odF hc;omega
        clear hc;rw [List.drop_length,qI3] at gf;rw [gf] at hwh;rw [if_neg (by simp [WF.pre])] at hwh;simp only [WF.pre,List.append_nil] at hwh;obtain ⟨hK0,_⟩:=hwh rfl
        try simp only [List.contains_cons,List.contains_nil,Option.getD_some,Option.getD_none,Nat.reduceBEq,Bool.or_false,Bool.false_or,Bool.or_self,bFt,Bool.or_true,Bool.true_or,if_false,if_true,go_sem]
        refine qY (k:=4) rfl rfl ⟨_,rfl⟩ (by decide) ?_
        try simp only [List.contains_cons,List.contains_nil,Option.getD_some,Option.getD_none,Nat.reduceBEq,Bool.or_false,Bool.false_or,Bool.or_self,bFt,Bool.or_true,Bool.true_or,if_false,if_true,go_sem]
        have hown:=gO.con (x:=M2.Control.Term.Value) gk gks;rw [gt] at hown;exact hK0 _ _ _ hown (fun j hj=>by
          simp only [List.mem_cons,reduceCtorEq,Option.some.injEq,false_or] at hj;rcases hj with rfl | hj
          · omega
          · have:=gss j hj;omega) (gF.out (Q:=fun j=>P j∨some j∈none::some kr::SS) ⟨Nat.le_refl _,fun _ _ _=>rfl⟩ fun j hj=>by
          simp only [List.mem_cons,reduceCtorEq,Option.some.injEq,false_or] at hj;exact ⟨.inl hj,gF.pl hj⟩) (k2.trans gK) rfl
    · have hn4:400≤n:=by have:=odT (by simpa using hc);omega
      rw [qMM hn4] at hK1
      try simp only [List.contains_cons,List.contains_nil,Option.getD_some,Option.getD_none,Nat.reduceBEq,Bool.or_false,Bool.false_or,Bool.or_self,bFt,Bool.or_true,Bool.true_or,if_false,if_true,go_sem]
      refine qY (k:=4) rfl rfl ⟨_,rfl⟩ (by decide) ?_
      try simp only [List.contains_cons,List.contains_nil,Option.getD_some,Option.getD_none,Nat.reduceBEq,Bool.or_false,Bool.false_or,Bool.or_self,bFt,Bool.or_true,Bool.true_or,if_false,if_true,go_sem]
      exact hK1 _ hK2 (show ¬(4:Int)=0 by decide)
end
end Go.Ab
namespace Go.Ab
open Go
set_option maxRecDepth 10000
set_option maxHeartbeats 2000000
theorem qOU {S:List (Option Nat)} {h:List qC} {v:AV} {y:qA×List Int×Int} {t:qA} {k:List Int} {ci:Nat} (he:y=(t,k,0)) (hO:jM S h v t) (hc:h[ci]?=some (.row 1 (k.map qE) true)) (hn:some ci∉S) (hk:k.length=4):FinF (some [v,.slice 1 ci 0 4 false,.int .i64 0]) h (jJ y):=by
  subst he;have hl:=hO.len;have m:∀i,i<t.enc.rows→(S++[some ci])[0+i]?=S[0+i]?:=fun i hi=>List.getElem?_append_left (by omega);refine ⟨S++[some ci],ZQ hO.d rfl (fun j hj hj2=>by simp at hj2;subst hj2;exact hn hj), ?_, ?_⟩
  · rw [Y5];refine Jb (qKF (qA.plx t) m hO.o) ⟨.row hc (VR2s.trees (qk _)),trivial⟩
  · rw [Y5];refine .tup rfl (VR2s.cons (VR2.move _ _ _ _ (qA.plx t) m hO.v) (VR2s.cons ?_ (VR2s.cons (.tree rfl) VR2s.nil))).2;rw [hk];exact .slice (by rw [←hl,Nat.zero_add,List.getElem?_append_right (Nat.le_refl _),Nat.sub_self];rfl)
theorem n84 {b:qH} {c:qA} {budget:Int} (hb:b.sz≤1048576) (hz:c.sz≤1048576):Fresh Gm 84 [b.enc,c.enc,.int .i64 budget] (jJ (jS b c budget)):=by
  refine Fresh.intro [] [] g84 (by kernel_rfl) rfl (by simp [AV.trees,AV.tree,go_sem]) qR6 ?_;simp only [F84,qK,go_sem];refine qd rfl ?_;simp only [go_sem];refine qd qA.ln ?_;simp only [go_sem];refine qL (c343 hb hz) ?_;cases hs:z9 b c with
  | false=>
    simp only [bFt,if_false,go_sem];refine qo rfl rfl rfl (jt (k:=7) rfl rfl ⟨fun _=>⟨_,rfl⟩,fun _=>⟨_,rfl⟩⟩ (by decide)) ?_;simp only [ZF]
    try simp only [List.contains_cons,List.contains_nil,Option.getD_some,Option.getD_none,Nat.reduceBEq,Bool.or_false,Bool.false_or,Bool.or_self,bFt,Bool.or_true,Bool.true_or,if_false,if_true,go_sem]
    refine qI ?_ ?_<;>intro hc<;>simp only [hc,go_sem]
    · try simp only [List.contains_cons,List.contains_nil,Option.getD_some,Option.getD_none,Nat.reduceBEq,Bool.or_false,Bool.false_or,Bool.or_self,bFt,Bool.or_true,Bool.true_or,if_false,if_true,go_sem]
      refine qY (k:=4) rfl rfl ⟨_,rfl⟩ (by decide) ?_
      try simp only [List.contains_cons,List.contains_nil,Option.getD_some,Option.getD_none,Nat.reduceBEq,Bool.or_false,Bool.false_or,Bool.or_self,bFt,Bool.or_true,Bool.true_or,if_false,if_true,go_sem]
      exact qFZ (by unfold jS;rw [if_pos hs])
    · exact absurd hc (by decide)
  | true=>
    simp only [if_true,go_sem];refine qo rfl rfl rfl (jt (k:=7) rfl rfl ⟨fun _=>⟨_,rfl⟩,fun _=>⟨_,rfl⟩⟩ (by decide)) ?_;simp only [ZF,List.nil_append,List.set_cons_zero]
    try simp only [List.contains_cons,List.contains_nil,Option.getD_some,Option.getD_none,Nat.reduceBEq,Bool.or_false,Bool.false_or,Bool.or_self,bFt,Bool.or_true,Bool.true_or,if_false,if_true,go_sem]
    refine qL c344 ?_
    try simp only [List.contains_cons,List.contains_nil,Option.getD_some,Option.getD_none,Nat.reduceBEq,Bool.or_false,Bool.false_or,Bool.or_self,bFt,Bool.or_true,Bool.true_or,if_false,if_true,go_sem]
    refine qI ?_ ?_<;>intro hc<;>simp only [hc,go_sem]
    · try simp only [List.contains_cons,List.contains_nil,Option.getD_some,Option.getD_none,Nat.reduceBEq,Bool.or_false,Bool.false_or,Bool.or_self,bFt,Bool.or_true,Bool.true_or,if_false,if_true,go_sem]
      refine qY (k:=4) rfl rfl ⟨_,rfl⟩ (by decide) ?_
      try simp only [List.contains_cons,List.contains_nil,Option.getD_some,Option.getD_none,Nat.reduceBEq,Bool.or_false,Bool.false_or,Bool.or_self,bFt,Bool.or_true,Bool.true_or,if_false,if_true,go_sem]
      exact qFZ (by unfold jS;rw [if_neg (by rw [hs];decide),if_pos (nt hc)])
    have hi:=nf hc;clear hc;obtain ⟨hbI,hMI⟩:=qHE hs;obtain ⟨h0,h1⟩:0≤budget∧budget≤20000:=by simpa [inI] using hi
    obtain ⟨l,rfl⟩:∃l:Nat,budget=l:=⟨budget.toNat,by omega⟩;have hv:jS b c (l:Nat)=if (qp b 80 ⟨⟨c,[]⟩,[],[]⟩ [0,0,0,0] l 0).e=0 then ((qp b 80 ⟨⟨c,[]⟩,[],[]⟩ [0,0,0,0] l 0).t,(qp b 80 ⟨⟨c,[]⟩,[],[]⟩ [0,0,0,0] l 0).cs,0)
        else (zd,[],(qp b 80 ⟨⟨c,[]⟩,[],[]⟩ [0,0,0,0] l 0).e):=by
      unfold jS;rw [if_neg (by rw [hs];decide),if_neg (by rw [hi];decide),Int.toNat_natCast]
    refine Zj (n:=4) (by decide) ?_
    try simp only [List.contains_cons,List.contains_nil,Option.getD_some,Option.getD_none,Nat.reduceBEq,Bool.or_false,Bool.false_or,Bool.or_self,bFt,Bool.or_true,Bool.true_or,if_false,if_true,go_sem]
    refine wm rfl ?_
    try simp only [List.contains_cons,List.contains_nil,Option.getD_some,Option.getD_none,Nat.reduceBEq,Bool.or_false,Bool.false_or,Bool.or_self,bFt,Bool.or_true,Bool.true_or,if_false,if_true,go_sem]
    simp only [go_sem,List.nil_append,List.cons_append,List.set_cons_zero,List.set_cons_succ];refine qo rfl rfl rfl (show (AV.int .i64 0).put 0 (.int .i64 0)=some (.int .i64 0) from rfl) ?_;simp only [go_sem,List.nil_append,List.cons_append,List.set_cons_zero,List.set_cons_succ]
    try simp only [List.contains_cons,List.contains_nil,Option.getD_some,Option.getD_none,Nat.reduceBEq,Bool.or_false,Bool.false_or,Bool.or_self,bFt,Bool.or_true,Bool.true_or,if_false,if_true,go_sem]
    refine qc (SCall.ph (w:=8) (vs':=[.ptr 2 0 0,b.enc,.ptr 0 0 0,.int .i64 1,.ptr 3 0 0]) (h2:=[.row 7 [.agg [.int .i64 c.Kind,.int .i64 c.Value,.lst 1 (c.Data.map qE) false,.lst 4 (c.Kids.map qA.enc) false,.lst 1 [] false,.slice 8 4 0 0 false,.nils]] true,
        .row 1 (List.replicate 4 (.int .i64 0)) true,.row 2 [.agg [.slice 1 1 0 4 false,.int .i64 (l:Nat)]] true,.row 1 [.int .i64 0] true,.row 8 [] true]) (Wks.refl _)
      (WkH.at' (i:=0) rfl (.cons (.agg (.same (.same (.same (.same (.cons .nilL (.cons (.ph (by simp)) (.refl _)))))))) .nil))
      (SCall.ph (w:=6) (vs':=[.ptr 2 0 0,b.enc,.ptr 0 0 0,.int .i64 1,.ptr 3 0 0]) (h2:=[.row 7 [.agg [.int .i64 c.Kind,.int .i64 c.Value,.lst 1 (c.Data.map qE) false,.lst 4 (c.Kids.map qA.enc) false,.lst 1 [] false,.slice 8 4 0 0 false,.slice 6 5 0 0 false]] true,
        .row 1 (List.replicate 4 (.int .i64 0)) true,.row 2 [.agg [.slice 1 1 0 4 false,.int .i64 (l:Nat)]] true,.row 1 [.int .i64 0] true,.row 8 [] true,.row 6 [] true]) (Wks.refl _)
      (WkH.at' (i:=0) rfl (.cons (.agg (.same (.same (.same (.same (.same (.same (.cons (.ph (by simp)) .nil)))))))) .nil))
      (s345 hbI 80 (P:=fun _=>False) (ci:=1) (cid:=2) (nid:=3) (id:=0) (M:=⟨⟨c,[]⟩,[],[]⟩) (cs:=[0,0,0,0]) (l:=l) (n:=0) (d:=1) rfl
        ⟨⟨4,5,[],rfl,rfl,rfl,by decide,by decide,by decide,by simp,by simp,by simp,fun j hj=>by
          rcases hj with hj | rfl | rfl | rfl
          · exact hj.elim
          all_goals simp⟩,rfl,rfl,rfl,by decide,by decide,by decide,id,id,id,rfl⟩ hMI (by omega) (by omega)
        (fun h' S v hO hS hF _ h0=> ?_) fun h' _ h0=> ?_)))
    · rw [if_pos h0] at hv;have hck:=hF.k;obtain ⟨vc,rfl,hvc⟩:=hO.aggv;obtain ⟨x0,x1,x2,x3,rfl⟩:=len4 hvc
      try simp only [List.contains_cons,List.contains_nil,Option.getD_some,Option.getD_none,Nat.reduceBEq,Bool.or_false,Bool.false_or,Bool.or_self,bFt,Bool.or_true,Bool.true_or,if_false,if_true,go_sem]
      refine qY (k:=4) rfl rfl ⟨_,rfl⟩ (by decide) ?_
      try simp only [List.contains_cons,List.contains_nil,Option.getD_some,Option.getD_none,Nat.reduceBEq,Bool.or_false,Bool.false_or,Bool.or_self,bFt,Bool.or_true,Bool.true_or,if_false,if_true,go_sem]
      have hp0:zp none 0 0 h'[2]?=some (.slice 1 1 0 4 false):=by rw [hF.o];rfl
      try simp only [YH]
      try simp only [List.contains_cons,List.contains_nil,Option.getD_some,Option.getD_none,Nat.reduceBEq,Bool.or_false,Bool.false_or,Bool.or_self,bFt,Bool.or_true,Bool.true_or,if_false,if_true,go_sem]
      rw [hp0]
      try simp only [List.contains_cons,List.contains_nil,Option.getD_some,Option.getD_none,Nat.reduceBEq,Bool.or_false,Bool.false_or,Bool.or_self,bFt,Bool.or_true,Bool.true_or,if_false,if_true,go_sem]
      refine qY (k:=4) rfl rfl ⟨_,rfl⟩ (by decide) ?_
      try simp only [List.contains_cons,List.contains_nil,Option.getD_some,Option.getD_none,Nat.reduceBEq,Bool.or_false,Bool.false_or,Bool.or_self,bFt,Bool.or_true,Bool.true_or,if_false,if_true,go_sem]
      exact qOU hv hO hF.c (fun q=>hF.p1 (.inr q)) hck
    · rw [if_neg h0] at hv
      try simp only [List.contains_cons,List.contains_nil,Option.getD_some,Option.getD_none,Nat.reduceBEq,Bool.or_false,Bool.false_or,Bool.or_self,bFt,Bool.or_true,Bool.true_or,if_false,if_true,go_sem]
      refine qY (k:=4) rfl rfl ⟨_,rfl⟩ (by decide) ?_
      try simp only [List.contains_cons,List.contains_nil,Option.getD_some,Option.getD_none,Nat.reduceBEq,Bool.or_false,Bool.false_or,Bool.or_self,bFt,Bool.or_true,Bool.true_or,if_false,if_true,go_sem]
      refine qI ?_ ?_<;>intro hc<;>simp only [hc,go_sem]
      · try simp only [List.contains_cons,List.contains_nil,Option.getD_some,Option.getD_none,Nat.reduceBEq,Bool.or_false,Bool.false_or,Bool.or_self,bFt,Bool.or_true,Bool.true_or,if_false,if_true,go_sem]
        refine qY (k:=4) rfl rfl ⟨_,rfl⟩ (by decide) ?_
        try simp only [List.contains_cons,List.contains_nil,Option.getD_some,Option.getD_none,Nat.reduceBEq,Bool.or_false,Bool.false_or,Bool.or_self,bFt,Bool.or_true,Bool.true_or,if_false,if_true,go_sem]
        exact qFZ hv
      · exact absurd (by simpa using hc) h0
end Go.Ab
namespace Go.Ab
open Go
set_option maxRecDepth 10000
set_option maxHeartbeats 2000000
attribute [local simp] qn qk zO
end Go.Ab
namespace Go.Ab
open Go
set_option maxRecDepth 10000
set_option maxHeartbeats 2000000
attribute [local simp] qn qk zO
end Go.Ab
namespace Go.Ab
open Go
set_option maxRecDepth 10000
set_option maxHeartbeats 2000000
attribute [local simp] qn qk zO
theorem Y6 {t:AV} {n:Nat} {pre post h:List qC} (hp:t.pl=true) (hc:t.cn=true) (hn:pre.length=n) (hh:h=pre++((lay t n).2++post)):Cv h (lay t n).1 t:=by
  subst hn;exact qF9 hp hc hh
def KL (k:List Int):AV:=.lst 1 (k.map qE) false
theorem qHQ {k:List Int}:(KL k).pl=true:=by simp [KL,AV.pl,plsI]
theorem qHP {k:List Int}:(KL k).cn=true:=by simp [KL,AV.cn,Ye (enc:=qE) (fun _=>rfl)]
theorem layK {c:qA} {k:List Int} {e:Int} (n:Nat):lay (jJ (c,k,e)) n=(.tup [(lay c.enc n).1,(lay (KL k) (n+c.enc.rows)).1,.int .i64 e],(lay c.enc n).2++(lay (KL k) (n+c.enc.rows)).2):=by
  simp [jJ,KL,lay,qN,qa,qJT]
theorem qIQ (k:List Int):qF ctI k≤k.length:=by rw [wa];exact Nat.le_refl _
theorem c86K {k:List Int} (hk:k.length≤5):Pure Gm 86 [KL k,.lst 1 (k.map qE) false] (.bool true):=c86 k (by omega)
theorem k90K {k:List Int} {m:Int} (h0:0≤m) (hm:m≤2305843009213693952) (hk:k.length≤5):Mark Gm 90 (KL k) (KL (mkL mkI ctI k m)) m (m+(qF ctI k:Nat)):=
  k90 k m h0 (by have:=qIQ k;omega) (by omega)
theorem q92K {k:List Int} {m:Int} (h0:0≤m) (hm:m≤2305843009213693952) (hk:k.length≤5):Pure Gm 92 [KL (mkL mkI ctI k m),.int .i64 m] (.int .i64 (m+(qF ctI k:Nat))):=
  q92 k m h0 (by have:=qIQ k;omega) (by omega)
theorem qQG {k:List Int} {m:Int} (n:Nat):(lay (KL (mkL mkI ctI k m)) n).1=(lay (KL k) n).1:=by simp [KL,lay,j6]
end Go.Ab
namespace Go.Ab
open Go
set_option maxRecDepth 10000
set_option maxHeartbeats 2000000
theorem qRP {b:qH} {c:qA} {budget:Int}:(jS b c budget).1.sz≤1048576∧(jS b c budget).2.1.length≤5:=by
  have hz:zd.sz≤1048576:=by unfold zd;rw [qA.sz_eq];simp [qA.Data,qA.Kids,qF]
  unfold jS;split
  · exact ⟨hz,by simp⟩
  split
  · exact ⟨hz,by simp⟩
  split
  · rename_i h1 _ h3;obtain ⟨hb,hM⟩:=qHE (b:=b) (c:=c) (by simpa using h1);obtain ⟨_,_,_,w3,w4,w5⟩:=Vz hb 80 _ [0,0,0,0] budget.toNat 0 hM h3;exact ⟨by simp only;omega,by simp only;rw [w3];decide⟩
  · exact ⟨hz,by simp⟩
attribute [local simp] qn qk zO
theorem c5 {b:qH} {c:qA} {budget:Int} (hb:b.bd) (hx:c.bd):Pure Gm 5 [b.enc,c.enc,.int .i64 budget] (.bool true):=by
  refine Pure.intro [] [] g5 (by kernel_rfl) rfl (by simp [AV.trees,AV.tree,go_sem]) rfl ?_;simp only [F5,qK,go_sem];refine qd rfl ?_;simp only [go_sem];refine qd qA.ln ?_;simp only [go_sem];refine qL (c79 b hb 1048576 (by omega)) ?_;simp only [go_sem];refine qI ?_ ?_<;>intro hc<;>simp only [hc,go_sem]
  · exact qO rfl rfl
  have hbz:b.sz≤1048576:=by
    have:=odF hc;rw [wF] at this;omega
  rw [jp hbz];refine qL (c80 c hx (1048576-b.sz) (by omega)) ?_;simp only [go_sem];refine qI ?_ ?_<;>intro hc<;>simp only [hc,go_sem]
  · exact qO rfl rfl
  have hcz:c.sz≤1048576-b.sz:=by
    have:=odF hc;rw [wF] at this;omega
  have hAz:=qRP (b:=b) (c:=c) (budget:=budget);have k0:=c81 (budget:=budget) hbz (c:=c) (by omega);have k1:=n84 (budget:=budget) hbz (c:=c) (by omega);generalize jS b c budget=A at hAz k0 k1;obtain ⟨G,k,e⟩:=A;simp only at hAz;refine qL (c82 b hbz) ?_;simp only [go_sem];refine qL (c83 c (by omega)) ?_;simp only [go_sem];refine qL k0 ?_;simp only [jJ,go_sem];refine qY (k:=4) (by rfl) (by simp [go_sem]) (qA.isAgg _) (by decide) ?_;simp only [go_sem];refine w8 (n82 b hbz) ?_;simp only [go_sem];refine qY (k:=1) rfl (qQF b 0) (qQE b 0) (by decide) ?_;simp only [zR,go_sem];refine w8 (n83 c (by omega)) ?_;simp only [go_sem];refine qGG rfl ?_;obtain ⟨B,hB⟩:∃B,B=b.enc.rows:=⟨_,rfl⟩;obtain ⟨C,hC⟩:∃C,C=c.enc.rows:=⟨_,rfl⟩;obtain ⟨D,hD⟩:∃D,D=G.enc.rows:=⟨_,rfl⟩;simp only [zT,zR,go_sem,List.nil_append,qa,←hB];have atB:∀{h post:List qC},h=(lay b.enc 0).2++post→Cv h (lay b.enc 0).1 b.enc:=fun {h post} hh=>qF9 (pre:=[]) (qH.plx b) (qH.cnx b) hh;have atC:∀{b':qH} {h post:List qC},b'.enc.rows=B→h=(lay b'.enc 0).2++((lay c.enc B).2++post)→Cv h (lay c.enc B).1 c.enc:=fun {b' h post} hr hh=>Y6 (qA.plx c) (qA.cnx c) ((qa _ _).trans hr) hh;have atG:∀{b':qH} {c' G':qA} {h post:List qC},b'.enc.rows=B→c'.enc.rows=C→h=(lay b'.enc 0).2++((lay c'.enc B).2++((lay G'.enc (B+C)).2++post))→Cv h (lay G'.enc (B+C)).1 G'.enc:=fun {b' c' G' h post} hr hr2 hh=>
    Y6 (pre:=(lay b'.enc 0).2++(lay c'.enc B).2) (post:=post) (qA.plx G') (qA.cnx G') (by rw [lAp,qa,qa,hr,hr2]) (by rw [List.append_assoc];exact hh)
  have atK:∀{b':qH} {c' G':qA} {k':List Int} {h post:List qC},b'.enc.rows=B→c'.enc.rows=C→G'.enc.rows=D→h=(lay b'.enc 0).2++((lay c'.enc B).2++((lay G'.enc (B+C)).2++((lay (KL k') (B+C+D)).2++post)))→Cv h (lay (KL k') (B+C+D)).1 (KL k'):=fun {b' c' G' k' h post} hr hr2 hr3 hh=>
    Y6 (pre:=(lay b'.enc 0).2++((lay c'.enc B).2++(lay G'.enc (B+C)).2)) (post:=post) qHQ qHP (by simp only [lAp,qa,hr,hr2,hr3];omega) (by simp only [List.append_assoc];exact hh)
  refine qID (Cvs.cons (atB (post:=(lay c.enc B).2) rfl) (Cvs.cons (atC (b':=b) (post:=[]) hB.symm (by simp)) (Cvs.cons (.refl rfl) Cvs.nil))) k1 ?_;have hlBC:((lay b.enc 0).2++(lay c.enc B).2).length=B+C:=by rw [lAp,qa,qa,hB,hC]
  simp only [hlBC,layK,←hD,zT,zR,go_sem,List.append_assoc];refine qGG rfl ?_;simp only [zT,zR,go_sem];refine jY (Cvs.cons (atG (b':=b) (c':=c) (post:=(lay (KL k) (B+C+D)).2) hB.symm hC.symm rfl) (Cvs.cons (.refl (by simp [go_sem])) Cvs.nil)) (c85 G (by omega)) rfl ?_;simp only [zT,zR,go_sem];refine jY (Cvs.cons (atK (b':=b) (c':=c) (G':=G) (post:=[]) hB.symm hC.symm hD.symm (by simp)) (Cvs.cons (.refl (by simp [AV.tree])) Cvs.nil)) (c86K hAz.2) rfl ?_;simp only [zT,zR,go_sem];refine qL (c82 b hbz) ?_;simp only [zT,zR,go_sem];refine jY (Cvs.cons (atB rfl) (Cvs.cons (.refl (by simp [go_sem])) Cvs.nil)) (c87 b (by omega)) rfl ?_;simp only [zT,zR,go_sem];refine qL (c83 c (by omega)) ?_;simp only [zT,zR,go_sem];refine jY (Cvs.cons (atC (b':=b) hB.symm rfl) (Cvs.cons (.refl (by simp [go_sem])) Cvs.nil)) (c85 c (by omega)) rfl ?_;simp only [zT,zR,go_sem];have ctB:=b.ctVle;have ctC:=c.ctVle;have ctG:=G.ctVle;refine wX (k88 b 1 (by omega) (by omega) (by omega)) (pre:=[]) rfl rfl rfl ?_;simp only [zT,zR,go_sem,List.nil_append];have hlB:(lay (b.mkV 1).enc 0).2.length=B:=by rw [qa,qH.rowsV,hB]
  refine wX (k89 c (1+((b.ctV:Nat):Int)) (by omega) (by omega) (by omega)) hlB rfl rfl ?_;simp only [zT,zR,go_sem];have hneg:decide ((1:Int)+((b.ctV:Nat):Int)+((c.ctV:Nat):Int)<0)=false:=decide_eq_false (by omega);simp only [hneg,zT,zR,go_sem];have hrB:(b.mkV 1).enc.rows=B:=by rw [qH.rowsV,hB]
  have hrC:(c.mkV (1+((b.ctV:Nat):Int))).enc.rows=C:=by rw [qA.rowsV,hC]
  have hrG:(G.mkV 1).enc.rows=D:=by rw [qA.rowsV,hD]
  refine jY (Cvs.cons (atG (b':=b.mkV 1) (c':=c.mkV (1+((b.ctV:Nat):Int))) hrB hrC rfl) (Cvs.cons (.refl (by simp [go_sem])) Cvs.nil)) (c85 G (by omega)) rfl ?_;simp only [zT,zR,go_sem];refine jY (Cvs.cons (atK (b':=b.mkV 1) (c':=c.mkV (1+((b.ctV:Nat):Int))) (G':=G) (post:=[]) hrB hrC hD.symm (by simp)) (Cvs.cons (.refl (by simp [AV.tree])) Cvs.nil)) (c86K hAz.2) rfl ?_;simp only [zT,zR,go_sem];have hlG:((lay (b.mkV 1).enc 0).2++(lay (c.mkV (1+((b.ctV:Nat):Int))).enc B).2).length=B+C:=by rw [lAp,qa,qa,hrB,hrC]
  refine wX (k89 G 1 (by omega) (by omega) (by omega)) (post:=(lay (KL k) (B+C+D)).2) hlG (by simp only [List.append_assoc]) rfl ?_;simp only [zT,zR,go_sem,List.append_assoc];have hlK:((lay (b.mkV 1).enc 0).2++((lay (c.mkV (1+((b.ctV:Nat):Int))).enc B).2++(lay (G.mkV 1).enc (B+C)).2)).length=B+C+D:=by simp only [lAp,qa,hrB,hrC,hrG];omega
  refine wX (k90K (k:=k) (m:=1+((G.ctV:Nat):Int)) (by omega) (by omega) hAz.2) (post:=[]) hlK (by simp only [List.append_assoc,List.append_nil]) rfl ?_;simp only [zT,zR,go_sem,List.append_assoc,List.append_nil];obtain ⟨M,hM⟩:∃M,M=mkL mkI ctI k (1+((G.ctV:Nat):Int)):=⟨_,rfl⟩;have hMK:∀n,(lay (KL k) n).1=(lay (KL M) n).1:=fun n=>by rw [hM,qQG]
  rw [←hM];refine jY (Cvs.cons (by rw [←qJN G 1];exact atG (post:=(lay (KL M) (B+C+D)).2) hrB hrC rfl) (Cvs.cons (.refl rfl) Cvs.nil)) (q91 G 1 (by omega) (by omega) (by omega)) rfl ?_;have hneg2:decide ((1:Int)+((G.ctV:Nat):Int)<0)=false:=decide_eq_false (by omega);have hneg3:decide ((1:Int)+((G.ctV:Nat):Int)+((qF ctI k:Nat):Int)<0)=false:=decide_eq_false (by omega);simp only [hneg2,zT,zR,go_sem];have q92M:=q92K (k:=k) (m:=1+((G.ctV:Nat):Int)) (by omega) (by omega) hAz.2;rw [←hM] at q92M;refine jY (Cvs.cons (by rw [hMK];exact atK (post:=[]) hrB hrC hrG (by simp)) (Cvs.cons (.refl rfl) Cvs.nil)) q92M rfl ?_;simp only [hneg3,zT,zR,go_sem];refine qL (c82 b hbz) ?_;simp only [zT,zR,go_sem];refine qL (c83 c (by omega)) ?_;simp only [zT,zR,go_sem];obtain ⟨P,hP⟩:∃P,P=(lay (b.mkV 1).enc 0).2++((lay (c.mkV (1+((b.ctV:Nat):Int))).enc B).2++((lay (G.mkV 1).enc (B+C)).2++(lay (KL M) (B+C+D)).2)):=⟨_,rfl⟩;rw [←hP];refine w8 k1 ?_;simp only [layK,zT,zR,go_sem];refine qGG rfl ?_;simp only [zT,zR,go_sem];refine jY (Cvs.cons (qF9 (pre:=P) (post:=(lay (KL k) (P.length+G.enc.rows)).2) (qA.plx G) (qA.cnx G) rfl) (Cvs.cons (.refl (by simp [go_sem])) Cvs.nil)) (c85 G (by omega)) rfl ?_;simp only [zT,zR,go_sem];refine jY (Cvs.cons (Y6 (pre:=P++(lay G.enc P.length).2) (post:=[]) qHQ qHP (by rw [lAp,qa]) (by simp)) (Cvs.cons (.refl (by simp [AV.tree])) Cvs.nil)) (c86K hAz.2) rfl ?_;simp only [zT,zR,go_sem];refine jY (Cvs.cons (by rw [←qJN G 1];exact atG (post:=(lay (KL M) (B+C+D)).2++((lay G.enc P.length).2++(lay (KL k) (P.length+G.enc.rows)).2)) hrB hrC (by have e:=congrArg (· ++((lay G.enc P.length).2++(lay (KL k) (P.length+G.enc.rows)).2)) hP;simpa only [List.append_assoc] using e)) (Cvs.cons (.refl rfl) Cvs.nil)) (q91 G 1 (by omega) (by omega) (by omega)) rfl ?_;simp only [hneg2,zT,zR,go_sem];refine jY (Cvs.cons (by rw [hMK];exact atK (post:=(lay G.enc P.length).2++(lay (KL k) (P.length+G.enc.rows)).2) hrB hrC hrG (by have e:=congrArg (· ++((lay G.enc P.length).2++(lay (KL k) (P.length+G.enc.rows)).2)) hP;simpa only [List.append_assoc] using e)) (Cvs.cons (.refl rfl) Cvs.nil)) q92M rfl ?_;simp only [hneg3,zT,zR,go_sem];exact qO rfl rfl
end Go.Ab
