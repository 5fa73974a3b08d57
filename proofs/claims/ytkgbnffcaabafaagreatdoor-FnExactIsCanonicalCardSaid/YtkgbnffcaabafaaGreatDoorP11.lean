/- Texts Bd1 .. Bd2: the abstract machine, its laws and contracts of functions: lemmas for the statement. No condition. -/
import Derived.Shelf.Strings.Builder1
import Derived.Test.YtkgbnffcaabafaaGreatDoorP6
import Derived.Test.YtkgbnffcaabafaaGreatDoorP10
set_option linter.unusedSimpArgs false
set_option linter.unusedVariables false
namespace Go.Ab
open Go Go.Proofs Go.Shelf Go.RowKit
set_option maxHeartbeats 2000000
set_option maxRecDepth 100000
variable {P:Program} {ρ:Go.Shelf.Ren}
theorem qf8(L:Lays.n169 P ρ)(X:Builder.Extra P ρ)(b g cap cells:Nat)(l:List UInt8)(w:World)(h0:l≠[])(c1:w.drew.cell? ⟨b,1,none⟩=some (.slice (some ⟨g,0,none⟩) l.length cap))(hc:l.length<=cap)
  (hsh:w.drew.shape? g=some (ρ.t 5,cells)) (hn:l.length<=cells) (h63:l.length<=9223372036854775807) (hcell:∀j x,l[j]?=some x->w.drew.cell? ((⟨g,0,none⟩:Addr).add j)=some (.int .u8 x.toNat)):
  Calls P (ρ.f 169) #[.pointer (some ⟨b,0,none⟩)] w fun e w'=>e=.returned (.string ⟨l.toArray⟩)/\w'=w.drew.freeze ⟨g,0,none⟩ l.length:=by
 have hl:l.length≠0:=fun e=>h0 (List.length_eq_zero_iff.1 e);have hSD:(Builtin.unsafeSliceData_ #[(ρ.t 37)] (ρ.t 127) #[.slice (some ⟨g,0,none⟩) l.length cap]).run P w.drew=.ok (.pointer (some ⟨g,0,none⟩)) w.drew:=
  Lib.run_unsafeSliceData_row _ _ _ _ _ _ (by omega)
 have hUS:(Builtin.unsafeString_ #[(ρ.t 127),(ρ.t 3)] (ρ.t 9) #[.pointer (some ⟨g,0,none⟩),.int .i64 l.length]).run P w.drew=.ok (.string ⟨l.toArray⟩) (w.drew.freeze ⟨g,0,none⟩ l.length):=
  Lib.run_unsafeString_row w.drew (ρ.t 127) (ρ.t 3) (ρ.t 9) (ρ.t 5) L.t127 X.cellsByte g cells hsh l h0 hn h63 hcell
 have mixed:=L.mixed;have t72:=L.t72;have a72:=L.a72;have z72:=L.z72;have v72:=L.v72;have u72:=run_underlying L.t72;have t70:=L.t70;have a70:=L.a70;have z70:=L.z70;have v70:=L.v70;have u70:=run_underlying L.t70;have t37:=L.t37;have a37:=L.a37;have z37:=L.z37;have v37:=L.v37;have u37:=run_underlying L.t37;have t127:=L.t127;have a127:=L.a127;have z127:=L.z127;have v127:=L.v127;have u127:=run_underlying L.t127;have t3:=L.t3;have a3:=L.a3;have z3:=L.z3;have v3:=L.v3;have u3:=run_underlying L.t3;have t9:=L.t9;have a9:=L.a9;have z9:=L.z9;have v9:=L.v9;have u9:=run_underlying L.t9;have t5:=X.t5;have a5:=X.a5;have z5:=X.z5;have v5:=X.v5;have u5:=run_underlying X.t5
 go_enter L.f169,Body.n169_ntmps ρ
 go_wp2
 go_region_o
 all_goals (go_wp2;go_ret;exact⟨rfl,rfl⟩)
theorem qf9(L:Lays.n169 P ρ)(X:Builder.Extra P ρ)(b:Nat)(w:World)(c1:w.drew.cell? ⟨b,1,none⟩=some (.slice none 0 0)):
  Calls P (ρ.f 169) #[.pointer (some ⟨b,0,none⟩)] w fun e w'=>e=.returned (.string ⟨#[]⟩)/\w'=w.drew:=by
 have hUS:=Any.unsafeString_none L X;have hSD:(Builtin.unsafeSliceData_ #[(ρ.t 37)] (ρ.t 127) #[.slice none 0 0]).run P w.drew=.ok (.pointer none) w.drew:=Lib.run_unsafeSliceData_nil _ _ _ _ _;have mixed:=L.mixed;have t72:=L.t72;have a72:=L.a72;have z72:=L.z72;have v72:=L.v72;have u72:=run_underlying L.t72;have t70:=L.t70;have a70:=L.a70;have z70:=L.z70;have v70:=L.v70;have u70:=run_underlying L.t70;have t37:=L.t37;have a37:=L.a37;have z37:=L.z37;have v37:=L.v37;have u37:=run_underlying L.t37;have t127:=L.t127;have a127:=L.a127;have z127:=L.z127;have v127:=L.v127;have u127:=run_underlying L.t127;have t3:=L.t3;have a3:=L.a3;have z3:=L.z3;have v3:=L.v3;have u3:=run_underlying L.t3;have t9:=L.t9;have a9:=L.a9;have z9:=L.z9;have v9:=L.v9;have u9:=run_underlying L.t9;have t5:=X.t5;have a5:=X.a5;have z5:=X.z5;have v5:=X.v5;have u5:=run_underlying X.t5
 go_enter L.f169,Body.n169_ntmps ρ
 go_wp2
 go_region_o
 all_goals (go_wp2;go_ret;exact⟨rfl,rfl⟩)
end Go.Ab
namespace Go.Ab
open Go
theorem HR.blk{N:qh}{m:Mp}{h:AH}{w:World}(hH:HR N m h w){id:Nat}{o o':qC}{pl:zg}{ob:Obj}(hid:h id=some o)(hw:o.wr=true)(hv:o.live=true)(hpl:m id=some pl)
  (hob:ObjAt N m (World.setBlk w pl.b ob) pl o'):HR N m (h.upd id o') (World.setBlk w pl.b ob)/\Fr w.heap.size m h w m (h.upd id o') (World.setBlk w pl.b ob):=by
 have hlt:=hH.lt hid hv hpl;have hk1:∀q,q≠pl.b->(World.setBlk w pl.b ob).heap[q]?=w.heap[q]?:=fun q hq=>W3 hq;refine⟨{
  at':=fun q o1 ho1=>by
   by_cases e1:q=id
   ·subst e1;rw[AH.upd_same]at ho1;cases ho1;exact⟨pl,hpl,fun _=>by rw[wN];exact hlt,hob⟩
   ·rw[AH.upd_ne _ _ e1]at ho1;obtain⟨pq,g1,g2,g3⟩:=hH.at' q o1 ho1;refine⟨pq,g1,fun hl=>by rw[wN];exact g2 hl, ?_⟩;cases hlv:o1.live with
    | true=>exact g3.block (hk1 _ (fun hq=>hH.apart id q o o1 pl pq hid ho1 hw hlv (Ne.symm e1) hpl g1 hq.symm))
    | false=>cases o1<;>first | trivial | cases hlv
  none':=fun q hq=>by
   by_cases e1:q=id
   ·subst e1;have:=hq.1;rw[AH.upd_same]at this;cases this
   ·exact hH.none' q ⟨by have:=hq.1;rw[AH.upd_ne _ _ e1]at this;exact this,hq.2⟩
  apart:=fun q1 q2 o1 o2 p1 p2 g1 g2 gw gl gij gp1 gp2=>by
   by_cases e1:q1=id
   ·subst e1;rw[AH.upd_ne _ _ (Ne.symm gij)]at g2;exact hH.apart q1 q2 o o2 p1 p2 hid g2 hw gl gij gp1 gp2
   ·rw[AH.upd_ne _ _ e1]at g1;by_cases e2:q2=id
    ·subst e2;exact hH.apart q1 q2 o1 o p1 p2 g1 hid gw hv gij gp1 gp2
    ·rw[AH.upd_ne _ _ e2]at g2;exact hH.apart q1 q2 o1 o2 p1 p2 g1 g2 gw gl gij gp1 gp2
  gg:=hH.gg
  zz:=fun b c hz=>by
   obtain⟨g1,g2⟩:=hH.zz b c hz;rw[hk1 b (fun hq=>g2 id o pl hid hw hpl hq.symm)];refine⟨g1,fun q o1 pq ho1 hl' hq=> ?_⟩;by_cases e1:q=id
   ·subst e1;exact g2 q o pq hid hw hq
   ·rw[AH.upd_ne _ _ e1]at ho1;exact g2 q o1 pq ho1 hl' hq}, ?_⟩
 refine⟨rfl,rfl,rfl,by rw[wN];exact nLr _,m.le_refl,fun b hb hs=>⟨hk1 b ?_, ?_⟩,fun b hb hs=> ?_⟩
 ·exact fun hq=>hs id o pl hid hw hpl hq.symm
 ·intro q o1 pq ho1 hl' hq;by_cases e1:q=id
  ·subst e1;exact hs q o pq hid hw hq
  ·rw[AH.upd_ne _ _ e1]at ho1;exact hs q o1 pq ho1 hl' hq
 ·refine⟨fun q o1 pq ho1 hl' hq=> ?_,hs.2⟩;by_cases e1:q=id
  ·subst e1;exact hs.1 q o pq hid hv hq
  ·rw[AH.upd_ne _ _ e1]at ho1;exact hs.1 q o1 pq ho1 hl' hq
theorem qV0{hp:Array Obj}{b:Nat}{ob:Obj}{f:Obj->Obj}(hb:hp[b]?=some ob):hp.modify b f=hp.setIfInBounds b (f ob):=by
 apply Array.ext_getElem?;intro i;rw[Array.getElem?_modify,Array.getElem?_setIfInBounds];by_cases e:b=i
 ·subst e;have hlt:b<hp.size:=(aSi.1 hb).1;have:=(aSi.1 hb).2;simp[hlt,this]
 ·simp[e]
variable {S:qL}
theorem qWR{N:qh}{m:Mp}{a:AV}{vs:Array Value}(h:VRs N m [a] vs.toList):∃u,vs= #[u]/\VR N m a u:=by
 simp only[VRs]at h;obtain⟨u,us,h1,h2,rfl⟩:=h;exact⟨u,by rw[<-aTt (xs:=vs),h1],h2⟩
theorem qS5{m:Mp}{h:AH}{w:World}(hH:HR S.N m h w){id:Nat}{a0 a1:AV}(ho:h id=some (.row 2 [.agg [a0,a1]] false)){u:Value}(hu:VR S.N m (.ptr id 0 0) u):
  ∃p u0 u1 fz,m id=some p/\u=.pointer (some ⟨p.b,0,none⟩)/\w.heap[p.b]?=some (.cells #[u0,u1] (S.N.t 1000002) fz)/\Qr 2 fz/\VR S.N m a0 u0/\VR S.N m a1 u1/\p.w=2/\p.rc=1/\p.o=0/\a0.sc=true/\a1.sc=true:=by
 simp only[VR]at hu;obtain⟨p,hp,rfl⟩:=hu;obtain⟨p',hp',hlt,hw,hrc,c,ty,fz,hb,hcsz,hun,hrow,htt⟩:=hH.at' id _ ho;rw[hp]at hp';cases hp';obtain⟨rfl,ho0,h2⟩:=htt rfl;obtain⟨hc2,hr1⟩:=h2 rfl;obtain⟨_,hcl⟩:=hrow 0 _ rfl;obtain⟨s0,u0,g0,v0⟩:=hcl 0 a0 rfl;obtain⟨s1,u1,g1,v1⟩:=hcl 1 a1 rfl;rw[ho0]at g0 g1;simp only[Nat.zero_mul,nAz,nZa]at g0 g1;have hc:c= #[u0,u1]:=by
  apply Array.ext_getElem?;intro i
  match i with
  | 0=>simpa using g0
  | 1=>simpa using g1
  | i+2=>rw[Array.getElem?_eq_none (by omega)];simp
 subst hc;exact⟨p,u0,u1,fz,hp,by rw[ho0];simp,hb,hun,v0,v1,hw,hr1,ho0,s0,s1⟩
theorem unfz{w:World}{b:Nat}{c:Array Value}{e:TypeId}{fz:Nat×Nat}{j n:Nat}(hb:w.heap[b]?=some (.cells c e fz))(hu:Qr n fz)(hj:j<n):w.frozen? ⟨b,j,none⟩=false:=by
 have:=hu j hj;obtain⟨lo,hi⟩:=fz;simp only[World.frozen?,hb];simp only[Bool.and_eq_false_iff,decide_eq_false_iff_not];simp only at this;omega
theorem qb6 (hb : ∃ fn, S.P.funcs[S.N.f 998]? = some fn ∧ (fn.name == "runtime.NumGoroutine") = false ∧ ∃ c, fn.body = some c)
  (hF:∀(b:Nat)(w:World),w.cell? ⟨b,0,none⟩=some (.pointer none)->w.shape? b=some (S.N.t 1000002,2)->w.frozen? ⟨b,0,none⟩=false->
   Calls S.P (S.N.f 998) #[.pointer (some ⟨b,0,none⟩)] w fun e w'=>e=.returned (.tuple #[])/\w'=w.setCell ⟨b,0,none⟩ (.pointer (some ⟨b,0,none⟩)))
  (hU:∀(b:Nat)(w:World),w.cell? ⟨b,0,none⟩=some (.pointer (some ⟨b,0,none⟩))->Calls S.P (S.N.f 998) #[.pointer (some ⟨b,0,none⟩)] w fun e w'=>e=.returned (.tuple #[])/\w'=w):ZZ S 998 XQ:=by
 refine⟨hb, ?_, ?_⟩
 ·rintro ag h r h' ⟨id,a0,a1,rfl,ho,ha,rfl,rfl⟩ i o hi;have hne:i≠id:=AH.fr_ne hi;have hf:=AH.fr_of hi;refine⟨hf,id,a0,a1,rfl,AH.get_upd hf.1 ho,ha,rfl, ?_⟩;exact AH.upd_comm _ _ _ (Ne.symm hne)
 ·rintro ag h r h' ⟨id,a0,a1,rfl,ho,ha,rfl,rfl⟩ m w vs hH hvs;obtain⟨u,rfl,hu⟩:=qWR hvs;obtain⟨p,u0,u1,fz,hp,rfl,hbk,hun,v0,v1,hw,hr1,ho0,s0,s1⟩:=qS5 hH ho hu;have hlt:=hH.lt ho rfl hp;have hc0:w.cell? ⟨p.b,0,none⟩=some u0:=by simp[World.cell?,hbk]
  have hsame:∀{w':World},HR S.N m h w'->Fr w.heap.size m h w m h w'->a0=.ptr id 0 0->∃m',Fr w.heap.size m h w m' (h.upd id (.row 2 [.agg [.ptr id 0 0,a1]] false)) w'/\HR S.N m' (h.upd id (.row 2 [.agg [.ptr id 0 0,a1]] false)) w'/\∃u,(Ending.returned (.tuple #[]))=.returned u/\VR S.N m' (zQ []) u:=fun{w'} h1 h2 e=>by
   subst e;have:h.upd id (.row 2 [.agg [.ptr id 0 0,a1]] false)=h:=AH.ext' (fun i=>by
    by_cases e:i=id
    ·subst e;rw[AH.upd_same];exact ho.symm
    ·rw[AH.upd_ne _ _ e]) fun _=>rfl
   rw[this];exact⟨m,h2,h1,_,rfl,by simp[zQ,VR,VRs]⟩
  rcases ha with rfl | rfl
  ·simp only[VR]at v0;subst v0;refine Calls.mono (hF p.b w hc0 (by simp[World.shape?,hbk]) (unfz hbk hun (by omega))) ?_;rintro e w' ⟨rfl,rfl⟩;have hset:w.setCell ⟨p.b,0,none⟩ (.pointer (some ⟨p.b,0,none⟩))=World.setBlk w p.b (.cells #[.pointer (some ⟨p.b,0,none⟩),u1] (S.N.t 1000002) fz):=by
    unfold World.setCell World.setBlk;rw[qV0 hbk];rfl
   rw[hset];have hpt:VR S.N m (.ptr id 0 0) (.pointer (some ⟨p.b,0,none⟩)):=hu;have hob:ObjAt S.N m (World.setBlk w p.b (.cells #[.pointer (some ⟨p.b,0,none⟩),u1] (S.N.t 1000002) fz)) p (.row 2 [.agg [.ptr id 0 0,a1]] false):=by
    refine⟨hw,by rw[hr1];exact nLr _,_,_,fz,ZO hlt,by rw[ho0,hr1];exact nLr _,hun,fun i a hi=> ?_,fun _=>⟨rfl,ho0,fun _=>⟨rfl,hr1⟩⟩⟩;have hi0:i=0:=by
     have:=(gSi.1 hi).1;simp at this;exact this
    subst hi0;simp only[List.getElem?_cons_zero,oSi]at hi;subst hi;refine⟨rfl,fun j y hy=> ?_⟩;rw[ho0]
    match j,hy with
    | 0,hy=>
     simp only[AV.cells,List.getElem?_cons_zero,oSi]at hy;subst hy;exact⟨rfl,_,rfl,hpt⟩
    | 1,hy=>
     simp only[AV.cells,List.getElem?_cons_succ,List.getElem?_cons_zero,oSi]at hy;subst hy;exact⟨s1,_,rfl,v1⟩
    | j+2,hy=>simp[AV.cells]at hy
   obtain⟨k1,k2⟩:=hH.blk ho rfl rfl hp hob;exact⟨m,k2,k1,_,rfl,by simp[zQ,VR,VRs]⟩
  ·have v0':=v0;simp only[VR]at v0;obtain⟨q,hq,rfl⟩:=v0;rw[hp]at hq;cases hq;refine Calls.mono (hU p.b w (by rw[hc0,ho0];simp)) ?_;rintro e w' ⟨rfl,rfl⟩;exact hsame hH (Fr.refl _ _ _ _) rfl
theorem qb5 (hb : ∃ fn, S.P.funcs[S.N.f 623]? = some fn ∧ (fn.name == "runtime.NumGoroutine") = false ∧ ∃ c, fn.body = some c)
  (hN:∀(b:Nat)(w:World),w.drew.cell? ⟨b,1,none⟩=some (.slice none 0 0)->Calls S.P (S.N.f 623) #[.pointer (some ⟨b,0,none⟩)] w fun e w'=>e=.returned (.string ⟨#[]⟩)/\w'=w.drew)
  (hB:∀(b g cap cells:Nat)(l:List UInt8)(w:World),l≠[]->w.drew.cell? ⟨b,1,none⟩=some (.slice (some ⟨g,0,none⟩) l.length cap)->l.length<=cap->w.drew.shape? g=some (S.N.t 1000001,cells)->l.length<=cells->
   l.length<=9223372036854775807->(∀j x,l[j]?=some x->w.drew.cell? ((⟨g,0,none⟩:Addr).add j)=some (.int .u8 x.toNat))->
   Calls S.P (S.N.f 623) #[.pointer (some ⟨b,0,none⟩)] w fun e w'=>e=.returned (.string ⟨l.toArray⟩)/\w'=w.drew.freeze ⟨g,0,none⟩ l.length):ZZ S 623 XP:=by
 refine⟨hb, ?_, ?_⟩
 ·rintro ag h r h' ⟨id,a0,a1,bs,rfl,ho,hl,rfl,hc⟩ i o hi;rcases hc with⟨rfl,rfl,rfl⟩ | ⟨k,rfl,hk,hne,rfl⟩
  ·exact⟨hi,id,a0,_,[],rfl,AH.get_upd hi.1 ho,hl,rfl,.inl ⟨rfl,rfl,rfl⟩⟩
  ·have hn2:i≠k:=AH.fr_ne hi;have hf:=AH.fr_of hi;exact⟨hf,id,a0,_,bs,rfl,AH.get_upd hf.1 ho,hl,rfl,.inr ⟨k,rfl,AH.get_upd hf.1 hk,hne,AH.upd_comm _ _ _ (Ne.symm hn2)⟩⟩
 ·rintro ag h r h' ⟨id,a0,a1,bs,rfl,ho,hl,rfl,hc⟩ m w vs hH hvs;obtain⟨u,rfl,hu⟩:=qWR hvs;obtain⟨p,u0,u1,fz,hp,rfl,hbk,hun,v0,v1,hw,hr1,ho0,s0,s1⟩:=qS5 hH ho hu;have hd:w.drew.heap=w.heap:=rfl;have hc1:w.drew.cell? ⟨p.b,1,none⟩=some u1:=by simp[World.cell?,hd,hbk]
  have hHd:HR S.N m h w.drew:=hH.drew;have hFd:Fr w.heap.size m h w m h w.drew:=Fr.drew;rcases hc with⟨rfl,rfl,rfl⟩ | ⟨k,rfl,hk,hne,rfl⟩
  ·simp only[VR]at v1;subst v1;refine Calls.mono (hN p.b w hc1) ?_;rintro e w' ⟨rfl,rfl⟩;exact⟨m,hFd,hHd,_,rfl,by simp only[VR]⟩
  ·simp only[VR]at v1;obtain⟨p2,ad,cap,hp2,hpw,rfl,hlc,hrc,hcl,had⟩:=v1;obtain⟨p',hp',hlt,hw2,hrc2,c,ty,fz2,hb2,hcsz,hun2,hrow,htt⟩:=hH.at' k _ hk;rw[hp2]at hp';cases hp';obtain⟨rfl,hpo,_⟩:=htt rfl;have hpos:0<bs.length:=List.length_pos_iff.2 hne;have had:=had (by omega);rw[hpo]at had hcsz;simp only[Nat.zero_mul,nAz,Nat.mul_one,nZa]at had hcsz;subst had;rw[lMp]at hrc2;have hcell:∀j x,bs[j]?=some x->w.drew.cell? ((⟨p2.b,0,none⟩:Addr).add j)=some (.int .u8 x.toNat):=fun j x hx=>by
    obtain⟨_,q⟩:=hrow j (.int .u8 x.toNat) (by rw[gMp,hx];rfl);obtain⟨_,u,q1,q2⟩:=q 0 _ rfl;simp only[VR]at q2;subst q2;rw[hpo]at q1;simp only[Nat.mul_one,nZa,nAz]at q1;have ha:(⟨p2.b,0,none⟩:Addr).add j=⟨p2.b,j,none⟩:=by unfold Addr.add;split<;>simp_all
    rw[ha];simp[World.cell?,hd,hb2,q1]
   refine Calls.mono (hB p.b p2.b cap c.size bs w hne hc1 hlc (by simp[World.shape?,hd,hb2]) (by omega) (by omega) hcell) ?_;rintro e w' ⟨rfl,rfl⟩;obtain⟨ob,hob⟩:∃ob,w.drew.freeze ⟨p2.b,0,none⟩ bs.length=World.setBlk w.drew p2.b ob:=by
    unfold World.freeze World.setBlk;rw[if_neg (by omega),qV0 (by rw[hd];exact hb2)];exact⟨_,rfl⟩
   rw[hob];obtain⟨k1,k2⟩:=hHd.blk (ob:=ob) (o':=.dead) hk rfl rfl hp2 trivial;exact⟨m,hFd.trans k2,k1,_,rfl,by simp only[VR]⟩
theorem qgV (hb : ∃ fn, S.P.funcs[S.N.f 620]? = some fn ∧ (fn.name == "runtime.NumGoroutine") = false ∧ ∃ c, fn.body = some c)
  (h0:∀(a:Option Addr)(c:Nat)(sep:ByteArray)(w:World),Calls S.P (S.N.f 620) #[.slice a 0 c,.string sep] w fun e w'=>e=.returned (.string ⟨#[]⟩)/\w'=w)
  (hJ:∀(bk o c:Nat)(xs:List ByteArray)(sep:ByteArray)(w:World),(∀(j:Nat) x,xs[j]?=some x->w.cell? ⟨bk,o+j,none⟩=some (.string x))->bk<w.heap.size->xs.length<=140737488355328->xs.length<=c->
   (Lib.join (xs.map (·.data.toList)) sep.data.toList).length<=140737488355328->
   Calls S.P (S.N.f 620) #[.slice (some ⟨bk,o,none⟩) xs.length c,.string sep] w fun e w'=>e=.returned (.string ⟨(Lib.join (xs.map (·.data.toList)) sep.data.toList).toArray⟩)/\RowKit.Below w.heap.size w w'):Zc S 620 XO:=by
 refine⟨hb, ?_⟩;rintro ag v ⟨xs,cl,sep,rfl,hl,hj,rfl⟩ m h w vs hH hvs;simp only[VRs]at hvs;obtain⟨u1,us,e1,v1,u2,us2,rfl,v2,rfl⟩:=hvs;have hvs:vs= #[u1,u2]:=by rw[<-aTt (xs:=vs),e1]
 subst hvs;simp only[VR]at v1 v2;subst v2;obtain⟨a,cap,rfl,hcap,_,hh⟩:=v1;rw[lMp]at hcap;rcases hh with⟨hx,_⟩ | ⟨b,o,c,rfl,hz,hve⟩
 ·have hx:=List.map_eq_nil_iff.1 hx;subst hx;refine Calls.mono (h0 a cap ⟨sep.toArray⟩ w) ?_;rintro e w' ⟨rfl,rfl⟩;exact⟨RowKit.Below.refl _ _,_,rfl,by simp[VR,Lib.join_nil]⟩
 ·obtain⟨⟨ty,fz,hbk⟩,_⟩:=hH.zz b c hz;have hbt:b<w.heap.size:=(aSi.1 hbk).1;have hcells:∀(xs:List (List UInt8))(o:Nat),VRe S.N m 1 (xs.map qR) c o->∀(j:Nat) x,(xs.map fun s=>(⟨s.toArray⟩:ByteArray))[j]?=some x->w.cell? ⟨b,o+j,none⟩=some (.string x):=by
   intro xs
   induction xs with
   | nil=>intro o _ j x hx;simp at hx
   | cons s xs ih=>
    intro o hv j x hx;simp only[lMc,VRe]at hv;obtain⟨⟨u,q1,q2,q3,q4⟩,hv2⟩:=hv;simp only[qR,VR]at q1;subst q1;cases j with
    | zero=>
     simp only[lMc,List.getElem?_cons_zero,oSi]at hx;subst hx;have:=q4 0 (by omega);simp only[nAz]at this;simp[World.cell?,hbk,this,Value.cells]
    | succ j=>
     rw[lMc,List.getElem?_cons_succ]at hx;have:=ih (o+1) hv2 j x hx;rw[show o+(j+1)=o+1+j by omega];exact this
  have hmap:(xs.map fun s=>(⟨s.toArray⟩:ByteArray)).map (·.data.toList)=xs:=by rw[List.map_map];simp[Function.comp_def]
  have key:=hJ b o cap (xs.map fun s=>⟨s.toArray⟩) ⟨sep.toArray⟩ w (hcells xs o hve) hbt (by rw[lMp];omega) (by rw[lMp];exact hcap) (by rw[hmap];simpa using hj);rw[hmap,lMp]at key;rw[lMp];refine Calls.mono key ?_;rintro e w' ⟨rfl,hbl⟩;exact⟨hbl,_,rfl,by simp only[VR]⟩
end Go.Ab
