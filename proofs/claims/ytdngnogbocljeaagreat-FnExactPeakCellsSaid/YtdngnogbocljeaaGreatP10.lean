/- Texts Mi17 .. Mi19: the abstract machine, its laws and contracts of functions: lemmas for the statement. No condition. -/
import Derived.Test.YtdngnogbocljeaaGreatP9
set_option linter.unusedSimpArgs false
set_option linter.unusedVariables false
namespace Go.Ab
open Go
set_option maxRecDepth 10000
set_option maxHeartbeats 4000000
section
variable {w mid cid rid ctid k a b:Nat} {post cs:List AV} {ow:Nat->Nat} {h h':List qB} {m:qH} {rv dv:AV} {c x y:qD} {P:List qF} {O:Nat->Bool} {bk:List qE} {p:qL}
structure RH(w mid rid ctid:Nat)(bk:List qE)(ow:Nat->Nat)(h:List qB)(tv:AV)(r:Run):Prop where
 mh:MH w mid (bkP bk) ow h r.m
 e:h[rid]?=some (.row 5 [.agg [.ptr mid 0 0,sQ 1 ctid 7,tv,iI r.pk,iI r.ls]] true)
 t:LsW (λj=>ow j=0/\rid<j) 1 h tv (r.tr.map qP)
 o:ow rid=0
 c:h[ctid]?=some (.row 1 ((jm r.tr).map qP) true)
 co:ow ctid=0
theorem qBY(mm:MM m [] O0):∀c∈m.Cells,zr c:=λc hc=>by
 obtain⟨k,hk⟩:=List.getElem?_of_mem hc;exact mm.form k c hk rfl
theorem s869{bu:Nat}(M:MH w mid (bkP bk) ow h m)(hw:0<w)(mm:MM m [] O0)(hb:jH bk=true)(hcl:m.Cells.length<=1500)(hbu:bu<=4000){pk ls:Int}(hr:h[rid]?=some (.row 5 [.agg [.ptr mid 0 0,sQ 1 ctid 7,.nils,iI pk,iI ls]] true))(hro:ow rid=0)
  (hc:h[ctid]?=some (.row 1 ((jm []).map qP) true)) (hco:ow ctid=0) (hne:ctid<rid):
  SCall Gm 869 [.ptr rid 0 0,iI (bu:Nat)] h (λv h'=>v=iI (goM bk bu ⟨m,[],zK m,zK m⟩).2/\((goM bk bu ⟨m,[],zK m,zK m⟩).2=0->∃ow' tv,RH w mid rid ctid bk ow' h' tv (goM bk bu ⟨m,[],zK m,zK m⟩).1)):=by
 refine sI F869 ?_;have hcF:=qBY mm;simp only[F869,qN,go_sem,hr];refine M.lend Qw hw rfl (Ye (by omega) hcF) rfl ?_;simp only[go_sem];refine M.lend Qw hw rfl (Ye (by omega) hcF) rfl ?_;simp only[go_sem];refine ZU hr rfl rfl λh1 U1 l1 g1=>?_;simp only[List.set_cons_succ,lSz]at g1;simp only[go_sem];refine ZU g1 rfl rfl λh2 U2 l2 g2=>?_;simp only[List.set_cons_succ,lSz]at g2;simp only[go_sem];have u0:=Z6 (m:=m);have hu0:zK m=(m.Cells.length:Int)-(nF m.Cells:Nat):=rfl;rw[<-hu0]at g2;have U12:Up (λj=>j=rid) h h2:=U1.trans U2 λ_ _ q=>q;have M2:=M.upf U12 λj q=>by rw[q];exact hro
 have hc2:=U12.at hc (by omega);have R0:RH w mid rid ctid bk ow h2 .nils ⟨m,[],zK m,zK m⟩:=⟨M2,g2,.inl ⟨rfl,rfl⟩,hro,hc2,hco⟩;generalize hG:goM bk bu ⟨m,[],zK m,zK m⟩=G;clear M M2 hr hc U1 U2 U12 g1 g2 hc2;refine Sem.loop (λa:Run×AV×(Nat->Nat)×List qB=>goM bk (bu-a.1.tr.length) a.1=G/\a.1.tr.length<=bu/\RJ m.Cells.length a.1/\RH w mid rid ctid bk a.2.2.1 a.2.2.2 a.2.1 a.1)
  (λa=>(⟨[(0,.ptr rid 0 0),(1,iI (bu:Nat))],[],a.2.2.2⟩:VSt)) (λa=>bu-a.1.tr.length)
  (⟨m,[],zK m,zK m⟩,.nils,ow,h2) (by kernel_rfl) ⟨hG,nZl _,⟨mm,rfl,u0,u0⟩,R0⟩ csA ?_
 rintro⟨r,tv,ow1,h1⟩ ⟨eG,hrl,J,⟨M1,e1,e2,e3,e4,e5⟩⟩;simp only at eG hrl J M1 e1 e2 e3 e4 e5;have mm1:=J.mm;have hrx:=Wy mm1;have hcl1:=J.cl;have htl:=e2.len;rw[lMp]at htl;have hcF1:=qBY mm1;obtain⟨cid,cs,rv,MO1⟩:=id M1;have hrv:=MO1.r.len;rw[lMp]at hrv;simp only[go_sem,e1,MO1.o,hrv];by_cases hne':r.m.Redexes=[]
 ·have e:decide (0<((r.m.Redexes.length:Nat):Int))=false:=by rw[hne'];rfl
  rw[qdV hne']at eG;subst eG;simp only[e,go_sem];exact⟨trivial,λ_=>⟨ow1,tv,M1,e1,e2,e3,e4,e5⟩⟩
 have hlp:0<r.m.Redexes.length:=List.length_pos_iff.2 hne';have e:decide (0<((r.m.Redexes.length:Nat):Int))=true:=decide_eq_true (by omega);simp only[e,go_sem,e1,htl];by_cases hb2:r.tr.length=bu
 ·have e6:decide (((r.tr.length:Nat):Int)=(bu:Nat))=true:=decide_eq_true (by omega);rw[show bu-r.tr.length=0 by omega,qdT hne']at eG;subst eG;simp only[e6,go_sem];exact⟨trivial,λz=>by cases z⟩
 have e6:decide (((r.tr.length:Nat):Int)=(bu:Nat))=false:=decide_eq_false (by omega);have ew:IntKind.i64.wrap ((r.m.Redexes.length:Nat)-1:Int)=((r.m.Redexes.length-1:Nat):Int):=by rw[wsA];omega
 obtain⟨p,a,b,x,y,d⟩:=Wv mm1 (show r.m.Redexes.length-1<r.m.Redexes.length by omega);obtain⟨rxid,i1,rfl,i3⟩:=MO1.r.full (by rw[lMp];omega);rw[lMp]at MO1;have hk:r.m.Redexes.length-1<r.m.Redexes.length:=by omega
 simp only[e6,go_sem,e1,MO1.o,hrv,ew];refine M1.lend Qw hw rfl (Ye (by omega) hcF1) rfl ?_;generalize hkk:r.m.Redexes.length-1=k at*;simp only[go_sem,e1,MO1.o,qY hk,nZa,i3,gMp,d.at',oMs];refine M1.lendX Qw hw (by simp[AV.trees,qL.tr]) (qbV d hb) rfl ?_;simp only[go_sem];have ebu:bu-r.tr.length=(bu-(r.tr.length+1))+1:=by omega
 rw[ebu]at eG;have hdn:(j8 bk r.m k).2≠0->(doM bk r.m k).2.2=(j8 bk r.m k).2:=λq=>by
  rw[d.need]at q|-;rw[d.do,if_pos q]
 by_cases hn0:(j8 bk r.m k).2=0
 case neg=>
  have hd:=hdn hn0;rw[qBM hne' (by rw[hkk,hd];exact hn0),hkk,hd]at eG;subst eG;simp only[hn0,decide_false,go_sem];exact⟨trivial,λz=>z.elim⟩
 simp only[hn0,go_sem,e1];refine qk (SCall.mono (s602 M1 hw mm1 hk hb (by omega)) ?_);rintro _ h2' ⟨rfl,ow2,M2,F2⟩;obtain⟨f1,f2⟩:=F2.at e1 e3;obtain⟨f4,f5⟩:=F2.at e4 e5;have tv2:LsW (λj=>ow2 j=0/\rid<j) 1 h2' tv (r.tr.map qP):=e2.mono λj hj q=>⟨⟨(F2.k j hj q.1).1,q.2⟩,(F2.k j hj q.1).2⟩;simp only[go_sem];by_cases h0:(doM bk r.m k).2.2=0
 case neg=>
  rw[qBM hne' (by rw[hkk];exact h0),hkk]at eG;subst eG;simp only[h0,decide_false,go_sem];exact⟨trivial,λz=>z.elim⟩
 rw[qdU hne' (by rw[hkk];exact h0)]at eG;have J2:=J.go hb hne' (by rw[hkk];exact h0);obtain⟨c1,c2,c3,c4,c5⟩:=qA8 hb mm1 hk h0;simp only[h0,go_sem,f1];generalize hcv:(doM bk r.m k).2.1=cv at*;obtain⟨q,hq⟩:∃q:Nat,cv=(q:Int)+1:=⟨(cv-1).toNat,by omega⟩;have ew1:IntKind.i64.wrap (cv-1)=(q:Int):=by rw[hq,wsA];omega
 have hq7:q<7:=by omega
 have hlc:=qkY (T:=r.tr);have hcb:=qkX (T:=r.tr) ((jm r.tr).getD q 0) (by rw[lGd,gEg (by omega)];exact gMm _);have hx:((jm r.tr).map qP)[q]?=some (iI ((jm r.tr).getD q 0)):=by
  rw[gMp,gEg (by omega),lGd,gEg (by omega)];rfl
 have ew2:IntKind.i64.wrap ((jm r.tr).getD q 0+1)=(jm r.tr).getD q 0+1:=wsA;have hgt:(r.go bk).tr=r.tr++[cv]:=by simp only[Run.go,hkk,hcv]
 have hgl:(r.go bk).tr.length=r.tr.length+1:=by rw[hgt];simp
 have ecn:((jm r.tr).map qP).set q (iI ((jm r.tr).getD q 0+1))=(jm (r.go bk).tr).map qP:=by
  rw[hgt,qkZ];unfold Qe;rw[hq,show ((q:Int)+1-1).toNat=q by omega,List.map_set];rfl
 simp only[ew1,qY hq7,go_sem,nZa,f4,hx,ew2];refine jF (e':=iI ((jm r.tr).getD q 0+1)) rfl f4 hx rfl ?_;rw[ecn];have U3:Up (λj=>j=ctid) h2' (h2'.set ctid (.row 1 ((jm (r.go bk).tr).map qP) true)):=Up.set;have k3:(h2'.set ctid (.row 1 ((jm (r.go bk).tr).map qP) true))[ctid]?=some (.row 1 ((jm (r.go bk).tr).map qP) true):=gSs (qp f4);have l3:(h2'.set ctid (.row 1 ((jm (r.go bk).tr).map qP) true)).length=h2'.length:=by simp
 generalize h2'.set ctid (.row 1 ((jm (r.go bk).tr).map qP) true)=h3 at*;have M3:=M2.upf U3 λj q=>by rw[q];exact f5
 have g1:=U3.at f1 (by omega);have tv3:LsW (λj=>ow2 j=0/\rid<j) 1 h3 tv (r.tr.map qP):=tv2.mono λj hj z=>⟨z,U3.eq hj (by have:=z.2;omega)⟩;simp only[go_sem,g1];refine JH (tv3.app _) ends (by rw[lMp];omega) λh4 U4 w4 l4=>?_;have M4:=(M3.app [qB.row 1 [AV.int .i64 cv] true]).upf U4 λj z=>z.1.1;have g2:h4[rid]?=_:=U4.at (z7 g1) λz=>by have:=z.1.2;omega
 have k4:h4[ctid]?=_:=U4.at (z7 k3) λz=>by have:=z.1.2;omega
 have z4:ow2 (h3++[qB.row 1 [AV.int .i64 cv] true]).length=0:=(M3.app _).b;have hrl3:rid<h3.length:=qp g1;simp only[go_sem];refine ZU g2 rfl rfl λh5 U5 l5 g5=>?_;simp only[List.set_cons_succ,lSz]at g5;have M5:=M4.upf U5 λj z=>by rw[z];exact f2
 have hid:(h3++[qB.row 1 [AV.int .i64 cv] true]).length≠rid:=by simp;omega
 have w5:=U5.at w4 hid;have k5:=U5.at k4 (by omega);have J2m:=J2.mm;have J2c:=J2.cl;simp only[Run.go,hkk]at J2c J2m;simp only[go_sem,g5];refine M5.lend Qw hw rfl (Ye (by omega) (qBY J2m)) rfl ?_;simp only[go_sem];have u1:=Z6 (m:=r.m);have u2:=Z6 (m:=(doM bk r.m k).1);have hpk:=J.pk;have hls:=J.ls;have J2p:=J2.pk;have J2l:=J2.ls;have hu1:zK r.m=(r.m.Cells.length:Int)-(nF r.m.Cells:Nat):=rfl;have hu2:zK (doM bk r.m k).1=((doM bk r.m k).1.Cells.length:Int)-(nF (doM bk r.m k).1.Cells:Nat):=rfl;have hcr:1<=jA cv/\jA cv<=2:=by unfold jA;split<;>omega
 have htr:(if decide (cv=7)=true then 1 else 0:Int)=2-jA cv:=by
  unfold jA;by_cases z:cv=7
  ·simp[z]
  ·simp[z]
 rw[<-hu2];refine ZU g5 rfl rfl λh6 U6 l6 g6=>?_;simp only[List.set_cons_succ,lSz]at g6;simp only[go_sem,g6];refine qI Qz ?_;simp only[go_sem];rw[htr,<-hu1,jO (show-9223372036854775808<=zK r.m-2 by omega) (by omega),jO (show-9223372036854775808<=zK r.m-2+(2-jA cv) by omega) (by omega),jO (show-9223372036854775808<=zK r.m-2+(2-jA cv)+(j8 bk r.m k).1 by omega) (by omega),show zK r.m-2+(2-jA cv)+(j8 bk r.m k).1=zK r.m+(j8 bk r.m k).1-jA cv by omega];refine ZU g6 rfl rfl λh7 U7 l7 g7=>?_;simp only[List.set_cons_succ,lSz]at g7;simp only[go_sem];have w7:=U7.at (U6.at w5 hid) hid;have k7:=U7.at (U6.at k5 (by omega)) (by omega);have M7:=(M5.upf U6 λj z=>by rw[z];exact f2).upf U7 λj z=>by rw[z];exact f2
 have e1':(r.go bk).pk=max r.pk (zK (doM bk r.m k).1):=by simp only[Run.go,hkk]
 have e2':(r.go bk).ls=max r.ls (zK r.m+(j8 bk r.m k).1-jA cv):=by simp only[Run.go,hkk,hcv]
 have e3':(r.go bk).m=(doM bk r.m k).1:=by simp only[Run.go,hkk]
 refine qa (r.go bk,.slice 1 (h3++[qB.row 1 [AV.int .i64 cv] true]).length 0 (r.tr.length+1) false,ow2,h7) ⟨by simp only[hgl];exact eG,by simp only;omega,J2,⟨by simp only[e3'];exact M7, ?_,.inr ⟨_,⟨z4,by simp;omega⟩,by rw[lMp,hgl], ?_⟩,f2,k7,f5⟩⟩ (by simp only;omega) csA
 ·simp only[e1',e2'];exact g7
 ·simp only[hgt,lMa];exact w7
end
noncomputable def JA(bk:List qE)(m:qH)(bu:Int):Int:=if (jH bk&&Ja m)=true then(if inI bu 0 4000=true then 0 else 2)else 1
def ZP(bk:List qE)(m:qH)(bu:Int):Run×Int:=goM bk bu.toNat ⟨m,[],zK m,zK m⟩
noncomputable def jd(bk:List qE)(m:qH)(bu:Int):Int:=if JA bk m bu=0 then(ZP bk m bu).2 else JA bk m bu
theorem beg0{bk:List qE}{m:qH}{bu:Int}(h:JA bk m bu=0):jH bk=true/\VM m/\0<=bu/\bu<=4000:=by
 unfold JA at h;split at h
 ·rename_i e;rw[bAt]at e;split at h
  ·rename_i q;unfold inI at q;rw[bAt,dTe,dTe]at q;exact⟨e.1,Xy.1 e.2,q⟩
  ·cases h
 ·cases h
theorem VM.len{m:qH}(h:VM m):0<m.Cells.length/\m.Cells.length<=1500:=by
 have:=h.sz;unfold inI at this;rw[bAt,dTe,dTe]at this;omega
theorem qkQ{c:qD}(h:zr c):c.sz<=8:=by
 rcases h with⟨_,h⟩ | ⟨_,_,_,h1,h2⟩ | ⟨_,_,h1,h2⟩
 ·have:=qfK h;unfold qC.sz at this;unfold qD.sz;simp only[qX,lLr]at this;omega
 ·unfold qD.sz;rw[h1];simp only[lNi];omega
 ·unfold qD.sz;rw[h1,h2];simp
theorem VM.szs{m:qH}(h:VM m):m.sz<=1000000:=by
 have h1:=h.len;have h2:=h.rs;have h3:=qC7 (f:=qD.sz) (k:=8) λc hc=>qkQ (qAR (h.cell c hc));unfold qH.sz;omega
section
variable {bk:List qE} {m:qH} {bu:Int} {h0:List qB}
theorem c544(hl:bk.length+qx qE.sz bk<=1048576)(hz:m.sz<=1048576):Pure Gm 544 [.lst 1 (bk.map qE.enc) false,.ept m.enc 0,iI bu] (iI (JA bk m bu)):=by
 refine pI K6 (by simp[AV.trees,AV.tree,go_sem,qb qE.isSh.tree]) rfl ?_;simp only[K6,qN,go_sem];refine qI (c598 hl) ?_;simp only[go_sem];cases e1:jH bk
 case false=>
  simp only[go_sem];exact qK rfl (by simp[JA,e1])
 simp only[go_sem];refine qI (c923 hz) ?_;simp only[go_sem];cases e2:Ja m
 case false=>
  simp only[go_sem];exact qK rfl (by simp[JA,e1,e2])
 simp only[go_sem];refine qI wN ?_;simp only[go_sem];cases e3:inI bu 0 4000
 case false=>
  simp only[go_sem];exact qK rfl (by simp[JA,e1,e2,e3])
 simp only[go_sem];exact qK rfl (by simp[JA,e1,e2,e3])
theorem c210(hl:bk.length+qx qE.sz bk<=1048576)(hz:m.sz<=1048576):Pure Gm 210 [.lst 1 (bk.map qE.enc) false,m.enc,iI bu] (.tup [iI (if jd bk m bu=0 then(ZP bk m bu).1.pk else 0),iI (jd bk m bu)]):=by
 refine Pure.intro [4] [] (gk _ Ks) (by kernel_rfl) rfl (by simp[AV.trees,AV.tree,go_sem,qb qE.isSh.tree]) rfl ?_;simp only[Ks,qN,go_sem];refine QD rfl ?_;simp only[go_sem,lNa,lSz];refine qI (c544 hl hz) ?_;simp only[go_sem];by_cases hc:JA bk m bu=0
 case neg=>
  simp only[hc,decide_false,go_sem];exact zW (by rfl) (by simp[jd,hc])
 have eC:jd bk m bu=(ZP bk m bu).2:=by rw[jd,if_pos hc]
 simp only[hc,go_sem];obtain⟨hb,vm,b0,b1⟩:=beg0 hc;refine qk (SCall.mono (s545 vm.szs vm.len.1) ?_);rintro _ h1 ⟨cid,cs,rv,ow,rfl,M,U,hw⟩;simp only[go_sem];refine jF (e':=mE m cid rv []) rfl ends rfl rfl ?_;simp only[go_sem];simp only[lSz];have hcl:cid≠h1.length:=λe=>by have:=qp M.c;omega
 have M2:=(M.heap (h':=(h1++[qB.row 5 [AV.agg [AV.nils,AV.int IntKind.i64 0,AV.int IntKind.i64 0,AV.int IntKind.i64 0,AV.nils]] true]).set h1.length (.row 5 [mE m cid rv []] true)) (by simp) λj hj q=>by rw[gSn (by omega),gAl hj]).mo (w:=5) (post:=[]) (mid:=h1.length) (gSs (by simp)) (by have:=M.b h1.length;omega);obtain⟨n,rfl⟩:=Int.eq_ofNat_of_zero_le b0;refine qk (SCall.mono (s503 (n:=0) (MH.intro M2) (by decide) vm.mi hb vm.len.2 (by omega)) ?_);rintro _ h2 ⟨ow2,rid,rfl,R,F⟩;have eG:ZP bk m ((n:Nat):Int)=goM bk n ⟨m,[],zK m,zK m⟩:=rfl;rw[<-eG]at R;rw[<-eG,<-eC];simp only[go_sem];by_cases h0:jd bk m (n:Nat)=0
 case neg=>
  simp only[h0,decide_false,go_sem];exact zW (by rfl) (by simp[h0])
 obtain⟨tv,e,_⟩:=R.e;simp only[h0,go_sem,e];exact zW (by rfl) (by simp[h0])
theorem s507(hl:bk.length+qx qE.sz bk<=1048576)(hz:m.sz<=1048576):SCall Gm 507 [.lst 1 (bk.map qE.enc) false,m.enc,iI bu] h0 (λv h'=>∃p,v=.tup [p,iI (jd bk m bu)]/\(jd bk m bu=0->∃rid mid ctid ow tv,p=.ptr rid 0 0/\RH 6 mid rid ctid bk ow h' tv (ZP bk m bu).1/\h0.length<=rid)):=by
 refine sI K5 ?_;simp only[K5,qN,go_sem];have bad:jd bk m bu=1->∃p,AV.tup [.nilp,iI 1]=.tup [p,iI (jd bk m bu)]/\(jd bk m bu=0->∃rid mid ctid ow tv,p=.ptr rid 0 0/\RH 6 mid rid ctid bk ow h0 tv (ZP bk m bu).1/\h0.length<=rid):=λe=>⟨.nilp,by rw[e],λq=>by rw[e]at q;cases q⟩;have bad2:jd bk m bu=2->∃p,AV.tup [.nilp,iI 2]=.tup [p,iI (jd bk m bu)]/\(jd bk m bu=0->∃rid mid ctid ow tv,p=.ptr rid 0 0/\RH 6 mid rid ctid bk ow h0 tv (ZP bk m bu).1/\h0.length<=rid):=λe=>⟨.nilp,by rw[e],λq=>by rw[e]at q;cases q⟩;refine qW rfl ?_;simp only[go_sem];refine qI (c505 (by omega) λn hn=>by have:=jg (f:=qE.sz) hn;omega) ?_;simp only[go_sem];cases e1:jH bk
 case false=>
  simp only[go_sem];exact bad (by simp[jd,JA,e1])
 simp only[go_sem];refine qI (c867 hz) ?_;simp only[go_sem];cases e2:Ja m
 case false=>
  simp only[go_sem];exact bad (by simp[jd,JA,e1,e2])
 simp only[go_sem];by_cases b0:bu<0
 case pos=>
  simp only[b0,go_sem];exact bad2 (by simp[jd,JA,e1,e2,inI];omega)
 simp only[b0,decide_false,go_sem];by_cases b1:4000<bu
 case pos=>
  simp only[b1,go_sem];exact bad2 (by simp[jd,JA,e1,e2,inI];omega)
 simp only[b1,decide_false,go_sem];have vm:=Xy.1 e2;refine qk (SCall.mono (s868 vm.szs vm.len.1) ?_);rintro _ h1 ⟨cid,cs,rv,ow,rfl,M,U,hw⟩;simp only[go_sem,mE];refine QD rfl ?_;simp only[go_sem];refine QI (n:=7) (by unfold LIM;omega) ?_;simp only[go_sem];refine QD rfl ?_;obtain⟨n,rfl⟩:=Int.eq_ofNat_of_zero_le (show 0<=bu by omega);have hlt:=qp M.c;have M2:=(M.heap (h':=h1++[qB.row 6 [mE m cid rv (bkP bk)] true]) (by simp) λj hj q=>by rw[gAl hj]).mo (w:=6) (post:=bkP bk) (mid:=h1.length) ends (by have:=M.b h1.length;omega);have M3:=((MH.intro M2).app [qB.row 1 (List.replicate 7 (AV.int .i64 0)) true]).app [qB.row 5 [.agg [.ptr h1.length 0 0,.slice 1 (h1++[qB.row 6 [mE m cid rv (bkP bk)] true]).length 0 7 false,.nils,iI 0,iI 0]] true];have e4:jd bk m (n:Nat)=(goM bk n ⟨m,[],zK m,zK m⟩).2:=by
  rw[jd,if_pos (by simp[JA,e1,e2,inI];omega)];rfl
 simp only[go_sem];have hz1:∀j,h1.length<j->(if j=h1.length then 1 else ow j)=0:=λj hj=>by
  rw[if_neg (by omega)];refine Classical.byContradiction λq=>?_;have:=M.b j q;omega
 refine qk (SCall.mono (s869 M3 (by decide) vm.mi e1 vm.len.2 (by omega) ends (hz1 _ (by simp)) (z7 ends) (hz1 _ (by simp)) (by simp)) ?_);rintro _ h2 ⟨rfl,R⟩;have hU:=U.1;rw[<-e4]at R;rw[<-e4];simp only[go_sem];by_cases h0':jd bk m (n:Nat)=0
 case neg=>
  simp only[h0',decide_false,go_sem];exact⟨_,rfl,λq=>q.elim⟩
 obtain⟨ow',tv,R⟩:=R h0';simp only[h0',go_sem];exact⟨_,rfl,λ_=>⟨_,_,_,ow',tv,rfl,R,by simp;omega⟩⟩
theorem c212(hl:bk.length+qx qE.sz bk<=1048576)(hz:m.sz<=1048576):Pure Gm 212 [.lst 1 (bk.map qE.enc) false,m.enc,iI bu] (.tup [iI (if jd bk m bu=0 then(ZP bk m bu).1.pk else 0),iI (jd bk m bu)]):=by
 refine pI Ku (by simp[AV.trees,AV.tree,go_sem,qb qE.isSh.tree]) rfl ?_;simp only[Ku,qN,go_sem];refine qW rfl ?_;simp only[go_sem];refine qk (SCall.mono (s507 hl hz) ?_);rintro _ h1 ⟨p,rfl,R⟩;simp only[go_sem];by_cases h0:jd bk m bu=0
 case neg=>
  simp only[h0,decide_false,go_sem];exact zW (by rfl) (by simp[h0])
 obtain⟨rid,mid,ctid,ow,tv,rfl,R,_⟩:=R h0;simp only[h0,go_sem,R.e];exact zW (by rfl) (by simp[h0])
end
theorem c30{bk:List qE}{m:qH}{bu:Int}(hb:bk.length<=140737488355328/\(∀y∈bk,qE.bd y))(hm:m.bd):Pure Gm 30 [.lst 1 (bk.map qE.enc) false,m.enc,iI bu] (.bool true):=by
 refine pI F30 (by simp[AV.trees,AV.tree,go_sem,qb qE.isSh.tree]) rfl ?_;simp only[F30,qN,go_sem];refine qW rfl ?_;simp only[go_sem];refine qI (c181 bk hb 1048576 (by omega)) ?_;simp only[go_sem];apply qS<;>intro hc<;>simp only[hc,go_sem]
 ·exact qK rfl rfl
 have hbz:bk.length+qx qE.sz bk<=1048576:=by
  have:=odF hc;rw[wE]at this;omega
 rw[wF hbz];refine qI (c209 m hm (1048576-(bk.length+qx qE.sz bk)) (by omega)) ?_;simp only[go_sem];apply qS<;>intro hc<;>simp only[hc,go_sem]
 ·exact qK rfl rfl
 have hmz:m.sz<=1048576:=by
  have:=odF hc;rw[wE]at this;omega
 refine qI (c184 bk hbz) ?_;simp only[go_sem];refine qI (c211 m hmz) ?_;simp only[go_sem];refine qI (c210 hbz hmz) ?_;simp only[go_sem];refine qI (c184 bk hbz) ?_;simp only[go_sem];refine qI (c211 m hmz) ?_;simp only[go_sem];refine qU (k:=5) (by rfl) (by rfl) (by exact⟨_,rfl⟩) (by decide) ?_;simp only[go_sem];refine qI (c212 hbz hmz) ?_;simp only[go_sem,beq_self_eq_true];refine qI (c184 bk hbz) ?_;simp only[go_sem];refine qI (c187 bk (by omega)) ?_;simp only[go_sem];refine qI (c211 m hmz) ?_;simp only[go_sem];refine qI (c213 m (by omega)) ?_;simp only[go_sem];exact qK rfl rfl
end Go.Ab
