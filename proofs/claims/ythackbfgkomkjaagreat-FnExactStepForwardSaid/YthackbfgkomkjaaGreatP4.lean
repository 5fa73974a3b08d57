/- Texts AbO3 .. AbM: the abstract machine, its laws and contracts of functions: lemmas for the statement. No condition. -/
import Derived.Test.YthackbfgkomkjaaGreatP3
set_option linter.unusedSimpArgs false
set_option linter.unusedVariables false
namespace Go.Ab
open Go
section
variable {α:Type} {enc:α->AV} {w:Nat} {sh:Option Nat} {Γ:Nat->Option AFn} {g gc:Nat}
theorem qn(h:∀x,(enc x).pl=true):∀xs:List α,AV.pls (xs.map enc)=true
 |[]=>rfl
 | x::xs=>by simp only[lMc,AV.pls,h x,qn h xs,Bool.and_self]
theorem ju(h:∀x,(enc x).cn=true):∀xs:List α,AV.cns (xs.map enc)=true
 |[]=>rfl
 | x::xs=>by simp only[lMc,AV.cns,h x,ju h xs,Bool.and_self]
theorem ZJ{t:AV}{n:Nat}(hp:t.pl=true):(lay t n).1.cells.length=t.cells.length:=by
 cases t<;>first
  | rfl
  | (cases hp;done)
  | (simp only[lay,AV.cells];exact z7 _ _)
theorem qiP{t:AV}{n:Nat}(hp:t.pl=true):(∃cs,(lay t n).1=.agg cs)↔∃cs,t=.agg cs:=by
 cases t<;>simp[lay]<;>first
  | (cases hp;done)
  | skip
theorem qiR{t:AV}{n k:Nat}(hp:t.pl=true)(ha:∃cs,t=.agg cs)(hk:t.cells.length=k):(lay t n).1.part 0 (some k)=some (lay t n).1:=by
 obtain⟨cs,rfl⟩:=ha;simp only[AV.cells]at hk;simp only[lay,AV.part,AV.cells,z7,hk,nZa,nLr,if_true,List.drop_zero];rw[List.take_of_length_le (by rw[z7];omega)]
theorem qhR{z:AV}{A:List AV}{i n:Nat}(hl:A.length=i)(hi:i<n):(A++List.replicate (n-i) z)[i]?=some z:=by
 rw[gAr (by omega),hl,nSs,List.getElem?_replicate,if_pos (by omega)]
theorem ql8{z v:AV}{A:List AV}{i n:Nat}(hl:A.length=i)(hi:i<n):(A++List.replicate (n-i) z).set i v=A++(v::List.replicate (n-(i+1)) z):=by
 rw[lSr _ _ (by omega),hl,nSs,show n-i=(n-(i+1))+1 by omega,List.replicate_succ,lSz]
theorem XM{z:AV}(hs:Sh enc w sh)(hpl:∀x,(enc x).pl=true)(hz:z.tree=true)(hzl:z.cells.length=w)(hza:(∃cs,z=.agg cs)↔sh≠none)(hg:Γ g=some (.fn (toS w sh z gc)))(xs:List α)(hc:∀x∈xs,Fresh Γ gc [enc x] (enc x))(hl:xs.length<=1048576):
  Fresh Γ g [.lst w (xs.map enc) false] (.lst w (xs.map enc) false):=by
 have ht:AV.trees (xs.map enc)=true:=qV hs.tree xs;refine Fresh.intro [] [] hg (by simp[toS,qL.ok,AOp.ok,QZ,Ao.ok,AV.tree,hz,qB.o,qB.d,qB.ck,AOp.isCall]) rfl (by simp[AV.trees,AV.tree,ht]) (qn hpl xs) ?_;simp only[toS,qQ,go_sem];refine YK (by simp only[lMp,LIM];omega) ?_;simp only[go_sem];refine Sem.loop (fun i:Nat=>i<=xs.length)
  (fun i=>(⟨[(0,.lst w (xs.map enc) false),(3,.slice w 0 0 xs.length false),(4,.int .i64 (i:Nat))],[],.row w ((qN ((xs.take i).map enc) 1).1++List.replicate (xs.length-i) z) true::(qN ((xs.take i).map enc) 1).2⟩:VSt)) (fun i=>xs.length-i) 0
  (by simp[Fr1.ok,qL.ok,AOp.ok,QZ,Ao.ok,AV.tree,qB.o,qB.d,qB.ck,AOp.isCall]) (nZl _) ?_ ?_
 ·simp only[List.take_zero,List.map_nil,qN,lNa,Nat.sub_zero,lMp,lNi];exact Can.sub (by simp[go_sem]) trivial
 ·intro i hi;simp only[go_sem];apply qM<;>intro hc2<;>simp only[hc2,go_sem]
  ·have hlt:i<xs.length:=by have:=odT hc2;(try simp only[lMp]at this);omega
   have hA:(qN ((xs.take i).map enc) 1).1.length=i:=by rw[z7];simp;omega
   simp only[gMp,gEg hlt,oMs,hs.part,go_sem];refine zW (hc xs[i] (gMm hlt)) ?_;simp only[go_sem,zi hlt,nZa,lCa];refine q8 (by rw[ZJ (hpl _)];exact hs.len _) rfl (qhR hA hlt) (YV hzl (by rw[ZJ (hpl _)];exact hs.len _) (by rw[hza,qiP (hpl _),hs.agg]) hs.pos) ?_;rw[ql8 hA hlt];simp only[go_sem,qc (show i<4611686018427387904 by omega),lSz];refine qd (i+1) (by omega) (by omega) ?_;have e:(xs.take (i+1)).map enc=(xs.take i).map enc++[enc xs[i]]:=by
    rw[lTs hlt,lMa];rfl
   simp only[e,Zw,qN,lAn,lAa,lCo,zQ,lCa,lNa,Nat.add_comm 1];exact Can.sub (by simp[go_sem]) trivial
  ·have hge:i=xs.length:=by have:=odF hc2;(try simp only[lMp]at this);omega
   subst hge;simp only[lTl,nSs,List.replicate_zero,lAn];exact jU (pre:=[]) (post:=[]) (qn hpl xs) (by simp[zI,lay]) (by simp[lay])
theorem lI(ys:List Int):∀n,qN (ys.map qK) n=(ys.map qK,[]):=by
 induction ys with
 | nil=>intro n;rfl
 | cons y ys ih=>intro n;simp only[lMc,qN,qK,lay,lNi,nAz,lNa,ih]
theorem qmR(hg:Γ g=some (.fn Yd))(xs:List Int)(hl:xs.length<=1048576):Fresh Γ g [.lst 1 (xs.map qK) false] (.lst 1 (xs.map qK) false):=by
 have ht:AV.trees (xs.map qK)=true:=qV shI.tree xs;refine Fresh.intro [] [] hg (by kernel_rfl) rfl (by simp[AV.trees,AV.tree,ht]) (qn (fun _=>rfl) xs) ?_;simp only[Yd,qQ,go_sem];refine YK (by simp only[lMp,LIM];omega) ?_;simp only[go_sem];refine Sem.loop (fun i:Nat=>i<=xs.length)
  (fun i=>(⟨[(0,.lst 1 (xs.map qK) false),(3,.slice 1 0 0 xs.length false),(4,.int .i64 (i:Nat))],[],[.row 1 ((xs.take i).map qK++List.replicate (xs.length-i) (.int .i64 0)) true]⟩:VSt)) (fun i=>xs.length-i) 0
  (by kernel_rfl) (nZl _) ?_ ?_
 ·simp only[List.take_zero,List.map_nil,lNa,Nat.sub_zero,lMp,lNi];exact Can.sub (by simp[go_sem]) trivial
 ·intro i hi;simp only[go_sem];apply qM<;>intro hc2<;>simp only[hc2,go_sem]
  ·have hlt:i<xs.length:=by have:=odT hc2;(try simp only[lMp]at this);omega
   simp only[gMp,gEg hlt,oMs,shI.part,go_sem,zi hlt,nZa];refine q8 (shI.len _) rfl (qBN hlt) (YV (k:=1) rfl (shI.len _) (by simp[qK]) (by decide)) ?_;rw[qC4 hlt];simp only[go_sem,qc (show i<4611686018427387904 by omega)];exact qd (i+1) (by omega) (by omega) (Can.sub (by simp[go_sem]) trivial)
  ·have hge:i=xs.length:=by have:=odF hc2;(try simp only[lMp]at this);omega
   subst hge;simp only[lTl,nSs,List.replicate_zero,lAn];exact jU (pre:=[]) (post:=[]) (qn (fun _=>rfl) xs) (by simp[zI,lay]) (by simp[lay,lI])
def mkL(f:α->Int->α)(c:α->Nat):List α->Int->List α
 |[],_=>[]
 | x::xs,k=>f x k::mkL f c xs (k+c x)
theorem js(f:α->Int->α)(c:α->Nat):∀(xs:List α)(k:Int),(mkL f c xs k).length=xs.length
 |[],_=>rfl
 | x::xs,k=>by simp only[mkL,lCo,js f c xs]
theorem qCB(f:α->Int->α)(c:α->Nat):∀(xs ys:List α)(k:Int),mkL f c (xs++ys) k=mkL f c xs k++mkL f c ys (k+qH c xs)
 |[],ys,k=>by simp[mkL,qH]
 | x::xs,ys,k=>by
  simp only[lCa,mkL,qCB f c xs ys,qH];congr 3;omega
theorem Z1(f:α->Int->α)(c:α->Nat){xs:List α}{i:Nat}(h:i<xs.length)(k:Int):mkL f c (xs.take (i+1)) k=mkL f c (xs.take i) k++[f xs[i] (k+qH c (xs.take i))]:=by
 rw[lTs h,qCB];rfl
theorem Z0(f:α->Int->α)(c:α->Nat){xs:List α}{i:Nat}(h:i<xs.length)(k:Int):(mkL f c xs k)[i]?=some (f xs[i] (k+qH c (xs.take i))):=by
 have e:xs=xs.take i++xs[i]::xs.drop (i+1):=by rw[<-lDc h,List.take_append_drop]
 have:mkL f c xs k=mkL f c (xs.take i) k++mkL f c (xs[i]::xs.drop (i+1)) (k+qH c (xs.take i)):=by
  rw[<-qCB,<-e]
 rw[this,gAr (by rw[js];simp;omega),js];simp[mkL,show min i xs.length=i by omega]
theorem Jo(c:α->Nat){xs:List α}{i:Nat}(h:i<xs.length):qH c (xs.take (i+1))=qH c (xs.take i)+c xs[i]:=by
 have:∀(xs ys:List α),qH c (xs++ys)=qH c xs+qH c ys:=by
  intro xs ys;induction xs with
  | nil=>simp[qH]
  | cons x xs ih=>simp only[lCa,qH,ih];omega
 rw[lTs h,this];simp[qH]
theorem Jn(c:α->Nat)(xs:List α)(i:Nat):qH c (xs.take i)<=qH c xs:=by
 have:∀(xs ys:List α),qH c (xs++ys)=qH c xs+qH c ys:=by
  intro xs ys;induction xs with
  | nil=>simp[qH]
  | cons x xs ih=>simp only[lCa,qH,ih];omega
 have h:=this (xs.take i) (xs.drop i);rw[List.take_append_drop]at h;omega
def mkI(_:Int)(k:Int):Int:=k
def ctI(_:Int):Nat:=1
theorem Xs:∀xs:List Int,qH ctI xs=xs.length
 |[]=>rfl
 | x::xs=>by simp only[qH,Xs xs,ctI,lCo];omega
def qcA:qP:=⟨2,19,[.t 4],
 .seq (.reg true [⟨0,some 4,none,.mov (.c (.int .i64 0)),[]⟩]) (.seq (.seq (.reg true [⟨0,some 5,none,.mov (.c (.int .i64 0)),[]⟩]) (.blk 0 (.loop (.seq (.seq (.reg true [⟨0,some 6,none,.mov (.t 5),[]⟩,
⟨1,some 7,none,.mov (.t 0),[]⟩,
⟨2,some 8,none,.len (.t 7),[]⟩,
⟨3,some 9,none,.bin .lss (.t 6) (.t 8),[]⟩]) (.cond (.t 9) (.skip) (.exit 0))) (.seq (.blk 1 (.seq (.reg true [⟨0,some 12,none,.mov (.t 0),[]⟩,
⟨1,some 13,none,.mov (.t 5),[]⟩,
⟨2,some 14,none,.mov (.t 1),[]⟩,
⟨3,some 15,none,.iaddr 1 (.t 12) (.t 13),[]⟩,
⟨4,none,none,.store 1 (.t 15) (.t 14),[]⟩]) (.reg true [⟨0,some 16,none,.mov (.t 1),[]⟩,
⟨1,some 17,none,.bin .add (.t 16) (.c (.int .i64 1)),[]⟩,
⟨2,some 1,none,.mov (.t 17),[]⟩]))) (.reg true [⟨0,some 10,none,.mov (.t 5),[]⟩,
⟨1,some 11,none,.bin .add (.t 10) (.c (.int .i64 1)),[]⟩,
⟨2,some 5,none,.mov (.t 11),[]⟩])))))) (.seq (.reg true [⟨0,some 18,none,.mov (.t 1),[]⟩,
⟨1,some 4,none,.mov (.t 18),[]⟩]) (.ret)))⟩
def qbK:qP:=⟨2,21,[.t 4],
 .seq (.reg true [⟨0,some 4,none,.mov (.c (.int .i64 0)),[]⟩]) (.seq (.seq (.reg true [⟨0,some 5,none,.mov (.c (.int .i64 0)),[]⟩]) (.blk 0 (.loop (.seq (.seq (.reg true [⟨0,some 6,none,.mov (.t 5),[]⟩,
⟨1,some 7,none,.mov (.t 0),[]⟩,
⟨2,some 8,none,.len (.t 7),[]⟩,
⟨3,some 9,none,.bin .lss (.t 6) (.t 8),[]⟩]) (.cond (.t 9) (.skip) (.exit 0))) (.seq (.blk 1 (.seq (.seq (.reg true [⟨0,some 12,none,.mov (.t 0),[]⟩,
⟨1,some 13,none,.mov (.t 5),[]⟩,
⟨2,some 14,none,.iaddr 1 (.t 12) (.t 13),[]⟩,
⟨3,some 15,none,.load none (.t 14),[]⟩,
⟨4,some 16,none,.mov (.t 1),[]⟩,
⟨5,some 17,none,.bin .neq (.t 15) (.t 16),[]⟩]) (.cond (.t 17) (.seq (.reg true [⟨0,some 4,none,.mov (.c (.int .i64 (-1))),[]⟩]) (.ret)) (.skip))) (.reg true [⟨0,some 18,none,.mov (.t 1),[]⟩,
⟨1,some 19,none,.bin .add (.t 18) (.c (.int .i64 1)),[]⟩,
⟨2,some 1,none,.mov (.t 19),[]⟩]))) (.reg true [⟨0,some 10,none,.mov (.t 5),[]⟩,
⟨1,some 11,none,.bin .add (.t 10) (.c (.int .i64 1)),[]⟩,
⟨2,some 5,none,.mov (.t 11),[]⟩])))))) (.seq (.reg true [⟨0,some 20,none,.mov (.t 1),[]⟩,
⟨1,some 4,none,.mov (.t 20),[]⟩]) (.ret)))⟩
theorem jK{A B:List AV}{e:AV}{i:Nat}(h:A.length=i):(A++e::B)[i]?=some e:=by
 rw[gAr (by omega),h,nSs];rfl
theorem jz{A B:List AV}{e v:AV}{i:Nat}(h:A.length=i):(A++e::B).set i v=A++v::B:=by
 rw[lSr _ _ (by omega),h,nSs,lSz]
theorem WC(ys:List Int):AV.rowss (ys.map qK)=0:=by
 have:=zQ (ys.map qK) 0;rw[lI]at this;exact this.symm
theorem zU{xs:List AV}{c:Bool}{n:Nat}:(lay (.lst w xs c) n).1=.slice w n 0 xs.length false:=nr rfl
theorem qiQ{A B:List AV}{t:AV}{c:Bool}:(lay (.lst w (A++t::B) c) 0).2=.row w ((qN A 1).1++(lay t (1+AV.rowss A)).1::(qN B (1+AV.rowss A+t.rows)).1) true::((qN A 1).2++((lay t (1+AV.rowss A)).2++(qN B (1+AV.rowss A+t.rows)).2)):=by
 simp only[lay,Zw,qN,qb,nZa]
theorem Jc{A B:List α}{z:α}{c:Bool}:(lay (.lst w ((A++z::B).map enc) c) 0).2=.row w ((qN (A.map enc) 1).1++(lay (enc z) (1+AV.rowss (A.map enc))).1::(qN (B.map enc) (1+AV.rowss (A.map enc)+(enc z).rows)).1) true::((qN (A.map enc) 1).2++((lay (enc z) (1+AV.rowss (A.map enc))).2++(qN (B.map enc) (1+AV.rowss (A.map enc)+(enc z).rows)).2)):=by
 rw[lMa,lMc];exact qiQ
theorem qY(f:α->Int->α)(c:α->Nat)(h:∀x k,(enc (f x k)).rows=(enc x).rows):∀(xs:List α)(k:Int),AV.rowss ((mkL f c xs k).map enc)=AV.rowss (xs.map enc)
 |[],_=>rfl
 | x::xs,k=>by simp only[mkL,lMc,AV.rowss,h,qY f c h xs]
theorem JU{c:α->Nat}(h:∀x,c x<=16):∀xs:List α,qH c xs<=16*xs.length
 |[]=>nLr _
 | x::xs=>by have:=JU h xs;have:=h x;simp only[qH,lCo];omega
theorem QA{c z:α->Nat}(h:∀x,c x<=16+16*z x):∀xs:List α,qH c xs<=16*(xs.length+qH z xs)
 |[]=>nLr _
 | x::xs=>by have:=QA h xs;have:=h x;simp only[qH,lCo];omega
theorem qi7{F:qP}(hg:Γ g=some (.fn F))(hF:F=qcA)(xs:List Int)(k:Int)(h0:0<=k)(hk:k+(qH ctI xs:Nat)<=4611686018427387904)(hz:xs.length<=1073741824):
  Mark Γ g (.lst 1 (xs.map qK) false) (.lst 1 ((mkL mkI ctI xs k).map qK) false) k (k+(qH ctI xs:Nat)):=by
 subst hF;rw[Xs]at hk|-;refine Mark.intro hg (by kernel_rfl) rfl (qn (fun _=>rfl) xs) (qn (fun _=>rfl) _) (by simp only[AV.rows,qY mkI ctI (enc:=qK) (fun _ _=>rfl)]) ?_;simp only[qcA,qQ,lay,lI,go_sem];refine Sem.loop (fun i:Nat=>i<=xs.length) (fun i=>(⟨[(0,.slice 1 0 0 xs.length false),(1,.int .i64 (k+(i:Nat))),(5,.int .i64 (i:Nat))],[],[.row 1 ((mkL mkI ctI (xs.take i) k).map qK++(xs.drop i).map qK) true]⟩:VSt)) (fun i=>xs.length-i) 0
  (by kernel_rfl) (nZl _) (by simp only[List.take_zero,mkL,List.map_nil,lNa,List.drop_zero,Int.ofNat_zero,Int.natCast_zero,Int.add_zero];exact Can.sub (by simp[go_sem]) (by simp[go_sem])) ?_
 intro i hi;simp only[go_sem];apply qM<;>intro hc<;>simp only[hc,go_sem]
 ·have hlt:i<xs.length:=by have:=odT hc;omega
  have hA:((mkL mkI ctI (xs.take i) k).map qK).length=i:=by rw[lMp,js];simp;omega
  rw[lDc hlt,lMc];simp only[zi hlt,nZa,go_sem];refine q8 (v:=.int .i64 (k+(i:Nat))) (e':=.int .i64 (k+(i:Nat))) (by rfl) (by rfl) (jK hA) (by rfl) ?_;simp only[lSz,jz hA,go_sem];rw[qf (n:=k+(i:Nat)+1) (by omega) (by omega)];simp only[qc (show i<4611686018427387904 by omega),go_sem];refine qd (i+1) (by omega) (by omega) ?_;have e:mkL mkI ctI (xs.take (i+1)) k=mkL mkI ctI (xs.take i) k++[k+(i:Nat)]:=by
   rw[Z1 _ _ hlt,Xs,lLt,show min i xs.length=i by omega];rfl
  rw[e,lMa,lAa];simp only[Int.natCast_add,Int.cast_ofNat_Int,<-Int.add_assoc];exact Can.sub (by simp[go_sem]) (by simp[go_sem])
 ·have hge:i=xs.length:=by have:=odF hc;omega
  subst hge;refine Qg rfl ?_;rw[lTl,List.drop_length,List.map_nil,lAn]
theorem qh9{F:qP}(hg:Γ g=some (.fn F))(hF:F=qbK)(xs:List Int)(k:Int)(h0:0<=k)(hk:k+(qH ctI xs:Nat)<=4611686018427387904)(hz:xs.length<=1073741824):
  Pure Γ g [.lst 1 ((mkL mkI ctI xs k).map qK) false,.int .i64 k] (.int .i64 (k+(qH ctI xs:Nat))):=by
 subst hF;rw[Xs]at hk|-;refine Pure.intro [] [] hg (by kernel_rfl) rfl (by simp[AV.trees,AV.tree,qV shI.tree]) rfl ?_;simp only[qbK,qQ,go_sem];refine Sem.loop (fun i:Nat=>i<=xs.length) (fun i=>(⟨[(0,.lst 1 ((mkL mkI ctI xs k).map qK) false),(1,.int .i64 (k+(i:Nat))),(5,.int .i64 (i:Nat))],[],[]⟩:VSt)) (fun i=>xs.length-i) 0
  (by kernel_rfl) (nZl _) (by simp only[Int.ofNat_zero,Int.natCast_zero,Int.add_zero];exact Can.sub (by simp[go_sem]) (by simp[go_sem])) ?_
 intro i hi;simp only[go_sem,js];apply qM<;>intro hc<;>simp only[hc,go_sem]
 ·have hlt:i<xs.length:=by have:=odT hc;omega
  have hget:=Z0 mkI ctI hlt k;rw[Xs,lLt,show min i xs.length=i by omega]at hget;simp only[gMp,hget,oMs,mkI,qK,go_sem];rw[qf (n:=k+(i:Nat)+1) (by omega) (by omega)];simp only[qc (show i<4611686018427387904 by omega),go_sem];refine qd (i+1) (by omega) (by omega) ?_;simp only[Int.natCast_add,Int.cast_ofNat_Int,<-Int.add_assoc];exact Can.sub (by simp[go_sem]) (by simp[go_sem])
 ·have hge:i=xs.length:=by have:=odF hc;omega
  subst hge;exact qR rfl rfl
section
variable {E:Ev} {ks:List Fr1} {s m:qo} {h:List qD} {Q:qh->VSt->Prop} {l:List qB}
theorem JF{k e n:Nat}{pre post:List qD}{t t':AV}{a b:Int}{v:AV}(hm:Mark E.Γ k t t' a b)(hn:pre.length=n)(hh:h=pre++((lay t n).2++post))(hv:v=(lay t n).1)
  (hr:R E (.ops l::ks) ⟨(e,.int .i64 b)::s,m,pre++((lay t' n).2++post)⟩ Q):wl E (some (k,[v,.int .i64 a])) false (some e) l ks ⟨s,m,h⟩ Q:=by
 subst hn;exact qf7 hm hh hv hr
end
end
section
variable {Γ:Nat->Option AFn} {g:Nat} {w:Nat} {z:AV}
def Y5(w:Nat):qP:=⟨1,8,[.t 2],.seq (.reg true [⟨0,some 2,none,.mov (.c (.nils)),[]⟩]) (.seq (.seq (.reg true [⟨0,some 3,none,.mov (.t 0),[]⟩,
⟨1,some 4,none,.isnil 1 false (.t 3),[]⟩]) (.cond (.t 4) (.seq (.reg true [⟨0,some 2,none,.mov (.c (.nils)),[]⟩]) (.ret)) (.skip))) (.seq (.reg true [⟨0,some 5,none,.mov (.c (.lst w [] true)),[]⟩,
⟨1,some 6,none,.mov (.t 0),[]⟩,
⟨2,some 7,none,.app w (.t 5) (.t 6),[]⟩,
⟨3,some 2,none,.mov (.t 7),[]⟩]) (.ret)))⟩
theorem qaH(hg:Γ g=some (.fn (Y5 w)))(h:AH):Ex Γ 1 (.call g [.nils] h) (.res (.ok .nils) h):=by
 refine .fn (st:=⟨((((params 0 [.nils]).set 2 .nils).set 3 .nils).set 4 (.bool true)).set 2 .nils,Env.empty,h⟩) (e:=.ret) hg rfl ?_ (.inr rfl) rfl;refine .seqN (.reg (.step rfl ⟨.nils,rfl,rfl⟩ trivial .nil) (.inl rfl)) (.seqX (.seqN (.reg (.step rfl ⟨.nils,rfl,rfl⟩ trivial (.step rfl ⟨.bool true,rfl,rfl⟩ trivial .nil)) (.inl rfl)) ?_) (by simp));exact .cond (t:=true) rfl (.seqN (.reg (.step rfl ⟨.nils,rfl,rfl⟩ trivial .nil) (.inl rfl)) .ret)
theorem qgF(hg:Γ g=some (.fn (Y5 w)))(h:AH)(id:Nat):Ex Γ 1 (.call g [.slice w id 0 0 false] h) (.res (.ok (.lst w [] true)) h):=by
 refine .fn (st:=⟨(((((((params 0 [.slice w id 0 0 false]).set 2 .nils).set 3 (.slice w id 0 0 false)).set 4 (.bool false)).set 5 (.lst w [] true)).set 6 (.slice w id 0 0 false)).set 7 (.lst w [] true)).set 2 (.lst w [] true),Env.empty,h⟩) (e:=.ret) hg rfl ?_ (.inr rfl) rfl;refine .seqN (.reg (.step rfl ⟨.nils,rfl,rfl⟩ trivial .nil) (.inl rfl)) (.seqN (.seqN (.reg (.step rfl ⟨.slice w id 0 0 false,rfl,rfl⟩ trivial (.step rfl ⟨.bool false,rfl,rfl⟩ trivial .nil)) (.inl rfl)) (.cond (t:=false) rfl .cskip)) (.seqN (.reg ?_ (.inl rfl)) .ret));refine .step rfl ⟨.lst w [] true,rfl,rfl⟩ trivial (.step rfl ⟨.slice w id 0 0 false,rfl,rfl⟩ trivial (.step (st':=⟨((((((params 0 [.slice w id 0 0 false]).set 2 .nils).set 3 (.slice w id 0 0 false)).set 4 (.bool false)).set 5 (.lst w [] true)).set 6 (.slice w id 0 0 false)).set 7 (.lst w [] true),Env.empty,h⟩) rfl ?_ trivial (.step rfl ⟨.lst w [] true,rfl,rfl⟩ trivial .nil)));exact⟨.lst w [] true,.slice w id 0 0 false,rfl,rfl,[],rfl,rfl,rfl,rfl⟩
theorem qlB(hr:AH):qp ρ0 [] hr:=⟨(fun i o h=>by simp at h),(fun i j a o o' h=>by cases h),(fun _ _=>rfl),(fun i a h=>by cases h)⟩
theorem Y6(hg:Γ g=some (.fn (Y5 w))){xs:List AV}(hf:∀n,qN xs n=(xs,[]))(hp:AV.pls xs=true)(ht:AV.trees xs=true)(hl:xs.length<=4194304):
  Fresh Γ g [.lst w xs false] (.lst w xs false):=by
 cases xs with
 | cons x xs=>
  refine Fresh.intro [] [] hg rfl rfl (by simp only[AV.trees,AV.tree]at ht|-;simp[ht]) hp ?_;simp only[Y5,qQ,go_sem];refine Yw Els.lst (by simp only[lCo]at hl|-;omega) ?_;simp only[go_sem];exact jU (pre:=[]) (post:=[]) hp (by simp[zI,lay]) (by simp[lay,hf])
 | nil=>
  refine⟨rfl,rfl,fun hr ar har=> ?_⟩;have hn:∀hr',qp (ρ0.ext 0 none) [.row w [] true] hr':=fun hr'=>(qlB hr').nil;simp only[RelVs,RelV]at har;obtain⟨r,rs,rfl,hr0,rfl⟩:=har;have hfm:∀hr':AH,(∀a o,hr a=some o->hr' a=some o)->(∀a,hr'.fr a->hr.fr a)->Fm 0 ρ0 hr (ρ0.ext 0 none) hr':=fun hr' h1 h2=>⟨fun a o q _=>h1 a o q,(fun i a q=>by
   by_cases e:i=0
   ·subst e;rw[Ren.ext_same]at q;cases q
   ·rw[Ren.ext_ne _ _ e]at q;cases q),h2,fun i hi=>by omega⟩
  rcases hr0 with⟨ys,c,rfl,_,hys⟩ | ⟨_,rfl⟩
  ·subst hys;obtain⟨id,hid⟩:=hr.fresh;have hx1:Ex Γ 1 (.call g [.nils] hr) (.res (.ok (.lst w [] true)) (hr.kill [])):=.frzR [] (fun i hi=>by simp at hi) .nils (qaH hg hr);refine⟨1,_,_,ρ0.ext 0 none,.nilc id hid (fun i o q=>by rw[AH.kill_at];simpa using q) (fun i o q=>q) rfl hx1 (qgF hg _ id),hn _,by simp[lay,RelV,Ren.ext_same],hfm _ (fun a o q=>q) fun a q=>AH.fr_tomb (AH.fr_tomb' q)⟩
  ·exact⟨1,_,_,ρ0.ext 0 none,qaH hg hr,hn _,by simp[lay,RelV,Ren.ext_same],hfm _ (fun a o q=>q) fun a q=>q⟩
theorem W0{μ:List (Option Nat)}{h:List qD}:∀{r1 r2:List (Option Nat)}{h1 h2:List qD},J4 μ h r1 h1->J4 μ h r2 h2->J4 μ h (r1++r2) (h1++h2)
 |[],_,[],_,_,k=>k
 | _::_,_,_::_,_,j,k=>⟨j.1,W0 j.2 k⟩
 |[],_,_::_,_,j,_=>j.elim
 | _::_,_,[],_,j,_=>j.elim
theorem ZT{μ:List (Option Nat)}{h:List qD}{xs:List AV}{a b:Nat}(hp:AV.pls xs=true)(hm:∀i,i<AV.rowss xs->μ[b+i]?=some (some (a+i)))(hh:∀i o,(qN xs a).2[i]?=some o->h[a+i]?=some o):
  J4 μ h ((List.range' a (AV.rowss xs)).map some) (qN xs b).2:=by
 refine qCG (by simp[zQ]) fun i j o h1 h2=> ?_;have hi:i<AV.rowss xs:=by have:=(gSi.1 h2).1;rw[zQ]at this;exact this
 rw[gMp,List.getElem?_range' (by omega)]at h1;simp only[Nat.one_mul,oMs,oSi]at h1;subst h1;exact X5 xs a b hp hm hh i o h2
def rmu(b n:Nat):List (Option Nat):=(List.range' 0 b).map some++some (b+n+2)::(List.range' (b+1) n).map some
theorem JB{b n i:Nat}(hi:i<b):(rmu b n)[i]?=some (some i):=by
 unfold rmu;rw[gAl (by simpa using hi),gMp,List.getElem?_range' (by omega)];simp
theorem W8{b n:Nat}:(rmu b n)[b]?=some (some (b+n+2)):=by
 unfold rmu;rw[gAr (by simp)];simp
theorem qdN{b n i:Nat}(hi:i<n):(rmu b n)[b+1+i]?=some (some (b+1+i)):=by
 unfold rmu;rw[gAr (by simp;omega)];have e:b+1+i-((List.range' 0 b).map some).length=i+1:=by simp;omega
 rw[e,List.getElem?_cons_succ,gMp,List.getElem?_range' (by omega)];simp
theorem qlF{b n:Nat}:wQ (rmu b n)=true:=by
 have e:rmu b n=(List.range' 0 b++(b+n+2)::List.range' (b+1) n).map some:=by simp[rmu]
 rw[e];refine Wa ?_;rw[List.nodup_append];refine⟨List.nodup_range', ?_, ?_⟩
 ·rw[List.nodup_cons];refine⟨?_,List.nodup_range'⟩;simp only[List.mem_range'_1];omega
 ·intro x hx y hy;simp only[List.mem_range'_1,List.mem_cons]at hx hy;rcases hy with rfl | hy<;>omega
theorem Can.round{ps ts:List AV}{x:qD}{s s' m m':qo}{b n:Nat}(hps:AV.pls ps=true)(hts:AV.pls ts=true)(hb:AV.rowss ps=b)(hn:AV.rowss ts=n)(h1:QQ (rmu b n) s s')(h2:QQ (rmu b n) m m'):
  Can 0 ⟨s,m,(qN ps 0).2++.dead::((qN ts (b+1)).2++[x,.row w (qN ts (b+1)).1 true])⟩ ⟨s',m',(qN ps 0).2++.row w (qN ts (b+1)).1 true::(qN ts (b+1)).2⟩:=by
 subst hb hn;have hlp:=zQ ps 0;have hlt:=zQ ts (AV.rowss ps+1);refine Can.renum (rmu (AV.rowss ps) (AV.rowss ts)) qlF (W0 (ZT hps (fun i hi=>by rw[nZa];exact JB hi) fun i o hi=> ?_) ⟨?_,ZT hts (fun i hi=>qdN hi) fun i o hi=> ?_⟩) h1 h2
 ·rw[nZa,gAl (gSi.1 hi).1];exact hi
 ·refine .row (el:=(qN ts (AV.rowss ps+1)).1) (rw':=true) ?_ ⟨rfl,fun p hp=> ?_⟩
  ·rw[gAr (by omega),show AV.rowss ps+AV.rowss ts+2-(qN ps 0).2.length=AV.rowss ts+1+1 by omega,List.getElem?_cons_succ,gAr (by omega),hlt,
    show AV.rowss ts+1-AV.rowss ts=1 by omega]
   rfl
  ·exact(X6 ts (AV.rowss ps+1) (AV.rowss ps+1) hts (fun i hi=>qdN hi)).2 p hp
 ·have hi':=(gSi.1 hi).1;rw[gAr (by omega),show AV.rowss ps+1+i-(qN ps 0).2.length=i+1 by omega,List.getElem?_cons_succ,gAl hi'];exact hi
theorem qBX{A:List qD}{o:qD}:(A++[o])[A.length]?=some o:=gCl
theorem Can.push{ps A:List AV}{t:AV}{s s' m m':qo}{h h':List qD}{b n:Nat}(hps:AV.pls ps=true)(hA:AV.pls A=true)(ht:t.pl=true)(hb:AV.rowss ps=b)(hn:AV.rowss A+t.rows=n)
  (hh:h=(qN ps 0).2++.dead::((qN A (b+1)).2++((lay t (b+1+AV.rowss A)).2++[.row w [(lay t (b+1+AV.rowss A)).1] true,.row w ((qN A (b+1)).1++[(lay t (b+1+AV.rowss A)).1]) true])))
  (hh':h'=(qN ps 0).2++.row w (qN (A++[t]) (b+1)).1 true::(qN (A++[t]) (b+1)).2) (h1:QQ (rmu b n) s s') (h2:QQ (rmu b n) m m'):Can 0 ⟨s,m,h⟩ ⟨s',m',h'⟩:=by
 have hp:AV.pls (A++[t])=true:=by
  have:∀B:List AV,AV.pls B=true->AV.pls (B++[t])=true:=by
   intro B
   induction B with
   | nil=>intro _;simp only[lNa,AV.pls,ht,Bool.and_true]
   | cons y B ih=>
    intro hB;simp only[AV.pls,bAt]at hB;simp only[lCa,AV.pls,hB.1,ih hB.2,Bool.and_self]
  exact this A hA
 have r:=Can.round (w:=w) (x:=.row w [(lay t (b+1+AV.rowss A)).1] true) (s:=s) (s':=s') (m:=m) (m':=m') (b:=b) (n:=n) hps hp hb (by rw[qdS];simp only[AV.rowss,nAz];exact hn) h1 h2;subst hh hh';simp only[Zw,qN,lAn,lAa]at r|-;exact r
def smu(b:Nat):List (Option Nat):=(List.range' 0 b).map some++[none]
theorem JD{b i:Nat}(hi:i<b):(smu b)[i]?=some (some i):=by
 unfold smu;rw[gAl (by simpa using hi),gMp,List.getElem?_range' (by omega)];simp
theorem qC7{b:Nat}:(smu b)[b]?=some none:=by
 unfold smu;rw[gAr (by simp)];simp
theorem qA5:∀{l:List (Option Nat)},wQ l=true->wQ (l++[none])=true
 |[],_=>rfl
 | none::l,h=>by simp only[lCa,wQ]at h|-;exact qA5 h
 | some j::l,h=>by
  simp only[lCa,wQ,bAt,List.all_append,lAc,List.all_nil,Bool.and_true]at h|-;exact⟨h.1,qA5 h.2⟩
theorem Can.start{ps:List AV}{s s' m m':qo}{h:List qD}{b:Nat}(hps:AV.pls ps=true)(hb:AV.rowss ps=b)(hh:h=(qN ps 0).2)(h1:QQ (smu b) s s')(h2:QQ (smu b) m m'):
  Can 0 ⟨s,m,h⟩ ⟨s',m',(qN ps 0).2++[.row w [] true]⟩:=by
 subst hb hh;refine Can.renum (smu (AV.rowss ps)) (qA5 (Wa List.nodup_range')) (W0 (ZT hps (fun i hi=>by rw[nZa];exact JD hi) fun i o hi=>by rw[nZa];exact hi) ⟨.ph,trivial⟩) h1 h2
theorem qB9{A B:List qD}{e:qD}{i:Nat}(h:A.length=i):(A++e::B)[i]?=some e:=by
 rw[gAr (by omega),h,nSs];rfl
theorem qCA{A B:List qD}{e v:qD}{i:Nat}(h:A.length=i):(A++e::B).set i v=A++v::B:=by
 rw[lSr _ _ (by omega),h,nSs,lSz]
end
section
variable {Γ:Nat->Option AFn} {g:Nat} {vs:List AV} {h:List qD}
def Qf(res:List ze)(K:AV->List qD->Prop)(e:qh)(st:VSt):Prop:=(e=.nrm\/e=.ret)/\match zV (zx st) res with
 | some vs=>K (zI vs) st.h
 | none=>False
def Xf(vs:Option (List AV))(h:List qD)(K:AV->List qD->Prop):Prop:=match vs with
 | some vs=>K (zI vs) h
 | none=>False
@[go_sem] theorem qoC{res:List ze}{s m:qo}{K:AV->List qD->Prop}:Qf res K .ret ⟨s,m,h⟩=Xf (zV (zx ⟨s,m,h⟩) res) h K:=by
 simp[Qf,Xf];all_goals rfl
@[go_sem] theorem qoB{res:List ze}{s m:qo}{K:AV->List qD->Prop}:Qf res K .nrm ⟨s,m,h⟩=Xf (zV (zx ⟨s,m,h⟩) res) h K:=by
 simp[Qf,Xf];all_goals rfl
@[go_sem] theorem qm3{K:AV->List qD->Prop}:Xf (some vs) h K=K (zI vs) h:=rfl
@[go_sem] theorem qs0{v:AV}:zI [v]=v:=rfl
@[go_sem] theorem qs1{v w:AV}{r:List AV}:zI (v::w::r)=.tup (v::w::r):=rfl
theorem SCall.run{F:qP}{K:AV->List qD->Prop}(fz bp:List Nat)(hg:Γ g=some (.fn F))(hok:F.body.ok=true)(hn:vs.length=F.np)
  (hR:R ⟨Γ,h.length,fz,bp⟩ [.code F.body] ⟨qQ 0 vs,[],h⟩ (Qf F.res K)):SCall Γ g vs h K:=fun ρ hr ar hH hv=>by
 have hS:zL ρ ⟨qQ 0 vs,[],h⟩ {s:=params 0 ar,l:=Env.empty,h:=hr}:=⟨ZW hv,(fun n v h=>by cases h),hH⟩;obtain⟨k,e,sr',ρ',st',g1,⟨he,hq⟩,g3,g4,g5⟩:=Sem.of (by simpa only [lAc,List.all_nil,Bool.and_true,Fr1.ok]using hok) hR ρ _ hS (nLr _);have hb:Ex Γ k (.code F.body {s:=params 0 ar,l:=Env.empty,h:=hr}) (.st e sr'):=by
  cases g1 with
  | code h h'=>cases h';exact h
  | codeX h he' hx h'=>cases e<;>simp[exK]at hx
  | codeE h he' hx=>exact h
 split at hq
 ·rename_i us hus;obtain⟨rs,q1,q2⟩:=ZZ g3 hus;have hx:=Ex.fn hg (by rw[hv.length];exact hn) hb he q1;exact⟨k+1,_,_,ρ',_,st'.h,hx,hq,g3.h,Z8 q2,g4,g5⟩
 ·exact hq.elim
theorem SCall.cut{K:AV->List qD->Prop}(id n w:Nat)(hs:SCall Γ g vs h fun v h'=>∃el,h'[id]?=some (.row w el true)/\K v (h'.set id (.row w (el.take n) true))):SCall Γ g vs h K:=fun ρ hr ar hH hv=>by
 obtain⟨k,r,hr',ρ',v,h',hx,⟨el,ho,hk⟩,g1,g2,g3,g4⟩:=hs ρ hr ar hH hv;rcases g1.obj _ _ ho with⟨q1,q2,_⟩ | ⟨a,el',q1,q2,q3⟩
 ·subst q2;rw[List.take_nil]at hk;have e:h'.set id (.row w [] true)=h':=List.ext_getElem? fun i=>by
   rw[gSt];split
   ·rename_i e;subst e;split
    ·rw[ho]
    ·rename_i hn;rw[gEn (by omega)]
   ·rfl
  rw[e]at hk;exact⟨k,r,hr',ρ',v,h',hx,hk,g1,g2,g3,g4⟩
 ·refine⟨k,r,_,ρ',v,_,.trim n q2 hx,hk,g1.write q1 ho (by simp) (.inr ⟨a,_,q1,AH.upd_same _ _ _,q3.take n⟩),g2,g3.trans (Fm.write g1 q1),by rw[lLs];exact g4⟩
end
section
variable {E:Ev} {l:List qB} {ks:List Fr1} {s m:qo} {h:List qD} {Q:qh->VSt->Prop} {k e:Nat} {vs:List AV}
theorem qkU{o:Option AV}{v:AV}(ho:o=some v)(hr:R E (.ops l::ks) ⟨(k,v)::s,m,h⟩ Q):Put E o (some k) l ks ⟨s,m,h⟩ Q:=by
 subst ho;rw[qdE];exact hr
theorem qZ(hp:SCall E.Γ k vs h fun v h'=>R E (.ops l::ks) ⟨(e,v)::s,m,h'⟩ Q):wl E (some (k,vs)) false (some e) l ks ⟨s,m,h⟩ Q:=by
 unfold wl;simp only[bFt,if_false];exact hp
theorem SCall.mono{Γ:Nat->Option AFn}{g:Nat}{K K':AV->List qD->Prop}(hs:SCall Γ g vs h K)(hk:∀v h',K v h'->K' v h'):SCall Γ g vs h K':=fun ρ hr ar hH hv=>by
 obtain⟨k,r,hr',ρ',v,h',hx,q,g⟩:=hs ρ hr ar hH hv;exact⟨k,r,hr',ρ',v,h',hx,hk _ _ q,g⟩
end
section
variable {E:Ev} {ks:List Fr1} {Q:qh->VSt->Prop}
def outJ{β:Type}(E:Ev)(J:β->Prop)(sttJ:β->VSt)(s:VSt):Prop:=∃b,J b/\Can E.b s (sttJ b)
def qb8{α β:Type}(E:Ev)(I:α->Prop)(stt:α->VSt)(m:α->Nat)(a:α)(n:Nat)(J:β->Prop)(sttJ:β->VSt)(ks:List Fr1)(Q:qh->VSt->Prop):qh->VSt->Prop
 |.nrm,s=>∃a',I a'/\m a'<m a/\Can E.b s (stt a')
 |.exit k,s=>if k=n then outJ E J sttJ s else Q2 E (.exit k) (exK (.exit k) ks) s Q
 |.ret,s=>Q .ret s
 |.pan v,s=>Q (.pan v) s
@[go_sem] theorem qq4{α β:Type}{I:α->Prop}{stt:α->VSt}{me:α->Nat}{a:α}{n k:Nat}{J:β->Prop}{sttJ:β->VSt}{st:VSt}:qb8 E I stt me a n J sttJ ks Q (.exit k) st=if k=n then outJ E J sttJ st else Q2 E (.exit k) (exK (.exit k) ks) st Q:=nr rfl
@[go_sem] theorem qq5{α β:Type}{I:α->Prop}{stt:α->VSt}{me:α->Nat}{a:α}{n:Nat}{J:β->Prop}{sttJ:β->VSt}{st:VSt}:qb8 E I stt me a n J sttJ ks Q .ret st=Q .ret st:=nr rfl
end
def PureR(Γ:Nat->Option AFn)(g:Nat)(as:List AV)(P:AV->Prop):Prop:=
 AV.trees as=true/\(∀v,P v->v.tree=true)/\∀hr ar,RelVs ρ0 as ar->∃v,P v/\∃k r hr',Ex Γ k (.call g ar hr) (.res (.ok r) hr')/\hr'.f=hr.f/\(∀a,hr'.fr a->hr.fr a)/\RelV ρ0 v r
section
variable {Γ:Nat->Option AFn} {g:Nat} {vs vs':List AV} {h:List qD}
def Xy(res:List ze)(P:AV->Prop):qh->VSt->Prop:=fun e st=>(e=.nrm\/e=.ret)/\match zV (zx st) res with
 | some vs=>∃v,P v/\Cv st.h (zI vs) v
 | none=>False
theorem PureR.intro{F:qP}{as:List AV}{P:AV->Prop}(fz bp:List Nat)(hg:Γ g=some (.fn F))(hok:F.body.ok=true)(hn:as.length=F.np)(ht:AV.trees as=true)(hv:∀v,P v->v.tree=true)
  (hR:R ⟨Γ,0,fz,bp⟩ [.code F.body] ⟨qQ 0 as,[],[]⟩ (Xy F.res P)):PureR Γ g as P:=by
 refine⟨ht,hv,fun hr ar har=> ?_⟩;have hS:zL ρ0 ⟨qQ 0 as,[],[]⟩ {s:=params 0 ar,l:=Env.empty,h:=hr}:=⟨ZW har,(fun n v h=>by cases h),⟨(fun i o h=>by simp at h),(fun i j a o o' h=>by cases h),(fun _ _=>rfl),(fun i a h=>by cases h)⟩⟩;obtain⟨k,e,sr',ρ',st',g1,⟨he,hq⟩,g3,g4,_⟩:=Sem.of (by simpa only [lAc,List.all_nil,Bool.and_true,Fr1.ok]using hok) hR ρ0 _ hS (nZl _);have hb:Ex Γ k (.code F.body {s:=params 0 ar,l:=Env.empty,h:=hr}) (.st e sr'):=by
  cases g1 with
  | code h h'=>cases h';exact h
  | codeX h he' hx h'=>cases e<;>simp[exK]at hx
  | codeE h he' hx=>exact h
 split at hq
 ·rename_i vs hvs;obtain⟨v,hv1,hq⟩:=hq;obtain⟨rs,q1,q2⟩:=ZZ g3 hvs;have hx:=Ex.fn hg (by rw[har.length];exact hn) hb he q1;obtain⟨r',c1,c2⟩:=Cv.conv g3.h (K:=zO ρ' st'.h (List.range st'.h.length)) (fun i a w el ha ho=>by
   rw[lCm,jD];exact⟨i,w,el,lMr.2 (J1 ho),ha,ho⟩) hq (Z8 q2)
  have hx2:=Ex.frzR _ (g3.h.rows _) c1 hx;have hold:∀id o,hr id=some o->(sr'.h.kill (zO ρ' st'.h (List.range st'.h.length))) id=some o:=fun id o ho=>by
   rw[AH.kill_at,if_neg]
   ·exact g4.pres id o ho (fun i hi=>by cases hi)
   ·rw[lCm,jD];rintro⟨i,w,el,_,p2,_⟩;rcases g4.new i id p2 with⟨j,hj⟩ | hf
    ·cases hj
    ·have:hr id=none:=hf.1;rw[this]at ho;cases ho
  exact⟨v,hv1,k+1,r',_,.drop hold (XO _ _ (hv v hv1) c2) hx2,rfl,fun a ha=>AH.fr_of_tomb ha,c2⟩
 ·exact hq.elim
end
section
variable {E:Ev} {l:List qB} {ks:List Fr1} {s m:qo} {h:List qD} {Q:qh->VSt->Prop}
def Xg(vs:Option (List AV))(h:List qD)(P:AV->Prop):Prop:=match vs with
 | some vs=>∃v,P v/\Cv h (zI vs) v
 | none=>False
@[go_sem] theorem qoG{res:List ze}{P:AV->Prop}:Xy res P .ret ⟨s,m,h⟩=Xg (zV (zx ⟨s,m,h⟩) res) h P:=by
 simp[Xy,Xg];all_goals rfl
@[go_sem] theorem qoF{res:List ze}{P:AV->Prop}:Xy res P .nrm ⟨s,m,h⟩=Xg (zV (zx ⟨s,m,h⟩) res) h P:=by
 simp[Xy,Xg];all_goals rfl
end
attribute [irreducible] PureR Xg
section
variable {Γ:Nat->Option AFn} {g:Nat} {vs:List AV} {h:List qD} {v:AV}
def w8(n:Nat):List qD:=List.replicate n .dead
def Xz(res:List ze)(h:List qD)(v:AV)(e:qh)(st:VSt):Prop:=(e=.nrm\/e=.ret)/\∃ex,st.h=h++ex/\match zV (zx st) res with
 | some vs=>Cv (w8 h.length++ex) (zI vs) v
 | none=>False
def FinT(h:List qD)(vs:Option (List AV))(h':List qD)(v:AV):Prop:=∃ex,h'=h++ex/\match vs with
 | some vs=>Cv (w8 h.length++ex) (zI vs) v
 | none=>False
@[go_sem] theorem qoI{res:List ze}{s m:qo}{h':List qD}:Xz res h v .ret ⟨s,m,h'⟩=FinT h (zV (zx ⟨s,m,h'⟩) res) h' v:=by
 simp[Xz,FinT];all_goals rfl
@[go_sem] theorem qoH{res:List ze}{s m:qo}{h':List qD}:Xz res h v .nrm ⟨s,m,h'⟩=FinT h (zV (zx ⟨s,m,h'⟩) res) h' v:=by
 simp[Xz,FinT];all_goals rfl
theorem FinT.of{ex:List qD}(hf:Fin (some vs) (w8 h.length++ex) v):FinT h (some vs) (h++ex) v:=⟨ex,rfl,by unfold Fin at hf;exact hf⟩
theorem qcU{ex:List qD}:only (List.range' h.length ex.length) (h++ex)=w8 h.length++ex:=by
 refine List.ext_getElem? fun i=> ?_;simp only[only,List.getElem?_mapIdx,w8];by_cases hi:i<h.length
 ·rw[gAl hi,gAl (by simpa using hi),gEg hi,List.getElem?_replicate,if_pos hi];simp;omega
 ·rw[gAr (by omega),gAr (by simp;omega),lLr];cases he:ex[i-h.length]? with
  | none=>rfl
  | some o=>
   have hl:=J1 he;simp;omega
theorem qmY{ex:List qD}:without (List.range' h.length ex.length) (h++ex)=h++w8 ex.length:=by
 refine List.ext_getElem? fun i=> ?_;simp only[without,List.getElem?_mapIdx,w8];by_cases hi:i<h.length
 ·rw[gAl hi,gAl hi,gEg hi];simp;omega
 ·rw[gAr (by omega),gAr (by omega),List.getElem?_replicate];cases he:ex[i-h.length]? with
  | none=>rw[List.getElem?_eq_none_iff]at he;rw[if_neg (by omega)];rfl
  | some o=>
   have hl:=J1 he;rw[if_pos hl];simp;omega
theorem SCall.tree{F:qP}{K:AV->List qD->Prop}(fz bp:List Nat)(hg:Γ g=some (.fn F))(hok:F.body.ok=true)(hn:vs.length=F.np)(hv0:v.tree=true)
  (hR:R ⟨Γ,h.length,fz,bp⟩ [.code F.body] ⟨qQ 0 vs,[],h⟩ (Xz F.res h v)) (hk:∀ex,K v (h++ex)):SCall Γ g vs h K:=fun ρ hr ar hH hv=>by
 have hS:zL ρ ⟨qQ 0 vs,[],h⟩ {s:=params 0 ar,l:=Env.empty,h:=hr}:=⟨ZW hv,(fun n v h=>by cases h),hH⟩;obtain⟨k,e,sr',ρ',st',g1,⟨he,ex,hh,hq⟩,g3,g4,g5⟩:=Sem.of (by simpa only [lAc,List.all_nil,Bool.and_true,Fr1.ok]using hok) hR ρ _ hS (nLr _);have hb:Ex Γ k (.code F.body {s:=params 0 ar,l:=Env.empty,h:=hr}) (.st e sr'):=by
  cases g1 with
  | code h h'=>cases h';exact h
  | codeX h he' hx h'=>cases e<;>simp[exK]at hx
  | codeE h he' hx=>exact h
 split at hq
 ·rename_i us hus;obtain⟨rs,q1,q2⟩:=ZZ g3 hus;have hx:=Ex.fn hg (by rw[hv.length];exact hn) hb he q1;have g3h:=g3.h;rw[hh]at g3h;obtain⟨ids,hids⟩:∃ids,ids=List.range' h.length ex.length:=⟨_,rfl⟩;have hnew:∀i,ids.contains i=true->h.length<=i:=fun i hi=>by
   rw[lCm,hids,List.mem_range'_1]at hi;exact hi.1
  have hO:qp ρ' (w8 h.length++ex) sr'.h:=by
   rw[<-qcU,<-hids];exact⟨fun i o hi=>by
    by_cases hd:o=.dead
    ·subst hd;trivial
    ·exact g3h.obj i o (jO hi hd).2,fun i j a o o' h1 h2 hi hj d1 d2=>g3h.inj i j a o o' h1 h2 (jO hi d1).2 (jO hj d2).2 d1 d2,
    fun i hi=>g3h.out i (by simpa[only]using hi),g3h.is⟩
  obtain⟨r',c1,c2⟩:=hq.conv hO (K:=zO ρ' (h++ex) ids) (fun i a w el ha ho=>by
   rw[<-qcU,<-hids]at ho;obtain⟨q1,q2⟩:=jO ho (by simp);rw[lCm,jD];exact⟨i,w,el,by simpa using q1,ha,q2⟩) (Z8 q2)
  have hx2:=Ex.frzR _ (g3h.rows ids) c1 hx;have hnk:∀a,(∀i,ρ i≠some (some a))->(∃o,hr a=some o)->(zO ρ' (h++ex) ids).contains a=false:=fun a hp ⟨o,ho⟩=>by
   by_cases hc:(zO ρ' (h++ex) ids).contains a=true
   ·rw[lCm,jD]at hc;obtain⟨i,w,el,p1,p2,p3⟩:=hc;rcases g4.new i a p2 with⟨j,hj⟩ | hf
    ·exact absurd hj (hp j)
    ·have:hr a=none:=hf.1;rw[this]at ho;cases ho
   ·simpa using hc
  refine⟨k+1,r',_,ρ',v,h++w8 ex.length,hx2,hk _, ?_,JV _ _ hv0 c2,⟨fun a o h1 h2=> ?_,g4.new,fun a ha=>g4.fr a (AH.fr_kill ha).1,g4.base⟩,by simp⟩
  ·rw[<-qmY,<-hids];refine⟨fun i o hi=> ?_,fun i j a o o' q1 q2 hi hj d1 d2=>g3h.inj i j a o o' q1 q2 (Q0 hi d1).2 (Q0 hj d2).2 d1 d2,
    fun i hi=>g3h.out i (by simpa[without]using hi),fun i a hi=> ?_⟩
   ·by_cases hd:o=.dead
    ·subst hd;trivial
    ·obtain⟨q1,q2⟩:=Q0 hi hd;refine(g3h.obj i o q2).mono (fun _ _ q=>q) fun a o' ha hq=> ?_;rw[<-hq];show (sr'.h.kill _) a=_;rw[AH.kill_at,if_neg];rw[lCm,jD];rintro⟨j,w,el,p1,p2,p3⟩;have:=g3h.inj i j a _ _ ha p2 q2 p3 hd (by simp);subst this;have:ids.contains i=true:=by simpa using p1
     rw[this]at q1;cases q1
   ·obtain⟨o,ho⟩:=g3h.is i a hi;show ∃o,(sr'.h.kill _) a=some o;rw[AH.kill_at];split
    ·exact⟨_,rfl⟩
    ·exact⟨o,ho⟩
  ·show (sr'.h.kill _) a=_;rw[AH.kill_at,if_neg]
   ·exact g4.pres a o h1 h2
   ·rw[hnk a h2 ⟨o,h1⟩];simp
 ·exact hq.elim
end
structure QD(h:List qD)(id w:Nat)(ys:List AV)(h':List qD)(id':Nat):Prop where
 at':h'[id']?=some (.row w ys true)
 len:h.length<=h'.length
 pos:id'=id\/h.length<=id'
 keep:∀j,j<h.length->j≠id->h'[j]?=h[j]?
theorem QD.lt{h h':List qD}{id id' w:Nat}{ys:List AV}(g:QD h id w ys h' id'):id'<h'.length:=(gSi.1 g.at').1
theorem QD.refl{h:List qD}{id w:Nat}{ys:List AV}(h0:h[id]?=some (.row w ys true)):QD h id w ys h id:=⟨h0,nLr _,.inl rfl,fun _ _ _=>rfl⟩
theorem QD.trans{h h1 h2:List qD}{id id1 id2 w:Nat}{ys zs:List AV}(a:QD h id w ys h1 id1)(b:QD h1 id1 w zs h2 id2):QD h id w zs h2 id2:=by
 have la:=a.len;have lb:=b.len;refine⟨b.at',by omega, ?_,fun j hj hne=> ?_⟩
 ·rcases b.pos with e | e
  ·rcases a.pos with e2 | e2
   ·left;omega
   ·right;omega
  ·right;omega
 ·have h1:j≠id1:=by rcases a.pos with e | e<;>omega
  rw[b.keep j (by omega) h1,a.keep j hj hne]
theorem QD.app{h:List qD}{id w:Nat}{ys zs:List AV}(h0:h[id]?=some (.row w ys true)):QD h id w zs (h.set id .dead++[.row w zs true]) h.length:=by
 refine⟨?_,by simp,.inr (nLr _),fun j hj hne=> ?_⟩
 ·rw[gAr (by simp)];simp
 ·rw[gAl (by simpa using hj),gSn (Ne.symm hne)]
section
variable {E:Ev} {l:List qB} {ks:List Fr1} {s m:qo} {h:List qD} {Q:qh->VSt->Prop} {g e w id n:Nat} {as vs:List AV} {xs ys:List AV}
theorem qeM{ρ:Ren}{w:Nat}{xs:List AV}{r:AV}(h:RelV ρ (.lst w xs true) r):RelV ρ (.lst w xs false) r:=by
 simp only[RelV]at h|-;rcases h with⟨ys,c,h1,_,h3⟩ | h
 ·exact .inl ⟨ys,c,h1,nofun,h3⟩
 ·exact .inr h
inductive Zg:List AV->List AV->Prop
 | nil:Zg [] []
 | same {x:AV} {xs ys:List AV} (h:Zg xs ys):Zg (x::xs) (x::ys)
 | clip {w:Nat} {es xs ys:List AV} (h:Zg xs ys):Zg (.lst w es true::xs) (.lst w es false::ys)
theorem Zg.rel{ρ:Ren}{xs ys:List AV}(h:Zg xs ys):∀{ar:List AV},RelVs ρ xs ar->RelVs ρ ys ar:=by
 induction h with
 | nil=>exact fun h=>h
 | same _ ih=>
  intro ar h;simp only[RelVs]at h|-;obtain⟨b,bs,rfl,h1,h2⟩:=h;exact⟨b,bs,rfl,h1,ih h2⟩
 | clip _ ih=>
  intro ar h;simp only[RelVs]at h|-;obtain⟨b,bs,rfl,h1,h2⟩:=h;exact⟨b,bs,rfl,qeM h1,ih h2⟩
end
def Wk(ns:List Nat)(v v':AV):Prop:=∀(ρ:Ren)(r:AV),(∀n∈ns,ρ n=some none)->RelV ρ v r->RelV ρ v' r
inductive Wks(ns:List Nat):List AV->List AV->Prop
 | nil:Wks ns [] []
 | cons {a b:AV} {as bs:List AV} (h:Wk ns a b) (hs:Wks ns as bs):Wks ns (a::as) (b::bs)
section
variable {ns:List Nat}
theorem Wk.refl(v:AV):Wk ns v v:=fun _ _ _ h=>h
theorem Wks.refl:∀vs:List AV,Wks ns vs vs
 |[]=>.nil
 | v::vs=>.cons (.refl v) (Wks.refl vs)
theorem Wks.same{a:AV}{as bs:List AV}(hs:Wks ns as bs):Wks ns (a::as) (a::bs):=.cons (.refl a) hs
theorem Wks.app{as bs cs ds:List AV}(h:Wks ns as bs)(k:Wks ns cs ds):Wks ns (as++cs) (bs++ds):=by
 induction h with
 | nil=>exact k
 | cons h _ ih=>exact .cons h ih
theorem Wks.rel{as bs:List AV}(h:Wks ns as bs){ρ:Ren}(hn:∀n∈ns,ρ n=some none):∀{rs:List AV},RelVs ρ as rs->RelVs ρ bs rs:=by
 induction h with
 | nil=>exact fun h=>h
 | cons h _ ih=>
  intro rs k;simp only[RelVs]at k|-;obtain⟨u,us,rfl,h1,h2⟩:=k;exact⟨u,us,rfl,h ρ u hn h1,ih h2⟩
theorem Wks.len{as bs:List AV}(h:Wks ns as bs):as.length=bs.length:=by
 induction h with
 | nil=>rfl
 | cons _ _ ih=>simp[ih]
theorem Wk.nilL{w:Nat}{c:Bool}:Wk ns .nils (.lst w [] c):=fun ρ r _ h=>by
 simp only[RelV]at h|-;exact .inr ⟨trivial,h⟩
theorem Wk.ph{n w:Nat}{c:Bool}(h:n∈ns):Wk ns .nils (.slice w n 0 0 c):=fun ρ r hn k=>by
 simp only[RelV]at k|-;exact .inr ⟨hn n h,trivial,trivial,.inl k⟩
theorem Wk.agg{as bs:List AV}(h:Wks ns as bs):Wk ns (.agg as) (.agg bs):=fun ρ r hn k=>by
 simp only[RelV]at k|-;obtain⟨ds,h1,h2⟩:=k;exact⟨ds,h1,h.rel hn h2⟩
theorem Wk.tup{as bs:List AV}(h:Wks ns as bs):Wk ns (.tup as) (.tup bs):=fun ρ r hn k=>by
 simp only[RelV]at k|-;obtain⟨ds,h1,h2⟩:=k;exact⟨ds,h1,h.rel hn h2⟩
theorem Wk.clip{w:Nat}{xs:List AV}:Wk ns (.lst w xs true) (.lst w xs false):=fun ρ r _ h=>qeM h
inductive WkO(ns:List Nat):qD->qD->Prop
 | refl (o:qD):WkO ns o o
 | row {w:Nat} {xs ys:List AV} {rw':Bool} (h:Wks ns xs ys):WkO ns (.row w xs rw') (.row w ys rw')
 | dead (o:qD):WkO ns o .dead
def WkH(ns:List Nat)(h h':List qD):Prop:=h.length=h'.length/\∀(i:Nat)(o o':qD),h[i]?=some o->h'[i]?=some o'->WkO ns o o'
theorem WkH.refl(h:List qD):WkH ns h h:=⟨rfl,fun i o o' h1 h2=>by rw[h1]at h2;cases h2;exact .refl o⟩
theorem WkH.set{h:List qD}{i w:Nat}{xs ys:List AV}{rw':Bool}(hw:Wks ns xs ys):WkH ns (h.set i (.row w xs rw')) (h.set i (.row w ys rw')):=by
 refine⟨by simp,fun j o o' h1 h2=> ?_⟩;rw[gSt]at h1 h2;split at h1
 ·rename_i e;rw[if_pos e]at h2;split at h1
  ·rename_i hl;rw[if_pos hl]at h2;cases h1;cases h2;exact .row hw
  ·cases h1
 ·rename_i e;rw[if_neg e]at h2;rw[h1]at h2;cases h2;exact .refl o
theorem WkH.app{h k:List qD}{o o':qD}(hh:WkH ns h k)(ho:WkO ns o o'):WkH ns (h++[o]) (k++[o']):=by
 refine⟨by simp[hh.1],fun j p p' h1 h2=> ?_⟩;rw[gAp]at h1 h2;have hl:=hh.1;split at h1
 ·rename_i e;rw[if_pos (by omega)]at h2;exact hh.2 j p p' h1 h2
 ·rename_i e;rw[if_neg (by omega)]at h2;have e0:j-h.length=0:=by have:=(gSi.1 h1).1;simp at this;omega
  rw[e0]at h1;have e1:j-k.length=0:=by omega
  rw[e1]at h2;cases h1;cases h2;exact ho
theorem WkH.at'{h:List qD}{i w:Nat}{xs ys:List AV}{rw':Bool}(ho:h[i]?=some (.row w xs rw'))(hw:Wks ns xs ys):WkH ns h (h.set i (.row w ys rw')):=by
 refine⟨by simp,fun j o o' h1 h2=> ?_⟩;rw[gSt]at h2;split at h2
 ·rename_i e;subst e;split at h2
  ·rw[ho]at h1;cases h1;cases h2;exact .row hw
  ·cases h2
 ·rw[h1]at h2;cases h2;exact .refl o
theorem WkH.rel{h h':List qD}(hw:WkH ns h h'){ρ:Ren}{hr:AH}(hn:∀n∈ns,ρ n=some none)(hH:qp ρ h hr):qp ρ h' hr:=by
 have get:∀{i:Nat}{o':qD},h'[i]?=some o'->∃o,h[i]?=some o/\WkO ns o o':=fun{i o'} hi=>by
  have hl:i<h.length:=by rw[hw.1];exact(gSi.1 hi).1
  exact⟨h[i],gEg hl,hw.2 i _ _ (gEg hl) hi⟩
 have nd:∀{o o':qD},WkO ns o o'->o'≠.dead->o≠.dead:=fun{o o'} h hd=>by cases h<;>first | exact absurd rfl hd | exact hd | simp
 refine⟨fun i o' hi=> ?_,fun i j a o o' h1 h2 hi hj d1 d2=> ?_,fun i hi=>hH.out i (by rw[hw.1];exact hi),hH.is⟩
 ·obtain⟨o,ho,hk⟩:=get hi;have:=hH.obj i o ho;cases hk with
  | refl=>exact this
  | dead=>trivial
  | row h=>
   rcases this with⟨q1,rfl,q3⟩ | ⟨i',el',q1,q2,q3⟩
   ·cases h;exact .inl ⟨q1,rfl,q3⟩
   ·exact .inr ⟨i',el',q1,q2,h.rel hn q3⟩
 ·obtain⟨p,hp,hk⟩:=get hi;obtain⟨q,hq,hk2⟩:=get hj;exact hH.inj i j a p q h1 h2 hp hq (nd hk d1) (nd hk2 d2)
end
section
variable {Γ:Nat->Option AFn} {g:Nat} {vs vs':List AV} {h:List qD} {K:AV->List qD->Prop}
theorem Wy{ρ:Ren}:∀n∈([]:List Nat),ρ n=some none:=fun n h=>by cases h
theorem SCall.arg(hw:Wks [] vs vs')(hs:SCall Γ g vs' h K):SCall Γ g vs h K:=fun ρ hr ar hH hv=>hs ρ hr ar hH (hw.rel Wy hv)
theorem SCall.out(hs:SCall Γ g vs h fun v h'=>∃v' h'',Wk [] v v'/\WkH [] h' h''/\K v' h''):SCall Γ g vs h K:=fun ρ hr ar hH hv=>by
 obtain⟨k,r,hr',ρ',v,h',hx,⟨v',h'',w1,w2,hk⟩,g1,g2,g3,g4⟩:=hs ρ hr ar hH hv;exact⟨k,r,hr',ρ',v',h'',hx,hk,w2.rel Wy g1,w1 ρ' r Wy g2,g3,by rw[<-w2.1];exact g4⟩
theorem SCall.ph{w:Nat}{h2:List qD}(hv:Wks [h.length] vs vs')(hh:WkH [h.length] (h++[.row w [] true]) h2)(hs:SCall Γ g vs' h2 K):SCall Γ g vs h K:=fun ρ hr ar hH hv'=>by
 have hle:=Ren.ext_le (x:=none) hH.none_at;have hn:∀n∈[h.length],(ρ.ext h.length none) n=some none:=fun n hn=>by simp at hn;subst hn;exact Ren.ext_same _ _ _
 obtain⟨k,r,hr',ρ',v,h',hx,q,g1,g2,g3,g4⟩:=hs _ hr ar (hh.rel hn hH.nil) (hv.rel hn (RelVs.mono hle _ _ hv'));have hl:=hh.1;simp only[lAp,lCo,lNi]at hl;refine⟨k,r,hr',ρ',v,h',hx,q,g1,g2,⟨fun a o h1 h2=>g3.pres a o h1 fun i hi=> ?_,fun i a hi=> ?_,g3.fr,fun i hi=> ?_⟩,by omega⟩
 ·by_cases e:i=h.length
  ·subst e;rw[Ren.ext_same]at hi;cases hi
  ·rw[Ren.ext_ne _ _ e]at hi;exact h2 i hi
 ·rcases g3.new i a hi with⟨j,hj⟩ | hf
  ·by_cases e:j=h.length
   ·subst e;rw[Ren.ext_same]at hj;cases hj
   ·rw[Ren.ext_ne _ _ e]at hj;exact .inl ⟨j,hj⟩
  ·exact .inr hf
 ·rw[g3.base i (by omega),Ren.ext_ne _ _ (by omega)]
theorem SCall.runW{F:qP}(fz bp:List Nat)(hg:Γ g=some (.fn F))(hok:F.body.ok=true)(hn:vs.length=F.np)
  (hR:R ⟨Γ,h.length,fz,bp⟩ [.code F.body] ⟨qQ 0 vs,[],h⟩ (Qf F.res fun v h'=>∃v' h'',Wk [] v v'/\WkH [] h' h''/\K v' h'')):SCall Γ g vs h K:=SCall.out (SCall.run fz bp hg hok hn hR)
end
section
variable {s s' m m':qo} {h h':List qD}
def WkS(s s':qo):Prop:=∀n v',get s' n=some v'->∃v,get s n=some v/\Wk [] v v'
theorem WkS.nil:WkS s []:=fun n v h=>by cases h
theorem WkS.cons{n:Nat}{v v':AV}(h:get s n=some v)(hw:Wk [] v v')(hs:WkS s s'):WkS s ((n,v')::s'):=fun k u hu=>by
 rw[Qi]at hu;split at hu
 ·rename_i e;subst e;cases hu;exact⟨v,h,hw⟩
 ·exact hs k u hu
theorem Can.wk{b:Nat}(h1:WkS s s')(h2:WkS m m')(hh:WkH [] h h'):Can b ⟨s,m,h⟩ ⟨s',m',h'⟩:=fun ρ sr hS hb=>
 ⟨sr,ρ,fun _ _ _ _ h=>h,⟨fun n v hv=>let ⟨u,q1,q2⟩:=h1 n v hv;let ⟨r,q3,q4⟩:=hS.s n u q1;⟨r,q3,q2 ρ r Wy q4⟩,
  fun n v hv=>let ⟨u,q1,q2⟩:=h2 n v hv;let ⟨r,q3,q4⟩:=hS.l n u q1;⟨r,q3,q2 ρ r Wy q4⟩,hh.rel Wy hS.h⟩,Fm.refl _ _ _,by rw[<-hh.1];exact hb⟩
end
def GvS(H:List qD)(s s':qo):Prop:=∀n v',get s' n=some v'->∃v,get s n=some v/\(v=v'\/Cv H v v'/\v'.tree=true)
theorem GvS.nil{H:List qD}{s:qo}:GvS H s []:=fun n v h=>by cases h
theorem GvS.same{H:List qD}{s s':qo}{n:Nat}{v:AV}(h:get s n=some v)(hs:GvS H s s'):GvS H s ((n,v)::s'):=fun k u hu=>by
 rw[Qi]at hu;split at hu
 ·rename_i e;subst e;cases hu;exact⟨_,h,.inl rfl⟩
 ·exact hs k u hu
theorem GvS.cons{H:List qD}{s s':qo}{n:Nat}{v v':AV}(h:get s n=some v)(hc:Cv H v v')(ht:v'.tree=true)(hs:GvS H s s'):GvS H s ((n,v')::s'):=fun k u hu=>by
 rw[Qi]at hu;split at hu
 ·rename_i e;subst e;cases hu;exact⟨_,h,.inr ⟨hc,ht⟩⟩
 ·exact hs k u hu
theorem qp.without{ρ:Ren}{h:List qD}{hr:AH}(hH:qp ρ h hr)(ids:List Nat):qp ρ (without ids h) (hr.kill (zO ρ h ids)):=by
 refine⟨fun i o hi=> ?_,fun i j a o o' q1 q2 hi hj d1 d2=>hH.inj i j a o o' q1 q2 (Q0 hi d1).2 (Q0 hj d2).2 d1 d2,fun i hi=>hH.out i (by simpa[Go.Ab.without]using hi),fun i a hi=> ?_⟩
 ·by_cases hd:o=.dead
  ·subst hd;trivial
  ·obtain⟨q1,q2⟩:=Q0 hi hd;refine(hH.obj i o q2).mono (fun _ _ q=>q) fun a o' ha hq=> ?_;rw[<-hq];show (hr.kill _) a=_;rw[AH.kill_at,if_neg];rw[lCm,jD];rintro⟨j,w,el,p1,p2,p3⟩;have:=hH.inj i j a _ _ ha p2 q2 p3 hd (by simp);subst this;have:ids.contains i=true:=by simpa using p1
   rw[this]at q1;cases q1
 ·obtain⟨o,ho⟩:=hH.is i a hi;show ∃o,(hr.kill _) a=some o;rw[AH.kill_at];split
  ·exact⟨_,rfl⟩
  ·exact⟨o,ho⟩
theorem Can.give{b:Nat}{s s' m m':qo}{h:List qD}(ids:List Nat)(h1:GvS (only ids h) s s')(h2:GvS (only ids h) m m'):Can b ⟨s,m,h⟩ ⟨s',m',without ids h⟩:=fun ρ sr hS hb=>by
 have hO:qp ρ (only ids h) sr.h:=⟨fun i o hi=>by
   by_cases hd:o=.dead
   ·subst hd;trivial
   ·exact hS.h.obj i o (jO hi hd).2,fun i j a o o' h1 h2 hi hj d1 d2=>hS.h.inj i j a o o' h1 h2 (jO hi d1).2 (jO hj d2).2 d1 d2,
  fun i hi=>hS.h.out i (by simpa[only]using hi),hS.h.is⟩
 have slot:∀{s s':qo}{e:Env},RelE ρ s e->GvS (only ids h) s s'->∀n v',get s' n=some v'->∃r',(∃v0,lk e n=some v0/\qv sr.h (zO ρ h ids) v0 r')/\RelV ρ v' r':=by
  intro s s' e hE hg n v' hv;obtain⟨v,q1,q2⟩:=hg n v' hv;obtain⟨r,q3,q4⟩:=hE n v q1;rcases q2 with rfl | ⟨q2,q5⟩
  ·exact⟨r,⟨r,q3,.refl _⟩,q4⟩
  ·obtain⟨r',c1,c2⟩:=q2.conv hO (K:=zO ρ h ids) (fun i a w el ha ho=>by
    obtain⟨q1,q2⟩:=jO ho (by simp);rw[lCm,jD];exact⟨i,w,el,by simpa using q1,ha,q2⟩) q4
   exact⟨r',⟨r,q3,c1⟩,JV _ _ q5 c2⟩
 have env:∀{s s':qo}{e:Env},RelE ρ s e->GvS (only ids h) s s'->∃e':Env,(∀t v,lk e' t=some v->∃v0,lk e t=some v0/\qv sr.h (zO ρ h ids) v0 v)/\RelE ρ s' e':=by
  intro s s' e hE hg;refine⟨fun n=>match hq:get s' n with
   | some v'=>some (Classical.choose (slot hE hg n v' hq))
   | none=>none,fun t v ht=> ?_,fun n v hv=> ?_⟩
  ·simp only[lk]at ht;split at ht
   ·rename_i v' hq;simp only[oSi]at ht;subst ht;exact(Classical.choose_spec (slot hE hg t v' hq)).1
   ·cases ht
  ·refine⟨Classical.choose (slot hE hg n v hv), ?_,(Classical.choose_spec (slot hE hg n v hv)).2⟩;simp only[lk];split
   ·rename_i v' hq;have e:v'=v:=by rw[hq]at hv;exact Option.some.inj hv
    subst e;rfl
   ·rename_i hq;rw[hq]at hv;cases hv
 obtain⟨e1,f1,f2⟩:=env hS.s h1;obtain⟨e2,f3,f4⟩:=env hS.l h2;refine⟨{s:=e1,l:=e2,h:=sr.h.kill (zO ρ h ids)},ρ,fun Γ k c o hx=>.frz (zO ρ h ids) ⟨hS.h.rows ids,f1,f3,rfl⟩ hx,⟨f2,f4,hS.h.without ids⟩,
  ⟨fun a o q1 q2=> ?_,fun i a hi=>.inl ⟨i,hi⟩,fun a ha=>(AH.fr_kill ha).1,fun _ _=>rfl⟩,by simpa[without]using hb⟩
 show (sr.h.kill _) a=_;rw[AH.kill_at,if_neg]
 ·exact q1
 ·rw[lCm,jD];rintro⟨j,w,el,p1,p2,p3⟩;exact q2 j p2
theorem Can.ph{b w:Nat}{s s' m m':qo}{h:List qD}(h1:∀n v',get s' n=some v'->∃v,get s n=some v/\Wk [h.length] v v')(h2:∀n v',get m' n=some v'->∃v,get m n=some v/\Wk [h.length] v v'):Can b ⟨s,m,h⟩ ⟨s',m',h++[.row w [] true]⟩:=fun ρ sr hS hb=>by
 have hle:=Ren.ext_le (x:=none) hS.h.none_at;have hn:∀n∈[h.length],(ρ.ext h.length none) n=some none:=fun n hn=>by simp at hn;subst hn;exact Ren.ext_same _ _ _
 exact⟨sr,ρ.ext h.length none,fun _ _ _ _ h=>h,⟨fun n v hv=>let ⟨u,q1,q2⟩:=h1 n v hv;let ⟨r,q3,q4⟩:=hS.s n u q1;⟨r,q3,q2 _ r hn (RelV.mono hle _ _ q4)⟩,
  fun n v hv=>let ⟨u,q1,q2⟩:=h2 n v hv;let ⟨r,q3,q4⟩:=hS.l n u q1;⟨r,q3,q2 _ r hn (RelV.mono hle _ _ q4)⟩,hS.h.nil⟩,Fm.mkNil hS.h hb,by have:b<=h.length:=hb;simp;omega⟩
theorem Wk.ph2{ns:List Nat}{n w:Nat}{c:Bool}(h:n∈ns):Wk ns (.lst w [] true) (.slice w n 0 0 c):=fun ρ r hn k=>by
 simp only[RelV]at k|-;refine .inr ⟨hn n h,trivial,trivial, ?_⟩;rcases k with⟨ys,c,rfl,h1,h2⟩ | ⟨_,rfl⟩
 ·simp only[RelVs]at h2;subst h2;rw[h1 (by first | rfl | trivial)];exact .inr rfl
 ·exact .inl rfl
def WkN(ns:List Nat)(s s':qo):Prop:=∀n v',get s' n=some v'->∃v,get s n=some v/\Wk ns v v'
theorem WkN.nil{ns:List Nat}{s:qo}:WkN ns s []:=fun n v h=>by cases h
theorem WkN.same{ns:List Nat}{s s':qo}{n:Nat}{v:AV}(h:get s n=some v)(hs:WkN ns s s'):WkN ns s ((n,v)::s'):=fun k u hu=>by
 rw[Qi]at hu;split at hu
 ·rename_i e;subst e;cases hu;exact⟨_,h,.refl _⟩
 ·exact hs k u hu
theorem WkN.cons{ns:List Nat}{s s':qo}{n:Nat}{v v':AV}(h:get s n=some v)(hw:Wk ns v v')(hs:WkN ns s s'):WkN ns s ((n,v')::s'):=fun k u hu=>by
 rw[Qi]at hu;split at hu
 ·rename_i e;subst e;cases hu;exact⟨v,h,hw⟩
 ·exact hs k u hu
theorem wj{ids:List Nat}{h:List qD}{j:Nat}(hj:j∉ids):(without ids h)[j]?=h[j]?:=by
 simp only[without,List.getElem?_mapIdx];cases h[j]? with
 | none=>rfl
 | some o=>simp[hj]
theorem wN{ids:List Nat}{h:List qD}:(without ids h).length=h.length:=by simp[without]
theorem Jg{ids:List Nat}{h:List qD}{j:Nat}(hj:j∈ids):(only ids h)[j]?=h[j]?:=by
 simp only[only,List.getElem?_mapIdx];cases h[j]? with
 | none=>rfl
 | some o=>simp[hj]
inductive HCv(H:List qD):AV->AV->Prop
 | same (v:AV):HCv H v v
 | cv {v v':AV} (h:Cv H v v') (ht:v'.tree=true):HCv H v v'
 | agg {cs ds:List AV} (hl:cs.length=ds.length) (hc:∀p∈cs.zip ds,HCv H p.1 p.2):HCv H (.agg cs) (.agg ds)
theorem Y9{ρ:Ren}{hr:AH}{K:List Nat}:∀{cs ds rs:List AV},cs.length=ds.length->(∀p∈cs.zip ds,∀{r:AV},RelV ρ p.1 r->∃r',qv hr K r r'/\RelV ρ p.2 r')->RelVs ρ cs rs->
  ∃rs',rs.length=rs'.length/\(∀p∈rs.zip rs',qv hr K p.1 p.2)/\RelVs ρ ds rs'
 |[],ds,rs,hl,_,h=>by
  have:ds=[]:=lEz (by simpa using hl.symm);subst this;simp only[RelVs]at h;subst h;exact⟨[],rfl,fun p hp=>by simp at hp,by simp only[RelVs]⟩
 | c::cs,[],_,hl,_,_=>by simp at hl
 | c::cs,d::ds,rs,hl,hi,h=>by
  simp only[RelVs]at h;obtain⟨r,rs,rfl,h1,h2⟩:=h;obtain⟨r',q1,q2⟩:=hi (c,d) (by simp) h1;obtain⟨rs',q3,q4,q5⟩:=Y9 (by simpa using hl) (fun p hp=>hi p (by simp only[List.zip_cons_cons];exact List.mem_cons_of_mem _ hp)) h2;refine⟨r'::rs',by simp[q3],fun p hp=> ?_,by simp only[RelVs];exact⟨r',rs',rfl,q2,q5⟩⟩;simp only[List.zip_cons_cons,List.mem_cons]at hp;rcases hp with rfl | hp
  ·exact q1
  ·exact q4 p hp
theorem HCv.conv{ρ:Ren}{H:List qD}{hr:AH}(hh:qp ρ H hr){K:List Nat}(hK:∀i a w el,ρ i=some (some a)->H[i]?=some (.row w el true)->K.contains a=true){v t:AV}(hc:HCv H v t):
  ∀{r:AV},RelV ρ v r->∃r',qv hr K r r'/\RelV ρ t r':=by
 induction hc with
 | same v=>exact fun hr=>⟨_,.refl _,hr⟩
 | cv hc ht=>exact fun hr=>let ⟨r',q1,q2⟩:=hc.conv hh hK hr;⟨r',q1,JV _ _ ht q2⟩
 | @agg cs ds hl hc ih=>
  intro r hr;simp only[RelV]at hr;obtain⟨rs,rfl,hr⟩:=hr;obtain⟨rs',q1,q2,q3⟩:=Y9 hl (fun p hp=>ih p hp) hr;exact⟨.agg rs',.agg q1 q2,by simp only[RelV];exact⟨rs',rfl,q3⟩⟩
theorem HCv.list{H:List qD}{a b:AV}{as bs:List AV}(h:HCv H a b)(hs:as.length=bs.length/\∀p∈as.zip bs,HCv H p.1 p.2):(a::as).length=(b::bs).length/\∀p∈(a::as).zip (b::bs),HCv H p.1 p.2:=⟨by simp[hs.1],fun p hp=>by
 simp only[List.zip_cons_cons,List.mem_cons]at hp;rcases hp with rfl | hp
 ·exact h
 ·exact hs.2 p hp⟩
theorem HCv.refls{H:List qD}:∀(as:List AV),as.length=as.length/\∀p∈as.zip as,HCv H p.1 p.2
 |[]=>⟨rfl,fun p hp=>by simp at hp⟩
 | a::as=>HCv.list (.same a) (HCv.refls as)
theorem HCv.apps{H:List qD}:∀(pre:List AV){as bs:List AV},(as.length=bs.length/\∀p∈as.zip bs,HCv H p.1 p.2)->(pre++as).length=(pre++bs).length/\∀p∈(pre++as).zip (pre++bs),HCv H p.1 p.2
 |[],_,_,h=>h
 | a::pre,_,_,h=>HCv.list (.same a) (HCv.apps pre h)
theorem Can.giveH{b w id:Nat}{s m:qo}{h:List qD}{el el':List AV}(ids:List Nat)(hid:ids.contains id=false)(ho:h[id]?=some (.row w el true))(h0:0<el.length)(hc:el.length=el'.length/\∀p∈el.zip el',HCv (only ids h) p.1 p.2):
  Can b ⟨s,m,h⟩ ⟨s,m,(without ids h).set id (.row w el' true)⟩:=fun ρ sr hS hb=>by
 have hO:qp ρ (only ids h) sr.h:=⟨fun i o hi=>by
   by_cases hd:o=.dead
   ·subst hd;trivial
   ·exact hS.h.obj i o (jO hi hd).2,fun i j a o o' h1 h2 hi hj d1 d2=>hS.h.inj i j a o o' h1 h2 (jO hi d1).2 (jO hj d2).2 d1 d2,
  fun i hi=>hS.h.out i (by simpa[only]using hi),hS.h.is⟩
 rcases hS.h.obj _ _ ho with⟨_,q2,_⟩ | ⟨a,rel,q1,q2,q3⟩
 ·subst q2;simp at h0
 have hKa:(zO ρ h ids).contains a=false:=by
  by_cases hq:(zO ρ h ids).contains a=true
  ·rw[lCm,jD]at hq;obtain⟨j,w',el2,p1,p2,p3⟩:=hq;have:=hS.h.inj id j a _ _ q1 p2 ho p3 (by simp) (by simp);subst this;have:ids.contains id=true:=by simpa using p1
   rw[this]at hid;cases hid
  ·simpa using hq
 obtain⟨rel',c1,c2,c3⟩:=Y9 hc.1 (fun p hp=>(hc.2 p hp).conv hO (K:=zO ρ h ids) (fun i a w el ha ho=>by
  obtain⟨q1,q2⟩:=jO ho (by simp);rw[lCm,jD];exact⟨i,w,el,by simpa using q1,ha,q2⟩)) q3
 have hw:=hS.h.without ids;have ho':(without ids h)[id]?=some (.row w el true):=by rw[wj (by simpa using hid)];exact ho
 refine⟨{s:=sr.s,l:=sr.l,h:=(sr.h.kill (zO ρ h ids)).upd a (.row w rel' true)},ρ,fun Γ k c o hx=>.cvh (zO ρ h ids) a w rel rel' true (hS.h.rows ids) hKa q2 c1 c2 hx,⟨hS.s,hS.l, ?_⟩, ?_, ?_⟩
 ·exact hw.write q1 ho' (by simp) (.inr ⟨a,rel',q1,AH.upd_same _ _ _,c3⟩)
 ·refine Fm.trans ⟨fun x o p1 p2=> ?_,fun i x hx=>.inl ⟨i,hx⟩,fun x hx=>(AH.fr_kill hx).1,fun _ _=>rfl⟩ (Fm.write hw q1);show (sr.h.kill _) x=_;rw[AH.kill_at,if_neg]
  ·exact p1
  ·rw[lCm,jD];rintro⟨j,w,el,r1,r2,r3⟩;exact p2 j r2
 ·simpa[without]using hb
theorem SCall.giveH{Γ:Nat->Option AFn}{g:Nat}{vs vs':List AV}{h:List qD}{K:AV->List qD->Prop}(ids:List Nat)(hc:vs.length=vs'.length/\∀p∈vs.zip vs',HCv (only ids h) p.1 p.2)(hs:SCall Γ g vs' (without ids h) K):SCall Γ g vs h K:=fun ρ hr ar hH hv=>by
 have hO:qp ρ (only ids h) hr:=⟨fun i o hi=>by
   by_cases hd:o=.dead
   ·subst hd;trivial
   ·exact hH.obj i o (jO hi hd).2,fun i j a o o' h1 h2 hi hj d1 d2=>hH.inj i j a o o' h1 h2 (jO hi d1).2 (jO hj d2).2 d1 d2,
  fun i hi=>hH.out i (by simpa[only]using hi),hH.is⟩
 obtain⟨ar',c1,c2,c3⟩:=Y9 hc.1 (fun p hp=>(hc.2 p hp).conv hO (K:=zO ρ h ids) (fun i a w el ha ho=>by
  obtain⟨q1,q2⟩:=jO ho (by simp);rw[lCm,jD];exact⟨i,w,el,by simpa using q1,ha,q2⟩)) hv
 obtain⟨k,r,hr',ρ',v,h',hx,q,g1,g2,g3,g4⟩:=hs ρ (hr.kill (zO ρ h ids)) ar' (hH.without ids) c3;refine⟨k,r,hr',ρ',v,h',.frzA _ (hH.rows ids) c1 c2 hx,q,g1,g2, ?_,by simpa[without]using g4⟩;rw[wN]at g3;refine Fm.trans ⟨fun x o p1 p2=> ?_,fun i x hx=>.inl ⟨i,hx⟩,fun x hx=>(AH.fr_kill hx).1,fun _ _=>rfl⟩ g3;show (hr.kill _) x=_;rw[AH.kill_at,if_neg]
 ·exact p1
 ·rw[lCm,jD];rintro⟨j,w,el,r1,r2,r3⟩;exact p2 j r2
theorem qeJ:∀{as bs:List AV},AV.trees (as++bs)=(AV.trees as&&AV.trees bs)
 |[],_=>by simp[AV.trees]
 | a::as,bs=>by simp[AV.trees,qeJ (as:=as),Bool.and_assoc]
section
variable {Γ:Nat->Option AFn} {g:Nat} {v x y:AV} {j:Nat} {sh:Option Nat}
theorem qv.subV{ρ:Ren}{hr:AH}{K:List Nat}{r:AV}(hp:x.part j sh=some y)(hy:0<y.cells.length)(h:RelV ρ (.ept x j) r):∃r',qv hr K r r'/\RelV ρ (.ept y 0) r':=by
 simp only[RelV]at h;obtain⟨z,rfl,hz⟩:=h;obtain⟨u,h1,h2⟩:=hz.part hp;refine⟨.ept u 0,.sub h1 (by rw[h2.cellsLen];exact hy), ?_⟩;simp only[RelV];exact⟨u,rfl,h2⟩
theorem Pure.lk{as bs:List AV}(hx:x.tree=true)(hp:x.part j sh=some y)(hy:0<y.cells.length)(h:Pure Γ g (as++.ept y 0::bs) v):Pure Γ g (as++.ept x j::bs) v:=by
 unfold Pure at h|-;obtain⟨t1,t2,h⟩:=h;refine⟨?_,t2,fun hr ar har=> ?_⟩
 ·rw[qeJ]at t1|-;simp only[AV.trees,AV.tree,bAt]at t1|-;exact⟨t1.1,hx,t1.2.2⟩
 ·obtain⟨as',br,rfl,ha,hb⟩:∃as' br,ar=as'++br/\RelVs ρ0 as as'/\RelVs ρ0 (.ept x j::bs) br:=⟨ar.take as.length,ar.drop as.length,(List.take_append_drop _ _).symm,by have:=har.take as.length;rwa[List.take_left]at this,by have:=har.drop as.length;rwa[List.drop_left]at this⟩;simp only[RelVs]at hb;obtain⟨r,bs',rfl,hr1,hb⟩:=hb;obtain⟨r',c1,c2⟩:=qv.subV (hr:=hr) (K:=[]) hp hy hr1;obtain⟨k,w,hr',h1,h2,h3,h4⟩:=h (hr.kill []) (as'++r'::bs') (ha.append (by simp only[RelVs];exact⟨r',bs',rfl,c2,hb⟩));have e:(hr.kill []).f=hr.f:=by funext i;rfl
  refine⟨k,w,hr',.frzA [] (fun id hi=>by cases hi) (as':=as'++r'::bs') (by simp) (fun p hp=> ?_) h1,by rw[h2,e],fun a ha=>(AH.fr_kill (h3 a ha)).1,h4⟩;rw[List.zip_append (by rfl),List.zip_cons_cons]at hp;rcases wV.1 hp with q | q
  ·have:p.1=p.2:=by obtain⟨i,hi,rfl⟩:=List.getElem_of_mem q;simp
   rw[this];exact .refl _
  ·rcases List.mem_cons.1 q with rfl | q
   ·exact c1
   ·have:p.1=p.2:=by obtain⟨i,hi,rfl⟩:=List.getElem_of_mem q;simp
    rw[this];exact .refl _
theorem Pure.lk0{bs:List AV}(hx:x.tree=true)(hp:x.part j sh=some y)(hy:0<y.cells.length)(h:Pure Γ g (.ept y 0::bs) v):Pure Γ g (.ept x j::bs) v:=Pure.lk (as:=[]) hx hp hy h
end
variable {Γ:Nat->Option AFn} {g:Nat} {vs:List AV} {h:List qD}
theorem SCall.runC{F:qP}{K:AV->List qD->Prop}{st':VSt}(fz bp:List Nat)(hg:Γ g=some (.fn F))(hok:F.body.ok=true)(hn:vs.length=F.np)(hc:Can h.length ⟨qQ 0 vs,[],h⟩ st')
  (hR:R ⟨Γ,h.length,fz,bp⟩ [.code F.body] st' (Qf F.res K)):SCall Γ g vs h K:=fun ρ hr ar hH hv=>by
 have hS:zL ρ ⟨qQ 0 vs,[],h⟩ {s:=params 0 ar,l:=Env.empty,h:=hr}:=⟨ZW hv,(fun n v h=>by cases h),hH⟩;have hs:=Sem.of (E:=⟨Γ,h.length,fz,bp⟩) (by simpa only [lAc,List.all_nil,Bool.and_true,Fr1.ok]using hok) hR;obtain⟨k,e,sr',ρ',st',g1,⟨he,hq⟩,g3,g4,g5⟩:=Sem.can hc hs ρ _ hS (nLr _);have hb:Ex Γ k (.code F.body {s:=params 0 ar,l:=Env.empty,h:=hr}) (.st e sr'):=by
  cases g1 with
  | code h h'=>cases h';exact h
  | codeX h he' hx h'=>cases e<;>simp[exK]at hx
  | codeE h he' hx=>exact h
 split at hq
 ·rename_i us hus;obtain⟨rs,q1,q2⟩:=ZZ g3 hus;have hx:=Ex.fn hg (by rw[hv.length];exact hn) hb he q1;exact⟨k+1,_,_,ρ',_,st'.h,hx,hq,g3.h,Z8 q2,g4,g5⟩
 ·exact hq.elim
end Go.Ab
namespace Go.Ab
open Go
def pmu(x y w:Nat):List (Option Nat):=(List.range' x y).map some++((List.range' 0 x).map some++(List.range' (x+y) w).map some)
theorem Qt{x y w j k:Nat}(h:(j<y/\k=x+j)\/(y<=j/\j<x+y/\k+y=j)\/(x+y<=j/\j<x+y+w/\k=j)):(pmu x y w)[j]?=some (some k):=by
 unfold pmu;rcases h with⟨h1,rfl⟩ | ⟨h1,h2,h3⟩ | ⟨h1,h2,rfl⟩
 ·rw[gAl (by simpa using h1),gMp,List.getElem?_range' h1];simp
 ·rw[gAr (by simpa using h1),gAl (by simp;omega),gMp,List.getElem?_range' (by simp;omega)];simp;omega
 ·rw[gAr (by simp;omega),gAr (by simp;omega),gMp,List.getElem?_range' (by simp;omega)];simp;omega
theorem qkQ{x y w:Nat}:wQ (pmu x y w)=true:=by
 have e:pmu x y w=(List.range' x y++(List.range' 0 x++List.range' (x+y) w)).map some:=by simp[pmu]
 rw[e];refine Wa ?_;rw[List.nodup_append];refine⟨List.nodup_range', ?_,fun a ha b hb=> ?_⟩
 ·rw[List.nodup_append];refine⟨List.nodup_range',List.nodup_range',fun a ha b hb=> ?_⟩;simp only[List.mem_range'_1]at ha hb;omega
 ·simp only[wV,List.mem_range'_1]at ha hb;omega
theorem FinF.swap{X Y W:List AV}{t v:AV}{h:List qD}(hX:AV.pls X=true)(hY:AV.pls Y=true)(hW:AV.pls W=true)(hh:h=(qN (X++(Y++W)) 0).2)(ht:(lay t 0).2=(qN (Y++(X++W)) 0).2)
  (hv:VR2 (pmu (AV.rowss X) (AV.rowss Y) (AV.rowss W)) v (lay t 0).1):FinF (some [v]) h t:=by
 refine⟨pmu (AV.rowss X) (AV.rowss Y) (AV.rowss W),qkQ, ?_,hv⟩;rw[ht];subst hh;have lX:=zQ X 0;have lY:=zQ Y (0+AV.rowss X);simp only[Zw];have hx:(qN X 0).2.length=AV.rowss X:=lX;refine W0 (ZT hY (fun i hi=>Qt (by omega)) fun i o hi=> ?_) (W0 (ZT hX (fun i hi=>Qt (by omega)) fun i o hi=> ?_) (ZT hW (fun i hi=>Qt (by omega)) fun i o hi=> ?_))
 ·have hi':=(gSi.1 hi).1;rw[gAr (by omega),show AV.rowss X+i-(qN X 0).2.length=i by omega,gAl (by simpa[zQ]using hi')];simpa only [nZa]using hi
 ·rw[show 0+i=i from nZa i,gAl (gSi.1 hi).1];exact hi
 ·have hi':=(gSi.1 hi).1;rw[gAr (by omega),gAr (by omega),show AV.rowss X+AV.rowss Y+i-(qN X 0).2.length-(qN Y (0+AV.rowss X)).2.length=i by omega];simpa only [nZa]using hi
def emu(c b n:Nat):List (Option Nat):=(List.range' c b).map some++some (c+b+n+2)::(List.range' (c+b+1) n).map some
theorem qaS{c b n j k:Nat}(h:(j<b/\k=c+j)\/(j=b/\k=c+b+n+2)\/(b<j/\j<b+n+1/\k=c+j)):(emu c b n)[j]?=some (some k):=by
 unfold emu;rcases h with⟨h1,rfl⟩ | ⟨rfl,rfl⟩ | ⟨h1,h2,rfl⟩
 ·rw[gAl (by simpa using h1),gMp,List.getElem?_range' h1];simp
 ·rw[gAr (by simp)];simp
 ·rw[gAr (by simp;omega)];have e:j-((List.range' c b).map some).length=(j-b-1)+1:=by simp;omega
  rw[e,List.getElem?_cons_succ,gMp,List.getElem?_range' (by omega)];simp;omega
theorem qhE{c b n:Nat}:wQ (emu c b n)=true:=by
 have e:emu c b n=(List.range' c b++(c+b+n+2)::List.range' (c+b+1) n).map some:=by simp[emu]
 rw[e];refine Wa ?_;rw[List.nodup_append];refine⟨List.nodup_range', ?_, ?_⟩
 ·rw[List.nodup_cons];refine⟨?_,List.nodup_range'⟩;simp only[List.mem_range'_1];omega
 ·intro x hx y hy;simp only[List.mem_range'_1,List.mem_cons]at hx hy;rcases hy with rfl | hy<;>omega
theorem FinF.grow{c w:Nat}{pre h:List qD}{X W el vs:List AV}{x:qD}{t:AV}(hpre:pre.length=c)(hX:AV.pls X=true)(hW:AV.pls W=true)(hel:AV.trees el=true)
  (hh:h=pre++((qN X c).2++.dead::((qN W (c+AV.rowss X+1)).2++[x,.row w el true]))) (ht:(lay t 0).2=(qN X 0).2++.row w el true::(qN W (AV.rowss X+1)).2)
  (hv:VR2 (emu c (AV.rowss X) (AV.rowss W)) (zI vs) (lay t 0).1):FinF (some vs) h t:=by
 refine⟨emu c (AV.rowss X) (AV.rowss W),qhE, ?_,hv⟩;rw[ht];subst hh hpre;have lX:=zQ X pre.length;have lW:=zQ W (pre.length+AV.rowss X+1);refine W0 (ZT hX (fun i hi=>qaS (by omega)) fun i o hi=> ?_) ⟨?_,ZT hW (fun i hi=>qaS (by omega)) fun i o hi=> ?_⟩
 ·rw[gAr (by omega),Nat.add_sub_cancel_left,gAl (gSi.1 hi).1];exact hi
 ·refine .row (el:=el) (rw':=true) ?_ (VR2s.trees hel);rw[gAr (by omega),gAr (by omega),show pre.length+AV.rowss X+AV.rowss W+2-pre.length-(qN X pre.length).2.length=AV.rowss W+1+1 by omega,List.getElem?_cons_succ,
   gAr (by omega),show AV.rowss W+1-(qN W (pre.length+AV.rowss X+1)).2.length=1 by omega]
  rfl
 ·have hi':=(gSi.1 hi).1;rw[gAr (by omega),gAr (by omega),show pre.length+AV.rowss X+1+i-pre.length-(qN X pre.length).2.length=i+1 by omega,List.getElem?_cons_succ,gAl hi'];exact hi
theorem Fresh.pure{Γ:Nat->Option AFn}{g:Nat}{vs:List AV}{t:AV}(hp:Fresh Γ g vs t)(hc:t.cn=true)(ht:t.tree=true):Pure Γ g vs t:=by
 unfold Fresh at hp;unfold Pure;obtain⟨t1,t2,hp⟩:=hp;refine⟨t1,ht,fun hr ar har=> ?_⟩;obtain⟨k,r,hr',ρ',h1,h2,h3,h4⟩:=hp hr ar har;obtain⟨r',q1,q2⟩:=(ZK (h:=(lay t 0).2) t 0 t2 hc (fun i o hi=>by rw[nZa];exact hi)).conv h2 (K:=zO ρ' (lay t 0).2 (List.range t.rows)) (fun i a w el ha ho=>by
  rw[lCm,jD];exact⟨i,w,el,lMr.2 (by have:=(gSi.1 ho).1;rw[qb]at this;exact this),ha,ho⟩) h3
 have hrow:Rows hr' (zO ρ' (lay t 0).2 (List.range t.rows)):=fun a ha=>by
  rw[lCm,jD]at ha;obtain⟨i,w,el,_,q2,q3⟩:=ha;rcases h2.obj i _ q3 with⟨q,_⟩ | ⟨i',el',p1,p2,p3⟩
  ·rw[q]at q2;cases q2
  ·rw[p1]at q2;cases q2;exact⟨_,p2,rfl⟩
 have hx:=Ex.frzR _ hrow q1 h1;have hkeep:∀id o,hr id=some o->(hr'.kill (zO ρ' (lay t 0).2 (List.range t.rows))) id=some o:=fun id o ho=>by
  rw[AH.kill_at];have:(zO ρ' (lay t 0).2 (List.range t.rows)).contains id=false:=by
   rw[<-Bool.not_eq_true,lCm,jD];rintro⟨i,w,el,_,q,_⟩;have:=(h4.new0 q).1;rw[ho]at this;cases this
  rw[this];simpa using h4.pres id o ho (fun i hi=>by cases hi)
 exact⟨k,r',_,.drop hkeep (XO _ _ ht q2) hx,rfl,fun a ha=>AH.fr_of_tomb ha,q2⟩
section
variable {E:Ev} {ks:List Fr1} {s m:qo} {h:List qD} {st:VSt} {Q:qh->VSt->Prop} {x y z:Ao} {l:List qB} {i:Nat} {d:Option Nat} {v:AV} {g:Option (Nat×Bool)} {ck:List qB}
@[go_sem] theorem qs8{w:Nat}:(AV.map w).part 0 none=some (.map w):=nr rfl
@[go_sem] theorem qs9:AV.nilm.part 0 none=some .nilm:=nr rfl
@[go_sem] theorem qpO:Go1 E (.mk i d g .mkmap ck) l ks ⟨s,m,h⟩ Q=wm E d (.map []) (.map h.length) l ks ⟨s,m,h⟩ Q:=by
 unfold Go1 wz w3;simp[qB.o,qB.d,AOp.isCall,qB.apC,AOp.isApp,wm,wg]
@[go_sem] theorem qpQ:Go1 E (.mk i d g (.mlen x) ck) l ks ⟨s,m,h⟩ Q=Put E (((ev (toE s) x).bind (j8 (toH h))).map fun es=>.int .i64 es.length) d l ks ⟨s,m,h⟩ Q:=jW rfl fun _=>rfl
theorem qaX{id:Nat}{es:List (AV×AV)}(ho:h[id]?=some (.map es)):j8 (toH h) (.map id)=some es:=by
 have:(toH h).f id=some (.map es):=ho;simp only[j8];show (match toH h id with | some (.map es)=>some es | _=>none)=some es;rw[show toH h id=some (.map es)from ho]
def lku(z:AV)(ok:Bool)(k:AV)(es:List (AV×AV)):Option AV:=match jG k es 0 with
 | some (some (_,v))=>some (if ok then .tup [v,.bool true]else v)
 | some none=>some (if ok then .tup [z,.bool false]else z)
 | none=>none
def lkE(h:List qD)(z:AV)(ok:Bool)(a b:Option AV):Option AV:=match a,b with
 | some m,some k=>match j8 (toH h) m with
  | some es=>lku z ok k es
  | none=>none
 | _,_=>none
@[go_sem] theorem qpK{z:AV}{ok:Bool}:Go1 E (.mk i d g (.look z x y ok) ck) l ks ⟨s,m,h⟩ Q=Put E (lkE h z ok (ev (toE s) x) (ev (toE s) y)) d l ks ⟨s,m,h⟩ Q:=by
 rw[jW rfl fun _=>rfl];rfl
theorem X9{z k:AV}{ok:Bool}{id:Nat}{es:List (AV×AV)}(ho:h[id]?=some (.map es)):lkE h z ok (some (.map id)) (some k)=lku z ok k es:=by simp only[lkE,qaX ho]
def Mup(E:Ev)(a b c:Option AV)(l:List qB)(ks:List Fr1)(st:VSt)(Q:qh->VSt->Prop):Prop:=match a,b,c with
 | some (.map id),some k',some v'=>(match st.h[id]? with
  | some (.map es)=>(match jG k' es 0 with
   | some (some (i,_))=>R E (.ops l::ks) {st with h:=st.h.set id (.map (es.set i (k',v')))} Q
   | some none=>R E (.ops l::ks) {st with h:=st.h.set id (.map (es++[(k',v')]))} Q
   | none=>False)
  | _=>False)
 | _,_,_=>False
@[go_sem] theorem qpS:Go1 E (.mk i d g (.mupd x y z) ck) l ks ⟨s,m,h⟩ Q=Mup E (ev (toE s) x) (ev (toE s) y) (ev (toE s) z) l ks ⟨s,m,h⟩ Q:=by
 unfold Go1 wz w3 Mup;simp only[qB.o,qB.d,AOp.isCall,qB.apC,AOp.isApp,Bool.false_and,bFt,if_false]
 all_goals rfl
theorem qcF{id:Nat}{es:List (AV×AV)}{k v:AV}(ho:h[id]?=some (.map es))(hf:jG k es 0=some none)(hr:R E (.ops l::ks) ⟨s,m,h.set id (.map (es++[(k,v)]))⟩ Q):Mup E (some (.map id)) (some k) (some v) l ks ⟨s,m,h⟩ Q:=by
 simp only[Mup,ho,hf];exact hr
end
def kI(n:Nat):AV:=.int .i64 (n:Nat)
theorem VN{n:Nat}{v:Nat->AV}:∀{ks:List Nat}{i:Nat},n∉ks->jG (kI n) (ks.map fun k=>(kI k,v k)) i=some none
 |[],_,_=>rfl
 | k::ks,i,h=>by
  have h1:¬n=k:=fun e=>h (e▸lMs);have:((n:Int)==(k:Int))=false:=by simp;omega
  simp only[lMc,jG,kI,Jy,if_true,this];exact VN fun q=>h (List.mem_cons_of_mem _ q)
theorem qbC{n:Nat}{v:Nat->AV}:∀{ks:List Nat}{i:Nat},n∈ks->∃j,jG (kI n) (ks.map fun k=>(kI k,v k)) i=some (some (j,v n))
 | k::ks,i,h=>by
  by_cases e:n=k
  ·subst e;exact⟨i,by simp[jG,kI,Jy]⟩
  ·have:((n:Int)==(k:Int))=false:=by simp;omega
   simp only[lMc,jG,kI,Jy,if_true,this];exact qbC (by simpa[e]using h)
end Go.Ab
