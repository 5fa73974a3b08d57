/- Texts AbO3 .. AbV: the abstract machine, its laws and contracts of functions: lemmas for the statement. No condition. -/
import Derived.Test.YtmjjilcgafiafaaGreatP3
set_option linter.unusedSimpArgs false
set_option linter.unusedVariables false
namespace Go.Ab
open Go
section
variable {α:Type} {enc:α->AV} {w:Nat} {sh:Option Nat} {Γ:Nat->Option AFn} {g gc:Nat}
theorem zN(h:∀x,(enc x).pl=true):∀xs:List α,AV.pls (xs.map enc)=true
 |[]=>rfl
 | x::xs=>by simp only[lMc,AV.pls,h x,zN h xs,Bool.and_self]
theorem jg(h:∀x,(enc x).cn=true):∀xs:List α,AV.cns (xs.map enc)=true
 |[]=>rfl
 | x::xs=>by simp only[lMc,AV.cns,h x,jg h xs,Bool.and_self]
theorem VH{t:AV}{n:Nat}(hp:t.pl=true):(lay t n).1.cells.length=t.cells.length:=by
 cases t<;>first
  | rfl
  | (cases hp;done)
  | (simp only[lay,AV.cells];exact jk _ _)
theorem qoL{t:AV}{n:Nat}(hp:t.pl=true):(∃cs,(lay t n).1=.agg cs)↔∃cs,t=.agg cs:=by
 cases t<;>simp[lay]<;>first
  | (cases hp;done)
  | skip
theorem qoN{t:AV}{n k:Nat}(hp:t.pl=true)(ha:∃cs,t=.agg cs)(hk:t.cells.length=k):(lay t n).1.part 0 (some k)=some (lay t n).1:=by
 obtain⟨cs,rfl⟩:=ha;simp only[AV.cells]at hk;simp only[lay,AV.part,AV.cells,jk,hk,nZa,nLr,if_true,List.drop_zero];rw[tOl (by rw[jk];omega)]
theorem qnF{z:AV}{A:List AV}{i n:Nat}(hl:A.length=i)(hi:i<n):(A++List.replicate (n-i) z)[i]?=some z:=by
 rw[gAr (by omega),hl,nSs,List.getElem?_replicate,iP (by omega)]
theorem qr7{z v:AV}{A:List AV}{i n:Nat}(hl:A.length=i)(hi:i<n):(A++List.replicate (n-i) z).set i v=A++(v::List.replicate (n-(i+1)) z):=by
 rw[lSr _ _ (by omega),hl,nSs,show n-i=(n-(i+1))+1 by omega,List.replicate_succ,lSz]
theorem W0{z:AV}(hs:Sh enc w sh)(hpl:∀x,(enc x).pl=true)(hz:z.tree=true)(hzl:z.cells.length=w)(hza:(∃cs,z=.agg cs)↔sh≠none)(hg:Γ g=some (.fn (toS w sh z gc)))(xs:List α)(hc:∀x∈xs,Fresh Γ gc [enc x] (enc x))(hl:xs.length<=1048576):
  Fresh Γ g [.lst w (xs.map enc) false] (.lst w (xs.map enc) false):=by
 have ht:AV.trees (xs.map enc)=true:=qb hs.tree xs;refine Fresh.intro [] [] hg (by simp[toS,qP.ok,AOp.ok,QT,Ao.ok,AV.tree,hz,qG.o,qG.d,qG.ck,AOp.isCall]) rfl (by simp[AV.trees,AV.tree,ht]) (zN hpl xs) ?_;simp only[toS,qN,go_sem];refine Jx (by simp only[lMp,LIM];omega) ?_;simp only[go_sem];refine Sem.loop (λi:Nat=>i<=xs.length)
  (λi=>(⟨[(0,.lst w (xs.map enc) false),(3,.slice w 0 0 xs.length false),(4,.int .i64 (i:Nat))],[],.row w ((qO ((xs.take i).map enc) 1).1++List.replicate (xs.length-i) z) true::(qO ((xs.take i).map enc) 1).2⟩:VSt)) (λi=>xs.length-i) 0
  (by simp[Fr1.ok,qP.ok,AOp.ok,QT,Ao.ok,AV.tree,qG.o,qG.d,qG.ck,AOp.isCall]) (nZl _) ?_ ?_
 ·simp only[List.take_zero,List.map_nil,qO,lNa,Nat.sub_zero,lMp,lNi];exact Can.sub (by simp[go_sem]) trivial
 ·intro i hi;simp only[go_sem];apply qT<;>intro hc2<;>simp only[hc2,go_sem]
  ·have hlt:i<xs.length:=by have:=odT hc2;(try simp only[lMp]at this);omega
   have hA:(qO ((xs.take i).map enc) 1).1.length=i:=by rw[jk];simp;omega
   simp only[gMp,gEg hlt,oMs,hs.part,go_sem];refine jY (hc xs[i] (gMm hlt)) ?_;simp only[go_sem,qS hlt,nZa,lCa];refine zX (by rw[VH (hpl _)];exact hs.len _) rfl (qnF hA hlt) (Qh hzl (by rw[VH (hpl _)];exact hs.len _) (by rw[hza,qoL (hpl _),hs.agg]) hs.pos) ?_;rw[qr7 hA hlt];simp only[go_sem,jO (show i<4611686018427387904 by omega),lSz];refine qa (i+1) (by omega) (by omega) ?_;have e:(xs.take (i+1)).map enc=(xs.take i).map enc++[enc xs[i]]:=by
    rw[lTs hlt,lMa];rfl
   simp only[e,Wf,qO,lAn,lAa,lCo,zx,lCa,lNa,Nat.add_comm 1];exact Can.sub (by simp[go_sem]) trivial
  ·have hge:i=xs.length:=by have:=odF hc2;(try simp only[lMp]at this);omega
   subst hge;simp only[lTl,nSs,List.replicate_zero,lAn];exact JG (pre:=[]) (post:=[]) (zN hpl xs) (by simp[zk,lay]) (by simp[lay])
theorem lI(ys:List Int):∀n,qO (ys.map qQ) n=(ys.map qQ,[]):=by
 induction ys with
 | nil=>intro n;rfl
 | cons y ys ih=>intro n;simp only[lMc,qO,qQ,lay,lNi,nAz,lNa,ih]
theorem qsQ(hg:Γ g=some (.fn YS))(xs:List Int)(hl:xs.length<=1048576):Fresh Γ g [.lst 1 (xs.map qQ) false] (.lst 1 (xs.map qQ) false):=by
 have ht:AV.trees (xs.map qQ)=true:=qb shI.tree xs;refine Fresh.intro [] [] hg (by kernel_rfl) rfl (by simp[AV.trees,AV.tree,ht]) (zN (λ_=>rfl) xs) ?_;simp only[YS,qN,go_sem];refine Jx (by simp only[lMp,LIM];omega) ?_;simp only[go_sem];refine Sem.loop (λi:Nat=>i<=xs.length)
  (λi=>(⟨[(0,.lst 1 (xs.map qQ) false),(3,.slice 1 0 0 xs.length false),(4,.int .i64 (i:Nat))],[],[.row 1 ((xs.take i).map qQ++List.replicate (xs.length-i) (.int .i64 0)) true]⟩:VSt)) (λi=>xs.length-i) 0
  (by kernel_rfl) (nZl _) ?_ ?_
 ·simp only[List.take_zero,List.map_nil,lNa,Nat.sub_zero,lMp,lNi];exact Can.sub (by simp[go_sem]) trivial
 ·intro i hi;simp only[go_sem];apply qT<;>intro hc2<;>simp only[hc2,go_sem]
  ·have hlt:i<xs.length:=by have:=odT hc2;(try simp only[lMp]at this);omega
   simp only[gMp,gEg hlt,oMs,shI.part,go_sem,qS hlt,nZa];refine zX (shI.len _) rfl (qBG hlt) (Qh (k:=1) rfl (shI.len _) (by simp[qQ]) (by decide)) ?_;rw[qC4 hlt];simp only[go_sem,jO (show i<4611686018427387904 by omega)];exact qa (i+1) (by omega) (by omega) (Can.sub (by simp[go_sem]) trivial)
  ·have hge:i=xs.length:=by have:=odF hc2;(try simp only[lMp]at this);omega
   subst hge;simp only[lTl,nSs,List.replicate_zero,lAn];exact JG (pre:=[]) (post:=[]) (zN (λ_=>rfl) xs) (by simp[zk,lay]) (by simp[lay,lI])
def mkL(f:α->Int->α)(c:α->Nat):List α->Int->List α
 |[],_=>[]
 | x::xs,k=>f x k::mkL f c xs (k+c x)
theorem jy(f:α->Int->α)(c:α->Nat):∀(xs:List α)(k:Int),(mkL f c xs k).length=xs.length
 |[],_=>rfl
 | x::xs,k=>by simp only[mkL,lCo,jy f c xs]
theorem qB5(f:α->Int->α)(c:α->Nat):∀(xs ys:List α)(k:Int),mkL f c (xs++ys) k=mkL f c xs k++mkL f c ys (k+qJ c xs)
 |[],ys,k=>by simp[mkL,qJ]
 | x::xs,ys,k=>by
  simp only[lCa,mkL,qB5 f c xs ys,qJ];congr 3;omega
theorem Zm(f:α->Int->α)(c:α->Nat){xs:List α}{i:Nat}(h:i<xs.length)(k:Int):mkL f c (xs.take (i+1)) k=mkL f c (xs.take i) k++[f xs[i] (k+qJ c (xs.take i))]:=by
 rw[lTs h,qB5];rfl
theorem Va(f:α->Int->α)(c:α->Nat){xs:List α}{i:Nat}(h:i<xs.length)(k:Int):(mkL f c xs k)[i]?=some (f xs[i] (k+qJ c (xs.take i))):=by
 have e:xs=xs.take i++xs[i]::xs.drop (i+1):=by rw[<-lDc h,List.take_append_drop]
 have:mkL f c xs k=mkL f c (xs.take i) k++mkL f c (xs[i]::xs.drop (i+1)) (k+qJ c (xs.take i)):=by
  rw[<-qB5,<-e]
 rw[this,gAr (by rw[jy];simp;omega),jy];simp[mkL,show min i xs.length=i by omega]
theorem Qm(c:α->Nat){xs:List α}{i:Nat}(h:i<xs.length):qJ c (xs.take (i+1))=qJ c (xs.take i)+c xs[i]:=by
 have:∀(xs ys:List α),qJ c (xs++ys)=qJ c xs+qJ c ys:=by
  intro xs ys;induction xs with
  | nil=>simp[qJ]
  | cons x xs ih=>simp only[lCa,qJ,ih];omega
 rw[lTs h,this];simp[qJ]
theorem Ql(c:α->Nat)(xs:List α)(i:Nat):qJ c (xs.take i)<=qJ c xs:=by
 have:∀(xs ys:List α),qJ c (xs++ys)=qJ c xs+qJ c ys:=by
  intro xs ys;induction xs with
  | nil=>simp[qJ]
  | cons x xs ih=>simp only[lCa,qJ,ih];omega
 have h:=this (xs.take i) (xs.drop i);rw[List.take_append_drop]at h;omega
def mkI(_:Int)(k:Int):Int:=k
def ctI(_:Int):Nat:=1
theorem XY:∀xs:List Int,qJ ctI xs=xs.length
 |[]=>rfl
 | x::xs=>by simp only[qJ,XY xs,ctI,lCo];omega
def qHM:qK:=⟨2,19,[.t 4],
 .seq (.reg true [⟨0,some 4,none,.mov (.c (.int .i64 0)),[]⟩]) (.seq (.seq (.reg true [⟨0,some 5,none,.mov (.c (.int .i64 0)),[]⟩]) (.blk 0 (.loop (.seq (.seq (.reg true [⟨0,some 6,none,.mov (.t 5),[]⟩,
⟨1,some 7,none,.mov (.t 0),[]⟩,
⟨2,some 8,none,.len (.t 7),[]⟩,
⟨3,some 9,none,.bin .lss (.t 6) (.t 8),[]⟩]) (.cond (.t 9) (.skip) (.exit 0))) (.seq (.blk 1 (.seq (.reg true [⟨0,some 12,none,.mov (.t 0),[]⟩,
⟨1,some 13,none,.mov (.t 5),[]⟩,
⟨2,some 14,none,.mov (.t 1),[]⟩,
⟨3,some 15,none,.iaddr 1 (.t 12) (.t 13),[]⟩,
⟨4,none,none,.store 1 (.t 15) (.t 14),[]⟩]) (.reg true [⟨0,some 16,none,.mov (.t 1),[]⟩,
⟨1,some 17,none,.bin .add (.t 16) (.c (.int .i64 1)),[]⟩,
⟨2,some 1,none,.mov (.t 17),[]⟩]))) (.reg true [⟨0,some 10,none,.mov (.t 5),[]⟩,
⟨1,some 11,none,.bin .add (.t 10) (.c (.int .i64 1)),[]⟩,
⟨2,some 5,none,.mov (.t 11),[]⟩])))))) (.seq (.reg true [⟨0,some 18,none,.mov (.t 1),[]⟩,
⟨1,some 4,none,.mov (.t 18),[]⟩]) (.ret)))⟩
def qGZ:qK:=⟨2,21,[.t 4],
 .seq (.reg true [⟨0,some 4,none,.mov (.c (.int .i64 0)),[]⟩]) (.seq (.seq (.reg true [⟨0,some 5,none,.mov (.c (.int .i64 0)),[]⟩]) (.blk 0 (.loop (.seq (.seq (.reg true [⟨0,some 6,none,.mov (.t 5),[]⟩,
⟨1,some 7,none,.mov (.t 0),[]⟩,
⟨2,some 8,none,.len (.t 7),[]⟩,
⟨3,some 9,none,.bin .lss (.t 6) (.t 8),[]⟩]) (.cond (.t 9) (.skip) (.exit 0))) (.seq (.blk 1 (.seq (.seq (.reg true [⟨0,some 12,none,.mov (.t 0),[]⟩,
⟨1,some 13,none,.mov (.t 5),[]⟩,
⟨2,some 14,none,.iaddr 1 (.t 12) (.t 13),[]⟩,
⟨3,some 15,none,.load none (.t 14),[]⟩,
⟨4,some 16,none,.mov (.t 1),[]⟩,
⟨5,some 17,none,.bin .neq (.t 15) (.t 16),[]⟩]) (.cond (.t 17) (.seq (.reg true [⟨0,some 4,none,.mov (.c (.int .i64 (-1))),[]⟩]) (.ret)) (.skip))) (.reg true [⟨0,some 18,none,.mov (.t 1),[]⟩,
⟨1,some 19,none,.bin .add (.t 18) (.c (.int .i64 1)),[]⟩,
⟨2,some 1,none,.mov (.t 19),[]⟩]))) (.reg true [⟨0,some 10,none,.mov (.t 5),[]⟩,
⟨1,some 11,none,.bin .add (.t 10) (.c (.int .i64 1)),[]⟩,
⟨2,some 5,none,.mov (.t 11),[]⟩])))))) (.seq (.reg true [⟨0,some 20,none,.mov (.t 1),[]⟩,
⟨1,some 4,none,.mov (.t 20),[]⟩]) (.ret)))⟩
theorem zi{A B:List AV}{e:AV}{i:Nat}(h:A.length=i):(A++e::B)[i]?=some e:=by
 rw[gAr (by omega),h,nSs];rfl
theorem jJ{A B:List AV}{e v:AV}{i:Nat}(h:A.length=i):(A++e::B).set i v=A++v::B:=by
 rw[lSr _ _ (by omega),h,nSs,lSz]
theorem qrJ(ys:List Int):AV.rowss (ys.map qQ)=0:=by
 have:=zx (ys.map qQ) 0;rw[lI]at this;exact this.symm
theorem jU{xs:List AV}{c:Bool}{n:Nat}:(lay (.lst w xs c) n).1=.slice w n 0 xs.length false:=nr rfl
theorem qoM{A B:List AV}{t:AV}{c:Bool}:(lay (.lst w (A++t::B) c) 0).2=.row w ((qO A 1).1++(lay t (1+AV.rowss A)).1::(qO B (1+AV.rowss A+t.rows)).1) true::((qO A 1).2++((lay t (1+AV.rowss A)).2++(qO B (1+AV.rowss A+t.rows)).2)):=by
 simp only[lay,Wf,qO,qx,nZa]
theorem Jh{A B:List α}{z:α}{c:Bool}:(lay (.lst w ((A++z::B).map enc) c) 0).2=.row w ((qO (A.map enc) 1).1++(lay (enc z) (1+AV.rowss (A.map enc))).1::(qO (B.map enc) (1+AV.rowss (A.map enc)+(enc z).rows)).1) true::((qO (A.map enc) 1).2++((lay (enc z) (1+AV.rowss (A.map enc))).2++(qO (B.map enc) (1+AV.rowss (A.map enc)+(enc z).rows)).2)):=by
 rw[lMa,lMc];exact qoM
theorem qv(f:α->Int->α)(c:α->Nat)(h:∀x k,(enc (f x k)).rows=(enc x).rows):∀(xs:List α)(k:Int),AV.rowss ((mkL f c xs k).map enc)=AV.rowss (xs.map enc)
 |[],_=>rfl
 | x::xs,k=>by simp only[mkL,lMc,AV.rowss,h,qv f c h xs]
theorem jb{c:α->Nat}(h:∀x,c x<=16):∀xs:List α,qJ c xs<=16*xs.length
 |[]=>nLr _
 | x::xs=>by have:=jb h xs;have:=h x;simp only[qJ,lCo];omega
theorem j9{c z:α->Nat}(h:∀x,c x<=16+16*z x):∀xs:List α,qJ c xs<=16*(xs.length+qJ z xs)
 |[]=>nLr _
 | x::xs=>by have:=j9 h xs;have:=h x;simp only[qJ,lCo];omega
theorem qo8{F:qK}(hg:Γ g=some (.fn F))(hF:F=qHM)(xs:List Int)(k:Int)(h0:0<=k)(hk:k+(qJ ctI xs:Nat)<=4611686018427387904)(hz:xs.length<=1073741824):
  Mark Γ g (.lst 1 (xs.map qQ) false) (.lst 1 ((mkL mkI ctI xs k).map qQ) false) k (k+(qJ ctI xs:Nat)):=by
 subst hF;rw[XY]at hk|-;refine Mark.intro hg (by kernel_rfl) rfl (zN (λ_=>rfl) xs) (zN (λ_=>rfl) _) (by simp only[AV.rows,qv mkI ctI (enc:=qQ) (λ_ _=>rfl)]) ?_;simp only[qHM,qN,lay,lI,go_sem];refine Sem.loop (λi:Nat=>i<=xs.length) (λi=>(⟨[(0,.slice 1 0 0 xs.length false),(1,.int .i64 (k+(i:Nat))),(5,.int .i64 (i:Nat))],[],[.row 1 ((mkL mkI ctI (xs.take i) k).map qQ++(xs.drop i).map qQ) true]⟩:VSt)) (λi=>xs.length-i) 0
  (by kernel_rfl) (nZl _) (by simp only[List.take_zero,mkL,List.map_nil,lNa,List.drop_zero,Int.ofNat_zero,Int.natCast_zero,Int.add_zero];exact Can.sub (by simp[go_sem]) (by simp[go_sem])) ?_
 intro i hi;simp only[go_sem];apply qT<;>intro hc<;>simp only[hc,go_sem]
 ·have hlt:i<xs.length:=by have:=odT hc;omega
  have hA:((mkL mkI ctI (xs.take i) k).map qQ).length=i:=by rw[lMp,jy];simp;omega
  rw[lDc hlt,lMc];simp only[qS hlt,nZa,go_sem];refine zX (v:=.int .i64 (k+(i:Nat))) (e':=.int .i64 (k+(i:Nat))) (by rfl) (by rfl) (zi hA) (by rfl) ?_;simp only[lSz,jJ hA,go_sem];rw[jc (n:=k+(i:Nat)+1) (by omega) (by omega)];simp only[jO (show i<4611686018427387904 by omega),go_sem];refine qa (i+1) (by omega) (by omega) ?_;have e:mkL mkI ctI (xs.take (i+1)) k=mkL mkI ctI (xs.take i) k++[k+(i:Nat)]:=by
   rw[Zm _ _ hlt,XY,lLt,show min i xs.length=i by omega];rfl
  rw[e,lMa,lAa];simp only[Int.natCast_add,Int.cast_ofNat_Int,<-Int.add_assoc];exact Can.sub (by simp[go_sem]) (by simp[go_sem])
 ·have hge:i=xs.length:=by have:=odF hc;omega
  subst hge;refine Q3 rfl ?_;rw[lTl,List.drop_length,List.map_nil,lAn]
theorem qnV{F:qK}(hg:Γ g=some (.fn F))(hF:F=qGZ)(xs:List Int)(k:Int)(h0:0<=k)(hk:k+(qJ ctI xs:Nat)<=4611686018427387904)(hz:xs.length<=1073741824):
  Pure Γ g [.lst 1 ((mkL mkI ctI xs k).map qQ) false,.int .i64 k] (.int .i64 (k+(qJ ctI xs:Nat))):=by
 subst hF;rw[XY]at hk|-;refine Pure.intro [] [] hg (by kernel_rfl) rfl (by simp[AV.trees,AV.tree,qb shI.tree]) rfl ?_;simp only[qGZ,qN,go_sem];refine Sem.loop (λi:Nat=>i<=xs.length) (λi=>(⟨[(0,.lst 1 ((mkL mkI ctI xs k).map qQ) false),(1,.int .i64 (k+(i:Nat))),(5,.int .i64 (i:Nat))],[],[]⟩:VSt)) (λi=>xs.length-i) 0
  (by kernel_rfl) (nZl _) (by simp only[Int.ofNat_zero,Int.natCast_zero,Int.add_zero];exact Can.sub (by simp[go_sem]) (by simp[go_sem])) ?_
 intro i hi;simp only[go_sem,jy];apply qT<;>intro hc<;>simp only[hc,go_sem]
 ·have hlt:i<xs.length:=by have:=odT hc;omega
  have hget:=Va mkI ctI hlt k;rw[XY,lLt,show min i xs.length=i by omega]at hget;simp only[gMp,hget,oMs,mkI,qQ,go_sem];rw[jc (n:=k+(i:Nat)+1) (by omega) (by omega)];simp only[jO (show i<4611686018427387904 by omega),go_sem];refine qa (i+1) (by omega) (by omega) ?_;simp only[Int.natCast_add,Int.cast_ofNat_Int,<-Int.add_assoc];exact Can.sub (by simp[go_sem]) (by simp[go_sem])
 ·have hge:i=xs.length:=by have:=odF hc;omega
  subst hge;exact qM rfl rfl
section
variable {E:Ev} {ks:List Fr1} {s m:qt} {h:List qA} {Q:qn->VSt->Prop} {l:List qG}
theorem J6{k e n:Nat}{pre post:List qA}{t t':AV}{a b:Int}{v:AV}(hm:Mark E.Γ k t t' a b)(hn:pre.length=n)(hh:h=pre++((lay t n).2++post))(hv:v=(lay t n).1)
  (hr:R E (.ops l::ks) ⟨(e,.int .i64 b)::s,m,pre++((lay t' n).2++post)⟩ Q):jz E (some (k,[v,.int .i64 a])) [] (some e) l ks ⟨s,m,h⟩ Q:=by
 subst hn;exact qlS hm hh hv hr
end
end
section
variable {Γ:Nat->Option AFn} {g:Nat} {w:Nat} {z:AV}
def Yr(w:Nat):qK:=⟨1,8,[.t 2],.seq (.reg true [⟨0,some 2,none,.mov (.c (.nils)),[]⟩]) (.seq (.seq (.reg true [⟨0,some 3,none,.mov (.t 0),[]⟩,
⟨1,some 4,none,.isnil 1 false (.t 3),[]⟩]) (.cond (.t 4) (.seq (.reg true [⟨0,some 2,none,.mov (.c (.nils)),[]⟩]) (.ret)) (.skip))) (.seq (.reg true [⟨0,some 5,none,.mov (.c (.lst w [] true)),[]⟩,
⟨1,some 6,none,.mov (.t 0),[]⟩,
⟨2,some 7,none,.app w (.t 5) (.t 6),[]⟩,
⟨3,some 2,none,.mov (.t 7),[]⟩]) (.ret)))⟩
theorem qFN(hg:Γ g=some (.fn (Yr w)))(h:AH):Ex Γ 1 (.call g [.nils] h) (.res (.ok .nils) h):=by
 refine .fn (st:=⟨((((params 0 [.nils]).set 2 .nils).set 3 .nils).set 4 (.bool true)).set 2 .nils,Env.empty,h⟩) (e:=.ret) hg rfl ?_ (.inr rfl) rfl;refine .seqN (.reg (.step rfl ⟨.nils,rfl,rfl⟩ trivial .nil) (.inl rfl)) (.seqX (.seqN (.reg (.step rfl ⟨.nils,rfl,rfl⟩ trivial (.step rfl ⟨.bool true,rfl,rfl⟩ trivial .nil)) (.inl rfl)) ?_) (by simp));exact .cond (t:=true) rfl (.seqN (.reg (.step rfl ⟨.nils,rfl,rfl⟩ trivial .nil) (.inl rfl)) .ret)
theorem ql3(hg:Γ g=some (.fn (Yr w)))(h:AH)(id:Nat):Ex Γ 1 (.call g [.slice w id 0 0 false] h) (.res (.ok (.lst w [] true)) h):=by
 refine .fn (st:=⟨(((((((params 0 [.slice w id 0 0 false]).set 2 .nils).set 3 (.slice w id 0 0 false)).set 4 (.bool false)).set 5 (.lst w [] true)).set 6 (.slice w id 0 0 false)).set 7 (.lst w [] true)).set 2 (.lst w [] true),Env.empty,h⟩) (e:=.ret) hg rfl ?_ (.inr rfl) rfl;refine .seqN (.reg (.step rfl ⟨.nils,rfl,rfl⟩ trivial .nil) (.inl rfl)) (.seqN (.seqN (.reg (.step rfl ⟨.slice w id 0 0 false,rfl,rfl⟩ trivial (.step rfl ⟨.bool false,rfl,rfl⟩ trivial .nil)) (.inl rfl)) (.cond (t:=false) rfl .cskip)) (.seqN (.reg ?_ (.inl rfl)) .ret));refine .step rfl ⟨.lst w [] true,rfl,rfl⟩ trivial (.step rfl ⟨.slice w id 0 0 false,rfl,rfl⟩ trivial (.step (st':=⟨((((((params 0 [.slice w id 0 0 false]).set 2 .nils).set 3 (.slice w id 0 0 false)).set 4 (.bool false)).set 5 (.lst w [] true)).set 6 (.slice w id 0 0 false)).set 7 (.lst w [] true),Env.empty,h⟩) rfl ?_ trivial (.step rfl ⟨.lst w [] true,rfl,rfl⟩ trivial .nil)));exact⟨.lst w [] true,.slice w id 0 0 false,rfl,rfl,[],rfl,rfl,rfl,rfl⟩
theorem qrA(hr:AH):zL ρ0 [] hr:=⟨(λi o h=>by simp at h),(λi j a o o' h=>by cases h),(λ_ _=>rfl),(λi a h=>by cases h)⟩
theorem Ys(hg:Γ g=some (.fn (Yr w))){xs:List AV}(hf:∀n,qO xs n=(xs,[]))(hp:AV.pls xs=true)(ht:AV.trees xs=true)(hl:xs.length<=4194304):
  Fresh Γ g [.lst w xs false] (.lst w xs false):=by
 cases xs with
 | cons x xs=>
  refine Fresh.intro [] [] hg rfl rfl (by simp only[AV.trees,AV.tree]at ht|-;simp[ht]) hp ?_;simp only[Yr,qN,go_sem];refine Qu Els.lst (by simp only[lCo]at hl|-;omega) ?_;simp only[go_sem];exact JG (pre:=[]) (post:=[]) hp (by simp[zk,lay]) (by simp[lay,hf])
 | nil=>
  refine⟨rfl,rfl,λhr ar har=>?_⟩;have hn:∀hr',zL (ρ0.ext 0 none) [.row w [] true] hr':=λhr'=>(qrA hr').nil;simp only[RelVs,RelV]at har;obtain⟨r,rs,rfl,hr0,rfl⟩:=har;have hfm:∀hr':AH,(∀a o,hr a=some o->hr' a=some o)->(∀a,hr'.fr a->hr.fr a)->Fm 0 ρ0 hr (ρ0.ext 0 none) hr':=λhr' h1 h2=>⟨λa o q _=>h1 a o q,(λi a q=>by
   by_cases e:i=0
   ·subst e;rw[Ren.ext_same]at q;cases q
   ·rw[Ren.ext_ne _ _ e]at q;cases q),h2,λi hi=>by omega⟩
  rcases hr0 with⟨ys,c,rfl,_,hys⟩ | ⟨_,rfl⟩
  ·subst hys;obtain⟨id,hid⟩:=hr.fresh;have hx1:Ex Γ 1 (.call g [.nils] hr) (.res (.ok (.lst w [] true)) (hr.kill [])):=.frzR [] (λi hi=>by simp at hi) .nils (qFN hg hr);refine⟨1,_,_,ρ0.ext 0 none,.nilc id hid (λi o q=>by rw[AH.kill_at];simpa using q) (λi o q=>q) rfl hx1 (ql3 hg _ id),hn _,by simp[lay,RelV,Ren.ext_same],hfm _ (λa o q=>q) λa q=>AH.fr_tomb (AH.fr_tomb' q)⟩
  ·exact⟨1,_,_,ρ0.ext 0 none,qFN hg hr,hn _,by simp[lay,RelV,Ren.ext_same],hfm _ (λa o q=>q) λa q=>q⟩
theorem qCA{μ:List (Option Nat)}{h:List qA}:∀{r1 r2:List (Option Nat)}{h1 h2:List qA},JA μ h r1 h1->JA μ h r2 h2->JA μ h (r1++r2) (h1++h2)
 |[],_,[],_,_,k=>k
 | _::_,_,_::_,_,j,k=>⟨j.1,qCA j.2 k⟩
 |[],_,_::_,_,j,_=>j.elim
 | _::_,_,[],_,j,_=>j.elim
theorem qH3{μ:List (Option Nat)}{h:List qA}{xs:List AV}{a b:Nat}(hp:AV.pls xs=true)(hm:∀i,i<AV.rowss xs->μ[b+i]?=some (some (a+i)))(hh:∀i o,(qO xs a).2[i]?=some o->h[a+i]?=some o):
  JA μ h ((List.range' a (AV.rowss xs)).map some) (qO xs b).2:=by
 refine Vj (by simp[zx]) λi j o h1 h2=>?_;have hi:i<AV.rowss xs:=by have:=(gSi.1 h2).1;rw[zx]at this;exact this
 rw[gMp,List.getElem?_range' (by omega)]at h1;simp only[Nat.one_mul,oMs,oSi]at h1;subst h1;exact Xo xs a b hp hm hh i o h2
def rmu(b n:Nat):List (Option Nat):=(List.range' 0 b).map some++some (b+n+2)::(List.range' (b+1) n).map some
theorem qrH{b n i:Nat}(hi:i<b):(rmu b n)[i]?=some (some i):=by
 unfold rmu;rw[gAl (by simpa using hi),gMp,List.getElem?_range' (by omega)];simp
theorem qrF{b n:Nat}:(rmu b n)[b]?=some (some (b+n+2)):=by
 unfold rmu;rw[gAr (by simp)];simp
theorem qJI{b n i:Nat}(hi:i<n):(rmu b n)[b+1+i]?=some (some (b+1+i)):=by
 unfold rmu;rw[gAr (by simp;omega)];have e:b+1+i-((List.range' 0 b).map some).length=i+1:=by simp;omega
 rw[e,List.getElem?_cons_succ,gMp,List.getElem?_range' (by omega)];simp
theorem qrG{b n:Nat}:jw (rmu b n)=true:=by
 have e:rmu b n=(List.range' 0 b++(b+n+2)::List.range' (b+1) n).map some:=by simp[rmu]
 rw[e];refine qA9 ?_;rw[List.nodup_append];refine⟨List.nodup_range', ?_, ?_⟩
 ·rw[List.nodup_cons];refine⟨?_,List.nodup_range'⟩;simp only[List.mem_range'_1];omega
 ·intro x hx y hy;simp only[List.mem_range'_1,mCo]at hx hy;rcases hy with rfl | hy<;>omega
theorem Can.round{ps ts:List AV}{x:qA}{s s' m m':qt}{b n:Nat}(hps:AV.pls ps=true)(hts:AV.pls ts=true)(hb:AV.rowss ps=b)(hn:AV.rowss ts=n)(h1:ZP (rmu b n) s s')(h2:ZP (rmu b n) m m'):
  Can 0 ⟨s,m,(qO ps 0).2++.dead::((qO ts (b+1)).2++[x,.row w (qO ts (b+1)).1 true])⟩ ⟨s',m',(qO ps 0).2++.row w (qO ts (b+1)).1 true::(qO ts (b+1)).2⟩:=by
 subst hb hn;have hlp:=zx ps 0;have hlt:=zx ts (AV.rowss ps+1);refine Can.renum (rmu (AV.rowss ps) (AV.rowss ts)) qrG (qCA (qH3 hps (λi hi=>by rw[nZa];exact qrH hi) λi o hi=>?_) ⟨?_,qH3 hts (λi hi=>qJI hi) λi o hi=>?_⟩) h1 h2
 ·rw[nZa,gAl (gSi.1 hi).1];exact hi
 ·refine .row (el:=(qO ts (AV.rowss ps+1)).1) (rw':=true) ?_ ⟨rfl,λp hp=>?_⟩
  ·rw[gAr (by omega),show AV.rowss ps+AV.rowss ts+2-(qO ps 0).2.length=AV.rowss ts+1+1 by omega,List.getElem?_cons_succ,gAr (by omega),hlt,
    show AV.rowss ts+1-AV.rowss ts=1 by omega]
   rfl
  ·exact(Xp ts (AV.rowss ps+1) (AV.rowss ps+1) hts (λi hi=>qJI hi)).2 p hp
 ·have hi':=(gSi.1 hi).1;rw[gAr (by omega),show AV.rowss ps+1+i-(qO ps 0).2.length=i+1 by omega,List.getElem?_cons_succ,gAl hi'];exact hi
theorem qoD{A:List qA}{o:qA}:(A++[o])[A.length]?=some o:=List.getElem?_concat_length
theorem Can.push{ps A:List AV}{t:AV}{s s' m m':qt}{h h':List qA}{b n:Nat}(hps:AV.pls ps=true)(hA:AV.pls A=true)(ht:t.pl=true)(hb:AV.rowss ps=b)(hn:AV.rowss A+t.rows=n)
  (hh:h=(qO ps 0).2++.dead::((qO A (b+1)).2++((lay t (b+1+AV.rowss A)).2++[.row w [(lay t (b+1+AV.rowss A)).1] true,.row w ((qO A (b+1)).1++[(lay t (b+1+AV.rowss A)).1]) true])))
  (hh':h'=(qO ps 0).2++.row w (qO (A++[t]) (b+1)).1 true::(qO (A++[t]) (b+1)).2) (h1:ZP (rmu b n) s s') (h2:ZP (rmu b n) m m'):Can 0 ⟨s,m,h⟩ ⟨s',m',h'⟩:=by
 have hp:AV.pls (A++[t])=true:=by
  have:∀B:List AV,AV.pls B=true->AV.pls (B++[t])=true:=by
   intro B
   induction B with
   | nil=>intro _;simp only[lNa,AV.pls,ht,Bool.and_true]
   | cons y B ih=>
    intro hB;simp only[AV.pls,bAt]at hB;simp only[lCa,AV.pls,hB.1,ih hB.2,Bool.and_self]
  exact this A hA
 have r:=Can.round (w:=w) (x:=.row w [(lay t (b+1+AV.rowss A)).1] true) (s:=s) (s':=s') (m:=m) (m':=m') (b:=b) (n:=n) hps hp hb (by rw[qJK];simp only[AV.rowss,nAz];exact hn) h1 h2;subst hh hh';simp only[Wf,qO,lAn,lAa]at r|-;exact r
end
section
variable {Γ:Nat->Option AFn} {g:Nat} {vs:List AV} {h:List qA}
def WU(res:List jd)(K:AV->List qA->Prop)(e:qn)(st:VSt):Prop:=(e=.nrm\/e=.ret)/\match jK (wA st) res with
 | some vs=>K (zk vs) st.h
 | none=>False
def XJ(vs:Option (List AV))(h:List qA)(K:AV->List qA->Prop):Prop:=match vs with
 | some vs=>K (zk vs) h
 | none=>False
@[go_sem] theorem quB{res:List jd}{s m:qt}{K:AV->List qA->Prop}:WU res K .ret ⟨s,m,h⟩=XJ (jK (wA ⟨s,m,h⟩) res) h K:=by
 simp[WU,XJ];all_goals rfl
@[go_sem] theorem quA{res:List jd}{s m:qt}{K:AV->List qA->Prop}:WU res K .nrm ⟨s,m,h⟩=XJ (jK (wA ⟨s,m,h⟩) res) h K:=by
 simp[WU,XJ];all_goals rfl
@[go_sem] theorem qs3{K:AV->List qA->Prop}:XJ (some vs) h K=K (zk vs) h:=rfl
@[go_sem] theorem qwZ{v:AV}:zk [v]=v:=rfl
@[go_sem] theorem qw0{v w:AV}{r:List AV}:zk (v::w::r)=.tup (v::w::r):=rfl
theorem SCall.run{F:qK}{K:AV->List qA->Prop}(fz bp:List Nat)(hg:Γ g=some (.fn F))(hok:F.body.ok=true)(hn:vs.length=F.np)
  (hR:R ⟨Γ,h.length,fz,bp⟩ [.code F.body] ⟨qN 0 vs,[],h⟩ (WU F.res K)):SCall Γ g vs h K:=λρ hr ar hH hv=>by
 have hS:zY ρ ⟨qN 0 vs,[],h⟩ {s:=params 0 ar,l:=Env.empty,h:=hr}:=⟨X3 hv,(λn v h=>by cases h),hH⟩;obtain⟨k,e,sr',ρ',st',g1,⟨he,hq⟩,g3,g4,g5⟩:=Sem.of (by simpa only [lAc,List.all_nil,Bool.and_true,Fr1.ok]using hok) hR ρ _ hS (nLr _);have hb:Ex Γ k (.code F.body {s:=params 0 ar,l:=Env.empty,h:=hr}) (.st e sr'):=by
  cases g1 with
  | code h h'=>cases h';exact h
  | codeX h he' hx h'=>cases e<;>simp[exK]at hx
  | codeE h he' hx=>exact h
 split at hq
 ·rename_i us hus;obtain⟨rs,q1,q2⟩:=YA g3 hus;have hx:=Ex.fn hg (by rw[hv.length];exact hn) hb he q1;exact⟨k+1,_,_,ρ',_,st'.h,hx,hq,g3.h,Vr q2,g4,g5⟩
 ·exact hq.elim
theorem SCall.cut{K:AV->List qA->Prop}(id n w:Nat)(hs:SCall Γ g vs h λv h'=>∃el,h'[id]?=some (.row w el true)/\K v (h'.set id (.row w (el.take n) true))):SCall Γ g vs h K:=λρ hr ar hH hv=>by
 obtain⟨k,r,hr',ρ',v,h',hx,⟨el,ho,hk⟩,g1,g2,g3,g4⟩:=hs ρ hr ar hH hv;rcases g1.obj _ _ ho with⟨q1,q2,_⟩ | ⟨a,el',q1,q2,q3⟩
 ·subst q2;rw[List.take_nil]at hk;have e:h'.set id (.row w [] true)=h':=List.ext_getElem? λi=>by
   rw[gSt];split
   ·rename_i e;subst e;split
    ·rw[ho]
    ·rename_i hn;rw[gEn (by omega)]
   ·rfl
  rw[e]at hk;exact⟨k,r,hr',ρ',v,h',hx,hk,g1,g2,g3,g4⟩
 ·refine⟨k,r,_,ρ',v,_,.trim n q2 hx,hk,g1.write q1 ho (by simp) (.inr ⟨a,_,q1,AH.upd_same _ _ _,q3.take n⟩),g2,g3.trans (Fm.write g1 q1),by rw[lLs];exact g4⟩
end
section
variable {E:Ev} {l:List qG} {ks:List Fr1} {s m:qt} {h:List qA} {Q:qn->VSt->Prop} {k e:Nat} {vs:List AV}
theorem X7{o:Option AV}{v:AV}(ho:o=some v)(hr:R E (.ops l::ks) ⟨(k,v)::s,m,h⟩ Q):Put E o (some k) l ks ⟨s,m,h⟩ Q:=by
 subst ho;rw[qI6];exact hr
theorem qu(hp:SCall E.Γ k vs h λv h'=>R E (.ops l::ks) ⟨(e,v)::s,m,h'⟩ Q):jz E (some (k,vs)) [] (some e) l ks ⟨s,m,h⟩ Q:=by
 unfold jz;exact hp
theorem XT{c:qG}{r:List qG}(hp:SCall E.Γ k vs h λv h'=>ckVs ⟨(e,v)::s,m,h'⟩ (c::r)/\R E (.ops l::ks) ⟨(e,v)::s,m,h'⟩ Q):jz E (some (k,vs)) (c::r) (some e) l ks ⟨s,m,h⟩ Q:=by
 unfold jz;exact Or.inr hp
theorem SCall.mono{Γ:Nat->Option AFn}{g:Nat}{K K':AV->List qA->Prop}(hs:SCall Γ g vs h K)(hk:∀v h',K v h'->K' v h'):SCall Γ g vs h K':=λρ hr ar hH hv=>by
 obtain⟨k,r,hr',ρ',v,h',hx,q,g⟩:=hs ρ hr ar hH hv;exact⟨k,r,hr',ρ',v,h',hx,hk _ _ q,g⟩
end
section
variable {E:Ev} {ks:List Fr1} {Q:qn->VSt->Prop}
end
section
variable {Γ:Nat->Option AFn} {g:Nat} {vs vs':List AV} {h:List qA}
end
section
variable {E:Ev} {l:List qG} {ks:List Fr1} {s m:qt} {h:List qA} {Q:qn->VSt->Prop}
end
section
variable {Γ:Nat->Option AFn} {g:Nat} {vs:List AV} {h:List qA} {v:AV}
end
section
variable {E:Ev} {l:List qG} {ks:List Fr1} {s m:qt} {h:List qA} {Q:qn->VSt->Prop} {g e w id n:Nat} {as vs:List AV} {xs ys:List AV}
end
section
variable {ns:List Nat}
end
section
variable {Γ:Nat->Option AFn} {g:Nat} {vs vs':List AV} {h:List qA} {K:AV->List qA->Prop}
end
section
variable {s s' m m':qt} {h h':List qA}
end
def GvS(H:List qA)(s s':qt):Prop:=∀n v',get s' n=some v'->∃v,get s n=some v/\(v=v'\/Cv H v v'/\v'.tree=true)
theorem GvS.nil{H:List qA}{s:qt}:GvS H s []:=λn v h=>by cases h
theorem GvS.same{H:List qA}{s s':qt}{n:Nat}{v:AV}(h:get s n=some v)(hs:GvS H s s'):GvS H s ((n,v)::s'):=λk u hu=>by
 rw[WV]at hu;split at hu
 ·rename_i e;subst e;cases hu;exact⟨_,h,.inl rfl⟩
 ·exact hs k u hu
theorem GvS.cons{H:List qA}{s s':qt}{n:Nat}{v v':AV}(h:get s n=some v)(hc:Cv H v v')(ht:v'.tree=true)(hs:GvS H s s'):GvS H s ((n,v')::s'):=λk u hu=>by
 rw[WV]at hu;split at hu
 ·rename_i e;subst e;cases hu;exact⟨_,h,.inr ⟨hc,ht⟩⟩
 ·exact hs k u hu
theorem zL.without{ρ:Ren}{h:List qA}{hr:AH}(hH:zL ρ h hr)(ids:List Nat):zL ρ (without ids h) (hr.kill (jo ρ h ids)):=by
 refine⟨λi o hi=>?_,λi j a o o' q1 q2 hi hj d1 d2=>hH.inj i j a o o' q1 q2 (qDH hi d1).2 (qDH hj d2).2 d1 d2,λi hi=>hH.out i (by simpa[Go.Ab.without]using hi),λi a hi=>?_⟩
 ·by_cases hd:o=.dead
  ·subst hd;trivial
  ·obtain⟨q1,q2⟩:=qDH hi hd;refine(hH.obj i o q2).mono (λ_ _ q=>q) λa o' ha hq=>?_;rw[<-hq];show (hr.kill _) a=_;rw[AH.kill_at,iN];rw[lCm,J0];rintro⟨j,w,el,p1,p2,p3⟩;have:=hH.inj i j a _ _ ha p2 q2 p3 hd (by simp);subst this;have:ids.contains i=true:=by simpa using p1
   rw[this]at q1;cases q1
 ·obtain⟨o,ho⟩:=hH.is i a hi;show ∃o,(hr.kill _) a=some o;rw[AH.kill_at];split
  ·exact⟨_,rfl⟩
  ·exact⟨o,ho⟩
theorem Can.give{b:Nat}{s s' m m':qt}{h:List qA}(ids:List Nat)(h1:GvS (only ids h) s s')(h2:GvS (only ids h) m m'):Can b ⟨s,m,h⟩ ⟨s',m',without ids h⟩:=λρ sr hS hb=>by
 have hO:zL ρ (only ids h) sr.h:=⟨λi o hi=>by
   by_cases hd:o=.dead
   ·subst hd;trivial
   ·exact hS.h.obj i o (Vq hi hd).2,λi j a o o' h1 h2 hi hj d1 d2=>hS.h.inj i j a o o' h1 h2 (Vq hi d1).2 (Vq hj d2).2 d1 d2,
  λi hi=>hS.h.out i (by simpa[only]using hi),hS.h.is⟩
 have slot:∀{s s':qt}{e:Env},RelE ρ s e->GvS (only ids h) s s'->∀n v',get s' n=some v'->∃r',(∃v0,lk e n=some v0/\zK sr.h (jo ρ h ids) v0 r')/\RelV ρ v' r':=by
  intro s s' e hE hg n v' hv;obtain⟨v,q1,q2⟩:=hg n v' hv;obtain⟨r,q3,q4⟩:=hE n v q1;rcases q2 with rfl | ⟨q2,q5⟩
  ·exact⟨r,⟨r,q3,.refl _⟩,q4⟩
  ·obtain⟨r',c1,c2⟩:=q2.conv hO (K:=jo ρ h ids) (λi a w el ha ho=>by
    obtain⟨q1,q2⟩:=Vq ho (by simp);rw[lCm,J0];exact⟨i,w,el,by simpa using q1,ha,q2⟩) q4
   exact⟨r',⟨r,q3,c1⟩,Qp _ _ q5 c2⟩
 have env:∀{s s':qt}{e:Env},RelE ρ s e->GvS (only ids h) s s'->∃e':Env,(∀t v,lk e' t=some v->∃v0,lk e t=some v0/\zK sr.h (jo ρ h ids) v0 v)/\RelE ρ s' e':=by
  intro s s' e hE hg;refine⟨λn=>match hq:get s' n with
   | some v'=>some (Classical.choose (slot hE hg n v' hq))
   | none=>none,λt v ht=>?_,λn v hv=>?_⟩
  ·simp only[lk]at ht;split at ht
   ·rename_i v' hq;simp only[oSi]at ht;subst ht;exact(Classical.choose_spec (slot hE hg t v' hq)).1
   ·cases ht
  ·refine⟨Classical.choose (slot hE hg n v hv), ?_,(Classical.choose_spec (slot hE hg n v hv)).2⟩;simp only[lk];split
   ·rename_i v' hq;have e:v'=v:=by rw[hq]at hv;exact Option.some.inj hv
    subst e;rfl
   ·rename_i hq;rw[hq]at hv;cases hv
 obtain⟨e1,f1,f2⟩:=env hS.s h1;obtain⟨e2,f3,f4⟩:=env hS.l h2;refine⟨{s:=e1,l:=e2,h:=sr.h.kill (jo ρ h ids)},ρ,λΓ k c o hx=>.frz (jo ρ h ids) ⟨hS.h.rows ids,f1,f3,rfl⟩ hx,⟨f2,f4,hS.h.without ids⟩,
  ⟨λa o q1 q2=>?_,λi a hi=>.inl ⟨i,hi⟩,λa ha=>(AH.fr_kill ha).1,λ_ _=>rfl⟩,by simpa[without]using hb⟩
 show (sr.h.kill _) a=_;rw[AH.kill_at,iN]
 ·exact q1
 ·rw[lCm,J0];rintro⟨j,w,el,p1,p2,p3⟩;exact q2 j p2
theorem qDI{ids:List Nat}{h:List qA}{j:Nat}(hj:j∉ids):(without ids h)[j]?=h[j]?:=by
 simp only[without,List.getElem?_mapIdx];cases h[j]? with
 | none=>rfl
 | some o=>simp[hj]
theorem qK0{ids:List Nat}{h:List qA}:(without ids h).length=h.length:=by simp[without]
theorem qIE{ids:List Nat}{h:List qA}{j:Nat}(hj:j∈ids):(only ids h)[j]?=h[j]?:=by
 simp only[only,List.getElem?_mapIdx];cases h[j]? with
 | none=>rfl
 | some o=>simp[hj]
theorem qKL:∀{as bs:List AV},AV.trees (as++bs)=(AV.trees as&&AV.trees bs)
 |[],_=>by simp[AV.trees]
 | a::as,bs=>by simp[AV.trees,qKL (as:=as),Bool.and_assoc]
section
variable {Γ:Nat->Option AFn} {g:Nat} {v x y:AV} {j:Nat} {sh:Option Nat}
theorem zK.subV{ρ:Ren}{hr:AH}{K:List Nat}{r:AV}(hp:x.part j sh=some y)(hy:0<y.cells.length)(h:RelV ρ (.ept x j) r):∃r',zK hr K r r'/\RelV ρ (.ept y 0) r':=by
 simp only[RelV]at h;obtain⟨z,rfl,hz⟩:=h;obtain⟨u,h1,h2⟩:=hz.part hp;refine⟨.ept u 0,.sub h1 (by rw[h2.cellsLen];exact hy), ?_⟩;simp only[RelV];exact⟨u,rfl,h2⟩
theorem Pure.lk{as bs:List AV}(hx:x.tree=true)(hp:x.part j sh=some y)(hy:0<y.cells.length)(h:Pure Γ g (as++.ept y 0::bs) v):Pure Γ g (as++.ept x j::bs) v:=by
 unfold Pure at h|-;obtain⟨t1,t2,h⟩:=h;refine⟨?_,t2,λhr ar har=>?_⟩
 ·rw[qKL]at t1|-;simp only[AV.trees,AV.tree,bAt]at t1|-;exact⟨t1.1,hx,t1.2.2⟩
 ·obtain⟨as',br,rfl,ha,hb⟩:∃as' br,ar=as'++br/\RelVs ρ0 as as'/\RelVs ρ0 (.ept x j::bs) br:=⟨ar.take as.length,ar.drop as.length,(List.take_append_drop _ _).symm,by have:=har.take as.length;rwa[List.take_left]at this,by have:=har.drop as.length;rwa[List.drop_left]at this⟩;simp only[RelVs]at hb;obtain⟨r,bs',rfl,hr1,hb⟩:=hb;obtain⟨r',c1,c2⟩:=zK.subV (hr:=hr) (K:=[]) hp hy hr1;obtain⟨k,w,hr',h1,h2,h3,h4⟩:=h (hr.kill []) (as'++r'::bs') (ha.append (by simp only[RelVs];exact⟨r',bs',rfl,c2,hb⟩));have e:(hr.kill []).f=hr.f:=by funext i;rfl
  refine⟨k,w,hr',.frzA [] (λid hi=>by cases hi) (as':=as'++r'::bs') (by simp) (λp hp=>?_) h1,by rw[h2,e],λa ha=>(AH.fr_kill (h3 a ha)).1,h4⟩;rw[List.zip_append (by rfl),List.zip_cons_cons]at hp;rcases z9.1 hp with q | q
  ·have:p.1=p.2:=by obtain⟨i,hi,rfl⟩:=List.getElem_of_mem q;simp
   rw[this];exact .refl _
  ·rcases mCo.1 q with rfl | q
   ·exact c1
   ·have:p.1=p.2:=by obtain⟨i,hi,rfl⟩:=List.getElem_of_mem q;simp
    rw[this];exact .refl _
theorem Pure.lk0{bs:List AV}(hx:x.tree=true)(hp:x.part j sh=some y)(hy:0<y.cells.length)(h:Pure Γ g (.ept y 0::bs) v):Pure Γ g (.ept x j::bs) v:=Pure.lk (as:=[]) hx hp hy h
theorem Pure.lk1{a:AV}{bs:List AV}(hx:x.tree=true)(hp:x.part j sh=some y)(hy:0<y.cells.length)(h:Pure Γ g (a::.ept y 0::bs) v):Pure Γ g (a::.ept x j::bs) v:=Pure.lk (as:=[a]) hx hp hy h
end
variable {Γ:Nat->Option AFn} {g:Nat} {vs:List AV} {h:List qA}
end Go.Ab
namespace Go.Ab
open Go
section
variable {E:Ev} {ks:List Fr1} {s m:qt} {h:List qA} {st:VSt} {Q:qn->VSt->Prop} {x y z:Ao} {l:List qG} {i:Nat} {d:Option Nat} {v:AV} {g:Option (Nat×Bool)} {ck:List qG}
end
section
variable {μ μ':List (Option Nat)} {h h':List qA}
theorem VR2s.hd{a b:AV}{as bs:List AV}(x:VR2s μ (a::as) (b::bs)):VR2 μ a b/\VR2s μ as bs:=
 ⟨x.2 (a,b) (by simp),by have:=x.1;simpa using this,λp hp=>x.2 p (by simp only[List.zip_cons_cons];exact mCm _ hp)⟩
theorem VR2.aggs{v:AV}{ds:List AV}(x:VR2 μ v (.agg ds)):∃cs,v=.agg cs/\VR2s μ cs ds:=by
 cases x with
 | tree ht=>exact⟨ds,rfl,VR2s.trees (by simpa only [AV.tree]using ht)⟩
 | agg hl hc=>exact⟨_,rfl,hl,hc⟩
theorem VR2.tups{v:AV}{ds:List AV}(x:VR2 μ v (.tup ds)):∃cs,v=.tup cs/\VR2s μ cs ds:=by
 cases x with
 | tree ht=>exact⟨ds,rfl,VR2s.trees (by simpa only [AV.tree]using ht)⟩
 | tup hl hc=>exact⟨_,rfl,hl,hc⟩
theorem VR2.slc0{v:AV}{w a b n:Nat}(h:μ'[b]?=μ[a]?)(x:VR2 μ v (.slice w a 0 n false)):VR2 μ' v (.slice w b 0 n false):=by
 cases x with
 | tree ht=>simp[AV.tree]at ht
 | slice hm=>exact .slice (h.trans hm)
 | ph hm=>exact .ph (h.trans hm)
 | ph2 hm=>exact .ph2 (h.trans hm)
mutual
theorem VR2.move:∀(t:AV)(a b:Nat)(v:AV),t.pl=true->(∀i,i<t.rows->μ'[b+i]?=μ[a+i]?)->VR2 μ v (lay t a).1->VR2 μ' v (lay t b).1
 |.lst w xs c,a,b,v,hp,hm,hv=>by
  simp only[lay]at hv|-;exact hv.slc0 (by have:=hm 0 (by simp only[AV.rows];omega);simpa using this)
 |.agg xs,a,b,v,hp,hm,hv=>by
  simp only[lay]at hv|-;obtain⟨cs,rfl,hc⟩:=hv.aggs;have:=VR2.moves xs a b cs hp hm hc;exact .agg this.1 this.2
 |.tup xs,a,b,v,hp,hm,hv=>by
  simp only[lay]at hv|-;obtain⟨cs,rfl,hc⟩:=hv.tups;have:=VR2.moves xs a b cs hp hm hc;exact .tup this.1 this.2
 |.bool _,_,_,_,_,_,hv |.int _ _,_,_,_,_,_,hv |.str _,_,_,_,_,_,hv |.nilp,_,_,_,_,_,hv |.nils,_,_,_,_,_,hv |.nilm,_,_,_,_,_,hv |.nilf,_,_,_,_,_,hv |.nili,_,_,_,_,_,hv=>by
  simp only[lay]at hv|-;cases hv;exact .tree (by rfl)
 |.any,_,_,_,hp,_,_ |.ptr _ _ _,_,_,_,hp,_,_ |.slice _ _ _ _ _,_,_,_,hp,_,_ |.map _,_,_,_,hp,_,_ |.ept _ _,_,_,_,hp,_,_ |.fn _ _,_,_,_,hp,_,_ |.iface _ _,_,_,_,hp,_,_=>by cases hp
theorem VR2.moves:∀(xs:List AV)(a b:Nat)(vs:List AV),AV.pls xs=true->(∀i,i<AV.rowss xs->μ'[b+i]?=μ[a+i]?)->VR2s μ vs (qO xs a).1->VR2s μ' vs (qO xs b).1
 |[],a,b,vs,_,_,hv=>by
  have:vs=[]:=lEz hv.1;subst this;exact VR2s.nil
 | x::xs,a,b,vs,hp,hm,hv=>by
  simp only[AV.pls,bAt]at hp;simp only[AV.rowss]at hm;simp only[qO,qx]at hv|-;cases vs with
  | nil=>have:=hv.1;simp at this
  | cons v vs=>
   obtain⟨h1,h2⟩:=hv.hd;refine .cons (VR2.move x a b v hp.1 (λi hi=>hm i (by omega)) h1) (VR2.moves xs _ _ vs hp.2 (λi hi=>?_) h2);rw[show b+x.rows+i=b+(x.rows+i) by omega,show a+x.rows+i=a+(x.rows+i) by omega];exact hm _ (by omega)
end
mutual
theorem OR2.move:∀(t:AV)(a b:Nat),t.pl=true->(∀i,i<t.rows->μ'[b+i]?=μ[a+i]?)->∀(i:Nat)(j:Option Nat)(o o':qA),(lay t a).2[i]?=some o->(lay t b).2[i]?=some o'->OR2 μ h j o->OR2 μ' h j o'
 |.lst w xs c,a,b,hp,hm,i,j,o,o',h1,h2,ho=>by
  simp only[lay]at h1 h2;simp only[AV.rows]at hm;have hm':∀i,i<AV.rowss xs->μ'[b+1+i]?=μ[a+1+i]?:=λi hi=>by
   rw[show b+1+i=b+(i+1) by omega,show a+1+i=a+(i+1) by omega];exact hm _ (by omega)
  cases i with
  | zero=>
   simp only[List.getElem?_cons_zero,oSi]at h1 h2;subst h1 h2;generalize he:(qO xs (a+1)).1=el at ho;cases ho with
   | ph=>
    have:xs=[]:=lEz (by rw[<-jk xs (a+1),he];rfl);subst this;exact .ph
   | row hr hv=>
    rw[<-he]at hv;exact .row hr (VR2.moves xs _ _ _ hp hm' hv)
  | succ i=>
   simp only[List.getElem?_cons_succ]at h1 h2;exact OR2.moves xs (a+1) (b+1) hp hm' i j o o' h1 h2 ho
 |.agg xs,a,b,hp,hm,i,j,o,o',h1,h2,ho=>by
  simp only[lay]at h1 h2;exact OR2.moves xs a b hp hm i j o o' h1 h2 ho
 |.tup xs,a,b,hp,hm,i,j,o,o',h1,h2,ho=>by
  simp only[lay]at h1 h2;exact OR2.moves xs a b hp hm i j o o' h1 h2 ho
 |.bool _,_,_,_,_,_,_,_,_,h1,_,_ |.int _ _,_,_,_,_,_,_,_,_,h1,_,_ |.str _,_,_,_,_,_,_,_,_,h1,_,_ |.nilp,_,_,_,_,_,_,_,_,h1,_,_ |.nils,_,_,_,_,_,_,_,_,h1,_,_ |.nilm,_,_,_,_,_,_,_,_,h1,_,_ |.nilf,_,_,_,_,_,_,_,_,h1,_,_ |.nili,_,_,_,_,_,_,_,_,h1,_,_=>by
  simp[lay]at h1
 |.any,_,_,hp,_,_,_,_,_,_,_,_ |.ptr _ _ _,_,_,hp,_,_,_,_,_,_,_,_ |.slice _ _ _ _ _,_,_,hp,_,_,_,_,_,_,_,_ |.map _,_,_,hp,_,_,_,_,_,_,_,_ |.ept _ _,_,_,hp,_,_,_,_,_,_,_,_ |.fn _ _,_,_,hp,_,_,_,_,_,_,_,_ |.iface _ _,_,_,hp,_,_,_,_,_,_,_,_=>by cases hp
theorem OR2.moves:∀(xs:List AV)(a b:Nat),AV.pls xs=true->(∀i,i<AV.rowss xs->μ'[b+i]?=μ[a+i]?)->∀(i:Nat)(j:Option Nat)(o o':qA),(qO xs a).2[i]?=some o->(qO xs b).2[i]?=some o'->OR2 μ h j o->OR2 μ' h j o'
 |[],_,_,_,_,_,_,_,_,h1,_,_=>by simp[qO]at h1
 | x::xs,a,b,hp,hm,i,j,o,o',h1,h2,ho=>by
  simp only[AV.pls,bAt]at hp;simp only[AV.rowss]at hm;simp only[qO,qx]at h1 h2;rcases Nat.lt_or_ge i x.rows with q | q
  ·rw[gAl (by rw[qx];exact q)]at h1 h2;exact OR2.move x a b hp.1 (λi hi=>hm i (by omega)) i j o o' h1 h2 ho
  ·rw[gAr (by rw[qx];exact q),qx]at h1 h2;refine OR2.moves xs (a+x.rows) (b+x.rows) hp.2 (λi hi=>?_) (i-x.rows) j o o' h1 h2 ho;rw[show b+x.rows+i=b+(x.rows+i) by omega,show a+x.rows+i=a+(x.rows+i) by omega];exact hm _ (by omega)
end
theorem qCB{r:List (Option Nat)}{xs:List AV}{a b:Nat}(hp:AV.pls xs=true)(hm:∀i,i<AV.rowss xs->μ'[b+i]?=μ[a+i]?)(ho:JA μ h r (qO xs a).2):JA μ' h r (qO xs b).2:=by
 have hl:=Vi ho;rw[zx]at hl;refine Vj (by rw[hl,zx]) λi j o' h1 h2=>?_;have hi:i<(qO xs a).2.length:=by have:=(gSi.1 h2).1;rw[zx]at this|-;exact this
 obtain⟨j',hj,hor⟩:=X1 ho i _ (gEg hi);rw[h1]at hj;cases hj;exact OR2.moves xs a b hp hm i j _ o' (gEg hi) h2 hor
theorem Yz:∀{a b:List (Option Nat)},jw a=true->jw b=true->(∀j,some j∈a->some j∉b)->jw (a++b)=true
 |[],b,_,hb,_=>hb
 | none::a,b,ha,hb,hn=>by
  simp only[lCa,jw]at ha|-;exact Yz ha hb λj hj=>hn j (mCm _ hj)
 | some j::a,b,ha,hb,hn=>by
  simp only[lCa,jw,bAt,lAt]at ha|-;refine⟨λx hx=>?_,Yz ha.2 hb λj hj=>hn j (mCm _ hj)⟩;rcases z9.1 hx with hx | hx
  ·exact ha.1 x hx
  ·cases x with
   | none=>rfl
   | some k=>
    have:j≠k:=by rintro rfl;exact hn j (by simp) hx
    have hb:Nat.beq j k=false:=by rw[<-Bool.not_eq_true];intro q;exact this (Nat.eq_of_beq_eq_true q)
    simp only[hb];rfl
theorem qm4{k:Nat}{b:List (Option Nat)}(hb:jw b=true)(hn:some k∉b):jw (some k::b)=true:=by
 have:=Yz (a:=[some k]) (b:=b) rfl hb (λj hj=>by simp at hj;subst hj;exact hn);exact this
end
theorem VR2s.app{μ:List (Option Nat)}:∀{as bs cs ds:List AV},VR2s μ as bs->VR2s μ cs ds->VR2s μ (as++cs) (bs++ds)
 |[],[],_,_,_,k=>k
 | a::as,b::bs,_,_,j,k=>VR2s.cons j.hd.1 (VR2s.app j.hd.2 k)
 |[],_::_,_,_,j,_=>by have:=j.1;simp at this
 | _::_,[],_,_,j,_=>by have:=j.1;simp at this
structure wK(S:List (Option Nat))(h:List qA)(v t:AV):Prop where
 p:t.pl=true
 d:jw S=true
 o:JA S h S (lay t 0).2
 v:VR2 S v (lay t 0).1
structure jM(S:List (Option Nat))(h:List qA)(vs ts:List AV):Prop where
 p:AV.pls ts=true
 d:jw S=true
 o:JA S h S (qO ts 0).2
 v:VR2s S vs (qO ts 0).1
theorem qIV:∀{as bs:List AV},AV.pls (as++bs)=(AV.pls as&&AV.pls bs)
 |[],_=>by simp[AV.pls]
 | a::as,bs=>by simp[AV.pls,qIV (as:=as),Bool.and_assoc]
section
variable {S S':List (Option Nat)} {h h':List qA} {v t:AV} {vs ts vs' ts':List AV}
theorem jM.len(x:jM S h vs ts):S.length=AV.rowss ts:=by rw[Vi x.o,zx]
theorem jM.nil:jM [] h [] []:=⟨rfl,rfl,trivial,VR2s.nil⟩
theorem jM.app(x:jM S h vs ts)(y:jM S' h vs' ts')(hn:∀j,some j∈S->some j∉S'):jM (S++S') h (vs++vs') (ts++ts'):=by
 have l1:=x.len;have l2:=y.len;have m1:∀i,i<AV.rowss ts->(S++S')[0+i]?=S[0+i]?:=λi hi=>gAl (by omega);have m2:∀i,i<AV.rowss ts'->(S++S')[0+AV.rowss ts+i]?=S'[0+i]?:=λi hi=>by
  rw[gAr (by omega)];congr 1;omega
 refine⟨by rw[qIV,x.p,y.p];rfl,Yz x.d y.d hn, ?_, ?_⟩
 ·rw[Wf];exact qCA (qCB x.p m1 x.o) (qCB y.p m2 y.o)
 ·rw[Wf];exact VR2s.app (VR2.moves _ _ _ _ x.p m1 x.v) (VR2.moves _ _ _ _ y.p m2 y.v)
theorem wK.one(x:wK S h v t):jM S h [v] [t]:=by
 refine⟨by simp[AV.pls,x.p],x.d, ?_, ?_⟩
 ·simp only[qO,lAn];exact x.o
 ·simp only[qO];exact VR2s.cons x.v VR2s.nil
theorem jM.snoc(x:jM S h vs ts)(y:wK S' h v t)(hn:∀j,some j∈S->some j∉S'):jM (S++S') h (vs++[v]) (ts++[t]):=x.app y.one hn
theorem jM.scal(x:jM S h vs ts){a:AV}(ha:∀n,lay a n=(a,[]))(hp:a.pl=true)(ht:a.tree=true):jM S h (vs++[a]) (ts++[a]):=by
 have y:jM [] h [a] [a]:=⟨by simp[AV.pls,hp],rfl,by simp only[qO,ha];trivial,by simp only[qO,ha];exact VR2s.cons (.tree ht) VR2s.nil⟩;have:=x.app y (λj hj=>by simp);rwa[lAn]at this
theorem jM.agg(x:jM S h vs ts):wK S h (.agg vs) (.agg ts):=⟨by simp only[AV.pl];exact x.p,x.d,by simp only[lay];exact x.o,by simp only[lay];exact .agg x.v.1 x.v.2⟩
theorem jM.tup(x:jM S h vs ts):wK S h (.tup vs) (.tup ts):=⟨by simp only[AV.pl];exact x.p,x.d,by simp only[lay];exact x.o,by simp only[lay];exact .tup x.v.1 x.v.2⟩
theorem jM.row{k w:Nat}(x:jM S h vs ts)(hr:h[k]?=some (.row w vs true))(hn:some k∉S):wK (some k::S) h (.slice w k 0 ts.length false) (.lst w ts false):=by
 have m:∀i,i<AV.rowss ts->(some k::S)[0+1+i]?=S[0+i]?:=λi hi=>by
  rw[show 0+1+i=i+1 by omega,List.getElem?_cons_succ,nZa]
 refine⟨by simp only[AV.pl];exact x.p,qm4 x.d hn, ?_, ?_⟩
 ·simp only[lay];exact⟨.row hr (VR2.moves _ _ _ _ x.p m x.v),qCB x.p m x.o⟩
 ·simp only[lay];exact .slice (by simp)
theorem wK.nils{w:Nat}{c:Bool}:wK [none] h .nils (.lst w [] false):=by
 refine⟨rfl,rfl, ?_, ?_⟩
 ·simp only[lay,qO];exact⟨.ph,trivial⟩
 ·simp only[lay,qO,lNi];exact .ph rfl
theorem wK.fin{ws:List AV}(x:wK S h (zk ws) t):ZW (some ws) h t:=⟨S,x.d,x.o,x.v⟩
end
section
variable {S0 S S1:List (Option Nat)} {cs0 ts0 vs ts:List AV} {w si:Nat} {g mid:List qA} {X t:AV}
end
theorem qqG{h:List qA}{xs:List AV}(hf:∀n,qO xs n=(xs,[]))(hp:AV.pls xs=true)(ht:AV.trees xs=true):jM [] h xs xs:=
 ⟨hp,rfl,by rw[hf];trivial,by rw[hf];exact VR2s.trees ht⟩
section
variable {E:Ev} {ρ:Ren} {st:VSt} {sr:St}
end
section
variable {Γ:Nat->Option AFn} {g:Nat} {vs:List AV} {h:List qA}
end
section
variable {E:Ev} {l:List qG} {ks:List Fr1} {s m:qt} {h:List qA} {Q:qn->VSt->Prop} {k e:Nat} {vs:List AV} {v:AV}
end
section
variable {S:List (Option Nat)} {h h':List qA} {v t:AV} {vs ts:List AV}
end
end Go.Ab
