/- Texts AbO3 .. AbV: the abstract machine, its laws and contracts of functions: lemmas for the statement. No condition. -/
import Derived.Test.YtjjcemmbemobjaaGreatP3
set_option linter.unusedSimpArgs false
set_option linter.unusedVariables false
namespace Go.Ab
open Go
section
variable {α:Type} {enc:α->AV} {w:Nat} {sh:Option Nat} {Γ:Nat->Option AFn} {g gc:Nat}
theorem jb(h:∀x,(enc x).pl=true):∀xs:List α,AV.pls (xs.map enc)=true
 |[]=>rfl
 | x::xs=>by simp only[lMc,AV.pls,h x,jb h xs,Bool.and_self]
theorem wP(h:∀x,(enc x).cn=true):∀xs:List α,AV.cns (xs.map enc)=true
 |[]=>rfl
 | x::xs=>by simp only[lMc,AV.cns,h x,wP h xs,Bool.and_self]
theorem qnB{t:AV}{n:Nat}(hp:t.pl=true):(lay t n).1.cells.length=t.cells.length:=by
 cases t<;>first
  | rfl
  | (cases hp;done)
  | (simp only[lay,AV.cells];exact Jk _ _)
theorem zAC{t:AV}{n:Nat}(hp:t.pl=true):(∃cs,(lay t n).1=.agg cs)↔∃cs,t=.agg cs:=by
 cases t<;>simp[lay]<;>first
  | (cases hp;done)
  | skip
theorem zAE{t:AV}{n k:Nat}(hp:t.pl=true)(ha:∃cs,t=.agg cs)(hk:t.cells.length=k):(lay t n).1.part 0 (some k)=some (lay t n).1:=by
 obtain⟨cs,rfl⟩:=ha;simp only[AV.cells]at hk;simp only[lay,AV.part,AV.cells,Jk,hk,nZa,nLr,if_true,List.drop_zero];rw[tOl (by rw[Jk];omega)]
theorem qz8{z:AV}{A:List AV}{i n:Nat}(hl:A.length=i)(hi:i<n):(A++List.replicate (n-i) z)[i]?=some z:=by
 rw[gAr (by omega),hl,nSs,List.getElem?_replicate,iP (by omega)]
theorem zAK{z v:AV}{A:List AV}{i n:Nat}(hl:A.length=i)(hi:i<n):(A++List.replicate (n-i) z).set i v=A++(v::List.replicate (n-(i+1)) z):=by
 rw[lSr _ _ (by omega),hl,nSs,show n-i=(n-(i+1))+1 by omega,List.replicate_succ,lSz]
theorem qxO{z:AV}(hs:Sh enc w sh)(hpl:∀x,(enc x).pl=true)(hz:z.tree=true)(hzl:z.cells.length=w)(hza:(∃cs,z=.agg cs)↔sh≠none)(hg:Γ g=some (.fn (toS w sh z gc)))(xs:List α)(hc:∀x∈xs,Fresh Γ gc [enc x] (enc x))(hl:xs.length<=1048576):
  Fresh Γ g [.lst w (xs.map enc) false] (.lst w (xs.map enc) false):=by
 have ht:AV.trees (xs.map enc)=true:=qb hs.tree xs;refine Fresh.intro [] [] hg (by simp[toS,qG.ok,AOp.ok,Zc,Ao.ok,AV.tree,hz,qA.o,qA.d,qA.ck,AOp.isCall]) rfl (by simp[AV.trees,AV.tree,ht]) (jb hpl xs) ?_;simp only[toS,qN,go_sem];refine QI (by simp only[lMp,LIM];omega) ?_;simp only[go_sem];refine Sem.loop (λi:Nat=>i<=xs.length)
  (λi=>(⟨[(0,.lst w (xs.map enc) false),(3,.slice w 0 0 xs.length false),(4,.int .i64 (i:Nat))],[],.row w ((qT ((xs.take i).map enc) 1).1++List.replicate (xs.length-i) z) true::(qT ((xs.take i).map enc) 1).2⟩:VSt)) (λi=>xs.length-i) 0
  (by simp[Fr1.ok,qG.ok,AOp.ok,Zc,Ao.ok,AV.tree,qA.o,qA.d,qA.ck,AOp.isCall]) (nZl _) ?_ ?_
 ·simp only[List.take_zero,List.map_nil,qT,lNa,Nat.sub_zero,lMp,lNi];exact Can.sub (by simp[go_sem]) trivial
 ·intro i hi;simp only[go_sem];apply qS<;>intro hc2<;>simp only[hc2,go_sem]
  ·have hlt:i<xs.length:=by have:=odT hc2;(try simp only[lMp]at this);omega
   have hA:(qT ((xs.take i).map enc) 1).1.length=i:=by rw[Jk];simp;omega
   simp only[gMp,gEg hlt,oMs,hs.part,go_sem];refine Ju (hc xs[i] (gMm hlt)) ?_;simp only[go_sem,qY hlt,nZa,lCa];refine jF (by rw[qnB (hpl _)];exact hs.len _) rfl (qz8 hA hlt) (Zu hzl (by rw[qnB (hpl _)];exact hs.len _) (by rw[hza,zAC (hpl _),hs.agg]) hs.pos) ?_;rw[zAK hA hlt];simp only[go_sem,jt (show i<4611686018427387904 by omega),lSz];refine qa (i+1) (by omega) (by omega) ?_;have e:(xs.take (i+1)).map enc=(xs.take i).map enc++[enc xs[i]]:=by
    rw[lTs hlt,lMa];rfl
   simp only[e,qeO,qT,lAn,lAa,lCo,wk,lCa,lNa,Nat.add_comm 1];exact Can.sub (by simp[go_sem]) trivial
  ·have hge:i=xs.length:=by have:=odF hc2;(try simp only[lMp]at this);omega
   subst hge;simp only[lTl,nSs,List.replicate_zero,lAn];exact Xe (pre:=[]) (post:=[]) (jb hpl xs) (by simp[ja,lay]) (by simp[lay])
theorem lI(ys:List Int):∀n,qT (ys.map qP) n=(ys.map qP,[]):=by
 induction ys with
 | nil=>intro n;rfl
 | cons y ys ih=>intro n;simp only[lMc,qT,qP,lay,lNi,nAz,lNa,ih]
theorem zAL(hg:Γ g=some (.fn toS0))(xs:List Int)(hl:xs.length<=1048576):Fresh Γ g [.lst 1 (xs.map qP) false] (.lst 1 (xs.map qP) false):=by
 have ht:AV.trees (xs.map qP)=true:=qb shI.tree xs;refine Fresh.intro [] [] hg (by kernel_rfl) rfl (by simp[AV.trees,AV.tree,ht]) (jb (λ_=>rfl) xs) ?_;simp only[toS0,qN,go_sem];refine QI (by simp only[lMp,LIM];omega) ?_;simp only[go_sem];refine Sem.loop (λi:Nat=>i<=xs.length)
  (λi=>(⟨[(0,.lst 1 (xs.map qP) false),(3,.slice 1 0 0 xs.length false),(4,.int .i64 (i:Nat))],[],[.row 1 ((xs.take i).map qP++List.replicate (xs.length-i) (.int .i64 0)) true]⟩:VSt)) (λi=>xs.length-i) 0
  (by kernel_rfl) (nZl _) ?_ ?_
 ·simp only[List.take_zero,List.map_nil,lNa,Nat.sub_zero,lMp,lNi];exact Can.sub (by simp[go_sem]) trivial
 ·intro i hi;simp only[go_sem];apply qS<;>intro hc2<;>simp only[hc2,go_sem]
  ·have hlt:i<xs.length:=by have:=odT hc2;(try simp only[lMp]at this);omega
   simp only[gMp,gEg hlt,oMs,shI.part,go_sem,qY hlt,nZa];refine jF (shI.len _) rfl (qdC hlt) (Zu (k:=1) rfl (shI.len _) (by simp[qP]) (by decide)) ?_;rw[qhE hlt];simp only[go_sem,jt (show i<4611686018427387904 by omega)];exact qa (i+1) (by omega) (by omega) (Can.sub (by simp[go_sem]) trivial)
  ·have hge:i=xs.length:=by have:=odF hc2;(try simp only[lMp]at this);omega
   subst hge;simp only[lTl,nSs,List.replicate_zero,lAn];exact Xe (pre:=[]) (post:=[]) (jb (λ_=>rfl) xs) (by simp[ja,lay]) (by simp[lay,lI])
def mkL(f:α->Int->α)(c:α->Nat):List α->Int->List α
 |[],_=>[]
 | x::xs,k=>f x k::mkL f c xs (k+c x)
theorem qxF(f:α->Int->α)(c:α->Nat):∀(xs:List α)(k:Int),(mkL f c xs k).length=xs.length
 |[],_=>rfl
 | x::xs,k=>by simp only[mkL,lCo,qxF f c xs]
theorem qxX(f:α->Int->α)(c:α->Nat):∀(xs ys:List α)(k:Int),mkL f c (xs++ys) k=mkL f c xs k++mkL f c ys (k+qx c xs)
 |[],ys,k=>by simp[mkL,qx]
 | x::xs,ys,k=>by
  simp only[lCa,mkL,qxX f c xs ys,qx];congr 3;omega
theorem qxL(f:α->Int->α)(c:α->Nat){xs:List α}{i:Nat}(h:i<xs.length)(k:Int):mkL f c (xs.take (i+1)) k=mkL f c (xs.take i) k++[f xs[i] (k+qx c (xs.take i))]:=by
 rw[lTs h,qxX];rfl
theorem zAG(f:α->Int->α)(c:α->Nat){xs:List α}{i:Nat}(h:i<xs.length)(k:Int):(mkL f c xs k)[i]?=some (f xs[i] (k+qx c (xs.take i))):=by
 have e:xs=xs.take i++xs[i]::xs.drop (i+1):=by rw[<-lDc h,List.take_append_drop]
 have:mkL f c xs k=mkL f c (xs.take i) k++mkL f c (xs[i]::xs.drop (i+1)) (k+qx c (xs.take i)):=by
  rw[<-qxX,<-e]
 rw[this,gAr (by rw[qxF];simp;omega),qxF];simp[mkL,show min i xs.length=i by omega]
theorem qxN(c:α->Nat){xs:List α}{i:Nat}(h:i<xs.length):qx c (xs.take (i+1))=qx c (xs.take i)+c xs[i]:=by
 have:∀(xs ys:List α),qx c (xs++ys)=qx c xs+qx c ys:=by
  intro xs ys;induction xs with
  | nil=>simp[qx]
  | cons x xs ih=>simp only[lCa,qx,ih];omega
 rw[lTs h,this];simp[qx]
theorem qxM(c:α->Nat)(xs:List α)(i:Nat):qx c (xs.take i)<=qx c xs:=by
 have:∀(xs ys:List α),qx c (xs++ys)=qx c xs+qx c ys:=by
  intro xs ys;induction xs with
  | nil=>simp[qx]
  | cons x xs ih=>simp only[lCa,qx,ih];omega
 have h:=this (xs.take i) (xs.drop i);rw[List.take_append_drop]at h;omega
def mkI(_:Int)(k:Int):Int:=k
def ctI(_:Int):Nat:=1
theorem qxP:∀xs:List Int,qx ctI xs=xs.length
 |[]=>rfl
 | x::xs=>by simp only[qx,qxP xs,ctI,lCo];omega
def qx4:qJ:=⟨2,19,[.t 4],
 .seq (.reg true [⟨0,some 4,none,.mov (.c (.int .i64 0)),[]⟩]) (.seq (.seq (.reg true [⟨0,some 5,none,.mov (.c (.int .i64 0)),[]⟩]) (.blk 0 (.loop (.seq (.seq (.reg true [⟨0,some 6,none,.mov (.t 5),[]⟩,
⟨1,some 7,none,.mov (.t 0),[]⟩,
⟨2,some 8,none,.len (.t 7),[]⟩,
⟨3,some 9,none,.bin .lss (.t 6) (.t 8),[]⟩]) (.cond (.t 9) (.skip) (.exit 0))) (.seq (.blk 1 (.seq (.reg true [⟨0,some 12,none,.mov (.t 0),[]⟩,
⟨1,some 13,none,.mov (.t 5),[]⟩,
⟨2,some 14,none,.mov (.t 1),[]⟩,
⟨3,some 15,none,.iaddr 1 (.t 12) (.t 13),[]⟩,
⟨4,none,none,.store 1 (.t 15) (.t 14),[]⟩]) (.reg true [⟨0,some 16,none,.mov (.t 1),[]⟩,
⟨1,some 17,none,.bin .add (.t 16) (.c (.int .i64 1)),[]⟩,
⟨2,some 1,none,.mov (.t 17),[]⟩]))) (.reg true [⟨0,some 10,none,.mov (.t 5),[]⟩,
⟨1,some 11,none,.bin .add (.t 10) (.c (.int .i64 1)),[]⟩,
⟨2,some 5,none,.mov (.t 11),[]⟩])))))) (.seq (.reg true [⟨0,some 18,none,.mov (.t 1),[]⟩,
⟨1,some 4,none,.mov (.t 18),[]⟩]) (.ret)))⟩
def qx2:qJ:=⟨2,21,[.t 4],
 .seq (.reg true [⟨0,some 4,none,.mov (.c (.int .i64 0)),[]⟩]) (.seq (.seq (.reg true [⟨0,some 5,none,.mov (.c (.int .i64 0)),[]⟩]) (.blk 0 (.loop (.seq (.seq (.reg true [⟨0,some 6,none,.mov (.t 5),[]⟩,
⟨1,some 7,none,.mov (.t 0),[]⟩,
⟨2,some 8,none,.len (.t 7),[]⟩,
⟨3,some 9,none,.bin .lss (.t 6) (.t 8),[]⟩]) (.cond (.t 9) (.skip) (.exit 0))) (.seq (.blk 1 (.seq (.seq (.reg true [⟨0,some 12,none,.mov (.t 0),[]⟩,
⟨1,some 13,none,.mov (.t 5),[]⟩,
⟨2,some 14,none,.iaddr 1 (.t 12) (.t 13),[]⟩,
⟨3,some 15,none,.load none (.t 14),[]⟩,
⟨4,some 16,none,.mov (.t 1),[]⟩,
⟨5,some 17,none,.bin .neq (.t 15) (.t 16),[]⟩]) (.cond (.t 17) (.seq (.reg true [⟨0,some 4,none,.mov (.c (.int .i64 (-1))),[]⟩]) (.ret)) (.skip))) (.reg true [⟨0,some 18,none,.mov (.t 1),[]⟩,
⟨1,some 19,none,.bin .add (.t 18) (.c (.int .i64 1)),[]⟩,
⟨2,some 1,none,.mov (.t 19),[]⟩]))) (.reg true [⟨0,some 10,none,.mov (.t 5),[]⟩,
⟨1,some 11,none,.bin .add (.t 10) (.c (.int .i64 1)),[]⟩,
⟨2,some 5,none,.mov (.t 11),[]⟩])))))) (.seq (.reg true [⟨0,some 20,none,.mov (.t 1),[]⟩,
⟨1,some 4,none,.mov (.t 20),[]⟩]) (.ret)))⟩
theorem W2{A B:List AV}{e:AV}{i:Nat}(h:A.length=i):(A++e::B)[i]?=some e:=by
 rw[gAr (by omega),h,nSs];rfl
theorem qxC{A B:List AV}{e v:AV}{i:Nat}(h:A.length=i):(A++e::B).set i v=A++v::B:=by
 rw[lSr _ _ (by omega),h,nSs,lSz]
theorem qpZ(ys:List Int):AV.rowss (ys.map qP)=0:=by
 have:=wk (ys.map qP) 0;rw[lI]at this;exact this.symm
theorem qeJ{xs:List AV}{c:Bool}{n:Nat}:(lay (.lst w xs c) n).1=.slice w n 0 xs.length false:=nr rfl
theorem zAD{A B:List AV}{t:AV}{c:Bool}:(lay (.lst w (A++t::B) c) 0).2=.row w ((qT A 1).1++(lay t (1+AV.rowss A)).1::(qT B (1+AV.rowss A+t.rows)).1) true::((qT A 1).2++((lay t (1+AV.rowss A)).2++(qT B (1+AV.rowss A+t.rows)).2)):=by
 simp only[lay,qeO,qT,jW,nZa]
theorem qxG{A B:List α}{z:α}{c:Bool}:(lay (.lst w ((A++z::B).map enc) c) 0).2=.row w ((qT (A.map enc) 1).1++(lay (enc z) (1+AV.rowss (A.map enc))).1::(qT (B.map enc) (1+AV.rowss (A.map enc)+(enc z).rows)).1) true::((qT (A.map enc) 1).2++((lay (enc z) (1+AV.rowss (A.map enc))).2++(qT (B.map enc) (1+AV.rowss (A.map enc)+(enc z).rows)).2)):=by
 rw[lMa,lMc];exact zAD
theorem W1(f:α->Int->α)(c:α->Nat)(h:∀x k,(enc (f x k)).rows=(enc x).rows):∀(xs:List α)(k:Int),AV.rowss ((mkL f c xs k).map enc)=AV.rowss (xs.map enc)
 |[],_=>rfl
 | x::xs,k=>by simp only[mkL,lMc,AV.rowss,h,W1 f c h xs]
theorem qxD{c:α->Nat}(h:∀x,c x<=16):∀xs:List α,qx c xs<=16*xs.length
 |[]=>nLr _
 | x::xs=>by have:=qxD h xs;have:=h x;simp only[qx,lCo];omega
theorem qxE{c z:α->Nat}(h:∀x,c x<=16+16*z x):∀xs:List α,qx c xs<=16*(xs.length+qx z xs)
 |[]=>nLr _
 | x::xs=>by have:=qxE h xs;have:=h x;simp only[qx,lCo];omega
theorem zAF{F:qJ}(hg:Γ g=some (.fn F))(hF:F=qx4)(xs:List Int)(k:Int)(h0:0<=k)(hk:k+(qx ctI xs:Nat)<=4611686018427387904)(hz:xs.length<=1073741824):
  Mark Γ g (.lst 1 (xs.map qP) false) (.lst 1 ((mkL mkI ctI xs k).map qP) false) k (k+(qx ctI xs:Nat)):=by
 subst hF;rw[qxP]at hk|-;refine Mark.intro hg (by kernel_rfl) rfl (jb (λ_=>rfl) xs) (jb (λ_=>rfl) _) (by simp only[AV.rows,W1 mkI ctI (enc:=qP) (λ_ _=>rfl)]) ?_;simp only[qx4,qN,lay,lI,go_sem];refine Sem.loop (λi:Nat=>i<=xs.length) (λi=>(⟨[(0,.slice 1 0 0 xs.length false),(1,.int .i64 (k+(i:Nat))),(5,.int .i64 (i:Nat))],[],[.row 1 ((mkL mkI ctI (xs.take i) k).map qP++(xs.drop i).map qP) true]⟩:VSt)) (λi=>xs.length-i) 0
  (by kernel_rfl) (nZl _) (by simp only[List.take_zero,mkL,List.map_nil,lNa,List.drop_zero,Int.ofNat_zero,Int.natCast_zero,Int.add_zero];exact Can.sub (by simp[go_sem]) (by simp[go_sem])) ?_
 intro i hi;simp only[go_sem];apply qS<;>intro hc<;>simp only[hc,go_sem]
 ·have hlt:i<xs.length:=by have:=odT hc;omega
  have hA:((mkL mkI ctI (xs.take i) k).map qP).length=i:=by rw[lMp,qxF];simp;omega
  rw[lDc hlt,lMc];simp only[qY hlt,nZa,go_sem];refine jF (v:=.int .i64 (k+(i:Nat))) (e':=.int .i64 (k+(i:Nat))) (by rfl) (by rfl) (W2 hA) (by rfl) ?_;simp only[lSz,qxC hA,go_sem];rw[jO (n:=k+(i:Nat)+1) (by omega) (by omega)];simp only[jt (show i<4611686018427387904 by omega),go_sem];refine qa (i+1) (by omega) (by omega) ?_;have e:mkL mkI ctI (xs.take (i+1)) k=mkL mkI ctI (xs.take i) k++[k+(i:Nat)]:=by
   rw[qxL _ _ hlt,qxP,lLt,show min i xs.length=i by omega];rfl
  rw[e,lMa,lAa];simp only[Int.natCast_add,Int.cast_ofNat_Int,<-Int.add_assoc];exact Can.sub (by simp[go_sem]) (by simp[go_sem])
 ·have hge:i=xs.length:=by have:=odF hc;omega
  subst hge;refine qxJ rfl ?_;rw[lTl,List.drop_length,List.map_nil,lAn]
theorem qz9{F:qJ}(hg:Γ g=some (.fn F))(hF:F=qx2)(xs:List Int)(k:Int)(h0:0<=k)(hk:k+(qx ctI xs:Nat)<=4611686018427387904)(hz:xs.length<=1073741824):
  Pure Γ g [.lst 1 ((mkL mkI ctI xs k).map qP) false,.int .i64 k] (.int .i64 (k+(qx ctI xs:Nat))):=by
 subst hF;rw[qxP]at hk|-;refine Pure.intro [] [] hg (by kernel_rfl) rfl (by simp[AV.trees,AV.tree,qb shI.tree]) rfl ?_;simp only[qx2,qN,go_sem];refine Sem.loop (λi:Nat=>i<=xs.length) (λi=>(⟨[(0,.lst 1 ((mkL mkI ctI xs k).map qP) false),(1,.int .i64 (k+(i:Nat))),(5,.int .i64 (i:Nat))],[],[]⟩:VSt)) (λi=>xs.length-i) 0
  (by kernel_rfl) (nZl _) (by simp only[Int.ofNat_zero,Int.natCast_zero,Int.add_zero];exact Can.sub (by simp[go_sem]) (by simp[go_sem])) ?_
 intro i hi;simp only[go_sem,qxF];apply qS<;>intro hc<;>simp only[hc,go_sem]
 ·have hlt:i<xs.length:=by have:=odT hc;omega
  have hget:=zAG mkI ctI hlt k;rw[qxP,lLt,show min i xs.length=i by omega]at hget;simp only[gMp,hget,oMs,mkI,qP,go_sem];rw[jO (n:=k+(i:Nat)+1) (by omega) (by omega)];simp only[jt (show i<4611686018427387904 by omega),go_sem];refine qa (i+1) (by omega) (by omega) ?_;simp only[Int.natCast_add,Int.cast_ofNat_Int,<-Int.add_assoc];exact Can.sub (by simp[go_sem]) (by simp[go_sem])
 ·have hge:i=xs.length:=by have:=odF hc;omega
  subst hge;exact qK rfl rfl
section
variable {E:Ev} {ks:List Fr1} {s m:qq} {h:List qB} {Q:qf->VSt->Prop} {l:List qA}
theorem qxH{k e n:Nat}{pre post:List qB}{t t':AV}{a b:Int}{v:AV}(hm:Mark E.Γ k t t' a b)(hn:pre.length=n)(hh:h=pre++((lay t n).2++post))(hv:v=(lay t n).1)
  (hr:R E (.ops l::ks) ⟨(e,.int .i64 b)::s,m,pre++((lay t' n).2++post)⟩ Q):we E (some (k,[v,.int .i64 a])) [] (some e) l ks ⟨s,m,h⟩ Q:=by
 subst hn;exact qz7 hm hh hv hr
end
end
section
variable {Γ:Nat->Option AFn} {g:Nat} {w:Nat} {z:AV}
def Ym(w:Nat):qJ:=⟨1,8,[.t 2],.seq (.reg true [⟨0,some 2,none,.mov (.c (.nils)),[]⟩]) (.seq (.seq (.reg true [⟨0,some 3,none,.mov (.t 0),[]⟩,
⟨1,some 4,none,.isnil 1 false (.t 3),[]⟩]) (.cond (.t 4) (.seq (.reg true [⟨0,some 2,none,.mov (.c (.nils)),[]⟩]) (.ret)) (.skip))) (.seq (.reg true [⟨0,some 5,none,.mov (.c (.lst w [] true)),[]⟩,
⟨1,some 6,none,.mov (.t 0),[]⟩,
⟨2,some 7,none,.app w (.t 5) (.t 6),[]⟩,
⟨3,some 2,none,.mov (.t 7),[]⟩]) (.ret)))⟩
theorem qcO(hg:Γ g=some (.fn (Ym w)))(h:AH):Ex Γ 1 (.call g [.nils] h) (.res (.ok .nils) h):=by
 refine .fn (st:=⟨((((params 0 [.nils]).set 2 .nils).set 3 .nils).set 4 (.bool true)).set 2 .nils,Env.empty,h⟩) (e:=.ret) hg rfl ?_ (.inr rfl) rfl;refine .seqN (.reg (.step rfl ⟨.nils,rfl,rfl⟩ trivial .nil) (.inl rfl)) (.seqX (.seqN (.reg (.step rfl ⟨.nils,rfl,rfl⟩ trivial (.step rfl ⟨.bool true,rfl,rfl⟩ trivial .nil)) (.inl rfl)) ?_) (by simp));exact .cond (t:=true) rfl (.seqN (.reg (.step rfl ⟨.nils,rfl,rfl⟩ trivial .nil) (.inl rfl)) .ret)
theorem qkU(hg:Γ g=some (.fn (Ym w)))(h:AH)(id:Nat):Ex Γ 1 (.call g [.slice w id 0 0 false] h) (.res (.ok (.lst w [] true)) h):=by
 refine .fn (st:=⟨(((((((params 0 [.slice w id 0 0 false]).set 2 .nils).set 3 (.slice w id 0 0 false)).set 4 (.bool false)).set 5 (.lst w [] true)).set 6 (.slice w id 0 0 false)).set 7 (.lst w [] true)).set 2 (.lst w [] true),Env.empty,h⟩) (e:=.ret) hg rfl ?_ (.inr rfl) rfl;refine .seqN (.reg (.step rfl ⟨.nils,rfl,rfl⟩ trivial .nil) (.inl rfl)) (.seqN (.seqN (.reg (.step rfl ⟨.slice w id 0 0 false,rfl,rfl⟩ trivial (.step rfl ⟨.bool false,rfl,rfl⟩ trivial .nil)) (.inl rfl)) (.cond (t:=false) rfl .cskip)) (.seqN (.reg ?_ (.inl rfl)) .ret));refine .step rfl ⟨.lst w [] true,rfl,rfl⟩ trivial (.step rfl ⟨.slice w id 0 0 false,rfl,rfl⟩ trivial (.step (st':=⟨((((((params 0 [.slice w id 0 0 false]).set 2 .nils).set 3 (.slice w id 0 0 false)).set 4 (.bool false)).set 5 (.lst w [] true)).set 6 (.slice w id 0 0 false)).set 7 (.lst w [] true),Env.empty,h⟩) rfl ?_ trivial (.step rfl ⟨.lst w [] true,rfl,rfl⟩ trivial .nil)));exact⟨.lst w [] true,.slice w id 0 0 false,rfl,rfl,[],rfl,rfl,rfl,rfl⟩
theorem qpN(hr:AH):zG ρ0 [] hr:=⟨(λi o h=>by simp at h),(λi j a o o' h=>by cases h),(λ_ _=>rfl),(λi a h=>by cases h)⟩
theorem Yn(hg:Γ g=some (.fn (Ym w))){xs:List AV}(hf:∀n,qT xs n=(xs,[]))(hp:AV.pls xs=true)(ht:AV.trees xs=true)(hl:xs.length<=4194304):
  Fresh Γ g [.lst w xs false] (.lst w xs false):=by
 cases xs with
 | cons x xs=>
  refine Fresh.intro [] [] hg rfl rfl (by simp only[AV.trees,AV.tree]at ht|-;simp[ht]) hp ?_;simp only[Ym,qN,go_sem];refine Qu Els.lst (by simp only[lCo]at hl|-;omega) ?_;simp only[go_sem];exact Xe (pre:=[]) (post:=[]) hp (by simp[ja,lay]) (by simp[lay,hf])
 | nil=>
  refine⟨rfl,rfl,λhr ar har=>?_⟩;have hn:∀hr',zG (ρ0.ext 0 none) [.row w [] true] hr':=λhr'=>(qpN hr').nil;simp only[RelVs,RelV]at har;obtain⟨r,rs,rfl,hr0,rfl⟩:=har;have hfm:∀hr':AH,(∀a o,hr a=some o->hr' a=some o)->(∀a,hr'.fr a->hr.fr a)->Fm 0 ρ0 hr (ρ0.ext 0 none) hr':=λhr' h1 h2=>⟨λa o q _=>h1 a o q,(λi a q=>by
   by_cases e:i=0
   ·subst e;rw[Ren.ext_same]at q;cases q
   ·rw[Ren.ext_ne _ _ e]at q;cases q),h2,λi hi=>by omega⟩
  rcases hr0 with⟨ys,c,rfl,_,hys⟩ | ⟨_,rfl⟩
  ·subst hys;obtain⟨id,hid⟩:=hr.fresh;have hx1:Ex Γ 1 (.call g [.nils] hr) (.res (.ok (.lst w [] true)) (hr.kill [])):=.frzR [] (λi hi=>by simp at hi) .nils (qcO hg hr);refine⟨1,_,_,ρ0.ext 0 none,.nilc id hid (λi o q=>by rw[AH.kill_at];simpa using q) (λi o q=>q) rfl hx1 (qkU hg _ id),hn _,by simp[lay,RelV,Ren.ext_same],hfm _ (λa o q=>q) λa q=>AH.fr_tomb (AH.fr_tomb' q)⟩
  ·exact⟨1,_,_,ρ0.ext 0 none,qcO hg hr,hn _,by simp[lay,RelV,Ren.ext_same],hfm _ (λa o q=>q) λa q=>q⟩
theorem qfF{μ:List (Option Nat)}{h:List qB}:∀{r1 r2:List (Option Nat)}{h1 h2:List qB},J3 μ h r1 h1->J3 μ h r2 h2->J3 μ h (r1++r2) (h1++h2)
 |[],_,[],_,_,k=>k
 | _::_,_,_::_,_,j,k=>⟨j.1,qfF j.2 k⟩
 |[],_,_::_,_,j,_=>j.elim
 | _::_,_,[],_,j,_=>j.elim
theorem qfG{μ:List (Option Nat)}{h:List qB}{xs:List AV}{a b:Nat}(hp:AV.pls xs=true)(hm:∀i,i<AV.rowss xs->μ[b+i]?=some (some (a+i)))(hh:∀i o,(qT xs a).2[i]?=some o->h[a+i]?=some o):
  J3 μ h ((List.range' a (AV.rowss xs)).map some) (qT xs b).2:=by
 refine qB4 (by simp[wk]) λi j o h1 h2=>?_;have hi:i<AV.rowss xs:=by have:=(gSi.1 h2).1;rw[wk]at this;exact this
 rw[gMp,List.getElem?_range' (by omega)]at h1;simp only[Nat.one_mul,oMs,oSi]at h1;subst h1;exact Xn xs a b hp hm hh i o h2
def rmu(b n:Nat):List (Option Nat):=(List.range' 0 b).map some++some (b+n+2)::(List.range' (b+1) n).map some
theorem qpU{b n i:Nat}(hi:i<b):(rmu b n)[i]?=some (some i):=by
 unfold rmu;rw[gAl (by simpa using hi),gMp,List.getElem?_range' (by omega)];simp
theorem qpS{b n:Nat}:(rmu b n)[b]?=some (some (b+n+2)):=by
 unfold rmu;rw[gAr (by simp)];simp
theorem qgT{b n i:Nat}(hi:i<n):(rmu b n)[b+1+i]?=some (some (b+1+i)):=by
 unfold rmu;rw[gAr (by simp;omega)];have e:b+1+i-((List.range' 0 b).map some).length=i+1:=by simp;omega
 rw[e,List.getElem?_cons_succ,gMp,List.getElem?_range' (by omega)];simp
theorem qpT{b n:Nat}:Jx (rmu b n)=true:=by
 have e:rmu b n=(List.range' 0 b++(b+n+2)::List.range' (b+1) n).map some:=by simp[rmu]
 rw[e];refine qA6 ?_;rw[List.nodup_append];refine⟨List.nodup_range', ?_, ?_⟩
 ·rw[List.nodup_cons];refine⟨?_,List.nodup_range'⟩;simp only[List.mem_range'_1];omega
 ·intro x hx y hy;simp only[List.mem_range'_1,mCo]at hx hy;rcases hy with rfl | hy<;>omega
theorem Can.round{ps ts:List AV}{x:qB}{s s' m m':qq}{b n:Nat}(hps:AV.pls ps=true)(hts:AV.pls ts=true)(hb:AV.rowss ps=b)(hn:AV.rowss ts=n)(h1:ZS (rmu b n) s s')(h2:ZS (rmu b n) m m'):
  Can 0 ⟨s,m,(qT ps 0).2++.dead::((qT ts (b+1)).2++[x,.row w (qT ts (b+1)).1 true])⟩ ⟨s',m',(qT ps 0).2++.row w (qT ts (b+1)).1 true::(qT ts (b+1)).2⟩:=by
 subst hb hn;have hlp:=wk ps 0;have hlt:=wk ts (AV.rowss ps+1);refine Can.renum (rmu (AV.rowss ps) (AV.rowss ts)) qpT (qfF (qfG hps (λi hi=>by rw[nZa];exact qpU hi) λi o hi=>?_) ⟨?_,qfG hts (λi hi=>qgT hi) λi o hi=>?_⟩) h1 h2
 ·rw[nZa,gAl (gSi.1 hi).1];exact hi
 ·refine .row (el:=(qT ts (AV.rowss ps+1)).1) (rw':=true) ?_ ⟨rfl,λp hp=>?_⟩
  ·rw[gAr (by omega),show AV.rowss ps+AV.rowss ts+2-(qT ps 0).2.length=AV.rowss ts+1+1 by omega,List.getElem?_cons_succ,gAr (by omega),hlt,
    show AV.rowss ts+1-AV.rowss ts=1 by omega]
   rfl
  ·exact(Xo ts (AV.rowss ps+1) (AV.rowss ps+1) hts (λi hi=>qgT hi)).2 p hp
 ·have hi':=(gSi.1 hi).1;rw[gAr (by omega),show AV.rowss ps+1+i-(qT ps 0).2.length=i+1 by omega,List.getElem?_cons_succ,gAl hi'];exact hi
theorem qm4{A:List qB}{o:qB}:(A++[o])[A.length]?=some o:=List.getElem?_concat_length
theorem Can.push{ps A:List AV}{t:AV}{s s' m m':qq}{h h':List qB}{b n:Nat}(hps:AV.pls ps=true)(hA:AV.pls A=true)(ht:t.pl=true)(hb:AV.rowss ps=b)(hn:AV.rowss A+t.rows=n)
  (hh:h=(qT ps 0).2++.dead::((qT A (b+1)).2++((lay t (b+1+AV.rowss A)).2++[.row w [(lay t (b+1+AV.rowss A)).1] true,.row w ((qT A (b+1)).1++[(lay t (b+1+AV.rowss A)).1]) true])))
  (hh':h'=(qT ps 0).2++.row w (qT (A++[t]) (b+1)).1 true::(qT (A++[t]) (b+1)).2) (h1:ZS (rmu b n) s s') (h2:ZS (rmu b n) m m'):Can 0 ⟨s,m,h⟩ ⟨s',m',h'⟩:=by
 have hp:AV.pls (A++[t])=true:=by
  have:∀B:List AV,AV.pls B=true->AV.pls (B++[t])=true:=by
   intro B
   induction B with
   | nil=>intro _;simp only[lNa,AV.pls,ht,Bool.and_true]
   | cons y B ih=>
    intro hB;simp only[AV.pls,bAt]at hB;simp only[lCa,AV.pls,hB.1,ih hB.2,Bool.and_self]
  exact this A hA
 have r:=Can.round (w:=w) (x:=.row w [(lay t (b+1+AV.rowss A)).1] true) (s:=s) (s':=s') (m:=m) (m':=m') (b:=b) (n:=n) hps hp hb (by rw[qgW];simp only[AV.rowss,nAz];exact hn) h1 h2;subst hh hh';simp only[qeO,qT,lAn,lAa]at r|-;exact r
end
section
variable {Γ:Nat->Option AFn} {g:Nat} {vs:List AV} {h:List qB}
def WU(res:List j4)(K:AV->List qB->Prop)(e:qf)(st:VSt):Prop:=(e=.nrm\/e=.ret)/\match jS (wY st) res with
 | some vs=>K (ja vs) st.h
 | none=>False
def XG(vs:Option (List AV))(h:List qB)(K:AV->List qB->Prop):Prop:=match vs with
 | some vs=>K (ja vs) h
 | none=>False
@[go_sem] theorem qsQ{res:List j4}{s m:qq}{K:AV->List qB->Prop}:WU res K .ret ⟨s,m,h⟩=XG (jS (wY ⟨s,m,h⟩) res) h K:=by
 simp[WU,XG];all_goals rfl
@[go_sem] theorem qsP{res:List j4}{s m:qq}{K:AV->List qB->Prop}:WU res K .nrm ⟨s,m,h⟩=XG (jS (wY ⟨s,m,h⟩) res) h K:=by
 simp[WU,XG];all_goals rfl
@[go_sem] theorem qrI{K:AV->List qB->Prop}:XG (some vs) h K=K (ja vs) h:=rfl
@[go_sem] theorem qwD{v:AV}:ja [v]=v:=rfl
@[go_sem] theorem qwE{v w:AV}{r:List AV}:ja (v::w::r)=.tup (v::w::r):=rfl
theorem SCall.run{F:qJ}{K:AV->List qB->Prop}(fz bp:List Nat)(hg:Γ g=some (.fn F))(hok:F.body.ok=true)(hn:vs.length=F.np)
  (hR:R ⟨Γ,h.length,fz,bp⟩ [.code F.body] ⟨qN 0 vs,[],h⟩ (WU F.res K)):SCall Γ g vs h K:=λρ hr ar hH hv=>by
 have hS:zX ρ ⟨qN 0 vs,[],h⟩ {s:=params 0 ar,l:=Env.empty,h:=hr}:=⟨Vf hv,(λn v h=>by cases h),hH⟩;obtain⟨k,e,sr',ρ',st',g1,⟨he,hq⟩,g3,g4,g5⟩:=Sem.of (by simpa only [lAc,List.all_nil,Bool.and_true,Fr1.ok]using hok) hR ρ _ hS (nLr _);have hb:Ex Γ k (.code F.body {s:=params 0 ar,l:=Env.empty,h:=hr}) (.st e sr'):=by
  cases g1 with
  | code h h'=>cases h';exact h
  | codeX h he' hx h'=>cases e<;>simp[exK]at hx
  | codeE h he' hx=>exact h
 split at hq
 ·rename_i us hus;obtain⟨rs,q1,q2⟩:=Vl g3 hus;have hx:=Ex.fn hg (by rw[hv.length];exact hn) hb he q1;exact⟨k+1,_,_,ρ',_,st'.h,hx,hq,g3.h,qCD q2,g4,g5⟩
 ·exact hq.elim
theorem SCall.cut{K:AV->List qB->Prop}(id n w:Nat)(hs:SCall Γ g vs h λv h'=>∃el,h'[id]?=some (.row w el true)/\K v (h'.set id (.row w (el.take n) true))):SCall Γ g vs h K:=λρ hr ar hH hv=>by
 obtain⟨k,r,hr',ρ',v,h',hx,⟨el,ho,hk⟩,g1,g2,g3,g4⟩:=hs ρ hr ar hH hv;rcases g1.obj _ _ ho with⟨q1,q2,_⟩ | ⟨a,el',q1,q2,q3⟩
 ·subst q2;rw[List.take_nil]at hk;have e:h'.set id (.row w [] true)=h':=List.ext_getElem? λi=>by
   rw[gSt];split
   ·rename_i e;subst e;split
    ·rw[ho]
    ·rename_i hn;rw[gEn (by omega)]
   ·rfl
  rw[e]at hk;exact⟨k,r,hr',ρ',v,h',hx,hk,g1,g2,g3,g4⟩
 ·refine⟨k,r,_,ρ',v,_,.trim n q2 hx,hk,g1.write q1 ho (by simp) (.inr ⟨a,_,q1,AH.upd_same _ _ _,q3.take n⟩),g2,g3.trans (Fm.write g1 q1),by rw[lLs];exact g4⟩
end
section
variable {E:Ev} {l:List qA} {ks:List Fr1} {s m:qq} {h:List qB} {Q:qf->VSt->Prop} {k e:Nat} {vs:List AV}
theorem X4{o:Option AV}{v:AV}(ho:o=some v)(hr:R E (.ops l::ks) ⟨(k,v)::s,m,h⟩ Q):Put E o (some k) l ks ⟨s,m,h⟩ Q:=by
 subst ho;rw[qgJ];exact hr
theorem qk(hp:SCall E.Γ k vs h λv h'=>R E (.ops l::ks) ⟨(e,v)::s,m,h'⟩ Q):we E (some (k,vs)) [] (some e) l ks ⟨s,m,h⟩ Q:=by
 unfold we;exact hp
theorem XS{c:qA}{r:List qA}(hp:SCall E.Γ k vs h λv h'=>ckVs ⟨(e,v)::s,m,h'⟩ (c::r)/\R E (.ops l::ks) ⟨(e,v)::s,m,h'⟩ Q):we E (some (k,vs)) (c::r) (some e) l ks ⟨s,m,h⟩ Q:=by
 unfold we;exact Or.inr hp
theorem SCall.mono{Γ:Nat->Option AFn}{g:Nat}{K K':AV->List qB->Prop}(hs:SCall Γ g vs h K)(hk:∀v h',K v h'->K' v h'):SCall Γ g vs h K':=λρ hr ar hH hv=>by
 obtain⟨k,r,hr',ρ',v,h',hx,q,g⟩:=hs ρ hr ar hH hv;exact⟨k,r,hr',ρ',v,h',hx,hk _ _ q,g⟩
end
section
variable {E:Ev} {ks:List Fr1} {Q:qf->VSt->Prop}
end
section
variable {Γ:Nat->Option AFn} {g:Nat} {vs vs':List AV} {h:List qB}
end
section
variable {E:Ev} {l:List qA} {ks:List Fr1} {s m:qq} {h:List qB} {Q:qf->VSt->Prop}
end
section
variable {Γ:Nat->Option AFn} {g:Nat} {vs:List AV} {h:List qB} {v:AV}
end
section
variable {E:Ev} {l:List qA} {ks:List Fr1} {s m:qq} {h:List qB} {Q:qf->VSt->Prop} {g e w id n:Nat} {as vs:List AV} {xs ys:List AV}
end
section
variable {ns:List Nat}
end
section
variable {Γ:Nat->Option AFn} {g:Nat} {vs vs':List AV} {h:List qB} {K:AV->List qB->Prop}
end
section
variable {s s' m m':qq} {h h':List qB}
end
def GvS(H:List qB)(s s':qq):Prop:=∀n v',get s' n=some v'->∃v,get s n=some v/\(v=v'\/Cv H v v'/\v'.tree=true)
theorem GvS.nil{H:List qB}{s:qq}:GvS H s []:=λn v h=>by cases h
theorem GvS.same{H:List qB}{s s':qq}{n:Nat}{v:AV}(h:get s n=some v)(hs:GvS H s s'):GvS H s ((n,v)::s'):=λk u hu=>by
 rw[WV]at hu;split at hu
 ·rename_i e;subst e;cases hu;exact⟨_,h,.inl rfl⟩
 ·exact hs k u hu
theorem GvS.cons{H:List qB}{s s':qq}{n:Nat}{v v':AV}(h:get s n=some v)(hc:Cv H v v')(ht:v'.tree=true)(hs:GvS H s s'):GvS H s ((n,v')::s'):=λk u hu=>by
 rw[WV]at hu;split at hu
 ·rename_i e;subst e;cases hu;exact⟨_,h,.inr ⟨hc,ht⟩⟩
 ·exact hs k u hu
theorem zG.without{ρ:Ren}{h:List qB}{hr:AH}(hH:zG ρ h hr)(ids:List Nat):zG ρ (without ids h) (hr.kill (js ρ h ids)):=by
 refine⟨λi o hi=>?_,λi j a o o' q1 q2 hi hj d1 d2=>hH.inj i j a o o' q1 q2 (qDE hi d1).2 (qDE hj d2).2 d1 d2,λi hi=>hH.out i (by simpa[Go.Ab.without]using hi),λi a hi=>?_⟩
 ·by_cases hd:o=.dead
  ·subst hd;trivial
  ·obtain⟨q1,q2⟩:=qDE hi hd;refine(hH.obj i o q2).mono (λ_ _ q=>q) λa o' ha hq=>?_;rw[<-hq];show (hr.kill _) a=_;rw[AH.kill_at,iN];rw[lCm,J6];rintro⟨j,w,el,p1,p2,p3⟩;have:=hH.inj i j a _ _ ha p2 q2 p3 hd (by simp);subst this;have:ids.contains i=true:=by simpa using p1
   rw[this]at q1;cases q1
 ·obtain⟨o,ho⟩:=hH.is i a hi;show ∃o,(hr.kill _) a=some o;rw[AH.kill_at];split
  ·exact⟨_,rfl⟩
  ·exact⟨o,ho⟩
theorem Can.give{b:Nat}{s s' m m':qq}{h:List qB}(ids:List Nat)(h1:GvS (only ids h) s s')(h2:GvS (only ids h) m m'):Can b ⟨s,m,h⟩ ⟨s',m',without ids h⟩:=λρ sr hS hb=>by
 have hO:zG ρ (only ids h) sr.h:=⟨λi o hi=>by
   by_cases hd:o=.dead
   ·subst hd;trivial
   ·exact hS.h.obj i o (Vd hi hd).2,λi j a o o' h1 h2 hi hj d1 d2=>hS.h.inj i j a o o' h1 h2 (Vd hi d1).2 (Vd hj d2).2 d1 d2,
  λi hi=>hS.h.out i (by simpa[only]using hi),hS.h.is⟩
 have slot:∀{s s':qq}{e:Env},RelE ρ s e->GvS (only ids h) s s'->∀n v',get s' n=some v'->∃r',(∃v0,lk e n=some v0/\zE sr.h (js ρ h ids) v0 r')/\RelV ρ v' r':=by
  intro s s' e hE hg n v' hv;obtain⟨v,q1,q2⟩:=hg n v' hv;obtain⟨r,q3,q4⟩:=hE n v q1;rcases q2 with rfl | ⟨q2,q5⟩
  ·exact⟨r,⟨r,q3,.refl _⟩,q4⟩
  ·obtain⟨r',c1,c2⟩:=q2.conv hO (K:=js ρ h ids) (λi a w el ha ho=>by
    obtain⟨q1,q2⟩:=Vd ho (by simp);rw[lCm,J6];exact⟨i,w,el,by simpa using q1,ha,q2⟩) q4
   exact⟨r',⟨r,q3,c1⟩,Qp _ _ q5 c2⟩
 have env:∀{s s':qq}{e:Env},RelE ρ s e->GvS (only ids h) s s'->∃e':Env,(∀t v,lk e' t=some v->∃v0,lk e t=some v0/\zE sr.h (js ρ h ids) v0 v)/\RelE ρ s' e':=by
  intro s s' e hE hg;refine⟨λn=>match hq:get s' n with
   | some v'=>some (Classical.choose (slot hE hg n v' hq))
   | none=>none,λt v ht=>?_,λn v hv=>?_⟩
  ·simp only[lk]at ht;split at ht
   ·rename_i v' hq;simp only[oSi]at ht;subst ht;exact(Classical.choose_spec (slot hE hg t v' hq)).1
   ·cases ht
  ·refine⟨Classical.choose (slot hE hg n v hv), ?_,(Classical.choose_spec (slot hE hg n v hv)).2⟩;simp only[lk];split
   ·rename_i v' hq;have e:v'=v:=by rw[hq]at hv;exact Option.some.inj hv
    subst e;rfl
   ·rename_i hq;rw[hq]at hv;cases hv
 obtain⟨e1,f1,f2⟩:=env hS.s h1;obtain⟨e2,f3,f4⟩:=env hS.l h2;refine⟨{s:=e1,l:=e2,h:=sr.h.kill (js ρ h ids)},ρ,λΓ k c o hx=>.frz (js ρ h ids) ⟨hS.h.rows ids,f1,f3,rfl⟩ hx,⟨f2,f4,hS.h.without ids⟩,
  ⟨λa o q1 q2=>?_,λi a hi=>.inl ⟨i,hi⟩,λa ha=>(AH.fr_kill ha).1,λ_ _=>rfl⟩,by simpa[without]using hb⟩
 show (sr.h.kill _) a=_;rw[AH.kill_at,iN]
 ·exact q1
 ·rw[lCm,J6];rintro⟨j,w,el,p1,p2,p3⟩;exact q2 j p2
theorem qDF{ids:List Nat}{h:List qB}{j:Nat}(hj:j∉ids):(without ids h)[j]?=h[j]?:=by
 simp only[without,List.getElem?_mapIdx];cases h[j]? with
 | none=>rfl
 | some o=>simp[hj]
theorem qiC{ids:List Nat}{h:List qB}:(without ids h).length=h.length:=by simp[without]
theorem qfS{ids:List Nat}{h:List qB}{j:Nat}(hj:j∈ids):(only ids h)[j]?=h[j]?:=by
 simp only[only,List.getElem?_mapIdx];cases h[j]? with
 | none=>rfl
 | some o=>simp[hj]
theorem qhX:∀{as bs:List AV},AV.trees (as++bs)=(AV.trees as&&AV.trees bs)
 |[],_=>by simp[AV.trees]
 | a::as,bs=>by simp[AV.trees,qhX (as:=as),Bool.and_assoc]
section
variable {Γ:Nat->Option AFn} {g:Nat} {v x y:AV} {j:Nat} {sh:Option Nat}
theorem zE.subV{ρ:Ren}{hr:AH}{K:List Nat}{r:AV}(hp:x.part j sh=some y)(hy:0<y.cells.length)(h:RelV ρ (.ept x j) r):∃r',zE hr K r r'/\RelV ρ (.ept y 0) r':=by
 simp only[RelV]at h;obtain⟨z,rfl,hz⟩:=h;obtain⟨u,h1,h2⟩:=hz.part hp;refine⟨.ept u 0,.sub h1 (by rw[h2.cellsLen];exact hy), ?_⟩;simp only[RelV];exact⟨u,rfl,h2⟩
theorem Pure.lk{as bs:List AV}(hx:x.tree=true)(hp:x.part j sh=some y)(hy:0<y.cells.length)(h:Pure Γ g (as++.ept y 0::bs) v):Pure Γ g (as++.ept x j::bs) v:=by
 unfold Pure at h|-;obtain⟨t1,t2,h⟩:=h;refine⟨?_,t2,λhr ar har=>?_⟩
 ·rw[qhX]at t1|-;simp only[AV.trees,AV.tree,bAt]at t1|-;exact⟨t1.1,hx,t1.2.2⟩
 ·obtain⟨as',br,rfl,ha,hb⟩:∃as' br,ar=as'++br/\RelVs ρ0 as as'/\RelVs ρ0 (.ept x j::bs) br:=⟨ar.take as.length,ar.drop as.length,(List.take_append_drop _ _).symm,by have:=har.take as.length;rwa[List.take_left]at this,by have:=har.drop as.length;rwa[List.drop_left]at this⟩;simp only[RelVs]at hb;obtain⟨r,bs',rfl,hr1,hb⟩:=hb;obtain⟨r',c1,c2⟩:=zE.subV (hr:=hr) (K:=[]) hp hy hr1;obtain⟨k,w,hr',h1,h2,h3,h4⟩:=h (hr.kill []) (as'++r'::bs') (ha.append (by simp only[RelVs];exact⟨r',bs',rfl,c2,hb⟩));have e:(hr.kill []).f=hr.f:=by funext i;rfl
  refine⟨k,w,hr',.frzA [] (λid hi=>by cases hi) (as':=as'++r'::bs') (by simp) (λp hp=>?_) h1,by rw[h2,e],λa ha=>(AH.fr_kill (h3 a ha)).1,h4⟩;rw[List.zip_append (by rfl),List.zip_cons_cons]at hp;rcases jR.1 hp with q | q
  ·have:p.1=p.2:=by obtain⟨i,hi,rfl⟩:=List.getElem_of_mem q;simp
   rw[this];exact .refl _
  ·rcases mCo.1 q with rfl | q
   ·exact c1
   ·have:p.1=p.2:=by obtain⟨i,hi,rfl⟩:=List.getElem_of_mem q;simp
    rw[this];exact .refl _
theorem Pure.lk0{bs:List AV}(hx:x.tree=true)(hp:x.part j sh=some y)(hy:0<y.cells.length)(h:Pure Γ g (.ept y 0::bs) v):Pure Γ g (.ept x j::bs) v:=Pure.lk (as:=[]) hx hp hy h
theorem Pure.lk1{a:AV}{bs:List AV}(hx:x.tree=true)(hp:x.part j sh=some y)(hy:0<y.cells.length)(h:Pure Γ g (a::.ept y 0::bs) v):Pure Γ g (a::.ept x j::bs) v:=Pure.lk (as:=[a]) hx hp hy h
end
variable {Γ:Nat->Option AFn} {g:Nat} {vs:List AV} {h:List qB}
end Go.Ab
namespace Go.Ab
open Go
section
variable {E:Ev} {ks:List Fr1} {s m:qq} {h:List qB} {st:VSt} {Q:qf->VSt->Prop} {x y z:Ao} {l:List qA} {i:Nat} {d:Option Nat} {v:AV} {g:Option (Nat×Bool)} {ck:List qA}
end
section
variable {μ μ':List (Option Nat)} {h h':List qB}
end
section
variable {S S':List (Option Nat)} {h h':List qB} {v t:AV} {vs ts vs' ts':List AV}
end
section
variable {S0 S S1:List (Option Nat)} {cs0 ts0 vs ts:List AV} {w si:Nat} {g mid:List qB} {X t:AV}
end
section
variable {E:Ev} {ρ:Ren} {st:VSt} {sr:St}
end
section
variable {Γ:Nat->Option AFn} {g:Nat} {vs:List AV} {h:List qB}
end
section
variable {E:Ev} {l:List qA} {ks:List Fr1} {s m:qq} {h:List qB} {Q:qf->VSt->Prop} {k e:Nat} {vs:List AV} {v:AV}
end
section
variable {S:List (Option Nat)} {h h':List qB} {v t:AV} {vs ts:List AV}
end
end Go.Ab
