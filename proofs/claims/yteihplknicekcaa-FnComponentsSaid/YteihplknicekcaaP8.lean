/- Texts Srt3 .. Cmp9: the abstract machine, its laws and contracts of functions: lemmas for the statement. No condition. -/
import Derived.Test.YteihplknicekcaaP7
set_option linter.unusedSimpArgs false
set_option linter.unusedVariables false
namespace Go.Ab
open Go
set_option maxRecDepth 10000
set_option maxHeartbeats 2000000
theorem PT.incl{a b i j:Int}{ys:List Int}(h:PT a b i j ys)(h1:gI ys i<gI ys a):PT a b (i+1) j ys:=⟨fun k k1 k2=>by
 by_cases e:k=i
 ·rw[e];exact h1
 ·exact h.1 k k1 (by omega),h.2⟩
theorem PT.decl{a b i j:Int}{ys:List Int}(h:PT a b i j ys)(h1:gI ys a<=gI ys j):PT a b i (j-1) ys:=⟨h.1,fun k k1 k2=>by
 by_cases e:k=j
 ·rw[e];exact h1
 ·exact h.2 k (by omega) k2⟩
theorem qRT{h:List qA}{id n:Nat}{xs:List Int}{a b p:Int}{K:AV->List qA->Prop}(hid:id<h.length)(hn:xs.length=n)(hl:n<=4194304)(hab:0<=a/\a<b/\b<=n/\a<=p/\p<b)
  (hK:∀(ys:List Int)(m:Int)(r:Bool),RP a b ys xs->a<=m->m<b->MID a b m ys->K (.tup [.int .i64 m,.bool r]) (RW h id ys)):SCall Gm 1347 [.slice 1 id 0 n false,.int .i64 a,.int .i64 b,.int .i64 p] (RW h id xs) K:=by
 refine sI Xc ?_;simp only[Xc,qQ,go_sem];simp(config:={maxSteps:=2000000}) (disch:=omega) only [go_sem,qH,qO,qP,Int.reduceEq];refine qp hid (by omega) (by omega) ?_;simp(config:={maxSteps:=2000000}) (disch:=omega) only [go_sem,qH,qO,qP,Int.reduceEq];refine qp hid (by omega) (by rw[lLs];omega) ?_;simp(maxSteps:=2000000) (disch:=omega) only [go_sem,qH,qO,qP,Int.reduceEq];have hp1:RP a b (swI xs a p) xs:=(RP.refl _).sw (by omega) (by omega) (by omega) (by omega);show Sem _ _ ⟨_,_,RW h id (swI xs a p)⟩ _;have hb:(RW h id xs).length=h.length:=YY;rw[hb];generalize swI xs a p=ys at hp1|-;have hyl:=hp1.len;refine ja (fun i':Int=>a+1<=i'/\PT a b i' (b-1) ys) (fun i'=>(⟨[(0,.slice 1 id 0 n false),(1,.int .i64 a),(10,.int .i64 i'),(11,.int .i64 (b-1))],[],RW h id ys⟩:VSt)) (fun i'=>(b-i').toNat) (a+1)
   (fun i':Int=>a+1<=i'/\PT a b i' (b-1) ys/\(i'<=(b-1)->¬gI ys i'<gI ys a)) (fun i'=>(⟨[(0,.slice 1 id 0 n false),(1,.int .i64 a),(10,.int .i64 i'),(11,.int .i64 (b-1))],[],RW h id ys⟩:VSt)) (by kernel_rfl) ⟨(by first | omega | (simp only;omega)),fun k k1 k2=>by omega,fun k k1 k2=>by omega⟩ (Can.sub (by simp[go_sem]) (by simp[go_sem])) ?_ ?_
 ·rintro i' ⟨k1,k3⟩;simp only[go_sem];apply qe<;>intro hc<;>simp only[hc,go_sem]
  ·have hle:=odT hc;simp(config:={maxSteps:=2000000}) (disch:=omega) only [go_sem,qH,qO,qP,Int.reduceEq];refine qS (z9 _ _) ?_;simp only[go_sem];apply qF<;>intro hc<;>simp only[hc,go_sem]
   ·have hx:=odT hc;simp(config:={maxSteps:=2000000}) (disch:=omega) only [go_sem,qH,qO,qP,Int.reduceEq];exact zw (i'+1) ⟨(by first | omega | (simp only;omega)),k3.incl hx⟩ (by first | omega | (simp only;omega)) (Can.sub (by simp[go_sem]) (by simp[go_sem]))
   ·have hx:=odF hc;exact zb i' ⟨by omega,k3,fun _=>hx⟩ (Can.sub (by simp[go_sem]) (by simp[go_sem]))
  ·have hle:=odF hc;exact zb i' ⟨by omega,k3,fun e=>by omega⟩ (Can.sub (by simp[go_sem]) (by simp[go_sem]))
 rintro i' ⟨k1,k3,k4⟩;simp only[go_sem];refine ja (fun j':Int=>a<=j'/\j'<=b-1/\PT a b i' j' ys) (fun j'=>(⟨[(0,.slice 1 id 0 n false),(1,.int .i64 a),(10,.int .i64 i'),(11,.int .i64 j')],[],RW h id ys⟩:VSt)) (fun j'=>(j'+1).toNat) (b-1)
   (fun j':Int=>a<=j'/\j'<=b-1/\PT a b i' j' ys/\(i'<=j'->¬gI ys i'<gI ys a/\gI ys j'<gI ys a)) (fun j'=>(⟨[(0,.slice 1 id 0 n false),(1,.int .i64 a),(10,.int .i64 i'),(11,.int .i64 j')],[],RW h id ys⟩:VSt)) (by kernel_rfl) ⟨(by first | omega | (simp only;omega)),(by first | omega | (simp only;omega)),k3⟩ (Can.sub (by simp[go_sem]) (by simp[go_sem])) ?_ ?_
 ·rintro j' ⟨m1,m2,m3⟩;simp only[go_sem];apply qe<;>intro hc<;>simp only[hc,go_sem]
  ·have hle:=odT hc;simp(config:={maxSteps:=2000000}) (disch:=omega) only [go_sem,qH,qO,qP,Int.reduceEq];refine qS (z9 _ _) ?_;simp only[go_sem];apply qF<;>intro hc<;>simp only[hc,go_sem]
   ·have hx:=odF (Eq.mp (bNt _) hc);simp(config:={maxSteps:=2000000}) (disch:=omega) only [go_sem,qH,qO,qP,Int.reduceEq];exact zw (j'-1) ⟨(by first | omega | (simp only;omega)),(by first | omega | (simp only;omega)),m3.decl (by omega)⟩ (by first | omega | (simp only;omega)) (Can.sub (by simp[go_sem]) (by simp[go_sem]))
   ·have hx:=odT (Eq.mp (Bool.not_eq_false' _) hc);exact zb j' ⟨by omega,by omega,m3,fun _=>⟨k4 (by omega),hx⟩⟩ (Can.sub (by simp[go_sem]) (by simp[go_sem]))
  ·have hle:=odF hc;exact zb j' ⟨by omega,by omega,m3,fun e=>by omega⟩ (Can.sub (by simp[go_sem]) (by simp[go_sem]))
 rintro j' ⟨m1,m2,m3,m4⟩;simp only[go_sem];apply qF<;>intro hc<;>simp only[hc,go_sem]
 ·have hle:=odT hc;simp(config:={maxSteps:=2000000}) (disch:=omega) only [go_sem,qH,qO,qP,Int.reduceEq];refine qp hid (by omega) (by omega) ?_;simp(config:={maxSteps:=2000000}) (disch:=omega) only [go_sem,qH,qO,qP,Int.reduceEq];refine qp hid (by omega) (by rw[lLs];omega) ?_;simp(maxSteps:=2000000) (disch:=omega) only [go_sem,qH,qO,qP,Int.reduceEq];exact hK _ _ _ (hp1.sw (by omega) (by omega) (by omega) (by omega)) m1 (by omega) (m3.done hab.1 m1 (by omega) (by omega) (by omega))
 have hle:=odF hc;have m5:=m4 (by omega);simp(config:={maxSteps:=2000000}) (disch:=omega) only [go_sem,qH,qO,qP,Int.reduceEq];refine qp hid (by omega) (by omega) ?_;simp(config:={maxSteps:=2000000}) (disch:=omega) only [go_sem,qH,qO,qP,Int.reduceEq];refine qp hid (by omega) (by rw[lLs];omega) ?_;simp(maxSteps:=2000000) (disch:=omega) only [go_sem,qH,qO,qP,Int.reduceEq];have hp2:RP a b (swI ys i' j') xs:=hp1.sw (by omega) (by omega) (by omega) (by omega);have hp3:PT a b (i'+1) (j'-1) (swI ys i' j'):=m3.sw hab.1 (by omega) (by omega) (by omega) (by omega) m5.1 m5.2;refine ja (fun q:Int×Int×List Int=>a+1<=q.1/\a<=q.2.1/\q.2.1<=b-1/\RP a b q.2.2 xs/\PT a b q.1 q.2.1 q.2.2) (fun q=>(⟨[(0,.slice 1 id 0 n false),(1,.int .i64 a),(10,.int .i64 q.1),(11,.int .i64 q.2.1)],[],RW h id q.2.2⟩:VSt)) (fun q=>(q.2.1+1-q.1).toNat) (i'+1,j'-1,swI ys i' j')
  (fun q:Int×List Int=>a<=q.1/\q.1<=b-1/\RP a b q.2 xs/\∃i,q.1<i/\PT a b i q.1 q.2) (fun q=>(⟨[(0,.slice 1 id 0 n false),(1,.int .i64 a),(11,.int .i64 q.1)],[],RW h id q.2⟩:VSt)) (by kernel_rfl) ⟨(by first | omega | (simp only;omega)),(by first | omega | (simp only;omega)),(by first | omega | (simp only;omega)),hp2,hp3⟩ (Can.sub (by simp[go_sem]) (by simp[go_sem])) ?_ ?_
 ·clear hp3 hp2 hp1 k1 k3 k4 m1 m2 m3 m4 m5 hle hyl hc;rintro⟨i,j,zs⟩ ⟨h1,h2,h3,h4,h5⟩;simp only at h1 h2 h3 h4 h5|-;have hzl:=h4.len;simp only[go_sem];refine ja (fun i':Int=>i<=i'/\PT a b i' j zs) (fun i'=>(⟨[(0,.slice 1 id 0 n false),(1,.int .i64 a),(10,.int .i64 i'),(11,.int .i64 j)],[],RW h id zs⟩:VSt)) (fun i'=>(j+1-i').toNat) i
   (fun i':Int=>i<=i'/\PT a b i' j zs/\(i'<=j->¬gI zs i'<gI zs a)) (fun i'=>(⟨[(0,.slice 1 id 0 n false),(1,.int .i64 a),(10,.int .i64 i'),(11,.int .i64 j)],[],RW h id zs⟩:VSt)) (by kernel_rfl) ⟨(by first | omega | (simp only;omega)),h5⟩ (Can.sub (by simp[go_sem]) (by simp[go_sem])) ?_ ?_
  ·rintro i' ⟨k1,k3⟩;simp only[go_sem];apply qe<;>intro hc<;>simp only[hc,go_sem]
   ·have hle:=odT hc;simp(config:={maxSteps:=2000000}) (disch:=omega) only [go_sem,qH,qO,qP,Int.reduceEq];refine qS (z9 _ _) ?_;simp only[go_sem];apply qF<;>intro hc<;>simp only[hc,go_sem]
    ·have hx:=odT hc;simp(config:={maxSteps:=2000000}) (disch:=omega) only [go_sem,qH,qO,qP,Int.reduceEq];exact zw (i'+1) ⟨(by first | omega | (simp only;omega)),k3.incl hx⟩ (by first | omega | (simp only;omega)) (Can.sub (by simp[go_sem]) (by simp[go_sem]))
    ·have hx:=odF hc;exact zb i' ⟨by omega,k3,fun _=>hx⟩ (Can.sub (by simp[go_sem]) (by simp[go_sem]))
   ·have hle:=odF hc;exact zb i' ⟨by omega,k3,fun e=>by omega⟩ (Can.sub (by simp[go_sem]) (by simp[go_sem]))
  rintro i' ⟨k1,k3,k4⟩;simp only[go_sem];refine ja (fun j':Int=>a<=j'/\j'<=j/\PT a b i' j' zs) (fun j'=>(⟨[(0,.slice 1 id 0 n false),(1,.int .i64 a),(10,.int .i64 i'),(11,.int .i64 j')],[],RW h id zs⟩:VSt)) (fun j'=>(j'+1).toNat) j
   (fun j':Int=>a<=j'/\j'<=j/\PT a b i' j' zs/\(i'<=j'->¬gI zs i'<gI zs a/\gI zs j'<gI zs a)) (fun j'=>(⟨[(0,.slice 1 id 0 n false),(1,.int .i64 a),(10,.int .i64 i'),(11,.int .i64 j')],[],RW h id zs⟩:VSt)) (by kernel_rfl) ⟨(by first | omega | (simp only;omega)),(by first | omega | (simp only;omega)),k3⟩ (Can.sub (by simp[go_sem]) (by simp[go_sem])) ?_ ?_
  ·rintro j' ⟨m1,m2,m3⟩;simp only[go_sem];apply qe<;>intro hc<;>simp only[hc,go_sem]
   ·have hle:=odT hc;simp(config:={maxSteps:=2000000}) (disch:=omega) only [go_sem,qH,qO,qP,Int.reduceEq];refine qS (z9 _ _) ?_;simp only[go_sem];apply qF<;>intro hc<;>simp only[hc,go_sem]
    ·have hx:=odF (Eq.mp (bNt _) hc);simp(config:={maxSteps:=2000000}) (disch:=omega) only [go_sem,qH,qO,qP,Int.reduceEq];exact zw (j'-1) ⟨(by first | omega | (simp only;omega)),(by first | omega | (simp only;omega)),m3.decl (by omega)⟩ (by first | omega | (simp only;omega)) (Can.sub (by simp[go_sem]) (by simp[go_sem]))
    ·have hx:=odT (Eq.mp (Bool.not_eq_false' _) hc);exact zb j' ⟨by omega,by omega,m3,fun _=>⟨k4 (by omega),hx⟩⟩ (Can.sub (by simp[go_sem]) (by simp[go_sem]))
   ·have hle:=odF hc;exact zb j' ⟨by omega,by omega,m3,fun e=>by omega⟩ (Can.sub (by simp[go_sem]) (by simp[go_sem]))
  rintro j' ⟨m1,m2,m3,m4⟩;simp only[go_sem];apply qF<;>intro hc<;>simp only[hc,go_sem]
  ·have hle:=odT hc;exact zb (j',zs) ⟨(by first | omega | (simp only;omega)),(by first | omega | (simp only;omega)),h4,i',by omega,m3⟩ (Can.sub (by simp[go_sem]) (by simp[go_sem]))
  ·have hle:=odF hc;simp(config:={maxSteps:=2000000}) (disch:=omega) only [go_sem,qH,qO,qP,Int.reduceEq];refine qp hid (by omega) (by omega) ?_;simp(config:={maxSteps:=2000000}) (disch:=omega) only [go_sem,qH,qO,qP,Int.reduceEq];refine qp hid (by omega) (by rw[lLs];omega) ?_;simp(maxSteps:=2000000) (disch:=omega) only [go_sem,qH,qO,qP,Int.reduceEq];have m5:=m4 (by omega);exact zw (i'+1,j'-1,swI zs i' j') ⟨(by first | omega | (simp only;omega)),(by first | omega | (simp only;omega)),(by first | omega | (simp only;omega)),h4.sw (by omega) (by omega) (by omega) (by omega),m3.sw hab.1 (by omega) (by omega) (by omega) (by omega) m5.1 m5.2⟩ (by first | omega | (simp only;omega)) (Can.sub (by simp[go_sem]) (by simp[go_sem]))
 ·rintro⟨j,zs⟩ ⟨h1,h2,h3,i2,h4,h5⟩;have hzl:=h3.len;simp only at h1 h2 h3 h4 h5 hzl|-;simp(config:={maxSteps:=2000000}) (disch:=omega) only [go_sem,qH,qO,qP,Int.reduceEq];refine qp hid (by omega) (by omega) ?_;simp(config:={maxSteps:=2000000}) (disch:=omega) only [go_sem,qH,qO,qP,Int.reduceEq];refine qp hid (by omega) (by rw[lLs];omega) ?_;simp(maxSteps:=2000000) (disch:=omega) only [go_sem,qH,qO,qP,Int.reduceEq];exact hK _ _ _ (h3.sw (by omega) (by omega) (by omega) (by omega)) h1 (by omega) (h5.done hab.1 h1 h4 (by omega) (by omega))
theorem qRR{h:List qA}{id n:Nat}{xs:List Int}{a b:Int}{K:AV->List qA->Prop}(hid:id<h.length)(hn:xs.length=n)(hl:n<=4194304)(hab:0<=a/\a<b/\b<=n)(hb:PB a b xs)
  (hK:∀(ys:List Int)(r:Bool),RP a b ys xs->(r=true->SO a b ys)->K (.bool r) (RW h id ys)):SCall Gm 1344 [.slice 1 id 0 n false,.int .i64 a,.int .i64 b] (RW h id xs) K:=by
 refine sI XZ ?_;simp only[XZ,qQ,go_sem];simp(config:={maxSteps:=2000000}) (disch:=omega) only [go_sem,qH,qO,qP,Int.reduceEq];refine ja (fun q:Int×Int×List Int=>0<=q.1/\q.1<=5/\a+1<=q.2.1/\q.2.1<=b/\RP a b q.2.2 xs/\SO a q.2.1 q.2.2) (fun q=>(⟨[(0,.slice 1 id 0 n false),(1,.int .i64 a),(2,.int .i64 b),(7,.int .i64 q.2.1),(8,.int .i64 q.1)],[],RW h id q.2.2⟩:VSt)) (fun q=>(5-q.1).toNat) (0,a+1,xs)
  (fun ys:List Int=>RP a b ys xs) (fun ys=>(⟨[],[],RW h id ys⟩:VSt)) (by kernel_rfl) ⟨(by first | omega | (simp only;omega)),(by first | omega | (simp only;omega)),(by first | omega | (simp only;omega)),(by first | omega | (simp only;omega)),.refl _,SO.one⟩ (Can.sub (by simp[go_sem]) (by simp[go_sem])) ?_ ?_
 ·rintro⟨r,i,ys⟩ ⟨h1,h2,h3,h4,h5,h6⟩;simp only at h1 h2 h3 h4 h5 h6|-;have hyl:=h5.len;simp only[go_sem];apply qF<;>intro hc<;>simp only[hc,go_sem]
  ·have hr5:=odT hc;refine ja (fun i':Int=>a+1<=i'/\i'<=b/\SO a i' ys) (fun i'=>(⟨[(0,.slice 1 id 0 n false),(1,.int .i64 a),(2,.int .i64 b),(7,.int .i64 i'),(8,.int .i64 r)],[],RW h id ys⟩:VSt)) (fun i'=>(b-i').toNat) i
    (fun i':Int=>a+1<=i'/\i'<=b/\SO a i' ys) (fun i'=>(⟨[(0,.slice 1 id 0 n false),(1,.int .i64 a),(2,.int .i64 b),(7,.int .i64 i'),(8,.int .i64 r)],[],RW h id ys⟩:VSt)) (by kernel_rfl) ⟨(by first | omega | (simp only;omega)),(by first | omega | (simp only;omega)),h6⟩ (Can.sub (by simp[go_sem]) (by simp[go_sem])) ?_ ?_
   ·rintro i' ⟨k1,k2,k3⟩;simp only[go_sem];apply qe<;>intro hc<;>simp only[hc,go_sem]
    ·have hle:=odT hc;simp(config:={maxSteps:=2000000}) (disch:=omega) only [go_sem,qH,qO,qP,Int.reduceEq];refine qS (z9 _ _) ?_;simp only[go_sem];apply qF<;>intro hc<;>simp only[hc,go_sem]
     ·have hx:=odF (Eq.mp (bNt _) hc);simp(config:={maxSteps:=2000000}) (disch:=omega) only [go_sem,qH,qO,qP,Int.reduceEq];exact zw (i'+1) ⟨(by first | omega | (simp only;omega)),(by first | omega | (simp only;omega)),k3.next (by omega) (by omega)⟩ (by first | omega | (simp only;omega)) (Can.sub (by simp[go_sem]) (by simp[go_sem]))
     ·exact zb i' ⟨by omega,by omega,k3⟩ (Can.sub (by simp[go_sem]) (by simp[go_sem]))
    ·exact zb i' ⟨by omega,by omega,k3⟩ (Can.sub (by simp[go_sem]) (by simp[go_sem]))
   rintro i' ⟨k1,k2,k3⟩;simp only[go_sem];apply qF<;>intro hc<;>simp only[hc,go_sem]
   ·have hib:=odT hc;exact hK _ _ h5 (fun _=>hib▸k3)
   have hib:=odF hc;simp(config:={maxSteps:=2000000}) (disch:=omega) only [go_sem,qH,qO,qP,Int.reduceEq];apply qF<;>intro hc<;>simp only[hc,go_sem]
   ·exact hK _ _ h5 (fun e=>absurd e (by decide))
   have hib50:=odF hc;simp(config:={maxSteps:=2000000}) (disch:=omega) only [go_sem,qH,qO,qP,Int.reduceEq];refine qp hid (by omega) (by omega) ?_;simp(config:={maxSteps:=2000000}) (disch:=omega) only [go_sem,qH,qO,qP,Int.reduceEq];refine qp hid (by omega) (by rw[lLs];omega) ?_;simp(maxSteps:=2000000) (disch:=omega) only [go_sem,qH,qO,qP,Int.reduceEq];have hp2:RP a b (swI ys i' (i'-1)) xs:=h5.sw (by omega) (by omega) (by omega) (by omega);have hs2:SO a (i'-1) (swI ys i' (i'-1)):=fun p q p1 pq q1=>by
    rw[zZ (by omega) (by omega) (by omega) (by omega) (by omega),zZ (by omega) (by omega) (by omega) (by omega) (by omega),if_neg (by omega),if_neg (by omega),if_neg (by omega),if_neg (by omega)];exact k3 p q p1 pq (by omega)
   have hm2:∀p,a<=p->p<i'-1->gI (swI ys i' (i'-1)) p<=gI (swI ys i' (i'-1)) i':=fun p p1 p2=>by
    rw[zZ (by omega) (by omega) (by omega) (by omega) (by omega),zZ (by omega) (by omega) (by omega) (by omega) (by omega),if_neg (by omega),if_neg (by omega),if_neg (by omega),if_pos rfl];exact k3 p (i'-1) p1 (by omega) (by omega)
   apply qF<;>intro hc<;>simp only[hc,go_sem]
   ·simp(config:={maxSteps:=2000000}) (disch:=omega) only [go_sem,qH,qO,qP,Int.reduceEq];have hib2:=odT hc;refine ja (fun q:Int×List Int=>a<=q.1/\q.1<=i'-1/\RP a b q.2 xs/\IS a (i'-1) q.1 q.2) (fun q=>(⟨[(0,.slice 1 id 0 n false),(1,.int .i64 a),(2,.int .i64 b),(7,.int .i64 i'),(8,.int .i64 r),(9,.int .i64 q.1)],[],RW h id q.2⟩:VSt)) (fun q=>q.1.toNat) (i'-1,swI ys i' (i'-1))
     (fun zs:List Int=>RP a b zs xs/\SO a i' zs) (fun zs=>(⟨[(0,.slice 1 id 0 n false),(1,.int .i64 a),(2,.int .i64 b),(7,.int .i64 i'),(8,.int .i64 r)],[],RW h id zs⟩:VSt)) (by kernel_rfl) ⟨(by first | omega | (simp only;omega)),(by first | omega | (simp only;omega)),hp2,hs2.is⟩ (Can.sub (by simp[go_sem]) (by simp[go_sem])) ?_ ?_
    ·rintro⟨j,zs⟩ ⟨m1,m2,m3,m4⟩;simp only at m1 m2 m3 m4|-;have hzl:=m3.len;simp only[go_sem];apply qF<;>intro hc<;>simp only[hc,go_sem]
     ·have hj1:=odT hc;simp(config:={maxSteps:=2000000}) (disch:=omega) only [go_sem,qH,qO,qP,Int.reduceEq];refine qS (z9 _ _) ?_;simp only[go_sem];apply qF<;>intro hc<;>simp only[hc,go_sem]
      ·have hx:=odF (Eq.mp (bNt _) hc);refine zb zs ⟨m3, ?_⟩ (Can.sub (by simp[go_sem]) (by simp[go_sem]));by_cases e:j=a
       ·subst e;have:=m4.done;rwa[Int.sub_add_cancel]at this
       ·have:=m4.done2 (by omega) (by omega);rwa[Int.sub_add_cancel]at this
      ·have hx:=odT (Eq.mp (Bool.not_eq_false' _) hc);have hja:a<j:=by
        by_cases e:j=a
        ·exfalso;subst e;have q1:=m3.out hab.1 (by omega) (k:=j-1) (by omega) (by omega);have q2:=m3.all hab.1 (by omega) (P:=fun v=>gI xs (j-1)<=v) (hb (by omega)) j (Int.le_refl _) (by omega);omega
        ·omega
       simp(config:={maxSteps:=2000000}) (disch:=omega) only [go_sem,qH,qO,qP,Int.reduceEq];refine qp hid (by omega) (by omega) ?_;simp(config:={maxSteps:=2000000}) (disch:=omega) only [go_sem,qH,qO,qP,Int.reduceEq];refine qp hid (by omega) (by rw[lLs];omega) ?_;simp(maxSteps:=2000000) (disch:=omega) only [go_sem,qH,qO,qP,Int.reduceEq];exact zw (j-1,swI zs j (j-1)) ⟨(by first | omega | (simp only;omega)),(by first | omega | (simp only;omega)),m3.sw (by omega) (by omega) (by omega) (by omega),m4.sw hab.1 hja m2 (by omega) hx⟩ (by first | omega | (simp only;omega)) (Can.sub (by simp[go_sem]) (by simp[go_sem]))
     ·have hj1:=odF hc;obtain rfl:j=a:=by omega
      exact zb zs ⟨m3,by have:=m4.done;rwa[Int.sub_add_cancel]at this⟩ (Can.sub (by simp[go_sem]) (by simp[go_sem]))
    ·rintro zs ⟨hz,hs⟩;have hzl:=hz.len;simp(config:={maxSteps:=2000000}) (disch:=omega) only [go_sem,qH,qO,qP,Int.reduceEq];apply qF<;>intro hc<;>simp only[hc,go_sem]
     ·simp(config:={maxSteps:=2000000}) (disch:=omega) only [go_sem,qH,qO,qP,Int.reduceEq];have hib3:=odT hc;refine Sem.loop (fun q:Int×List Int=>i'+1<=q.1/\q.1<=b/\RP a b q.2 xs/\SO a i' q.2) (fun q=>(⟨[(0,.slice 1 id 0 n false),(1,.int .i64 a),(2,.int .i64 b),(7,.int .i64 i'),(8,.int .i64 r),(10,.int .i64 q.1)],[],RW h id q.2⟩:VSt)) (fun q=>(b-q.1).toNat) (i'+1,zs) (by kernel_rfl) ⟨(by first | omega | (simp only;omega)),(by first | omega | (simp only;omega)),hz,hs⟩ (Can.sub (by simp[go_sem]) (by simp[go_sem])) ?_;rintro⟨j,us⟩ ⟨m1,m2,m3,m4⟩;simp only at m1 m2 m3 m4|-;have hul:=m3.len;simp only[go_sem];apply qF<;>intro hc<;>simp only[hc,go_sem]
      ·have hj1:=odT hc;simp(config:={maxSteps:=2000000}) (disch:=omega) only [go_sem,qH,qO,qP,Int.reduceEq];refine qS (z9 _ _) ?_;simp only[go_sem];apply qF<;>intro hc<;>simp only[hc,go_sem]
       ·simp(config:={maxSteps:=2000000}) (disch:=omega) only [go_sem,qH,qO,qP,Int.reduceEq];exact zw (r+1,i',us) ⟨(by first | omega | (simp only;omega)),(by first | omega | (simp only;omega)),(by first | omega | (simp only;omega)),(by first | omega | (simp only;omega)),m3,m4⟩ (by first | omega | (simp only;omega)) (Can.sub (by simp[go_sem]) (by simp[go_sem]))
       ·simp(config:={maxSteps:=2000000}) (disch:=omega) only [go_sem,qH,qO,qP,Int.reduceEq];refine qp hid (by omega) (by omega) ?_;simp(config:={maxSteps:=2000000}) (disch:=omega) only [go_sem,qH,qO,qP,Int.reduceEq];refine qp hid (by omega) (by rw[lLs];omega) ?_;simp(maxSteps:=2000000) (disch:=omega) only [go_sem,qH,qO,qP,Int.reduceEq];exact ql (j+1,swI us j (j-1)) ⟨(by first | omega | (simp only;omega)),(by first | omega | (simp only;omega)),m3.sw (by omega) (by omega) (by omega) (by omega),fun p q p1 pq q1=>by
           show gI (swI us j (j-1)) p<=gI (swI us j (j-1)) q;rw[zZ (by omega) (by omega) (by omega) (by omega) (by omega),zZ (by omega) (by omega) (by omega) (by omega) (by omega),if_neg (by omega),if_neg (by omega),if_neg (by omega),if_neg (by omega)];exact m4 p q p1 pq q1⟩ (by first | omega | (simp only;omega)) (Can.sub (by simp[go_sem]) (by simp[go_sem]))
      ·simp(config:={maxSteps:=2000000}) (disch:=omega) only [go_sem,qH,qO,qP,Int.reduceEq];exact zw (r+1,i',us) ⟨(by first | omega | (simp only;omega)),(by first | omega | (simp only;omega)),(by first | omega | (simp only;omega)),(by first | omega | (simp only;omega)),m3,m4⟩ (by first | omega | (simp only;omega)) (Can.sub (by simp[go_sem]) (by simp[go_sem]))
     ·simp(config:={maxSteps:=2000000}) (disch:=omega) only [go_sem,qH,qO,qP,Int.reduceEq];exact zw (r+1,i',zs) ⟨(by first | omega | (simp only;omega)),(by first | omega | (simp only;omega)),(by first | omega | (simp only;omega)),(by first | omega | (simp only;omega)),hz,hs⟩ (by first | omega | (simp only;omega)) (Can.sub (by simp[go_sem]) (by simp[go_sem]))
   ·have hia:=odF hc;simp(config:={maxSteps:=2000000}) (disch:=omega) only [go_sem,qH,qO,qP,Int.reduceEq];apply qF<;>intro hc<;>simp only[hc,go_sem]
    ·simp(config:={maxSteps:=2000000}) (disch:=omega) only [go_sem,qH,qO,qP,Int.reduceEq];have hib3:=odT hc;refine Sem.loop (fun q:Int×List Int=>i'+1<=q.1/\q.1<=b/\RP a b q.2 xs/\SO a i' q.2) (fun q=>(⟨[(0,.slice 1 id 0 n false),(1,.int .i64 a),(2,.int .i64 b),(7,.int .i64 i'),(8,.int .i64 r),(10,.int .i64 q.1)],[],RW h id q.2⟩:VSt)) (fun q=>(b-q.1).toNat) (i'+1,swI ys i' (i'-1)) (by kernel_rfl) ⟨(by first | omega | (simp only;omega)),(by first | omega | (simp only;omega)),hp2,SO.none (by omega)⟩ (Can.sub (by simp[go_sem]) (by simp[go_sem])) ?_;rintro⟨j,us⟩ ⟨m1,m2,m3,m4⟩;simp only at m1 m2 m3 m4|-;have hul:=m3.len;simp only[go_sem];apply qF<;>intro hc<;>simp only[hc,go_sem]
     ·have hj1:=odT hc;simp(config:={maxSteps:=2000000}) (disch:=omega) only [go_sem,qH,qO,qP,Int.reduceEq];refine qS (z9 _ _) ?_;simp only[go_sem];apply qF<;>intro hc<;>simp only[hc,go_sem]
      ·simp(config:={maxSteps:=2000000}) (disch:=omega) only [go_sem,qH,qO,qP,Int.reduceEq];exact zw (r+1,i',us) ⟨(by first | omega | (simp only;omega)),(by first | omega | (simp only;omega)),(by first | omega | (simp only;omega)),(by first | omega | (simp only;omega)),m3,m4⟩ (by first | omega | (simp only;omega)) (Can.sub (by simp[go_sem]) (by simp[go_sem]))
      ·simp(config:={maxSteps:=2000000}) (disch:=omega) only [go_sem,qH,qO,qP,Int.reduceEq];refine qp hid (by omega) (by omega) ?_;simp(config:={maxSteps:=2000000}) (disch:=omega) only [go_sem,qH,qO,qP,Int.reduceEq];refine qp hid (by omega) (by rw[lLs];omega) ?_;simp(maxSteps:=2000000) (disch:=omega) only [go_sem,qH,qO,qP,Int.reduceEq];exact ql (j+1,swI us j (j-1)) ⟨(by first | omega | (simp only;omega)),(by first | omega | (simp only;omega)),m3.sw (by omega) (by omega) (by omega) (by omega),fun p q p1 pq q1=>by
           show gI (swI us j (j-1)) p<=gI (swI us j (j-1)) q;rw[zZ (by omega) (by omega) (by omega) (by omega) (by omega),zZ (by omega) (by omega) (by omega) (by omega) (by omega),if_neg (by omega),if_neg (by omega),if_neg (by omega),if_neg (by omega)];exact m4 p q p1 pq q1⟩ (by first | omega | (simp only;omega)) (Can.sub (by simp[go_sem]) (by simp[go_sem]))
     ·simp(config:={maxSteps:=2000000}) (disch:=omega) only [go_sem,qH,qO,qP,Int.reduceEq];exact zw (r+1,i',us) ⟨(by first | omega | (simp only;omega)),(by first | omega | (simp only;omega)),(by first | omega | (simp only;omega)),(by first | omega | (simp only;omega)),m3,m4⟩ (by first | omega | (simp only;omega)) (Can.sub (by simp[go_sem]) (by simp[go_sem]))
    ·simp(config:={maxSteps:=2000000}) (disch:=omega) only [go_sem,qH,qO,qP,Int.reduceEq];exact zw (r+1,i',swI ys i' (i'-1)) ⟨(by first | omega | (simp only;omega)),(by first | omega | (simp only;omega)),(by first | omega | (simp only;omega)),(by first | omega | (simp only;omega)),hp2,SO.none (by first | omega | (simp only;omega))⟩ (by first | omega | (simp only;omega)) (Can.sub (by simp[go_sem]) (by simp[go_sem]))
  ·exact zb ys h5 (Can.sub (by simp[go_sem]) (by simp[go_sem]))
 ·intro ys hy;simp only[go_sem];exact hK _ _ hy (fun e=>absurd e (by decide))
def PS(id n:Nat)(s:qR)(a b lim:Int)(wb wp:Bool):Prop:=get s 0=some (.slice 1 id 0 n false)/\get s 1=some (.int .i64 a)/\get s 2=some (.int .i64 b)/\get s 3=some (.int .i64 lim)/\get s 8=some (.bool wb)/\get s 9=some (.bool wp)
def PQ(h:List qA)(id n:Nat)(xs:List Int)(A B a b:Int)(Q:qT->VSt->Prop):Prop:=∀(s:qR)(a' b' lim:Int)(wb wp:Bool)(ys:List Int)(ex:List qA),PS id n s a' b' lim wb wp->a<=a'->a'<=b'->b'<=b->b'-a'<b-a->RP A B ys xs->FN A B a' b' ys->Q .nrm ⟨s,[],RW (h++ex) id ys⟩
def PR(h:List qA)(id n:Nat)(a b:Int):Prop:=∀(ex:List qA)(ys:List Int)(a' b' lim:Int)(K:AV->List qA->Prop),ys.length=n->0<=a'->a'<=b'->b'<=n->b'-a'<b-a->PB a' b' ys->
 (∀(zs:List Int)(ex':List qA),RP a' b' zs ys->SO a' b' zs->K (.tup []) (RW (h++(ex++ex')) id zs))->SCall Gm 1053 [.slice 1 id 0 n false,.int .i64 a',.int .i64 b',.int .i64 lim] (RW (h++ex) id ys) K
section
variable {bb id n:Nat} {h ex:List qA} {xs ys:List Int} {s:qR} {A B a b lim:Int} {wb wp:Bool} {Q:qT->VSt->Prop}
theorem PR.mono{a' b':Int}(hr:PR h id n a b)(hl:b'-a'<=b-a):PR h id n a' b':=fun ex ys a2 b2 lim K h1 h2 h3 h4 h5 h6 h7=>hr ex ys a2 b2 lim K h1 h2 h3 h4 (by omega) h6 h7
theorem PB.sub{xs:List Int}{a b b':Int}(h:PB a b xs)(hl:b'<=b):PB a b' xs:=fun h0 k k1 k2=>h h0 k k1 (by omega)
theorem pd18{m:Int}(hm:MID a b m ys)(hp:PS id n s a b lim wb wp)(h10:get s 10=some (.int .i64 (b-a)))(h14:get s 14=some (.int .i64 m))(hl:n<=4194304)(hab:0<=a/\a<=m/\m<b/\b<=n)(hA:0<=A/\A<=a/\b<=B/\B<=n)(hb0:PB A B xs)(hy:RP A B ys xs)(hf:FN A B a b ys)(hyl:ys.length=n)
  (hr:PR h id n a b) (hq:PQ h id n xs A B a b Q):R ⟨Gm,bb,[],[]⟩ [.code Ql,.blk 1] ⟨s,[],RW (h++ex) id ys⟩ Q:=by
 obtain⟨p0,p1,p2,p3,p8,p9⟩:=hp;have hxl:=hy.len;have hb1:PB a b ys:=hb0.of hy hf hA.1 hA.2.1 hA.2.2.1 (by omega);simp(disch:=omega) only [go_sem,qH,Int.reduceEq,p0,p1,p2,p3,p8,p9,h10,h14];have ht:(b-a).tdiv 8=(b-a)/8:=Int.tdiv_eq_ediv_of_nonneg (by omega);simp(disch:=omega) only [ht,go_sem,qH,Int.reduceEq,p0,p1,p2,p3,p8,p9,h10,h14];apply qF<;>intro hc<;>simp only[hc,go_sem]
 ·simp(disch:=omega) only [go_sem,qH,Int.reduceEq,p0,p1,p2,p3,p8,p9,h10,h14];refine qM (hr ex ys a m lim _ hyl (by omega) (by omega) (by omega) (by omega) (hb1.sub (by omega)) fun zs ex' hz hs=> ?_);simp(disch:=omega) only [go_sem,qH,Int.reduceEq,p0,p1,p2,p3,p8,p9,h10,h14];exact hq _ (m+1) b lim (decide ((b-a)/8<=m-a)) wp zs _ (by simp[PS,go_sem,p0,p1,p2,p3,p8,p9]) (by omega) (by omega) (by omega) (by omega) ((hz.mono (by omega) (by omega)).trans hy) (hf.left hm hz hs hA.1 hA.2.1 (by omega) (by omega) hA.2.2.1 (by omega))
 ·simp(disch:=omega) only [go_sem,qH,Int.reduceEq,p0,p1,p2,p3,p8,p9,h10,h14];refine qM (hr ex ys (m+1) b lim _ hyl (by omega) (by omega) (by omega) (by omega) (fun _ k k1 k2=>by rw[Int.add_sub_cancel];exact hm.2 k (by omega) k2) fun zs ex' hz hs=> ?_);simp(disch:=omega) only [go_sem,qH,Int.reduceEq,p0,p1,p2,p3,p8,p9,h10,h14];exact hq _ a m lim (decide ((b-a)/8<=b-m)) wp zs _ (by simp[PS,go_sem,p0,p1,p2,p3,p8,p9]) (by omega) (by omega) (by omega) (by omega) ((hz.mono (by omega) (by omega)).trans hy) (hf.right hm hz hs hA.1 hA.2.1 (by omega) (by omega) hA.2.2.1 (by omega))
theorem pd19{p:Int}(hid:id<h.length)(hp:PS id n s a b lim wb wp)(h10:get s 10=some (.int .i64 (b-a)))(h11:get s 11=some (.int .i64 p))(hl:n<=4194304)(hab:0<=a/\a<=p/\p<b/\b<=n)(hA:0<=A/\A<=a/\b<=B/\B<=n)(hb0:PB A B xs)(hy:RP A B ys xs)(hf:FN A B a b ys)(hyl:ys.length=n)
  (hr:PR h id n a b) (hq:PQ h id n xs A B a b Q):R ⟨Gm,bb,[],[]⟩ [.code J1,.blk 1] ⟨s,[],RW (h++ex) id ys⟩ Q:=by
 obtain⟨p0,p1,p2,p3,p8,p9⟩:=hp;have hxl:=hy.len;have hb1:PB a b ys:=hb0.of hy hf hA.1 hA.2.1 hA.2.2.1 (by omega);have hid':id<(h++ex).length:=by rw[lAp];omega
 have h18:∀(s':qR)(m:Int)(r:Bool)(zs:List Int),PS id n s' a b lim wb r->get s' 10=some (.int .i64 (b-a))->get s' 14=some (.int .i64 m)->a<=m->m<b->RP a b zs ys->MID a b m zs->R ⟨Gm,bb,[],[]⟩ [.code Ql,.blk 1] ⟨s',[],RW (h++ex) id zs⟩ Q:=
  fun s' m r zs k1 k2 k3 k4 k5 k6 k7=>pd18 k7 k1 k2 k3 hl (by omega) hA hb0 ((k6.mono hA.2.1 hA.2.2.1).trans hy) (hf.rp k6 hA.1 hA.2.1 hA.2.2.1 (by omega)) (by rw[k6.len,hyl]) hr hq
 rw[qLT];revert h18;generalize Ql=k18;intro h18;have fin:∀s',get s' 0=some (.slice 1 id 0 n false)->get s' 1=some (.int .i64 a)->get s' 2=some (.int .i64 b)->get s' 3=some (.int .i64 lim)->get s' 8=some (.bool wb)->get s' 10=some (.int .i64 (b-a))->get s' 11=some (.int .i64 p)->
   R ⟨Gm,bb,[],[]⟩ (.ops Qm::.code (.seq (.reg true [.mk 0 (some 102) none (.mov (.t 15)) [],.mk 1 (some 9) none (.mov (.t 102)) []]) k18)::[.blk 1]) ⟨s',[],RW (h++ex) id ys⟩ Q:=by
  intro s' q0 q1 q2 q3 q8 q10 q11;rw[qLV];simp(disch:=omega) only [go_sem,q0,q1,q2,q11];refine qM (qRT (xs:=ys) hid' hyl hl (by omega) fun zs m r hz m1 m2 hm=> ?_);simp(disch:=omega) only [go_sem];exact h18 _ m r zs (by simp[PS,go_sem,q0,q1,q2,q3,q8]) (by simp[go_sem,q10]) (by simp[go_sem]) m1 m2 hz hm
 revert fin;generalize h11r:Qm=r11;intro fin;simp(disch:=omega) only [go_sem,qH,Int.reduceEq,p0,p1,p2,p3,p8,p9,h10,h11];apply qe<;>intro hc<;>simp only[hc,go_sem]
 ·have ha:=odT hc;simp(disch:=omega) only [go_sem,qH,qO,qP,p0,p1,p2,p3,p8,p9,h10,h11];refine qS (z9 _ _) ?_;simp only[go_sem];apply qF<;>intro hc<;>simp only[hc,go_sem]
  ·have hx:=odF (Eq.mp (bNt _) hc);have hall:∀k,a<=k->k<b->gI ys p<=gI ys k:=fun k k1 k2=>by have:=hb1 ha k k1 k2;omega
   simp(disch:=omega) only [go_sem,p0,p1,p2,p3,p8,p9,h10,h11];refine qM (qRS (xs:=ys) hid' hyl hl (by omega) fun zs m hz m1 m2 hz1 hz2=> ?_);simp only[go_sem];exact hq _ m b lim wb wp zs _ (by simp[PS,go_sem,p0,p1,p2,p3,p8,p9]) (by omega) (by omega) (by omega) (by omega) ((hz.mono hA.2.1 hA.2.2.1).trans hy) ((hf.rp hz hA.1 hA.2.1 hA.2.2.1 (by omega)).equal hz1 hz2 (hz.all (by omega) (by omega) (P:=fun v=>gI ys p<=v) hall) (by omega))
  ·refine fin _ ?_ ?_ ?_ ?_ ?_ ?_ ?_<;>simp[go_sem,p0,p1,p2,p3,p8,h10,h11]
 ·refine fin _ ?_ ?_ ?_ ?_ ?_ ?_ ?_<;>simp[go_sem,p0,p1,p2,p3,p8,h10,h11]
theorem pd20{p t:Int}(hid:id<h.length)(hp:PS id n s a b lim wb wp)(h10:get s 10=some (.int .i64 (b-a)))(h11:get s 11=some (.int .i64 p))(h12:get s 12=some (.int .i64 t))(hl:n<=4194304)(hab:0<=a/\a<=p/\p<b/\b<=n)(hA:0<=A/\A<=a/\b<=B/\B<=n)(hb0:PB A B xs)(hy:RP A B ys xs)(hf:FN A B a b ys)(hyl:ys.length=n)
  (hr:PR h id n a b) (hq:PQ h id n xs A B a b Q) (hret:∀(s':qR)(zs:List Int)(ex':List qA),RP A B zs xs->SO A B zs->Q .ret ⟨s',[],RW (h++ex') id zs⟩):R ⟨Gm,bb,[],[]⟩ [.code JT,.blk 1] ⟨s,[],RW (h++ex) id ys⟩ Q:=by
 obtain⟨p0,p1,p2,p3,p8,p9⟩:=hp;have hxl:=hy.len;have hid':id<(h++ex).length:=by rw[lAp];omega
 have h19:∀(s':qR)(q:Int)(zs:List Int),PS id n s' a b lim wb wp->get s' 10=some (.int .i64 (b-a))->get s' 11=some (.int .i64 q)->a<=q->q<b->RP A B zs xs->FN A B a b zs->R ⟨Gm,bb,[],[]⟩ [.code J1,.blk 1] ⟨s',[],RW (h++ex) id zs⟩ Q:=
  fun s' q zs k1 k2 k3 k4 k5 k6 k7=>pd19 hid k1 k2 k3 hl (by omega) hA hb0 k6 k7 (by rw[k6.len,<-hy.len,hyl]) hr hq
 rw[qLU];revert h19;generalize J1=k19;intro h19;have fin:∀s' q t' zs,RP A B zs xs->FN A B a b zs->get s' 0=some (.slice 1 id 0 n false)->get s' 1=some (.int .i64 a)->get s' 2=some (.int .i64 b)->get s' 3=some (.int .i64 lim)->get s' 8=some (.bool wb)->get s' 9=some (.bool wp)->get s' 10=some (.int .i64 (b-a))->get s' 11=some (.int .i64 q)->get s' 12=some (.int .i64 t')->a<=q->q<b->
   R ⟨Gm,bb,[],[]⟩ (.ops Qo::.code (.cond (.t 68) (.seq (.reg true XH) (.cond (.t 72) (.ret) (.skip))) (.skip))::.code k19::[.blk 1]) ⟨s',[],RW (h++ex) id zs⟩ Q:=by
  intro s' q t' zs hz hzf q0 q1 q2 q3 q8 q9 q10 q11 q12 q13 q14;have hzl:zs.length=n:=by rw[hz.len,<-hy.len,hyl]
  have hb1:PB a b zs:=hb0.of hz hzf hA.1 hA.2.1 hA.2.2.1 (by omega);have go:∀s2:qR,(∀k,k<=12->get s2 k=get s' k)->R ⟨Gm,bb,[],[]⟩ [.code k19,.blk 1] ⟨s2,[],RW (h++ex) id zs⟩ Q:=fun s2 hs=>h19 _ q zs (by simp[PS,hs,q0,q1,q2,q3,q8,q9]) (by rw[hs _ (by omega),q10]) (by rw[hs _ (by omega),q11]) q13 q14 hz hzf;have gk:∀(s2:qR)(j:Nat)(v:AV),12<j->(∀k,k<=12->get s2 k=get s' k)->∀k,k<=12->get ((j,v)::s2) k=get s' k:=fun s2 j v hj hs k hk=>by
   simp only[get];rw[if_neg (by omega)];exact hs k hk
  rw[qLX];simp(disch:=omega) only [go_sem,q0,q1,q2,q8,q9,q11,q12];have g0:∀k,k<=12->get s' k=get s' k:=fun _ _=>rfl;cases wb
  ·simp(disch:=omega) only [go_sem,q0,q1,q2,q8,q9,q11,q12];refine go _ ?_
   repeat' (first | exact g0 | refine gk _ _ _ (by omega) ?_)
  ·cases wp
   ·simp(disch:=omega) only [go_sem,q0,q1,q2,q8,q9,q11,q12];refine go _ ?_
    repeat' (first | exact g0 | refine gk _ _ _ (by omega) ?_)
   ·simp(disch:=omega) only [go_sem,q0,q1,q2,q8,q9,q11,q12];apply qF<;>intro hc<;>simp only[hc,go_sem]
    ·simp(disch:=omega) only [go_sem,q0,q1,q2,q8,q9,q11,q12];refine qM (qRR (xs:=zs) hid' hzl hl (by omega) hb1 fun us r hu hus=> ?_);simp only[go_sem];apply qF<;>intro hc<;>simp only[hc,go_sem]
     ·exact hret _ _ _ ((hu.mono hA.2.1 hA.2.2.1).trans hz) ((hzf.rp hu hA.1 hA.2.1 hA.2.2.1 (by omega)).done (hus (by simpa using hc)))
     ·refine h19 _ q us ?_ ?_ ?_ q13 q14 ((hu.mono hA.2.1 hA.2.2.1).trans hz) (hzf.rp hu hA.1 hA.2.1 hA.2.2.1 (by omega))
      ·simp[PS,go_sem,q0,q1,q2,q3,q8,q9]
      ·simp[go_sem,q10]
      ·simp[go_sem,q11]
    ·refine go _ ?_
     repeat' (first | exact g0 | refine gk _ _ _ (by omega) ?_)
 revert fin;generalize Qo=r7;intro fin;simp(disch:=omega) only [go_sem,qH,Int.reduceEq,p0,p1,p2,p3,p8,p9,h10,h11,h12];apply qF<;>intro hc<;>simp only[hc,go_sem]
 ·simp(disch:=omega) only [go_sem,p0,p1,p2,p3,p8,p9,h10,h11,h12];refine qM (qRQ (xs:=ys) hid' hyl hl (by omega) fun zs hz=> ?_);simp(disch:=omega) only [go_sem,qH,p0,p1,p2,p3,p8,p9,h10,h11,h12];refine fin _ (b-1-(p-a)) 1 zs ((hz.mono hA.2.1 hA.2.2.1).trans hy) (hf.rp hz hA.1 hA.2.1 hA.2.2.1 (by omega)) ?_ ?_ ?_ ?_ ?_ ?_ ?_ ?_ ?_ (by omega) (by omega)<;>simp[go_sem,p0,p1,p2,p3,p8,p9,h10,h11,h12]
 ·refine fin _ p t ys hy hf ?_ ?_ ?_ ?_ ?_ ?_ ?_ ?_ ?_ (by omega) (by omega)<;>simp[go_sem,p0,p1,p2,p3,p8,p9,h10,h11,h12]
end
theorem qRI(N:Nat):∀{h:List qA}{id n:Nat}{xs:List Int}{a b lim:Int}{K:AV->List qA->Prop},id<h.length->xs.length=n->n<=4194304->0<=a->a<=b->b<=n->(b-a).toNat=N->PB a b xs->
  (∀(ys:List Int)(ex:List qA),RP a b ys xs->SO a b ys->K (.tup []) (RW (h++ex) id ys))->SCall Gm 1053 [.slice 1 id 0 n false,.int .i64 a,.int .i64 b,.int .i64 lim] (RW h id xs) K:=by
 induction N using Nat.strongRecOn with
 | _ N ih=>
 intro h id n xs a b lim K hid hn hl ha hab hb hN hB hK;have hr:PR h id n a b:=fun ex ys a' b' lim' K' h1 h2 h3 h4 h5 h5' h6=>
  ih (b'-a').toNat (by omega) (by rw[lAp];omega) h1 hl h2 h3 h4 rfl h5' fun zs ex' hz hs=>by rw[lAa];exact h6 zs ex' hz hs
 refine sI XG ?_;simp only[XG,qQ,go_sem];refine Sem.loop (fun q:Int×Int×Int×Bool×Bool×List Int×List qA=>a<=q.1/\q.1<=q.2.1/\q.2.1<=b/\RP a b q.2.2.2.2.2.1 xs/\FN a b q.1 q.2.1 q.2.2.2.2.2.1)
  (fun q=>(⟨[(0,.slice 1 id 0 n false),(1,.int .i64 q.1),(2,.int .i64 q.2.1),(3,.int .i64 q.2.2.1),(8,.bool q.2.2.2.1),(9,.bool q.2.2.2.2.1)],[],RW (h++q.2.2.2.2.2.2) id q.2.2.2.2.2.1⟩:VSt)) (fun q=>(q.2.1-q.1).toNat) (a,b,lim,true,true,xs,[]) (by kernel_rfl) ⟨(by first | omega | (simp only;omega)),(by first | omega | (simp only;omega)),(by first | omega | (simp only;omega)),.refl _,FN.start⟩ (by simp only[lAn];exact Can.sub (by simp[go_sem]) (by simp[go_sem])) ?_
 rintro⟨a',b',lim',wb,wp,ys,ex⟩ ⟨h1,h2,h3,h4,h5⟩;simp only at h1 h2 h3 h4 h5|-;have hyl:ys.length=n:=by rw[h4.len,hn]
 have hid':id<(h++ex).length:=by rw[lAp];omega
 have hr':PR h id n a' b':=hr.mono (by omega);generalize hQ:wy _ _ _ _ _ _ _=Q;have hq:PQ h id n xs a b a' b' Q:=by
  intro s a2 b2 lim2 wb2 wp2 zs ex2 hp g1 g2 g3 g4 g5 g6;subst hQ;obtain⟨p0,p1,p2,p3,p8,p9⟩:=hp;exact ql (a2,b2,lim2,wb2,wp2,zs,ex2) ⟨by first | omega | (simp only;omega),by first | omega | (simp only;omega),by first | omega | (simp only;omega),g5,g6⟩ (by first | omega | (simp only;omega)) (Can.sub (by simp[go_sem,p0,p1,p2,p3,p8,p9]) (by simp[go_sem]))
 have hret:∀(s':qR)(zs:List Int)(ex':List qA),RP a b zs xs->SO a b zs->Q .ret ⟨s',[],RW (h++ex') id zs⟩:=by
  intro s' zs ex' hz hs;subst hQ;simp only[go_sem];exact hK _ _ hz hs
 clear hQ;have h20:∀(s':qR)(p t l2:Int)(zs:List Int)(ex':List qA),PS id n s' a' b' l2 wb wp->get s' 10=some (.int .i64 (b'-a'))->get s' 11=some (.int .i64 p)->get s' 12=some (.int .i64 t)->a'<=p->p<b'->RP a b zs xs->FN a b a' b' zs->
   R ⟨Gm,(RW h id xs).length,[],[]⟩ [.code JT,.blk 1] ⟨s',[],RW (h++ex') id zs⟩ Q:=
  fun s' p t l2 zs ex' k1 k2 k3 k4 k5 k6 k7 k8=>pd20 hid k1 k2 k3 k4 hl (by omega) ⟨ha,h1,h3,hb⟩ hB k7 k8 (by rw[k7.len,hn]) hr' hq hret
 simp(config:={maxSteps:=2000000}) (disch:=omega) only [go_sem,qH,qO,qP,Int.reduceEq];apply qF<;>intro hc<;>simp only[hc,go_sem]
 ·refine qM (qRM (xs:=ys) hid' hyl hl (by omega) fun zs hz hs=> ?_);simp only[go_sem];exact hret _ _ _ ((hz.mono h1 h3).trans h4) ((h5.rp hz ha h1 h3 (by omega)).done hs)
 have h12:=odF hc;apply qF<;>intro hc<;>simp only[hc,go_sem]
 ·refine qM (qRN (xs:=ys) hid' hyl hl (by omega) fun zs hz hs=> ?_);simp only[go_sem];exact hret _ _ _ ((hz.mono h1 h3).trans h4) ((h5.rp hz ha h1 h3 (by omega)).done hs)
 have call:∀(s':qR)(l2:Int)(zs:List Int)(ex':List qA),PS id n s' a' b' l2 wb wp->get s' 10=some (.int .i64 (b'-a'))->RP a b zs xs->FN a b a' b' zs->
   R ⟨Gm,(RW h id xs).length,[],[]⟩ [.ops Qn,.code JT,.blk 1] ⟨s',[],RW (h++ex') id zs⟩ Q:=by
  intro s' l2 zs ex' ⟨p0,p1,p2,p3,p8,p9⟩ k2 k3 k4;have hid2:id<(h++ex').length:=by rw[lAp];omega
  rw[qLW];revert h20;generalize JT=k20;intro h20;simp(disch:=omega) only [go_sem,p0,p1,p2,p3,p8,p9];refine qM (qRP (xs:=zs) hid2 (by rw[k3.len,hn]) hl (by omega) fun p t y hp=> ?_);simp only[go_sem];rw[lAa];refine h20 _ p t l2 zs _ ?_ ?_ ?_ ?_ hp.1 hp.2 k3 k4<;>simp[PS,go_sem,p0,p1,p2,p3,p8,p9,k2]
 revert call;generalize Qn=r4;intro call;cases wb
 ·simp only[go_sem];refine qM (qRO (xs:=ys) hid' hyl hl (by omega) fun zs y hz=> ?_);simp only[go_sem];rw[lAa];refine call _ (IntKind.i64.wrap (lim'-1)) zs _ ?_ ?_ ((hz.mono h1 h3).trans h4) (h5.rp hz ha h1 h3 (by omega))<;>simp[PS,go_sem]
 ·simp only[go_sem];refine call _ lim' ys _ ?_ ?_ h4 h5<;>simp[PS,go_sem]
theorem s678{h:List qA}{id n:Nat}{xs:List Int}{K:AV->List qA->Prop}(ho:h[id]?=some (.row 1 (xs.map qG) true))(hn:xs.length=n)(hl:n<=4194304)
  (hK:∀(ys:List Int)(ex:List qA),ys.Perm xs->SO 0 n ys->K (.tup []) (h.set id (.row 1 (ys.map qG) true)++ex)):SCall Gm 678 [.slice 1 id 0 n false] h K:=by
 have hid:id<h.length:=(gSi.1 ho).1;refine sI YH ?_;simp only[YH,qQ,go_sem];simp(disch:=omega) only [Qj,go_sem];refine qS (qHF (by omega)) ?_;simp only[go_sem];rw[<-qL8 ho];refine qM (qRI _ hid hn hl (by omega) (by omega) (by omega) rfl (fun h0=>absurd h0 (by decide)) fun ys ex hy hs=> ?_);simp only[go_sem];rw[<-YX hid];exact hK ys ex (hy.perm (by decide) (by omega)) hs
theorem qJW{x:qC}(h:zW x=true):(x.Ports.length:Int)=jf x.Kind (fieldsOf x)/\0<x.Ports.length:=by
 unfold zW at h;simp only[bAt,dTe]at h;omega
theorem Va{x:qC}(h:zW x=true):x.Ports.length<=4:=by
 have h1:=(qJW h).1;have:jf x.Kind (fieldsOf x)<=4:=by
  unfold jf;split
  ·split
   ·rename_i q;rw[wu]at q;omega
   ·omega
  ·split
   ·omega
   ·repeat' split
    all_goals omega
 omega
theorem qP3{x:qC}(h:zW x=true):jv x=true:=by unfold zW at h;simp only[bAt]at h;exact h.2
theorem qNO{x:qC}(h:zW x=true):x.Data.length<=4:=by
 have:=qP3 h;unfold jv at this;simp only[bAt,dTe,inI]at this
 repeat' split at this
 all_goals (simp only[bAt,dTe]at this;omega)
theorem qJX{x:qC}(h:zW x=true):x.sz<=8:=by
 have:=qNO h;have:=Va h;unfold qC.sz;omega
theorem qLE{α:Type}{f:α->Nat}{k:Nat}:∀{xs:List α},(∀x∈xs,f x<=k)->zC f xs<=k*xs.length
 |[],_=>nZl _
 | x::xs,h=>by
  have h1:=h x (by simp);have h2:=qLE (xs:=xs) fun y hy=>h y (by simp[hy]);simp only[zC,lCo,Nat.mul_add];omega
theorem QV{n:qI}(h:qo n=true):n.sz<=5400:=by
 have h1:=Jg h;have h2:=qLE (f:=qC.sz) (k:=8) fun x hx=>qJX (Ya (VT h) x hx);unfold qI.sz;omega
theorem qJH{z:AV}{ks:List Nat}{v:Nat->AV}{n:Nat}(h:n∈ks):lku z false (kI n) (ks.map fun k=>(kI k,v k))=some (v n):=by
 obtain⟨j,e⟩:=qIU (v:=v) (i:=0) h;unfold lku;rw[e];rfl
theorem qPF{z:AV}{ks:List Nat}{v:Nat->AV}{n:Nat}(h:n∉ks):lku z false (kI n) (ks.map fun k=>(kI k,v k))=some z:=by
 unfold lku;rw[WE (v:=v) (i:=0) h];rfl
def Jp(ks:List Nat):List (AV×AV):=ks.map fun k=>(kI k,.bool true)
theorem wS{id n i:Nat}(h:i<n):idx 1 (some (.slice 1 id 0 n false)) (some (.int .i64 (i:Nat)))=some (.ptr id i 0):=by simp[idx,inI];omega
theorem qJR{L:List Nat}{n:Nat}(hd:L.Nodup)(h:∀k∈L,k<n):L.length<=n:=by
 have:=List.Nodup.length_le_of_subset hd (l₂:=List.range n) fun k hk=>lMr.2 (h k hk);simpa using this
structure TV(N:Ags)(s:Nat)(L:List Nat):Prop where
 nd:L.Nodup
 r:∀k∈L,Rch N s k
 s:s∈L
theorem TV.push{N:Ags}{s a b:Nat}{L:List Nat}(h:TV N s L)(ha:a∈L)(hn:nb N a b)(hb:b∉L):TV N s (L++[b]):=
 ⟨List.nodup_append.2 ⟨h.nd,by simp,fun x hx y hy e=>by simp at hy;subst hy;subst e;exact hb hx⟩,fun k hk=>by
  rcases zM.1 hk with q | q
  ·exact h.r k q
  ·simp at q;subst q;exact(h.r a ha).step hn,by simp[h.s]⟩
theorem TV.done{N:Ags}{s:Nat}{L:List Nat}(h:TV N s L)(hc:∀a∈L,∀b,nb N a b->b∈L):TRV N s L:=
 ⟨h.nd,fun k=>⟨h.r k,fun hr=>hr (fun x=>x∈L) h.s fun a b ha hn=>hc a ha b hn⟩⟩
section
variable {n:qI} {h:List qA} {K:AV->List qA->Prop} {s:Nat}
theorem V2(ok:qo n=true)(hs:s<n.Agents.length)(hK:∀L id h',TRV n.Agents s L->qv (Lo h.length) h h'->h.length<=id->h'[id]?=some (.row 1 (L.map kI) true)->K (.slice 1 id 0 L.length false) h'):
  SCall Gm 323 [.ept n.enc 0,.int .i64 (s:Nat)] h K:=by
 have hw:=Jh ok;have hl:=Jg ok;refine sI X6 ?_;simp only[X6,qQ,go_sem];refine VS (es:=[]) (by simp) rfl ?_;have e0:∀a b o:qA,((h++[a])++[b]).set (h++[a]).length o=h++[a,o]:=fun a b o=>by rw[lSr _ _ (nLr _),nSs];simp
 rw[e0];simp only[go_sem];refine Sem.loop (α:=Nat×List Nat×Nat×List qA) (fun q=>q.1<=q.2.1.length/\TV n.Agents s q.2.1/\(∀j,j<q.1->∀a,q.2.1[j]?=some a->∀b,nb n.Agents a b->b∈q.2.1)/\qv (Lo h.length) h q.2.2.2/\h.length<=q.2.2.1/\q.2.2.2[q.2.2.1]?=some (.row 1 (q.2.1.map kI) true)/\q.2.2.2[h.length+1]?=some (.map (Jp q.2.1)))
  (fun q=>(⟨[(0,.ept n.enc 0),(5,.slice 1 q.2.2.1 0 q.2.1.length false),(6,.map (h.length+1)),(7,.int .i64 (q.1:Nat))],[],q.2.2.2⟩:VSt)) (fun q=>n.Agents.length-q.1) (0,[s],h.length,_) (by kernel_rfl)
  ⟨nZl _,⟨by simp,fun k hk=>by simp at hk;subst hk;exact Rch.refl,by simp⟩,fun j hj=>absurd hj (Nat.not_lt_zero _), ?_,nLr _, ?_, ?_⟩ (Can.sub (by simp[go_sem]) (by simp[go_sem])) ?_
 ·exact qv.app fun _ q=>q
 ·simp;rfl
 ·rw[gAr (by simp)];simp;rfl
 rintro⟨i,L,id,g⟩ ⟨hi,tv,hc1,hk,hid,hr,hm⟩;simp only at hi tv hc1 hk hid hr hm;have hin:∀k∈L,k<n.Agents.length:=fun k hk=>(tv.r k hk).lt hw hs;have hLl:=qJR tv.nd hin;simp only[go_sem];apply qF<;>intro hc<;>simp only[hc,go_sem]
 ·have hlt:i<L.length:=by have:=odT hc;omega
  clear hc;have hx:(L.map kI)[i]?=some (.int .i64 ((L[i]:Nat):Int)):=by rw[gMp,gEg hlt];rfl
  have ha:=hin _ (gMm hlt);simp only[wS hlt,hr,hx,gMp,gEg ha,oMs,go_sem];refine Sem.loop (α:=Nat×List Nat×Nat×List qA) (fun q=>q.1<=n.Agents[L[i]].Ports.length/\TV n.Agents s q.2.1/\L<+:q.2.1/\(∀j,j<q.1->∀p,n.Agents[L[i]].Ports[j]?=some p->p.Agent.toNat∈q.2.1)/\qv (Lo h.length) h q.2.2.2/\h.length<=q.2.2.1/\q.2.2.2[q.2.2.1]?=some (.row 1 (q.2.1.map kI) true)/\q.2.2.2[h.length+1]?=some (.map (Jp q.2.1)))
   (fun q=>(⟨[(0,.ept n.enc 0),(5,.slice 1 q.2.2.1 0 q.2.1.length false),(6,.map (h.length+1)),(7,.int .i64 (i:Nat)),(31,.lst 2 (n.Agents[L[i]].Ports.map qE.enc) false),(32,.int .i64 (n.Agents[L[i]].Ports.length:Nat)),(33,.int .i64 (q.1:Nat))],[],q.2.2.2⟩:VSt)) (fun q=>n.Agents[L[i]].Ports.length-q.1) (0,L,id,g) (by kernel_rfl)
   ⟨nZl _,tv,List.prefix_refl _,fun j hj=>absurd hj (Nat.not_lt_zero _),hk,hid,hr,hm⟩ (Can.sub (by simp[go_sem]) (by simp[go_sem])) ?_
  rintro⟨p,M,jd,f⟩ ⟨hp,tw,hpre,hq,jk,hjd,jr,jm⟩;simp only at hp tw hpre hq jk hjd jr jm;simp only[go_sem];apply qF<;>intro hc<;>simp only[hc,go_sem]
  ·have hpl:p<n.Agents[L[i]].Ports.length:=by have:=odT hc;omega
   clear hc;simp only[gMp,gEg hpl,oMs,go_sem];refine jR (k:=2) (by rfl) (by rfl) (by exact⟨_,rfl⟩) (by decide) ?_;have hat:atP n.Agents L[i] p=some n.Agents[L[i]].Ports[p]:=z8.2 ⟨_,gEg ha,gEg hpl⟩;obtain⟨b,t,eb,_⟩:=hw _ _ _ hat fun x=>x;rw[eb]at hat;have hab:nb n.Agents L[i] b:=⟨_,_,hat⟩;have hbl:=Wc (ZN hw hab);have haM:L[i]∈M:=hpre.subset (gMm hlt);rw[eb];simp only[go_sem,qJG jm];have hp4:=Va (Wm ok (gEg ha));have hb0:∀j,j<p+1->∀q,n.Agents[L[i]].Ports[j]?=some q->(∀j,j<p->∀q,n.Agents[L[i]].Ports[j]?=some q->q.Agent.toNat∈M++[b])->q.Agent.toNat∈M++[b]:=fun j hj q e hh=>by
    by_cases ej:j=p
    ·subst ej;rw[gEg hpl,eb]at e;cases e;simp
    ·exact hh j (by omega) q e
   by_cases hb:b∈M
   ·have hMb:∀x,x∈M++[b]->x∈M:=fun x hx=>by
     rcases zM.1 hx with q | q
     ·exact q
     ·simp at q;subst q;exact hb
    have:=qJH (z:=.bool false) (v:=fun _=>.bool true) hb;unfold Jp kI at*;simp only[this,go_sem];simp only[zJ (show p<4611686018427387904 by omega)];refine ql (p+1,M,jd,f) ⟨hpl,tw,hpre, ?_,jk,hjd,jr,jm⟩ (by simp only;omega) (Can.sub (by simp[go_sem]) (by simp[go_sem]));exact fun j hj q e=>hMb _ (hb0 j hj q e fun j hj q e=>List.mem_append_left _ (hq j hj q e))
   ·have:=qPF (z:=.bool false) (v:=fun _=>.bool true) hb;have hf:zO (kI b) (Jp M) 0=some none:=WE (v:=fun _=>.bool true) hb;unfold Jp kI at*;simp only[this,go_sem];refine VS jm hf ?_;have hid3:jd≠h.length+1:=fun e=>by rw[e,jm]at jr;cases jr
    have hMl:=qJR tw.nd fun k hk=>(tw.r k hk).lt hw hs;obtain⟨f2,e2⟩:∃f2,f2=f.set (h.length+1) (qA.map ((M.map fun k=>(AV.int .i64 (k:Nat),AV.bool true))++[(.int .i64 (b:Nat),.bool true)])):=⟨_,rfl⟩;have r2:f2[jd]?=some (.row 1 (M.map kI) true):=by rw[e2,gSn (Ne.symm hid3)];exact jr
    have m2:f2[h.length+1]?=some (.map (Jp (M++[b]))):=by rw[e2,gSs (qJ jm)];simp[Jp,kI]
    have k2:qv (Lo h.length) h f2:=by rw[e2];exact jk.trans (qv.set (by simp))
    rw[<-e2];simp only[go_sem];obtain⟨q1,q2⟩:=wV (tmp:=.row 1 [.int .i64 (b:Nat)] true) r2;refine jt q2 q1 (by simp) (by omega) ?_;simp only[lAp,nZa,go_sem];simp only[zJ (show p<4611686018427387904 by omega)];obtain⟨w1,w2⟩:=qP9 (x:=.int .i64 (b:Nat)) (tmp:=.row 1 [.int .i64 (b:Nat)] true) k2 (fun _ q=>q) (Nat.not_lt.2 hjd) r2;have eM:M.map kI++[.int .i64 (b:Nat)]=(M++[b]).map kI:=by simp[kI]
    have hlm:h.length+1<f2.length:=qJ m2;rw[eM]at w1 w2;rw[eM];refine ql (p+1,M++[b],f2.length+1,_) ⟨hpl,tw.push haM hab hb,hpre.trans (List.prefix_append _ _),fun j hj q e=>hb0 j hj q e fun j hj q e=>List.mem_append_left _ (hq j hj q e),w1,by have:=k2.l;simp only;omega,w2, ?_⟩ (by simp only;omega) (Can.sub (by simp[go_sem]) (by simp[go_sem]));rw[gAl (by simp;omega),gSn (by omega),gAl hlm];exact m2
  ·have hpl:p=n.Agents[L[i]].Ports.length:=by have:=odF hc;omega
   clear hc;have hil:i<M.length:=Nat.lt_of_lt_of_le hlt hpre.length_le;simp only[zJ (show i<4611686018427387904 by omega)];refine ql (i+1,M,jd,f) ⟨hil,tw, ?_,jk,hjd,jr,jm⟩ (by simp only;omega) (Can.sub (by simp[go_sem]) (by simp[go_sem]));intro j hj a e b hn;have eL:∀u,u<L.length->M[u]?=L[u]?:=fun u hu=>by obtain⟨R,eR⟩:=hpre;rw[<-eR,gAl hu]
   by_cases ej:j=i
   ·subst ej;rw[eL j hlt,gEg hlt]at e;cases e;obtain⟨s',t',e⟩:=hn;obtain⟨x,hx,e⟩:=z8.1 e;rw[gEg ha]at hx;cases hx;have:=hq s' (by have:=qJ e;omega) _ e;simpa using this
   ·rw[eL j (by omega)]at e;exact hpre.subset (hc1 j (by omega) a e b hn)
 ·have hlt:i=L.length:=by have:=odF hc;omega
  clear hc;subst hlt;refine hK L id g (tv.done fun a ha b hn=> ?_) hk hid hr;obtain⟨j,hj,e⟩:=List.getElem_of_mem ha;exact hc1 j hj a (by rw[gEg hj,e]) b hn
end
theorem ZF{L:List Nat}:L.map kI=(nI L).map qG:=by simp[nI,kI,qG]
def encN(L:List Nat):AV:=.lst 1 ((nI L).map qG) false
theorem qO1(xs:List Int):(∀n,qN (xs.map qG) n=(xs.map qG,[]))/\AV.pls (xs.map qG)=true/\AV.trees (xs.map qG)=true:=by
 have h2:∀ys:List Int,AV.pls (ys.map qG)=true:=fun ys=>by
  induction ys with
  | nil=>rfl
  | cons y ys ih=>simp only[lMc,AV.pls,ih,Bool.and_true];rfl
 have h3:∀ys:List Int,∀n,qN (ys.map qG) n=(ys.map qG,[]):=fun ys=>by
  induction ys with
  | nil=>intro n;rfl
  | cons y ys ih=>intro n;simp only[lMc,qN,ih,lay,qG];rfl
 exact⟨h3 xs,h2 xs,qx shI.tree _⟩
theorem qQA{h:List qA}{id:Nat}{L:List Nat}(hr:h[id]?=some (.row 1 (L.map kI) true)):zK [some id] h (.slice 1 id 0 L.length false) (encN L):=by
 obtain⟨f1,f2,f3⟩:=qO1 (nI L);have:=(Vh (h:=h) f1 f2 f3).row (w:=1) (by rw[<-ZF];exact hr) (by simp);rw[lMp,wK]at this;exact this
theorem encN.tree{L:List Nat}:(encN L).tree=true:=by simp[encN,AV.tree,qx shI.tree]
section
variable {n:qI} {h:List qA} {K:AV->List qA->Prop} {s:Nat}
theorem qLK(ok:qo n=true)(hs:s<n.Agents.length){L:List Nat}{id:Nat}{g:List qA}(tv:TRV n.Agents s L)(hr:g[id]?=some (.row 1 (L.map kI) true))
  (hK:∀ex,K (.tup []) (g.set id (.row 1 ((qU n.Agents s).map kI) true)++ex)):SCall Gm 678 [.slice 1 id 0 L.length false] g K:=by
 have hw:=Jh ok;have hl:=Jg ok;have hc:=(tv.perm hw hs).length_eq;have hcl:(qU n.Agents s).length<=n.Agents.length:=J9;rw[ZF]at hr;refine s678 (xs:=nI L) hr wK (by omega) fun ys ex hp ho=> ?_;rw[tv.sorted hw hs hp ho rfl,<-ZF];exact hK ex
theorem s321(ok:qo n=true)(hK:∀id h',qv (Lo h.length) h h'->h.length<=id->h'[id]?=some (.row 1 ((qU n.Agents 0).map kI) true)->K (.slice 1 id 0 (qU n.Agents 0).length false) h'):
  SCall Gm 321 [.ept n.enc 0] h K:=by
 have hw:=Jh ok;have h0:=We ok;refine sI X4 ?_;simp only[X4,qQ,go_sem];refine qM (V2 (s:=0) ok h0 fun L id g tv hk hid hr=> ?_);simp only[go_sem];refine qM (qLK ok h0 tv hr fun ex=> ?_);simp only[go_sem];rw[(tv.perm hw h0).length_eq];refine hK id _ ((hk.trans (qv.set (Nat.not_lt.2 hid))).trans (qv.app fun j hj=>by have:=hk.l;simp;omega)) hid ?_;rw[gAl (by simp;exact qJ hr),gSs (qJ hr)]
theorem c322{k:Int}:Pure Gm 322 [.ept n.enc 0,.int .i64 k] (.bool (decide (0<=k)&&decide (k<n.Agents.length))):=by
 refine pI X5 (by simp[AV.trees,AV.tree,go_sem]) rfl ?_;simp only[X5,qQ,go_sem]
 repeat' (first | (first | (apply qe<;>intro hc<;>simp only[hc,go_sem]) | (apply qF<;>intro hc<;>simp only[hc,go_sem])) | refine qV rfl ?_)
 all_goals (simp_all)
open Classical in
noncomputable def dnL(N:Ags)(i:Nat)(L:List Nat):List AV:=(List.range N.length).map fun k=>.bool (decide ((∃j,j<i/\Rch N j k)\/k∈L))
theorem qIA{N:Ags}{i k:Nat}{L:List Nat}(hk:k<N.length):∃b,(dnL N i L)[k]?=some (.bool b)/\(b=true↔(∃j,j<i/\Rch N j k)\/k∈L):=by
 unfold dnL;rw[gMp,List.getElem?_range hk];exact⟨_,rfl,by simp⟩
theorem qN2{N:Ags}{i k:Nat}{L:List Nat}(hk:k<N.length):(dnL N i L).set k (.bool true)=dnL N i (L++[k]):=by
 refine List.ext_getElem? fun m=> ?_;rw[gSt];unfold dnL;by_cases hm:m<N.length
 ·rw[gMp,gMp,List.getElem?_range hm];by_cases e:k=m
  ·subst e;simp[hm]
  ·have:(m=k)=False:=by simp;omega
   simp[e,this]
 ·rw[gEn (by simp;omega),gEn (by simp;omega)];split<;>simp;omega
theorem qIB{N:Ags}{i:Nat}{L:List Nat}(h:∀k,k<N.length->((∃j,j<i/\Rch N j k)\/k∈L↔∃j,j<i+1/\Rch N j k)):dnL N i L=dnL N (i+1) []:=by
 unfold dnL;refine List.map_congr_left fun k hk=> ?_;congr 1;rw[decide_eq_decide,h k (lMr.1 hk)];simp
theorem qN3{N:Ags}:dnL N 0 []=List.replicate N.length (.bool false):=by
 refine List.ext_getElem? fun m=> ?_;unfold dnL;by_cases hm:m<N.length
 ·rw[gMp,List.getElem?_range hm,List.getElem?_replicate,if_pos hm];simp
 ·rw[gEn (by simp;omega),gEn (by simp;omega)]
noncomputable def partsE(N:Ags):AV:=.lst 1 ((qq N N.length).map encN) false
end
section
variable {n:qI} {h:List qA} {K:AV->List qA->Prop} {s:Nat}
theorem partsE.tree{N:Ags}:(partsE N).tree=true:=by
 unfold partsE;simp only[AV.tree];generalize qq N N.length=ls
 induction ls with
 | nil=>rfl
 | cons l ls ih=>simp only[lMc,AV.trees,encN.tree,ih];rfl
theorem qQK{N:Ags}(hl:0<N.length):(partsE N).cn=true:=by
 have hk:∀l∈qq N N.length,0<l.length:=fun l hl=>by
  obtain⟨f,hf,rfl⟩:=List.mem_map.1 hl;exact Zy (WI.1 hf).1
 have h1:∀ls:List (List Nat),(∀l∈ls,0<l.length)->AV.cns (ls.map encN)=true:=fun ls hls=>by
  induction ls with
  | nil=>rfl
  | cons l ls ih=>
   simp only[lMc,AV.cns,bAt];refine⟨?_,ih fun l hl=>hls l (List.mem_cons_of_mem _ hl)⟩;have:=hls l lMs;have e:AV.cns ((nI l).map qG)=true:=by
    generalize nI l=xs
    induction xs with
    | nil=>rfl
    | cons x xs ih=>simp only[lMc,AV.cns,ih,Bool.and_true];rfl
   simp only[encN,AV.cn,e];rfl
 unfold partsE;simp only[AV.cn,h1 _ hk];rfl
theorem c320(ok:qo n=true):Pure Gm 320 [.ept n.enc 0] (partsE n.Agents):=by
 have hw:=Jh ok;have hl:=Jg ok;have hp:=We ok;refine pI X3 (by simp[AV.trees,AV.tree,go_sem]) partsE.tree ?_;simp only[X3,qQ,go_sem];refine qJP (by show n.Agents.length<=4294967296;omega) ?_;simp only[go_sem];refine Sem.loop (α:=Nat×List qA×Nat×List AV×List (Option Nat)) (fun q=>q.1<=n.Agents.length/\q.2.1[0]?=some (.row 1 (dnL n.Agents q.1 []) true)/\q.2.1[q.2.2.1]?=some (.row 1 q.2.2.2.1 true)/\qm q.2.2.2.2 q.2.1 q.2.2.2.1 ((qq n.Agents q.1).map encN)/\(∀j,some j∈q.2.2.2.2->1<=j/\j<q.2.1.length)/\some q.2.2.1∉q.2.2.2.2/\none∉q.2.2.2.2/\1<=q.2.2.1)
  (fun q=>(⟨[(0,.ept n.enc 0),(3,.slice 1 q.2.2.1 0 (qq n.Agents q.1).length false),(4,.slice 1 0 0 n.Agents.length false),(19,.int .i64 (n.Agents.length:Nat)),(20,.int .i64 (q.1:Nat))],[],q.2.1⟩:VSt)) (fun q=>n.Agents.length-q.1) (0,[.row 1 (List.replicate n.Agents.length (.bool false)) true]++[.row 1 [] true],1,[],[]) (by kernel_rfl)
  ⟨nZl _,by rw[qN3];rfl,rfl,qm.nil,fun j hj=>by simp at hj,by simp,by simp,nLr _⟩ (Can.ph (WkN.same rfl (WkN.cons rfl (Wk.ph (by simp)) (WkN.same rfl (WkN.same rfl (WkN.same rfl WkN.nil))))) WkN.nil) ?_
 rintro⟨i,g,oid,vs,S⟩ ⟨hi,hd,ho,hO,hS,hoS,hnS,ho1⟩;simp only at hi hd ho hO hS hoS hnS ho1;simp only[go_sem];apply qF<;>intro hc<;>simp only[hc,go_sem]
 ·have hlt:i<n.Agents.length:=by have:=odT hc;omega
  clear hc;obtain⟨b,e1,e2⟩:=qIA (i:=i) (L:=[]) hlt;simp only[wS hlt,hd,e1,go_sem];apply qF<;>intro hc<;>simp only[hc,go_sem]
  ·have hnf:¬Fst n.Agents i:=fun hf=>by
    rcases e2.1 hc with⟨j,hj,hr⟩ | q
    ·exact hf j hj hr
    ·simp at q
   simp only[zJ (show i<4611686018427387904 by omega)];refine ql (i+1,g,oid,vs,S) ⟨hlt, ?_,ho,by rw[qHV hnf];exact hO,hS,hoS,hnS,ho1⟩ (by simp only;omega) (by rw[qHV hnf];exact Can.sub (by simp[go_sem]) (by simp[go_sem]));rw[hd,qIB fun k hk=> ?_];obtain⟨j0,hj0,hr0⟩:∃j,j<i/\Rch n.Agents j i:=by
    rcases e2.1 hc with q | q
    ·exact q
    ·simp at q
   refine⟨fun q=> ?_,fun⟨j,hj,hr⟩=> ?_⟩
   ·rcases q with⟨j,hj,hr⟩ | q
    ·exact⟨j,by omega,hr⟩
    ·simp at q
   ·by_cases e:j=i
    ·subst e;exact .inl ⟨j0,hj0,hr0.trans hr⟩
    ·exact .inl ⟨j,by omega,hr⟩
  ·have hf:Fst n.Agents i:=fun j hj hr=>by
    have:=e2.2 (.inl ⟨j,hj,hr⟩);rw[this]at hc;cases hc
   refine qM (V2 ok hlt fun L id f tv fk hid fr=> ?_);have ftl:=(tv.perm hw hlt).length_eq;have hcl:(qU n.Agents i).length<=n.Agents.length:=J9;simp only[go_sem];have fd:f[0]?=some (.row 1 (dnL n.Agents i []) true):=(fk.k 0 (qJ hd)).trans hd;refine Sem.loop (α:=Nat) (fun p=>p<=L.length) (fun p=>(⟨[(0,.ept n.enc 0),(3,.slice 1 oid 0 (qq n.Agents i).length false),(4,.slice 1 0 0 n.Agents.length false),(19,.int .i64 (n.Agents.length:Nat)),(20,.int .i64 (i:Nat)),(6,.slice 1 id 0 L.length false),(30,.slice 1 id 0 L.length false),(31,.int .i64 (L.length:Nat)),(32,.int .i64 (p:Nat))],[],f.set 0 (.row 1 (dnL n.Agents i (L.take p)) true)⟩:VSt)) (fun p=>L.length-p) 0 (by kernel_rfl)
    (nZl _) (by rw[List.take_zero,qK2 fd];exact Can.sub (by simp[go_sem]) (by simp[go_sem])) ?_
   intro p hp;have hz:0<f.length:=qJ fd;have hid0:id≠0:=by have:=qJ hd;omega
   have fr':∀o,(f.set 0 o)[id]?=some (.row 1 (L.map kI) true):=fun o=>by rw[gSn (Ne.symm hid0)];exact fr
   simp only[go_sem];apply qF<;>intro hc<;>simp only[hc,go_sem]
   ·have hpl:p<L.length:=by have:=odT hc;omega
    clear hc;have hx:(L.map kI)[p]?=some (.int .i64 ((L[p]:Nat):Int)):=by rw[gMp,gEg hpl];rfl
    have hkn:L[p]<n.Agents.length:=((tv.2 _).1 (gMm hpl)).lt hw hlt;obtain⟨b2,d1,d2⟩:=qIA (i:=i) (L:=L.take p) hkn;simp only[wS hpl,fr',hx,wS hkn,go_sem];refine zq rfl (gSs hz) d1 rfl ?_;rw[qN2 hkn,<-lTs hpl,List.set_set];simp only[go_sem];simp only[zJ (show p<4611686018427387904 by omega)];exact ql (p+1) hpl (by omega) (Can.sub (by simp[go_sem]) (by simp[go_sem]))
   ·have hpl:p=L.length:=by have:=odF hc;omega
    clear hc;subst hpl;rw[lTl];refine qM (qLK ok hlt tv (fr' _) fun ex=> ?_);simp only[go_sem];have hgf:=fk.l;have hidl:=qJ fr;obtain⟨f2,ef⟩:∃f2,f2=(f.set 0 (qA.row 1 (dnL n.Agents i L) true)).set id (.row 1 ((qU n.Agents i).map kI) true)++ex:=⟨_,rfl⟩;have z0:f2[0]?=some (.row 1 (dnL n.Agents i L) true):=by rw[ef,gAl (by simp;omega),gSn hid0,gSs hz]
    have zi:f2[id]?=some (.row 1 ((qU n.Agents i).map kI) true):=by rw[ef,gAl (by simp;omega),gSs (by simp;omega)]
    have zj:∀j,1<=j->j<g.length->f2[j]?=g[j]?:=fun j h1 h2=>by rw[ef,gAl (by simp;omega),gSn (by omega),gSn (by omega)];exact fk.k j h2
    have zl:g.length<=f2.length:=by rw[ef];simp;omega
    rw[<-ef];clear ef;have hol:=qJ ho;have hoo:f2[oid]?=some (.row 1 vs true):=(zj oid ho1 hol).trans ho;obtain⟨q1,q2⟩:=wV (tmp:=.row 1 [.slice 1 id 0 (qU n.Agents i).length false] true) hoo;have hcnt:=hO.cnt;rw[lMp]at hcnt;have hcle:(qq n.Agents i).length<=i:=by
     unfold qq z5;rw[lMp];exact nLt (List.length_filter_le _ _) (by simp)
    rw[ftl];refine jt q2 q1 hcnt (by omega) ?_;simp only[lAp,nZa,go_sem];simp only[zJ (show i<4611686018427387904 by omega)];have esp:f2.take g.length++f2.drop g.length=f2:=List.take_append_drop _ _;have tl:(f2.take g.length).length=g.length:=by rw[lLt];omega
    have hO2:qm S (f2.take g.length) vs ((qq n.Agents i).map encN):=hO.heap fun j hj=>by
     have:=hS j hj;rw[List.getElem?_take_of_lt this.2];exact zj j this.1 this.2
    obtain⟨G,hG,m1,m2,m3,m4,m5,m6,m7⟩:=Vi (w:=1) (k:=oid) (mid:=f2.drop g.length) hO2 (fun j hj=>by rw[tl];exact(hS j hj).2) (by rw[List.getElem?_take_of_lt hol];exact hoo) hoS (S1:=[some id]) (X:=.slice 1 id 0 (qU n.Agents i).length false) (t:=encN (qU n.Agents i))
     (by rw[esp];exact qQA zi) (fun j hj=>by simp at hj;subst hj;have:=qJ zi;rw[tl,List.length_drop];exact⟨hid,by omega⟩)
    rw[esp]at hG;rw[<-hG];have el2:(f2.take g.length).length+(f2.drop g.length).length+1=f2.length+1:=by rw[tl,List.length_drop];omega
    rw[el2]at m3 m4;have ecs:(qq n.Agents (i+1)).map encN=(qq n.Agents i).map encN++[encN (qU n.Agents i)]:=by rw[qHU hf];simp
    have ecl:(qq n.Agents (i+1)).length=(qq n.Agents i).length+1:=by rw[qHU hf];simp
    refine ql (i+1,G,f2.length+1,vs++[.slice 1 id 0 (qU n.Agents i).length false],S++[some id]) ⟨hlt, ?_,m3,by rw[ecs];exact m1,fun j hj=>⟨?_,m2 j hj⟩,m4,by simp[hnS],by simp only;omega⟩ (by simp only;omega) (by rw[ecl];exact Can.sub (by simp[go_sem]) (by simp[go_sem]))
    ·rw[m5 0 (by rw[tl];exact qJ hd) (by omega),List.getElem?_take_of_lt (qJ hd),z0,qIB fun k hk=> ?_];refine⟨fun q=> ?_,fun⟨j,hj,hr⟩=> ?_⟩
     ·rcases q with⟨j,hj,hr⟩ | q
      ·exact⟨j,by omega,hr⟩
      ·exact⟨i,by omega,(tv.2 k).1 q⟩
     ·by_cases e:j=i
      ·subst e;exact .inr ((tv.2 k).2 hr)
      ·exact .inl ⟨j,by omega,hr⟩
    ·rcases zM.1 hj with q | q
     ·exact(hS j q).1
     ·simp at q;omega
 ·have hlt:i=n.Agents.length:=by have:=odF hc;omega
  clear hc;subst hlt;have r:=hO.row ho hoS;rw[lMp]at r;exact Y1 (r.cv (by simp[hnS]) (qQK hp))
end
theorem qOJ{h:List qA}{v v' w':AV}{vs:List AV}(hc:Cv h (.tup (v'::w'::vs)) v):Fin (some (v'::w'::vs)) h v:=by unfold Fin;exact hc
theorem qOI{h:List qA}{v v' w':AV}{vs:List AV}{P:AV->Prop}(hp:P v)(hc:Cv h (.tup (v'::w'::vs)) v):w8 (some (v'::w'::vs)) h P:=by unfold w8;exact⟨v,hp,hc⟩
theorem qIE{h:List qA}{id:Nat}{L:List Nat}(hr:h[id]?=some (.row 1 (L.map kI) true)):Cv h (.slice 1 id 0 L.length false) (encN L):=by
 have:=Cv.row (c:=false) hr (n:=L.length) (by simp) (by rw[ZF];exact qx shI.tree _) (by decide);rw[ZF]at this;exact this
theorem qLL{h:List qA}{a b c d:AV}(h1:Cv h a b)(h2:Cv h c d):Cv h (.tup [a,c]) (.tup [b,d]):=.tup rfl (UM h1 (UM h2 fun p hp=>by simp at hp))
section
variable {n:qI} {s:Nat}
theorem c62(ok:qo n=true):Pure Gm 62 [n.enc] (.tup [partsE n.Agents,.int .i64 0]):=by
 have hz:=QV ok;refine Pure.intro [1] [] (gk _ F62) (by kernel_rfl) rfl (by simp[AV.trees,go_sem]) (by simp[AV.tree,AV.trees,partsE.tree]) ?_;simp only[F62,qQ,go_sem];refine JZ rfl ?_;simp only[go_sem,lNa,lSz];refine qS (Zt (n:=n) (by omega)) ?_;simp only[ok,go_sem];refine qS (c320 ok) ?_;simp only[go_sem];exact WD (by simp[AV.tree,AV.trees,partsE.tree]) rfl
theorem c63(ok:qo n=true):Pure Gm 63 [n.enc] (.tup [encN (qU n.Agents 0),.int .i64 0]):=by
 have hz:=QV ok;refine Pure.intro [1] [] (gk _ F63) (by kernel_rfl) rfl (by simp[AV.trees,go_sem]) (by simp[AV.tree,AV.trees,encN.tree]) ?_;simp only[F63,qQ,go_sem];refine JZ rfl ?_;simp only[go_sem,lNa,lSz];refine qS (Zt (n:=n) (by omega)) ?_;simp only[ok,go_sem];refine qM (s321 ok fun id g hk hid hr=> ?_);simp only[go_sem];exact qOJ (qLL (qIE hr) (.refl rfl))
theorem r65(ok:qo n=true)(hs:s<n.Agents.length):PureR Gm 65 [n.enc,.int .i64 (s:Nat)] fun v=>∃L,TRV n.Agents s L/\v=.tup [encN L,.int .i64 0]:=by
 have hz:=QV ok;refine PureR.intro [2] [] (gk _ F65) (by kernel_rfl) rfl (by simp[AV.trees,AV.tree,go_sem]) (fun v hv=>by obtain⟨L,_,rfl⟩:=hv;simp[AV.tree,AV.trees,encN.tree]) ?_;simp only[F65,qQ,go_sem];refine JZ rfl ?_;simp only[go_sem,lNa,lSz];refine qS (Zt (n:=n) (by omega)) ?_;simp only[ok,go_sem];refine qS c322 ?_;have e1:(decide (0<=(s:Int))&&decide ((s:Int)<n.Agents.length))=true:=by simp;omega
 simp only[e1,go_sem];refine qM (V2 ok hs fun L id g tv hk hid hr=> ?_);simp only[go_sem];exact qOI ⟨L,tv,rfl⟩ (qLL (qIE hr) (.refl rfl))
end
theorem layP{ps:List qE}{c:Bool}{n:Nat}:(lay (.lst 2 (ps.map qE.enc) c) n).2=[.row 2 (ps.map qE.enc) true]:=by simp[lay,qE.flat]
theorem layD{ps:List Int}{c:Bool}{n:Nat}:(lay (.lst 1 (ps.map qG) c) n).2=[.row 1 (ps.map qG) true]:=by simp[lay,lI]
theorem qRY{g:List qA}{A B C:qA}:(g++[A,B]).set (g.length+1) C=g++[A,C]:=by
 rw[lSr _ _ (by omega)];simp
theorem qLM{g:List qA}{A B:qA}:(g++[A,B])[g.length+1]?=some B:=by rw[gAr (by omega)];simp
def wJ(f:qE->qE)(ps:List qE)(j:Nat):List qE:=(ps.take j).map f++ps.drop j
theorem qPO{f:qE->qE}{ps:List qE}:wJ f ps 0=ps:=by simp[wJ]
theorem qPQ{f:qE->qE}{ps:List qE}:wJ f ps ps.length=ps.map f:=by simp[wJ]
theorem qPP{f:qE->qE}{ps:List qE}{j:Nat}(h:j<ps.length):(wJ f ps j)[j]?=some ps[j]:=by
 unfold wJ;rw[gAr (by simp;omega)];simp only[lMp,lLt,Nat.min_eq_left (Nat.le_of_lt h),nSs,gDr,nAz];exact gEg h
theorem qPR{f:qE->qE}{ps:List qE}{j:Nat}(h:j<ps.length):(wJ f ps j).set j (f ps[j])=wJ f ps (j+1):=by
 unfold wJ;rw[lSr _ _ (by simp;omega)];simp only[lMp,lLt,Nat.min_eq_left (Nat.le_of_lt h),nSs];rw[List.drop_eq_getElem_cons h,lSz,lTs h,lMa];simp only[lMc,List.map_nil,lAa,lCa,lNa]
theorem qQM{p:qE}{v:Int}:p.enc.put 0 (.int .i64 v)=some ((⟨v,p.Slot⟩:qE).enc):=by cases p;rfl
def Wu(R:Nat->Bool)(p:qE):qE:=⟨(zQ R p.Agent.toNat:Nat),p.Slot⟩
section
variable {w:Nat} {post:List AV} {base:Nat->Prop} {nid lid:Nat} {h:List qA} {N:Ags} {K:AV->List qA->Prop} {R:Nat->Bool}
theorem qv.lo{n k:Nat}{h h':List qA}(hk:qv (Lo k) h h')(hn:n<=k):qv (Lo n) h h':=hk.up fun _ q=>Nat.lt_of_lt_of_le q hn
def wR(R:Nat->Bool)(ks:List Nat):List (AV×AV):=ks.map fun k=>(kI k,.int .i64 (zQ R k:Nat))
theorem qP7{n:Nat}:(qZ R n).Nodup:=List.Nodup.sublist List.filter_sublist List.nodup_range
theorem qv.split{h h':List qA}(k:qv (Lo h.length) h h'):h'=h++h'.drop h.length:=List.ext_getElem? fun i=>by
 rcases Nat.lt_or_ge i h.length with q | q
 ·rw[k.k i q,gAl q]
 ·rw[gAr q,gDr];congr 1;omega
theorem qO0(xs:List Int):(∀n,qN (xs.map qG) n=(xs.map qG,[]))/\AV.pls (xs.map qG)=true/\AV.trees (xs.map qG)=true:=by
 have h2:∀ys:List Int,AV.pls (ys.map qG)=true:=fun ys=>by
  induction ys with
  | nil=>rfl
  | cons y ys ih=>simp only[lMc,AV.pls,ih,Bool.and_true];rfl
 have h3:∀ys:List Int,∀n,qN (ys.map qG) n=(ys.map qG,[]):=fun ys=>by
  induction ys with
  | nil=>intro n;rfl
  | cons y ys ih=>intro n;simp only[lMc,qN,ih,lay,qG];rfl
 exact⟨h3 xs,h2 xs,qx shI.tree _⟩
theorem qQO(xs:List qE):(∀n,qN (xs.map qE.enc) n=(xs.map qE.enc,[]))/\AV.pls (xs.map qE.enc)=true/\AV.trees (xs.map qE.enc)=true:=by
 have h2:∀ys:List qE,AV.pls (ys.map qE.enc)=true:=fun ys=>by
  induction ys with
  | nil=>rfl
  | cons y ys ih=>simp only[lMc,AV.pls,ih,Bool.and_true];rfl
 have h3:∀ys:List qE,∀n,qN (ys.map qE.enc) n=(ys.map qE.enc,[]):=fun ys=>by
  induction ys with
  | nil=>intro n;rfl
  | cons y ys ih=>intro n;simp only[lMc,qN,ih,lay,qE.enc];rfl
 exact⟨h3 xs,h2 xs,qx qE.isSh.tree _⟩
theorem qP8{g:List qA}{x:qC}{p1 p2:Nat}(h1:g[p1]?=some (.row 1 (x.Data.map qG) true))(h2:g[p2]?=some (.row 2 (x.Ports.map qE.enc) true))(ne:p1≠p2):
  zK [some p1,some p2] g (.agg [.int .i64 x.Kind,.int .i64 x.Level,.int .i64 x.Value,.slice 1 p1 0 x.Data.length false,.slice 2 p2 0 x.Ports.length false]) x.enc:=by
 obtain⟨f1,f2,f3⟩:=qO0 x.Data;obtain⟨f4,f5,f6⟩:=qQO x.Ports;have d:=(Vh (h:=g) f1 f2 f3).row h1 (by simp);have p:=(Vh (h:=g) f4 f5 f6).row h2 (by simp);rw[lMp]at d p;have i3:=((qm.nil (h:=g).scal (a:=.int .i64 x.Kind) (fun _=>rfl) rfl rfl).scal (a:=.int .i64 x.Level) (fun _=>rfl) rfl rfl).scal (a:=.int .i64 x.Value) (fun _=>rfl) rfl rfl;exact((i3.snoc d (by simp)).snoc p (by intro j hj;simp at hj|-;omega)).agg
theorem qQF{i:Nat}(hi:i<(qZ R N.length).length):(zg N R).take (i+1)=(zg N R).take i++[jI R (N.getD ((qZ R N.length)[i]) VB)]:=by
 unfold zg;rw[lTs (by simpa using hi),List.getElem_map]
theorem s702{n:qI}(eN:n.Agents=N)(hl:h[lid]?=some (.row 1 ((qZ R N.length).map kI) true))(hp:∀k x,N[k]?=some x->R k=false->∀(s:Nat)(q:qE),x.Ports[s]?=some q->0<=q.Agent/\q.Agent<N.length/\R q.Agent.toNat=false)(hp0:∀k x,N[k]?=some x->R k=false->0<x.Ports.length/\x.sz<=1000)(hln:N.length<=10000)
  (hK:∀h' S oid,qv (Lo h.length) h h'->(∀j,some j∈S->h.length<=j/\j<h'.length)->none∉S->zK S h' (.agg [.slice 5 oid 0 (qZ R N.length).length false]) (qI.enc ⟨zg N R⟩)->K (.agg [.slice 5 oid 0 (qZ R N.length).length false]) h'):SCall Gm 702 [.ept n.enc 0,.slice 1 lid 0 (qZ R N.length).length false] h K:=by
 have lo:(qZ R N.length).length<=N.length:=J9;refine sI YJ ?_;simp only[YJ,qQ,go_sem];refine Sem.loop (fun i:Nat=>i<=(qZ R N.length).length/\True) (fun i=>(⟨[(0,.ept n.enc 0),(1,.slice 1 lid 0 (qZ R N.length).length false),(5,.map h.length),(14,.slice 1 lid 0 (qZ R N.length).length false),(15,.int .i64 ((qZ R N.length).length:Nat)),(16,.int .i64 (i:Nat))],[(4,.agg [.nils])],h++[.map (wR R ((qZ R N.length).take i))]⟩:VSt)) (fun i=>(qZ R N.length).length-i) 0 (by kernel_rfl)
  ⟨nZl _,trivial⟩ (Can.sub (by simp[go_sem]) (by simp[go_sem])) ?_
 rintro i ⟨hi,_⟩;have hl1:∀{o:List qA},(h++o)[lid]?=some (.row 1 ((qZ R N.length).map kI) true):=fun{o}=>by rw[gAl (qJ hl)];exact hl
 simp only[go_sem];apply qF<;>intro hc<;>simp only[hc,go_sem]
 ·have hlt:i<(qZ R N.length).length:=by have:=odT hc;omega
  clear hc;obtain⟨o1,o2,o3⟩:=Ve (gEg hlt);have hx:((qZ R N.length).map kI)[i]?=some (.int .i64 (((qZ R N.length)[i]:Nat):Int)):=by rw[gMp,gEg hlt];rfl
  have et:(qZ R N.length).take (i+1)=(qZ R N.length).take i++[(qZ R N.length)[i]]:=lTs hlt;simp only[wS hlt,hl1,hx,go_sem];have hf:zO (kI (qZ R N.length)[i]) (wR R ((qZ R N.length).take i)) 0=some none:=WE (v:=fun k=>.int .i64 (zQ R k:Nat)) fun q=>by
   have nd2:((qZ R N.length).take (i+1)).Nodup:=qP7.sublist (List.take_sublist _ _);rw[et,List.nodup_append]at nd2;exact nd2.2.2 _ q _ (List.mem_singleton.2 rfl) rfl
  refine VS gCl hf ?_;have e2:wR R ((qZ R N.length).take i)++[(.int .i64 (((qZ R N.length)[i]:Nat):Int),.int .i64 (i:Nat))]=wR R ((qZ R N.length).take (i+1)):=by rw[et];unfold wR;rw[lMa (l₂:=[(qZ R N.length)[i]]),List.map_singleton,o3];rfl
  rw[e2,lSr _ _ (nLr _),nSs,lSz];simp only[go_sem];simp only[zJ (show i<4611686018427387904 by omega)];refine ql (i+1) ⟨by omega, ?_⟩ (by omega) (Can.sub (by simp[go_sem]) (by simp[go_sem]));trivial
 ·have hlt:i=(qZ R N.length).length:=by have:=odF hc;omega
  clear hc;subst hlt;rw[lTl];obtain⟨h1,e1⟩:∃h1,h1=h++[qA.map (wR R (qZ R N.length))]:=⟨_,rfl⟩;rw[<-e1];have hm:h1[h.length]?=some (.map (wR R (qZ R N.length))):=by rw[e1];exact gCl
  have hl2:h1[lid]?=some (.row 1 ((qZ R N.length).map kI) true):=by rw[e1];exact hl1
  have k1:qv (Lo h.length) h h1:=by rw[e1];exact qv.app (fun _ q=>q)
  clear e1 hl1;refine Sem.loop (α:=Nat×List qA×Nat) (fun q=>q.1<=(qZ R N.length).length/\qv (Lo h1.length) h1 q.2.1/\h1.length<=q.2.2/\∃vs S,q.2.1[q.2.2]?=some (.row 5 vs true)/\qm S q.2.1 vs (((zg N R).take q.1).map qC.enc)/\(∀j,some j∈S->h1.length<=j/\j<q.2.1.length)/\some q.2.2∉S/\none∉S)
   (fun q=>(⟨[(0,.ept n.enc 0),(5,.map h.length),(25,.slice 1 lid 0 (qZ R N.length).length false),(26,.int .i64 ((qZ R N.length).length:Nat)),(27,.int .i64 (q.1:Nat))],[(4,.agg [.nils]),(8,.agg [.slice 5 q.2.2 0 q.1 false])],q.2.1⟩:VSt)) (fun q=>(qZ R N.length).length-q.1) (0,h1++[.row 5 [] true],h1.length) (by kernel_rfl)
   ⟨nZl _,qv.app (fun _ q=>q),nLr _,[],[],by simp,qm.nil,by simp,by simp,by simp⟩
   (Can.ph (WkN.same rfl (WkN.same rfl (WkN.same rfl (WkN.same rfl (WkN.same rfl WkN.nil))))) (WkN.same rfl (WkN.cons rfl (Wk.agg (.cons (Wk.ph (by simp)) .nil)) WkN.nil))) ?_
  rintro⟨i,f,oid⟩ ⟨hi,jk,hoid,vs,S,ho,hO,hS,hnS,hnn⟩;simp only at hi jk hoid ho hO hS hnS;have fl:=jk.l;have fm:f[h.length]?=some (.map (wR R (qZ R N.length))):=(jk.k _ (qJ hm)).trans hm;have fL:f[lid]?=some (.row 1 ((qZ R N.length).map kI) true):=(jk.k _ (qJ hl2)).trans hl2;have lpk:((zg N R).take i).length=i:=by rw[lLt,ZS];exact Nat.min_eq_left hi
  simp only[go_sem];apply qF<;>intro hc<;>simp only[hc,go_sem]
  ·have hlt:i<(qZ R N.length).length:=by have:=odT hc;omega
   clear hc;obtain⟨o1,o2,o3⟩:=Ve (gEg hlt);have hkx:((qZ R N.length).map kI)[i]?=some (.int .i64 (((qZ R N.length)[i]:Nat):Int)):=by rw[gMp,gEg hlt];rfl
   have pks:=qQF (N:=N) hlt;generalize (qZ R N.length)[i]=k at o1 o2 o3 hkx pks;have hx:=gEg o1;have hxd:N.getD k VB=N[k]:=by rw[lGd,hx];rfl
   have hzx:=(hp0 k _ hx o2).2;have hp0x:=(hp0 k _ hx o2).1;rw[hxd]at pks;generalize N[k]=x at hx hxd hzx hp0x pks;have hpx:=hp k x hx o2;have hzx':=hzx;unfold qC.sz at hzx';simp only[wS hlt,fL,hkx,eN,gMp,hx,oMs,go_sem];refine Yn (qPS x (by omega)) ?_;simp only[qC.layE,AV.rows,layP,layD,lNa,lAn,lCa,qRC,nZa];simp only[go_sem];refine jR (k:=5) (by rfl) (by simp only[go_sem]) ⟨_,rfl⟩ (by decide) ?_;simp only[go_sem];have fm2:∀{o:List qA},(f++o)[h.length]?=some (.map (wR R (qZ R N.length))):=fun{o}=>by rw[gAl (qJ fm)];exact fm
   refine Sem.loop (fun j:Nat=>j<=x.Ports.length/\True) (fun j=>(⟨[(0,.ept n.enc 0),(5,.map h.length),(25,.slice 1 lid 0 (qZ R N.length).length false),(26,.int .i64 ((qZ R N.length).length:Nat)),(27,.int .i64 (i:Nat)),(41,.int .i64 (x.Ports.length:Nat)),(42,.int .i64 (j:Nat))],
    [(4,.agg [.nils]),(8,.agg [.slice 5 oid 0 i false]),(11,.agg [.int .i64 x.Kind,.int .i64 x.Level,.int .i64 x.Value,.slice 1 f.length 0 x.Data.length false,.slice 2 (f.length+1) 0 x.Ports.length false])],f++[.row 1 (x.Data.map qG) true,.row 2 ((wJ (Wu R) x.Ports j).map qE.enc) true]⟩:VSt)) (fun j=>x.Ports.length-j) 0 (by kernel_rfl) ⟨nZl _,trivial⟩
    (by rw[qPO];exact Can.sub (by simp[go_sem]) (by simp[go_sem])) ?_
   rintro j ⟨hj,_⟩;simp only[go_sem];apply qF<;>intro hc<;>simp only[hc,go_sem]
   ·have hlj:j<x.Ports.length:=by have:=odT hc;omega
    clear hc;have hq:=hpx j _ (gEg hlj);have hm:((wJ (Wu R) x.Ports j).map qE.enc)[j]?=some (x.Ports[j].enc):=by rw[gMp,qPP hlj];rfl
    have em:x.Ports[j].Agent.toNat∈qZ R N.length:=Vf.2 ⟨by omega,hq.2.2⟩;have eu:lku (.int .i64 0) false (.int .i64 x.Ports[j].Agent) (wR R (qZ R N.length))=some (.int .i64 (zQ R x.Ports[j].Agent.toNat:Nat)):=by
     have:=qJH (z:=.int .i64 0) (v:=fun k=>.int .i64 (zQ R k:Nat)) em;unfold kI at this;rw[show ((x.Ports[j].Agent.toNat:Nat):Int)=x.Ports[j].Agent by omega]at this;exact this
    simp only[qOX hlj,qLM,hm,qJG fm2,eu,go_sem];refine zq rfl qLM hm qQM ?_;have ep:(⟨(zQ R x.Ports[j].Agent.toNat:Nat),x.Ports[j].Slot⟩:qE)=Wu R x.Ports[j]:=rfl;rw[ep,<-List.map_set,qPR hlj,qRY];simp only[go_sem];have:x.Ports.length<=1000:=by omega
    simp only[zJ (show j<4611686018427387904 by omega)];refine ql (j+1) ⟨by omega, ?_⟩ (by omega) (Can.sub (by simp[go_sem]) (by simp[go_sem]));trivial
   ·have hlj:j=x.Ports.length:=by have:=odF hc;omega
    clear hc;subst hlj;rw[qPQ];have lo2:=qJ ho;have lvs:vs.length=i:=by have:=hO.cnt;rw[this,lMp];exact lpk
    refine jt (len:=i) (x:=.agg [.int .i64 x.Kind,.int .i64 x.Level,.int .i64 x.Value,.slice 1 f.length 0 x.Data.length false,.slice 2 (f.length+1) 0 x.Ports.length false]) (w:=5) (by simp) (by rw[gAl (by simp;omega),gAl lo2];exact ho) lvs (by omega) ?_;have eP:x.Ports.map (Wu R)=(jI R x).Ports:=rfl;rw[eP];have hX:zK [some f.length,some (f.length+1)] (f++[.row 1 (x.Data.map qG) true,.row 2 ((jI R x).Ports.map qE.enc) true]) (AV.agg [.int .i64 x.Kind,.int .i64 x.Level,.int .i64 x.Value,.slice 1 f.length 0 x.Data.length false,.slice 2 (f.length+1) 0 x.Ports.length false]) (jI R x).enc:=by
     have:=qP8 (x:=jI R x) (g:=f++[.row 1 (x.Data.map qG) true,.row 2 ((jI R x).Ports.map qE.enc) true]) (p1:=f.length) (p2:=f.length+1) (by simp[jI]) (by rw[gAr (by omega),Nat.add_sub_cancel_left];rfl) (by omega);simpa[jI]using this
    obtain⟨G,hG,m1,m2,m3,m4,m5,m6,m7⟩:=Vi hO (fun j hj=>(hS j hj).2) ho hnS hX (fun j hj=>by simp at hj;simp;omega);have em:((zg N R).take i).map qC.enc++[(jI R x).enc]=((zg N R).take (i+1)).map qC.enc:=by rw[pks];simp
    rw[em]at m1;rw[<-hG];simp only[go_sem];simp only[lAp,nZa,zJ (show i<4611686018427387904 by omega),go_sem];refine ql (i+1,G,f.length+3) ⟨hlt,jk.trans ⟨m6,fun j hj=>m5 j (by omega) (by omega)⟩,by simp only;omega,_,_,m3,m1,fun j hj=>⟨?_,m2 j hj⟩,m4,by simp[hnn]⟩ (by simp only;omega) (Can.sub (by simp[go_sem]) (by simp[go_sem]));rcases m7 j hj with q | q
    ·exact(hS j q).1
    ·omega
  ·have hlt:i=(qZ R N.length).length:=by have:=odF hc;omega
   clear hc;subst hlt;have ep:(zg N R).take (qZ R N.length).length=zg N R:=List.take_of_length_le (by rw[ZS];exact nLr _);rw[ep]at hO lpk;have k2:=k1.trans (jk.lo k1.l);have lvs:vs.length=(qZ R N.length).length:=by have:=hO.cnt;rw[this,lMp];exact lpk
   have r:=hO.row ho hnS;rw[lMp,lpk]at r;have k3:=k1.l;exact hK f (some oid::S) _ k2 (fun j hj=>by
    rcases List.mem_cons.1 hj with q | q
    ·cases q;exact⟨by omega,qJ ho⟩
    ·have:=hS j q;exact⟨by omega,this.2⟩) (by simp[hnn]) r.one.agg
end
theorem qI.cn(n:qI):n.enc.cn=true:=by
 have h1:∀xs:List Int,AV.cns (xs.map qG)=true:=fun xs=>by
  induction xs with
  | nil=>rfl
  | cons x xs ih=>simp only[lMc,AV.cns,ih,Bool.and_true];rfl
 have h2:∀xs:List qE,AV.cns (xs.map qE.enc)=true:=fun xs=>by
  induction xs with
  | nil=>rfl
  | cons x xs ih=>simp only[lMc,AV.cns,ih,Bool.and_true];rfl
 have h3:∀x:qC,x.enc.cn=true:=fun x=>by
  simp only[qC.enc,AV.cn,AV.cns,h1,h2];rfl
 have h4:∀xs:List qC,AV.cns (xs.map qC.enc)=true:=fun xs=>by
  induction xs with
  | nil=>rfl
  | cons x xs ih=>simp only[lMc,AV.cns,ih,h3];rfl
 simp only[qI.enc,AV.cn,AV.cns,h4];rfl
section
variable {n:qI}
noncomputable def Jc(n:qI):qI:=⟨zg n.Agents (ju n.Agents 0)⟩
theorem c324(ok:qo n=true):Pure Gm 324 [n.enc] (Jc n).enc:=by
 have hw:=Jh ok;have hl:=Jg ok;refine Pure.intro [1] [] (gk _ X7) (by kernel_rfl) rfl (by simp[AV.trees,go_sem]) qI.tr ?_;simp only[X7,qQ,go_sem];refine JZ rfl ?_;simp only[go_sem,lNa,lSz];refine qM (s321 ok fun lid g hk hid hr=> ?_);simp only[go_sem];refine qM (s702 (R:=ju n.Agents 0) rfl hr (fun k x hx hR s q hq=> ?_) (fun k x hx hR=> ?_) (by omega) fun h' S oid k2 hS hn hO=> ?_)
 ·obtain⟨b,t,e,h2,_⟩:=hw k s q (z8.2 ⟨x,hx,hq⟩) fun f=>f;subst e;refine⟨by simp,by have:=Q2 h2;simp;exact this, ?_⟩;have:=(JX.1 hR).step ⟨s,t,z8.2 ⟨x,hx,hq⟩⟩;simpa using JX.2 this
 ·have ha:=Wm ok hx;exact⟨(qJW ha).2,by have:=qJX ha;omega⟩
 ·simp only[go_sem];exact Y1 (hO.cv hn (qI.cn _))
theorem c67(ok:qo n=true):Pure Gm 67 [n.enc] (.tup [(Jc n).enc,.int .i64 0]):=by
 have hz:=QV ok;refine pI F67 (by simp[AV.trees,go_sem]) (by simp[AV.tree,AV.trees,qI.tr]) ?_;simp only[F67,qQ,go_sem];refine zE rfl ?_;simp only[go_sem];refine qS (Zt (n:=n) (by omega)) ?_;simp only[ok,go_sem];refine qS (c324 ok) ?_;simp only[go_sem];exact WD (by simp[AV.tree,AV.trees,qI.tr]) rfl
end
def z4(n:Int):AV:=.int .u8 n
section
variable {L:List Nat} {n:qI} {k:Nat}
theorem Z7{i:Nat}(h:i<L.length):((nI L).map qG)[i]?=some (.int .i64 ((L[i]:Nat):Int)):=by
 rw[gMp,nI,gMp,gEg h];rfl
theorem c60{xs:List Int}:Pure Gm 60 [.lst 1 (xs.map z4) false,.nils] (.bool (decide (3000<(xs.length:Int)))):=by
 refine pI F60 (by simp[AV.trees,AV.tree,qx (enc:=z4) (fun _=>rfl)]) rfl ?_;simp only[F60,qQ,go_sem]
 repeat' (first | (first | (apply qe<;>intro hc<;>simp only[hc,go_sem]) | (apply qF<;>intro hc<;>simp only[hc,go_sem])) | refine qV rfl ?_)
 all_goals (simp_all)
theorem c64(hl:L.length<=1000):Pure Gm 64 [encN L,encN L] (.bool true):=qOC (gk _ F64) (nI L) (by rw[wK];omega)
theorem c66(hl:L.length<=1000)(hk:k∈L):Pure Gm 66 [encN L,.int .i64 (k:Nat)] (.bool true):=by
 refine pI F66 (by simp[AV.trees,AV.tree,encN.tree]) rfl ?_;have nl:(nI L).length=L.length:=wK;obtain⟨j,hj,ej⟩:=List.getElem_of_mem hk;simp only[F66,qQ,encN,go_sem];refine Sem.loop (fun i:Nat=>i<=j) (fun i=>(⟨[(0,encN L),(1,.int .i64 (k:Nat)),(5,.int .i64 (i:Nat))],[],[]⟩:VSt)) (fun i=>L.length-i) 0 (by kernel_rfl) (nZl _) (Can.sub (by simp[go_sem,encN]) (by simp[go_sem])) ?_;intro i hi;simp only[encN,go_sem];apply qF<;>intro hc<;>simp only[hc,go_sem]
 ·have hlt:i<L.length:=by have:=odT hc;omega
  simp only[Z7 hlt,oMs,go_sem];apply qF<;>intro hc<;>simp only[hc,go_sem]
  ·exact qV rfl rfl
  ·have hne:i≠j:=fun e=>by subst e;rw[ej]at hc;simp at hc
   simp only[zJ (show i<4611686018427387904 by omega)];exact ql (i+1) (by omega) (by omega) (Can.sub (by simp[go_sem,encN]) (by simp[go_sem]))
 ·have:=odF hc;omega
theorem c68(hz:n.sz<=1048576):Pure Gm 68 [n.enc] (.bool (qo n)):=by
 refine Pure.intro [1] [] (gk _ F68) (by kernel_rfl) rfl (by simp[AV.trees,go_sem]) rfl ?_;simp only[F68,qQ,go_sem];refine JZ rfl ?_;simp only[go_sem,lNa,lSz];refine qS (c318 (n:=n) hz) ?_;simp only[go_sem];exact qV rfl rfl
end
section
variable {n:qI}
def OfI(P:List (List Nat))(i:Nat)(ov:List Int):Prop:=∀j,j<i->∀l,P[j]?=some l->∀a∈l,ov[a]?=some ((j:Int)+1)
theorem c3a(bytes:List Int)(hb:¬3000<(bytes.length:Int))(r61:PureR Gm 61 [.lst 1 (bytes.map z4) false] fun v=>∃n:qI,qo n=true/\v=n.enc):Pure Gm 3 [.lst 1 (bytes.map z4) false] (.bool true):=by
 refine Pure.intro [] [] qIZ (by kernel_rfl) rfl (by simp[AV.trees,AV.tree,qx (enc:=z4) (fun _=>rfl)]) rfl ?_;simp only[F3,qQ,go_sem];refine qS c60 ?_;have e0:decide (3000<(bytes.length:Int))=false:=decide_eq_false hb;simp only[e0,go_sem];refine qHK r61 fun v hv=> ?_;obtain⟨n,ok,rfl⟩:=hv;have hw:=Jh ok;have hl:=Jg ok;have hz:=QV ok;have hp:=We ok;simp only[go_sem];refine qS (c62 ok) ?_;simp only[go_sem];refine qS (c63 ok) ?_;simp only[go_sem];have P0:=qHX hp;have Ps:=qHZ hw;have Pat:=fun j hj=>qHW (N:=n.Agents) (j:=j) hj;have P1:=qNC hw hp;have hPl:(qq n.Agents n.Agents.length).length<=n.Agents.length:=by
  unfold qq z5;rw[lMp];exact nLt (List.length_filter_le _ _) (by simp)
 have hlive:(qU n.Agents 0).length<=n.Agents.length:=J9;unfold partsE;have Pat:∀j (hj:j<(qq n.Agents n.Agents.length).length),∃f,(z5 n.Agents n.Agents.length)[j]?=some f/\(qq n.Agents n.Agents.length)[j]=qU n.Agents f/\f<n.Agents.length/\Fst n.Agents f:=fun j hj=>Pat j hj;have Pfl:=qHY hw;generalize hP:qq n.Agents n.Agents.length=P at*;have Pl:=qJ P0;have e1:decide ((P.length:Int)=0)=false:=decide_eq_false (by omega);have e2:(P.map encN)[0]?=some (encN (qU n.Agents 0)):=by rw[gMp,P0];rfl
 simp only[e1,e2,go_sem];simp only[encN,oMs,go_sem];refine qS (c64 (L:=qU n.Agents 0) (by omega)) ?_;simp only[go_sem];refine qJP (by show n.Agents.length<=4294967296;omega) ?_;simp only[go_sem];have ez:(List.replicate n.Agents.length (AV.int .i64 0))=(List.replicate n.Agents.length (0:Int)).map qG:=by simp[qG]
 rw[ez];refine ja (α:=Nat×List Int) (fun q=>q.1<=P.length/\q.2.length=n.Agents.length/\OfI P q.1 q.2)
  (fun q=>(⟨[(4,.lst 1 (P.map encN) false),(6,encN (qU n.Agents 0)),(8,.slice 1 0 0 n.Agents.length false),(9,.int .i64 (((P.take q.1).map List.length).sum:Nat)),(10,.int .i64 (q.1:Nat)),(0,.lst 1 (bytes.map z4) false),(2,.bool false)],[(3,n.enc)],[.row 1 (q.2.map qG) true]⟩:VSt)) (fun q=>P.length-q.1) (0,List.replicate n.Agents.length 0)
  (fun ov:List Int=>ov.length=n.Agents.length/\OfI P P.length ov) (fun ov=>(⟨[(4,.lst 1 (P.map encN) false),(6,encN (qU n.Agents 0)),(8,.slice 1 0 0 n.Agents.length false),(9,.int .i64 (n.Agents.length:Nat)),(2,.bool false)],[(3,n.enc)],[.row 1 (ov.map qG) true]⟩:VSt)) (by kernel_rfl)
  ⟨nZl _,by simp,fun j hj=>absurd hj (Nat.not_lt_zero _)⟩ (Can.sub (by simp[go_sem,encN,qI.enc]) (by simp[go_sem,qI.enc])) ?_ ?_
 ·rintro⟨i,ov⟩ ⟨hi,hov,hof⟩;simp only at hi hov hof;simp only[go_sem];apply qF<;>intro hc<;>simp only[hc,go_sem]
  ·have hlt:i<P.length:=by have:=odT hc;omega
   clear hc;obtain⟨f,hf1,hf2,hf3,hf4⟩:=Pat i hlt;have ePi:(P.map encN)[i]?=some (encN (qU n.Agents f)):=by rw[gMp,gEg hlt,hf2];rfl
   have hlp:=Zy hf3;have hll:(qU n.Agents f).length<=n.Agents.length:=J9;have ew:IntKind.i64.wrap (((qU n.Agents f).length:Int)-1)=(((qU n.Agents f).length-1:Nat):Int):=by rw[zD (by omega) (by omega)];omega
   have hla:(qU n.Agents f).length-1<(qU n.Agents f).length:=by omega
   have hlm:=jQ.1 (gMm hla);simp only[ePi,encN,wK,ew,Z7 hla,oMs,go_sem];refine qHK (r65 ok hlm.1) fun v hv=> ?_;obtain⟨M,tv,rfl⟩:=hv;have hMl:M.length=(qU n.Agents f).length:=(tv.perm hw hlm.1).length_eq.trans (congrArg List.length (qNB hw hlm.2).symm);have hMm:∀a,a∈qU n.Agents f->a∈M:=fun a ha=>(tv.2 a).2 (((hlm.2).symm hw).trans (jQ.1 ha).2);have e4:(!decide (((qU n.Agents f).length:Int)=((qU n.Agents f).length:Int)))=false:=by simp
   simp only[encN,wK,hMl,ePi,oMs,go_sem];have hh0:=qHR hw hf4 hf3;have hv0:((nI (qU n.Agents f)).map qG)[0]?=some (.int .i64 (f:Nat)):=by rw[gMp,nI,gMp,hh0];rfl
   have sto1:∀(ov:List Int)(a:Nat),(ov.map qG).set a (.int .i64 ((i+1:Nat):Int))=(ov.set a ((i:Int)+1)).map qG:=fun ov a=>by rw[List.map_set];rfl
   apply qe<;>intro hc<;>simp only[hc,go_sem]
   focus
    have hi0:0<i:=by have:=odT hc;omega
    obtain⟨f',hg1,hg2,hg3,hg4⟩:=Pat (i-1) (by omega);have ePj:(P.map encN)[i-1]?=some (encN (qU n.Agents f')):=by rw[gMp,gEg (by omega),hg2];rfl
    have hv1:((nI (qU n.Agents f')).map qG)[0]?=some (.int .i64 (f':Nat)):=by rw[gMp,nI,gMp,qHR hw hg4 hg3];rfl
    have ei:IntKind.i64.wrap ((i:Int)-1)=((i-1:Nat):Int):=by rw[zD (by omega) (by omega)];omega
    have hff:f'<f:=by
     have h1:=qJ hg1;have h2:=qJ hf1;have:=List.pairwise_iff_getElem.1 (Y4 (N:=n.Agents) (n:=n.Agents.length)) (i-1) i h1 h2 (by omega);rw[gEg h1]at hg1;rw[gEg h2]at hf1;cases hg1;cases hf1;exact this
    have ec:decide ((f:Int)<=(f':Int))=false:=decide_eq_false (by omega);simp only[ei,ePj,ePi,encN,oMs,hv0,hv1,ec,go_sem]
   all_goals
    refine Sem.loop (α:=Nat×List Int) (fun q=>q.1<=(qU n.Agents f).length/\q.2.length=n.Agents.length/\OfI P i q.2/\∀a∈(qU n.Agents f).take q.1,q.2[a]?=some ((i:Int)+1))
     (fun q=>(⟨[(13,.int .i64 (q.1:Nat)),(11,encN M),(4,.lst 1 (P.map encN) false),(6,encN (qU n.Agents 0)),(8,.slice 1 0 0 n.Agents.length false),(9,.int .i64 (((P.take i).map List.length).sum:Nat)),(10,.int .i64 (i:Nat)),(0,.lst 1 (bytes.map z4) false),(2,.bool false)],[(3,n.enc)],[.row 1 (q.2.map qG) true]⟩:VSt)) (fun q=>(qU n.Agents f).length-q.1) (0,ov) (by kernel_rfl)
     ⟨nZl _,hov,hof,fun a ha=>by simp at ha⟩ (Can.sub (by simp[go_sem,encN]) (by simp[go_sem])) ?_
    rintro⟨k,uv⟩ ⟨hk,huv,huf,hut⟩;simp only at hk huv huf hut;simp only[ePi,encN,oMs,wK,go_sem];apply qF<;>intro hc<;>simp only[hc,go_sem]
    ·have hkl:k<(qU n.Agents f).length:=by have:=odT hc;omega
     clear hc;have hvk:=Z7 hkl;have hkm:=gMm hkl;have hkn:=(jQ.1 hkm).1;have hcall:=c66 (L:=M) (by omega) (hMm _ hkm);apply qe<;>intro hc<;>simp only[hc,go_sem]
     focus
      have hk0:0<k:=by have:=odT hc;omega
      have ek:IntKind.i64.wrap ((k:Int)-1)=((k-1:Nat):Int):=by rw[zD (by omega) (by omega)];omega
      have hvj:=Z7 (L:=qU n.Agents f) (i:=k-1) (by omega);have hlt2:=List.pairwise_iff_getElem.1 (Zz (N:=n.Agents) (s:=f)) (k-1) k (by omega) hkl (by omega);have ec2:decide ((((qU n.Agents f)[k]:Nat):Int)<=(((qU n.Agents f)[k-1]:Nat):Int))=false:=decide_eq_false (by omega);simp only[ePi,encN,oMs,ek,hvk,hvj,ec2,go_sem]
     all_goals
      try simp only[ePi,encN,oMs,hvk,go_sem]
      refine qS hcall ?_;simp only[ePi,encN,oMs,hvk,wS hkn,go_sem];simp only[zJ (show i<4611686018427387904 by omega)];refine zq rfl rfl (by rw[gMp,gEg (show (qU n.Agents f)[k]<uv.length by omega)];rfl) rfl ?_;rw[sto1];simp only[go_sem];simp only[zJ (show k<4611686018427387904 by omega)];refine ql (k+1,uv.set (qU n.Agents f)[k] ((i:Int)+1)) ⟨hkl,by simp[huv],fun j hj l hl a ha=> ?_,fun a ha=> ?_⟩ (by simp only;omega) (Can.sub (by simp[go_sem,encN]) (by simp[go_sem]))
      ·obtain⟨f2,hq1,hq2,hq3,hq4⟩:=Pat j (by omega);rw[gEg (by omega),hq2]at hl;cases hl;rw[gSn (fun e=> ?_)]
       ·exact huf j hj _ (by rw[gEg (by omega),hq2]) a ha
       ·subst e;have h1:=qJ hq1;have h2:=qJ hf1;have:=List.pairwise_iff_getElem.1 (Y4 (N:=n.Agents) (n:=n.Agents.length)) j i h1 h2 hj;rw[gEg h1]at hq1;rw[gEg h2]at hf1;cases hq1;cases hf1;exact hf4 _ this ((jQ.1 ha).2.trans ((jQ.1 hkm).2.symm hw))
      ·rw[lTs hkl]at ha;by_cases e:a=(qU n.Agents f)[k]
       ·rw[e,gSs (by omega)]
       ·rw[gSn (Ne.symm e)];rcases zM.1 ha with q | q
        ·exact hut a q
        ·simp at q;exact absurd q e
    ·have hkl:k=(qU n.Agents f).length:=by have:=odF hc;omega
     clear hc;subst hkl;rw[lTl]at hut;simp only[ePi,encN,oMs,wK,go_sem];have es:((P.take (i+1)).map List.length).sum=((P.take i).map List.length).sum+(qU n.Agents f).length:=by
      rw[lTs hlt,lMa,List.sum_append,hf2];simp
     have es2:((P.take i).map List.length).sum<=n.Agents.length:=by
      have:=List.take_append_drop i P;rw[<-Ps]
      conv=>rhs;rw[<-this]
      rw[lMa,List.sum_append];omega
     have ew3:IntKind.i64.wrap (((((P.take i).map List.length).sum:Nat):Int)+((qU n.Agents f).length:Int))=((((P.take (i+1)).map List.length).sum:Nat):Int):=by rw[zD (by omega) (by omega),es];omega
     simp only[ew3,zJ (show i<4611686018427387904 by omega)];refine zw (i+1,uv) ⟨hlt,huv,fun j hj l hl a ha=> ?_⟩ (by simp only;omega) (Can.sub (by simp[go_sem,encN]) (by simp[go_sem]));by_cases e:j=i
     ·subst e;rw[gEg hlt,hf2]at hl;cases hl;exact hut a ha
     ·exact huf j (by omega) l hl a ha
  ·have hlt:i=P.length:=by have:=odF hc;omega
   clear hc;subst hlt;refine zb ov ⟨hov,hof⟩ ?_;rw[lTl,Ps];exact Can.sub (by simp[go_sem]) (by simp[go_sem])
 ·rintro ov ⟨hov,hof⟩;simp only[go_sem];have hcls:∀a,a<n.Agents.length->∃(j:Nat)(l:List Nat),P[j]?=some l/\a∈l/\ov[a]?=some ((j:Int)+1)/\∀b,nb n.Agents a b->ov[b]?=some ((j:Int)+1):=fun a ha=>by
   have hm:=Pfl.mem_iff.2 (lMr.2 ha);obtain⟨l,hl1,hl2⟩:=List.mem_flatten.1 hm;obtain⟨j,hj,rfl⟩:=List.getElem_of_mem hl1;refine⟨j,P[j],gEg hj,hl2,hof j hj _ (gEg hj) a hl2,fun b hb=>hof j hj _ (gEg hj) b ?_⟩;obtain⟨f,_,h2,h3,h4⟩:=Pat j hj;rw[h2]at hl2|-;exact jQ.2 ⟨Wc (ZN hw hb),(jQ.1 hl2).2.step hb⟩
  have en0:(!decide ((n.Agents.length:Int)=(n.Agents.length:Int)))=false:=by simp
  simp only[qI.enc,en0,go_sem];refine ja (α:=Nat) (fun i=>i<=n.Agents.length)
   (fun i=>(⟨[(4,.lst 1 (P.map encN) false),(6,encN (qU n.Agents 0)),(8,.slice 1 0 0 n.Agents.length false),(14,.int .i64 (i:Nat)),(2,.bool false)],[(3,n.enc)],[.row 1 (ov.map qG) true]⟩:VSt)) (fun i=>n.Agents.length-i) 0
   (fun _:Unit=>True) (fun _=>(⟨[(4,.lst 1 (P.map encN) false),(6,encN (qU n.Agents 0)),(2,.bool false)],[(3,n.enc)],[.row 1 (ov.map qG) true]⟩:VSt)) (by kernel_rfl)
   (nZl _) (Can.sub (by simp[go_sem,encN,qI.enc]) (by simp[go_sem,qI.enc])) ?_ ?_
  ·intro i hi;simp only[qI.enc,go_sem];apply qF<;>intro hc<;>simp only[hc,go_sem]
   ·have hlt:i<n.Agents.length:=by have:=odT hc;omega
    clear hc;have hx:=gEg hlt;have hp4:=Va (Wm ok hx);obtain⟨j,l,hj1,hj2,hj3,hj4⟩:=hcls i hlt;have hov3:(ov.map qG)[i]?=some (.int .i64 ((j:Int)+1)):=by rw[gMp,hj3];rfl
    refine Sem.loop (α:=Nat) (fun k=>k<=n.Agents[i].Ports.length) (fun k=>(⟨[(15,.int .i64 (k:Nat)),(4,.lst 1 (P.map encN) false),(6,encN (qU n.Agents 0)),(8,.slice 1 0 0 n.Agents.length false),(14,.int .i64 (i:Nat)),(2,.bool false)],[(3,n.enc)],[.row 1 (ov.map qG) true]⟩:VSt)) (fun k=>n.Agents[i].Ports.length-k) 0 (by kernel_rfl)
     (nZl _) (Can.sub (by simp[go_sem,encN,qI.enc]) (by simp[go_sem,qI.enc])) ?_
    intro k hk;simp only[qI.enc,gMp,hx,oMs,go_sem];apply qF<;>intro hc<;>simp only[hc,go_sem]
    ·have hkl:k<n.Agents[i].Ports.length:=by have:=odT hc;omega
     clear hc;have hat:atP n.Agents i k=some n.Agents[i].Ports[k]:=z8.2 ⟨_,hx,gEg hkl⟩;obtain⟨b,t,eb,_⟩:=hw _ _ _ hat fun x=>x;have hb:nb n.Agents i b:=⟨k,t,by rw[hat,eb]⟩;have hbl:=Wc (ZN hw hb);have hovb:(ov.map qG)[b]?=some (.int .i64 ((j:Int)+1)):=by rw[gMp,hj4 b hb];rfl
     have ez0:decide ((j:Int)+1=0)=false:=decide_eq_false (by omega);have ez1:(!decide ((j:Int)+1=(j:Int)+1))=false:=by simp
     simp only[wS hlt,hov3,ez0,gMp,hx,gEg hkl,eb,oMs,wS hbl,hovb,ez1,go_sem];simp only[zJ (show k<4611686018427387904 by omega)];exact ql (k+1) hkl (by omega) (Can.sub (by simp[go_sem,encN,qI.enc]) (by simp[go_sem,qI.enc]))
    ·have hkl:k=n.Agents[i].Ports.length:=by have:=odF hc;omega
     clear hc;simp only[zJ (show i<4611686018427387904 by omega)];exact zw (i+1) (by first | omega | (simp only;omega)) (by first | omega | (simp only;omega)) (Can.sub (by simp[go_sem,encN,qI.enc]) (by simp[go_sem,qI.enc]))
   ·exact zb () trivial (Can.sub (by simp[go_sem,encN,qI.enc]) (by simp[go_sem,qI.enc]))
  ·intro _ _;simp only[qI.enc,go_sem];refine qS (c67 ok) ?_;have kl:(Jc n).Agents.length=(qU n.Agents 0).length:=by unfold Jc;rw[ZS];rfl
   have kz:=QV (qHT ok);have e5:decide (((qU n.Agents 0).length:Int)=((qU n.Agents 0).length:Int))=true:=by simp
   have e6:decide (((qU n.Agents 0).length:Int)=(n.Agents.length:Int))=decide ((P.length:Int)=1):=by
    rw[decide_eq_decide];constructor<;>intro q
    ·have:=P1.2 (by omega);omega
    ·have:=P1.1 (by omega);omega
   simp only[encN,wK,kl,e5,go_sem];refine qS (c68 (n:=Jc n) (by unfold Jc;omega)) ?_;have e7:qo (Jc n)=true:=qHT ok;simp only[e7,encN,wK,kl,e6,go_sem];exact qV rfl (by simp)
end
def Qd(bytes:List Int)(p:Nat)(seed:Int):AV:=.agg [.lst 1 (bytes.map z4) false,.int .i64 (p:Nat),.int .u64 seed]
section
variable {bytes:List Int} {sid p:Nat} {seed:Int} {h:List qA} {K:AV->List qA->Prop}
theorem s773(hb:∀b∈bytes,0<=b/\b<=255)(hs:h[sid]?=some (.row 3 [Qd bytes p seed] true))(hp:p<4611686018427387904)
  (hK:∀v seed',0<=v->v<=255->K (.int .i64 v) (h.set sid (.row 3 [Qd bytes (p+1) seed'] true))):SCall Gm 773 [.ptr sid 0 0] h K:=by
 unfold Qd at hs;have hl:=qJ hs;refine sI YP ?_;simp only[YP,qQ,hs,go_sem];have e1:IntKind.i64.wrap ((p:Int)+1)=((p+1:Nat):Int):=zJ hp;have tail:∀(s':qR)(x:Int),0<=x->x<=255->get s' 0=some (.ptr sid 0 0)->get s' 3=some (.int .i64 x)->
   R ⟨Gm,h.length,[],[]⟩ [.ops Qv,.code ((qD.reg true YQ).seq (((qD.reg true YR).seq (qD.cond (.t 53) ((qD.reg true [.mk 0 (some 54) none (.mov (.t 3)) [],.mk 1 (some 2) none (.mov (.t 54)) []]).seq .ret) .skip)).seq ((qD.reg true YS).seq .ret)))] ⟨s',[],h⟩ (ze [.t 2] K):=by
  intro s' x x0 x1 g0 g3;rw[qL6];simp only[g0,g3,hs,e1,go_sem];refine zq (e':=.agg [.lst 1 (bytes.map z4) false,.int .i64 ((p+1:Nat):Int),.int .u64 seed]) rfl hs rfl rfl ?_;simp only[lSz,gSs hl,g0,g3,go_sem];refine zq (e':=.agg [.lst 1 (bytes.map z4) false,.int .i64 ((p+1:Nat):Int),.int .u64 (IntKind.u64.wrap (IntKind.u64.wrap (IntKind.u64.wrap (seed*6364136223846793005)+IntKind.u64.wrap x)+1442695040888963407))]) rfl (gSs hl) rfl rfl ?_;generalize IntKind.u64.wrap (IntKind.u64.wrap (IntKind.u64.wrap (seed*6364136223846793005)+IntKind.u64.wrap x)+1442695040888963407)=w;have hK2:=fun v q1 q2=>hK v w q1 q2;unfold Qd at hK2;simp only[lSz,List.set_set,gSs hl,g0,g3,go_sem];apply qF<;>intro hc<;>simp only[hc,go_sem]
  ·simp only[g0,g3,go_sem];exact hK2 x x0 x1
  ·simp only[g0,g3,gSs hl,V6 (show (0:Int)<=40 by decide),go_sem];obtain⟨o,e,o1,o2⟩:=qGX (a:=w.fdiv (2^(min (40:Int).toNat 64))) (c:=255) (by decide);simp only[e,go_sem];rw[zD (by omega) (by omega)];exact hK2 o o1 o2
 revert tail;generalize Qv=r2;intro tail;apply qF<;>intro hc<;>simp only[hc,go_sem]
 ·have hlt:p<bytes.length:=by have:=odT hc;omega
  have hbb:=hb _ (gMm hlt);simp only[hs,gMp,gEg hlt,oMs,z4,go_sem];refine tail _ bytes[p] hbb.1 hbb.2 ?_ ?_
  ·simp only[go_sem]
  ·simp only[go_sem];rw[zD (by omega) (by omega)]
 ·refine tail _ 0 (by omega) (by omega) ?_ ?_<;>simp only[go_sem]
def SR(bytes:List Int)(sid B:Nat)(h:List qA):Prop:=∃(p:Nat)(seed:Int),p<=B/\h[sid]?=some (.row 3 [Qd bytes p seed] true)
structure KS(bytes:List Int)(sid B:Nat)(h h':List qA):Prop where
 l:h'.length=h.length
 k:∀j,j≠sid->h'[j]?=h[j]?
 s:SR bytes sid B h'
theorem KS.of{B:Nat}{seed':Int}(hl:sid<h.length)(hp:p<=B):KS bytes sid B h (h.set sid (.row 3 [Qd bytes p seed'] true)):=
 ⟨by simp,fun j hj=>gSn (Ne.symm hj),p,seed',hp,gSs hl⟩
theorem KS.trans{B C:Nat}{h1 h2:List qA}(x:KS bytes sid B h h1)(y:KS bytes sid C h1 h2):KS bytes sid C h h2:=⟨y.l.trans x.l,fun j hj=>(y.k j hj).trans (x.k j hj),y.s⟩
theorem SR.up{B C:Nat}(x:SR bytes sid B h)(hbc:B<=C):SR bytes sid C h:=by obtain⟨p,q,h1,h2⟩:=x;exact⟨p,q,by omega,h2⟩
theorem KS.up{B C:Nat}{h1:List qA}(x:KS bytes sid B h h1)(hbc:B<=C):KS bytes sid C h h1:=⟨x.l,x.k,x.s.up hbc⟩
theorem KS.refl{B:Nat}(x:SR bytes sid B h):KS bytes sid B h h:=⟨rfl,fun _ _=>rfl,x⟩
def OkB(bytes:List Int):Prop:=∀b∈bytes,0<=b/\b<=255
variable {B:Nat} {n:Int}
theorem qKX(hb:OkB bytes)(hs:SR bytes sid B h)(hB:B<1000000000)(hK:∀v h',0<=v->v<=255->KS bytes sid (B+1) h h'->K (.int .i64 v) h'):SCall Gm 773 [.ptr sid 0 0] h K:=by
 obtain⟨p,seed,h1,h2⟩:=hs;exact s773 hb h2 (by omega) fun v seed' v0 v1=>hK v _ v0 v1 (KS.of (qJ h2) (by omega))
theorem zB(hb:OkB bytes)(hs:SR bytes sid B h)(hB:B<900000000)(hK:∀r h',0<=r->r<max n 1->KS bytes sid (B+2) h h'->K (.int .i64 r) h'):SCall Gm 396 [.ptr sid 0 0,.int .i64 n] h K:=by
 refine sI X9 ?_;simp only[X9,qQ,go_sem];apply qF<;>intro hc<;>simp only[hc,go_sem]
 ·exact hK 0 h (by omega) (by omega) (KS.refl (hs.up (by omega)))
 ·have hn:=odF hc;refine qM (qKX hb hs (by omega) fun v h1 v0 v1 k1=> ?_);simp only[go_sem];apply qF<;>intro hc<;>simp only[hc,go_sem]
  ·refine qM (qKX hb k1.s (by omega) fun u h2 u0 u1 k2=> ?_);have e1:IntKind.i64.wrap (v*256)=v*256:=zD (by omega) (by omega);have e2:IntKind.i64.wrap (v*256+u)=v*256+u:=zD (by omega) (by omega);simp only[e1,e2,if_neg (show ¬n=0 by omega),go_sem];exact hK _ _ (Int.tmod_nonneg _ (by omega)) (by have:=Int.tmod_lt_of_pos (v*256+u) (show 0<n by omega);omega) ((k1.trans k2).up (by omega))
  ·simp only[if_neg (show ¬n=0 by omega),go_sem];exact hK _ _ (Int.tmod_nonneg _ v0) (by have:=Int.tmod_lt_of_pos v (show 0<n by omega);omega) (k1.up (by omega))
theorem Wy(hb:OkB bytes)(hs:SR bytes sid B h)(hB:B<900000000)(hK:∀r h',KS bytes sid (B+2) h h'->K (.bool r) h'):SCall Gm 440 [.ptr sid 0 0,.int .i64 n] h K:=by
 refine sI YA ?_;simp only[YA,qQ,go_sem];refine qM (zB hb hs hB fun r h1 r0 r1 k1=> ?_);simp only[go_sem];exact hK _ _ k1
theorem w4{xs:List Int}{lid n:Nat}(hb:OkB bytes)(hs:SR bytes sid B h)(hB:B<900000000)(hl:h[lid]?=some (.row 1 (xs.map qG) true))(hn:xs.length=n)(h0:0<n)
  (hK:∀x h',x∈xs->KS bytes sid (B+2) h h'->K (.int .i64 x) h'):SCall Gm 451 [.ptr sid 0 0,.slice 1 lid 0 n false] h K:=by
 have hne:lid≠sid:=fun e=>by obtain⟨p,q,_,h2⟩:=hs;rw[<-e,hl]at h2;simp at h2
 refine sI YB ?_;simp only[YB,qQ,go_sem];refine qM (zB hb hs hB fun r h1 r0 r1 k1=> ?_);have hl1:h1[lid]?=some (.row 1 (xs.map qG) true):=(k1.k _ hne).trans hl;obtain⟨j,rfl⟩:∃j:Nat,r=(j:Int):=⟨r.toNat,by omega⟩;have hj:j<n:=by omega
 have hx:(xs.map qG)[j]?=some (.int .i64 (xs[j]'(by omega))):=by rw[gMp,gEg (by omega)];rfl
 simp only[wS hj,hl1,hx,go_sem];exact hK _ _ (gMm _) k1
end
def qY(x:qC)(dv:AV)(q:Nat):AV:=.agg [.int .i64 x.Kind,.int .i64 x.Level,.int .i64 x.Value,dv,.slice 2 q 0 x.Ports.length false]
def DV(h:List qA)(dv:AV)(d:List Int):Prop:=(dv=.nils/\d=[])\/∃id,dv=.slice 1 id 0 d.length false/\0<d.length/\h[id]?=some (.row 1 (d.map qG) true)
def DVF(b:Nat)(dv:AV):Prop:=∀id o n c,dv=.slice 1 id o n c->b<=id
theorem DVF.nils{b:Nat}:DVF b .nils:=fun _ _ _ _ e=>by cases e
theorem DVF.mk{b id o n:Nat}{c:Bool}(h:b<=id):DVF b (.slice 1 id o n c):=fun _ _ _ _ e=>by cases e;exact h
def G1(h h':List qA):Prop:=∀(id:Nat)(d:List Int),0<d.length->h[id]?=some (.row 1 (d.map qG) true)->h'[id]?=some (.row 1 (d.map qG) true)
section
variable {bytes:List Int} {sid B:Nat} {h h' h2:List qA} {K:AV->List qA->Prop} {dv:AV} {d:List Int}
theorem DV.up(x:DV h dv d)(hg:G1 h h'):DV h' dv d:=by
 rcases x with x | ⟨id,h1,h2,h3⟩
 ·exact .inl x
 ·exact .inr ⟨id,h1,h2,hg id d h2 h3⟩
theorem G1.refl:G1 h h:=fun _ _ _ q=>q
theorem G1.trans(x:G1 h h')(y:G1 h' h2):G1 h h2:=fun id d h0 q=>y id d h0 (x id d h0 q)
theorem G1.app{ex:List qA}:G1 h (h++ex):=fun id d _ q=>by rw[gAl (qJ q)];exact q
theorem G1.set{j:Nat}{o:qA}(hj:∀d:List Int,0<d.length->h[j]?≠some (.row 1 (d.map qG) true)):G1 h (h.set j o):=fun id d h0 q=>by
 rw[gSn fun e=>by subst e;exact hj d h0 q];exact q
theorem KS.g1(hs:SR bytes sid B h){C:Nat}(x:KS bytes sid C h h'):G1 h h':=fun id d h0 q=>by
 have hne:id≠sid:=fun e=>by obtain⟨p,s,_,h2⟩:=hs;rw[<-e,q]at h2;simp at h2
 rw[x.k id hne];exact q
structure KA(bytes:List Int)(sid B:Nat)(h h':List qA):Prop where
 l:h.length<=h'.length
 k:∀j,j<h.length->j≠sid->h'[j]?=h[j]?
 s:SR bytes sid B h'
theorem KS.ka{C:Nat}(x:KS bytes sid C h h'):KA bytes sid C h h':=⟨by rw[x.l];exact nLr _,fun j _ hj=>x.k j hj,x.s⟩
theorem KA.trans{C:Nat}(x:KA bytes sid B h h')(y:KA bytes sid C h' h2):KA bytes sid C h h2:=⟨nLt x.l y.l,fun j h1 h3=>(y.k j (Nat.lt_of_lt_of_le h1 x.l) h3).trans (x.k j h1 h3),y.s⟩
theorem KA.up{C:Nat}(x:KA bytes sid B h h')(hbc:B<=C):KA bytes sid C h h':=⟨x.l,x.k,x.s.up hbc⟩
theorem KA.refl(x:SR bytes sid B h):KA bytes sid B h h:=⟨nLr _,fun _ _ _=>rfl,x⟩
theorem KA.app(x:KA bytes sid B h h'){ex:List qA}:KA bytes sid B h (h'++ex):=⟨by have:=x.l;simp;omega,fun j h1 h3=>by rw[gAl (Nat.lt_of_lt_of_le h1 x.l)];exact x.k j h1 h3,by
 obtain⟨p,s,h1,h2⟩:=x.s;exact⟨p,s,h1,by rw[gAl (qJ h2)];exact h2⟩⟩
theorem KA.set(x:KA bytes sid B h h'){j:Nat}{o:qA}(hj:h.length<=j)(hs:j≠sid):KA bytes sid B h (h'.set j o):=⟨by have:=x.l;simp;omega,fun i h1 h3=>by rw[gSn (by omega)];exact x.k i h1 h3,by
 obtain⟨p,s,h1,h2⟩:=x.s;exact⟨p,s,h1,by rw[gSn hs];exact h2⟩⟩
theorem KA.ne(x:KA bytes sid B h h'){j:Nat}{w:Nat}{el:List AV}(hw:w≠3)(hj:h'[j]?=some (.row w el true)):j≠sid:=fun e=>by
 obtain⟨p,s,_,h2⟩:=x.s;rw[<-e,hj]at h2;simp at h2;exact hw h2.1
structure KG(bytes:List Int)(sid B:Nat)(h h':List qA):Prop where
 a:KA bytes sid B h h'
 g:G1 h h'
theorem KG.refl(x:SR bytes sid B h):KG bytes sid B h h:=⟨KA.refl x,G1.refl⟩
theorem KG.ks{C:Nat}(x:KG bytes sid B h h')(k:KS bytes sid C h' h2):KG bytes sid C h h2:=⟨x.a.trans k.ka,x.g.trans (k.g1 x.a.s)⟩
theorem KG.app(x:KG bytes sid B h h'){ex:List qA}:KG bytes sid B h (h'++ex):=⟨x.a.app,x.g.trans G1.app⟩
theorem KG.up{C:Nat}(x:KG bytes sid B h h')(hbc:B<=C):KG bytes sid C h h':=⟨x.a.up hbc,x.g⟩
theorem KG.set(x:KG bytes sid B h h'){j:Nat}{o:qA}(hj:h.length<=j)(hs:j≠sid):KG bytes sid B h (h'.set j o):=⟨x.a.set hj hs,fun id d h0 q=>by
 have:=qJ q;rw[gSn (by omega)];exact x.g id d h0 q⟩
theorem KG.trans{C:Nat}(x:KG bytes sid B h h')(y:KG bytes sid C h' h2):KG bytes sid C h h2:=⟨x.a.trans y.a,x.g.trans y.g⟩
theorem jn{E:Ev}{d:Option Nat}{w n:Nat}{v:Option (List AV)}{el:List AV}{l:List qB}{ks:List Fr1}{s m:qR}{h:List qA}{Q:qT->VSt->Prop}(e:v=some el)(hr:jO E d (.row w el true) (.slice w h.length 0 n false) l ks ⟨s,m,h⟩ Q):Bsl E d w n v l ks ⟨s,m,h⟩ Q:=by
 subst e;rw[qMK];exact hr
theorem Vy{k lev:Int}(hb:OkB bytes)(hs:SR bytes sid B h)(hB:B<800000000)(hk1:1<=k)(hk2:k<=12)(hsl:sid<h.length)
  (hK:∀lv v d np dv q h',0<np->np<=4->d.length<=4->KG bytes sid (B+40) h h'->DV h' dv d->DVF h.length dv->h.length<=q->h'[q]?=some (.row 2 (List.replicate np zp.enc) true)->K (qY ⟨k,lv,v,d,List.replicate np zp⟩ dv q) h'):
  SCall Gm 1084 [.ptr sid 0 0,.int .i64 k,.int .i64 lev] h K:=by
 have hp:0<jf k 0/\jf k 0<=3:=by
  have:k=1\/k=2\/k=3\/k=4\/k=5\/k=6\/k=7\/k=8\/k=9\/k=10\/k=11\/k=12:=by omega
  rcases this with rfl | rfl | rfl | rfl | rfl | rfl | rfl | rfl | rfl | rfl | rfl | rfl<;>decide
 refine sI XK ?_;have tail:∀(s' m':qR)(g:List qA)(lv v:Int)(d:List Int)(np:Nat)(dv:AV),0<np->np<=4->d.length<=4->KG bytes sid (B+40) h g->DV g dv d->DVF h.length dv->
   get s' 10=some (.int .i64 (np:Nat))->get m' 7=some (.agg [.int .i64 k,.int .i64 lv,.int .i64 v,dv,.nils])->get m' 6=some (.agg [.int .i64 0,.int .i64 0,.int .i64 0,.nils,.nils])->
   R ⟨Gm,h.length,[],[]⟩ [.code Zf,.blk 3,.code ((qD.reg true [.mk 0 (some 105) none (.lload 7 0 (some 5)) [],.mk 1 none none (.lstore 6 0 5 (.t 105)) []]).seq .ret)] ⟨s',m',g⟩ (ze [.l 6 (some 5)] K):=by
  intro s' m' g lv v d np dv n0 n4 d4 kg hdv hdf g10 g7 g6;have ka:=kg.a;have hg:=kg.g;simp only[go_sem];refine Sem.loop (α:=Nat×List qA×Nat) (fun q=>q.1<=np/\KA bytes sid (B+40) h q.2.1/\DV q.2.1 dv d/\G1 h q.2.1/\h.length<=q.2.2/\q.2.1[q.2.2]?=some (.row 2 (List.replicate q.1 zp.enc) true))
   (fun q=>(⟨[(10,.int .i64 ((np-q.1:Nat):Int))],[(6,.agg [.int .i64 0,.int .i64 0,.int .i64 0,.nils,.nils]),(7,.agg [.int .i64 k,.int .i64 lv,.int .i64 v,dv,.slice 2 q.2.2 0 q.1 false])],q.2.1⟩:VSt)) (fun q=>np-q.1) (0,g++[qA.row 2 [] true],g.length) (by kernel_rfl)
   ⟨nZl _,ka.app,hdv.up G1.app,hg.trans G1.app,ka.l,by simp⟩
   (Can.ph (WkN.same g10 WkN.nil) (WkN.same g6 (WkN.cons g7 (Wk.agg (Wks.same (Wks.same (Wks.same (Wks.same (.cons (Wk.ph (by simp)) .nil)))))) WkN.nil))) ?_
  rintro⟨i,f,pid⟩ ⟨hi,kf,df,gf,hp1,hr⟩;simp only at hi kf df gf hp1 hr;simp only[go_sem];apply qF<;>intro hc<;>simp only[hc,go_sem]
  ·have hlt:i<np:=by have:=odT hc;omega
   have hps:=kf.ne (by decide) hr;obtain⟨r1,r2⟩:=wV (tmp:=qA.row 2 [zp.enc] true) hr;refine jt r2 r1 (by simp) (by omega) ?_;have e1:IntKind.i64.wrap (((np-i:Nat):Int)-1)=((np-(i+1):Nat):Int):=by rw[zD (by omega) (by omega)];omega
   simp only[go_sem];simp only[e1];have kf2:=(((kf.app (ex:=[qA.row 2 [zp.enc] true])).set (o:=qA.dead) hp1 hps).app (ex:=[qA.row 2 (List.replicate i zp.enc++[zp.enc]) true]));have gf2:G1 f ((f++[qA.row 2 [zp.enc] true]).set pid qA.dead++[qA.row 2 (List.replicate i zp.enc++[zp.enc]) true]):=(G1.app.trans (G1.set fun d _ q=>by rw[gAl (qJ hr),hr]at q;simp at q)).trans G1.app;have hlp:=qJ hr;refine ql (i+1,_,f.length+1) ⟨hlt,kf2,df.up gf2,gf.trans gf2,by have:=kf.l;simp only;omega, ?_⟩ (by simp only;omega) (Can.sub ?_ ?_)
   ·simp only;rw[gAr (by simp),qQ4];simp
   ·simp[go_sem]
   ·simp[go_sem]
  ·have hlt:i=np:=by have:=odF hc;omega
   subst hlt;refine jR (k:=5) (by rfl) (by rfl) (by exact⟨_,rfl⟩) (by decide) ?_;simp only[go_sem];have:=hK lv v d i dv pid f n0 n4 d4 ⟨kf,gf⟩ df hdf hp1 hr;unfold qY at this;rw[List.length_replicate]at this;exact this
 obtain⟨np0,hnp⟩:∃np0:Nat,jf k 0=(np0:Int):=⟨(jf k 0).toNat,by omega⟩;rw[hnp]at hp;have sw:∀(s' m':qR)(lv:Int),get s' 0=some (.ptr sid 0 0)->get s' 1=some (.int .i64 k)->get s' 8=some (.int .i64 (np0:Nat))->
   get m' 7=some (.agg [.int .i64 k,.int .i64 lv,.int .i64 0,.nils,.nils])->get m' 6=some (.agg [.int .i64 0,.int .i64 0,.int .i64 0,.nils,.nils])->
   R ⟨Gm,h.length,[],[]⟩ [.code Qp] ⟨s',m',h⟩ (ze [.l 6 (some 5)] K):=by
  intro s' m' lv g0 g1 g8 m7 m6;rw[qLY];revert tail;generalize Zf=k17;intro tail;simp only[g0,g1,g8,m7,m6,go_sem];have q0:=KG.refl hs;apply qF<;>intro hc<;>simp only[hc,g0,g1,g8,m7,m6,go_sem]
  ·refine qM (zB hb hs (by omega) fun r h1 r0 r1 k1=> ?_);have q1:=q0.ks k1;simp only[g0,g1,g8,m7,m6,go_sem];refine qM (Wy hb k1.s (by omega) fun b h2 k2=> ?_);have q2:=q1.ks k2;simp only[g0,g1,g8,m7,m6,go_sem];apply qF<;>intro hc<;>simp only[hc,g0,g1,g8,m7,m6,go_sem]
   ·refine jn (el:=([-2147483648,2147483647,-7,1000]:List Int).map qG) rfl ?_;have q3:=q2.app (ex:=[qA.row 1 (([-2147483648,2147483647,-7,1000]:List Int).map qG) true]);simp only[g0,g1,g8,m7,m6,go_sem];refine qM (w4 (xs:=[-2147483648,2147483647,-7,1000]) hb q3.a.s (by omega) (by simp) rfl (by decide) fun x h3 _ k3=> ?_);have q4:=q3.ks k3;simp only[g0,g1,g8,m7,m6,go_sem];refine tail _ _ h3 lv x [] np0 .nils (by omega) (by omega) (by simp) (q4.up (by omega)) (.inl ⟨rfl,rfl⟩) DVF.nils ?_ ?_ ?_<;>simp only[g0,g1,g8,m7,m6,go_sem]
   ·refine tail _ _ h2 lv (IntKind.i64.wrap (r-1)) [] np0 .nils (by omega) (by omega) (by simp) (q2.up (by omega)) (.inl ⟨rfl,rfl⟩) DVF.nils ?_ ?_ ?_<;>simp only[g0,g1,g8,m7,m6,go_sem]
  apply qF<;>intro hc<;>simp only[hc,g0,g1,g8,m7,m6,go_sem]
  ·refine qM (zB hb hs (by omega) fun r h1 r0 r1 k1=> ?_);have q1:=q0.ks k1;simp only[g0,g1,g8,m7,m6,go_sem];refine tail _ _ h1 lv (IntKind.i64.wrap (1+r)) [] np0 .nils (by omega) (by omega) (by simp) (q1.up (by omega)) (.inl ⟨rfl,rfl⟩) DVF.nils ?_ ?_ ?_<;>simp only[g0,g1,g8,m7,m6,go_sem]
  apply qF<;>intro hc<;>simp only[hc,g0,g1,g8,m7,m6,go_sem]
  ·refine qM (zB hb hs (by omega) fun r h1 r0 r1 k1=> ?_);have q1:=q0.ks k1;simp only[g0,g1,g8,m7,m6,go_sem];refine qM (zB hb k1.s (by omega) fun u h2 u0 u1 k2=> ?_);have q2:=(q1.ks k2).app (ex:=[qA.row 1 [.int .i64 (IntKind.i64.wrap (u-4))] true]);simp only[g0,g1,g8,m7,m6,go_sem];refine Q1 (Els.row (rw':=true) (el:=[.int .i64 (IntKind.i64.wrap (u-4))]) (by simp) rfl) (by simp) ?_;have q3:=q2.app (ex:=[qA.row 1 [.int .i64 (IntKind.i64.wrap (u-4))] true]);simp only[g0,g1,g8,m7,m6,go_sem];refine tail _ _ _ lv (IntKind.i64.wrap (1+r)) [IntKind.i64.wrap (u-4)] np0 (.slice 1 (h2++[qA.row 1 [.int .i64 (IntKind.i64.wrap (u-4))] true]).length 0 1 false) (by omega) (by omega) (by simp) (q3.up (by omega)) (.inr ⟨_,rfl,by simp,gCl⟩) (DVF.mk (by have:=q2.a.l;simpa using this)) ?_ ?_ ?_<;>simp only[g0,g1,g8,m7,m6,go_sem]
  apply qF<;>intro hc<;>simp only[hc,g0,g1,g8,m7,m6,go_sem]
  ·refine qM (zB hb hs (by omega) fun r h1 r0 r1 k1=> ?_);have q1:=q0.ks k1;simp only[g0,g1,g8,m7,m6,go_sem];refine qM (zB hb k1.s (by omega) fun u h2 u0 u1 k2=> ?_);have q2:=q1.ks k2;simp only[g0,g1,g8,m7,m6,go_sem];obtain⟨np,rfl⟩:∃np:Nat,u=(np:Int):=⟨u.toNat,by omega⟩;have ew:IntKind.i64.wrap (1+(np:Int))=((np+1:Nat):Int):=by rw[zD (by omega) (by omega)];omega
   refine tail _ _ h2 lv r [] (np+1) .nils (by omega) (by omega) (by simp) (q2.up (by omega)) (.inl ⟨rfl,rfl⟩) DVF.nils ?_ ?_ ?_<;>simp only[ew,g0,g1,g8,m7,m6,go_sem]
  apply qF<;>intro hc<;>simp only[hc,g0,g1,g8,m7,m6,go_sem]
  ·refine qM (zB hb hs (by omega) fun r h1 r0 r1 k1=> ?_);have q1:=q0.ks k1;simp only[g0,g1,g8,m7,m6,go_sem];refine tail _ _ h1 lv r [] np0 .nils (by omega) (by omega) (by simp) (q1.up (by omega)) (.inl ⟨rfl,rfl⟩) DVF.nils ?_ ?_ ?_<;>simp only[g0,g1,g8,m7,m6,go_sem]
  apply qF<;>intro hc<;>simp only[hc,g0,g1,g8,m7,m6,go_sem]
  ·refine qM (zB hb hs (by omega) fun r h1 r0 r1 k1=> ?_);have q1:=q0.ks k1;simp only[g0,g1,g8,m7,m6,go_sem];refine Q1 (Els.row (rw':=true) (el:=[.int .i64 r]) (by simp) rfl) (by simp) ?_;have q2:=(q1.app (ex:=[qA.row 1 [.int .i64 r] true])).app (ex:=[qA.row 1 [.int .i64 r] true]);have o2:((h1++[qA.row 1 [.int .i64 r] true])++[qA.row 1 [.int .i64 r] true])[(h1++[qA.row 1 [.int .i64 r] true]).length]?=some (.row 1 [.int .i64 r] true):=gCl;have l2:h.length<=(h1++[qA.row 1 [.int .i64 r] true]).length:=by have:=k1.l;simp;omega
   generalize (h1++[qA.row 1 [.int .i64 r] true]).length=id2 at o2 l2;generalize (h1++[qA.row 1 [.int .i64 r] true])++[qA.row 1 [.int .i64 r] true]=f2 at q2 o2;simp only[g0,g1,g8,m7,m6,go_sem];refine qM (zB hb q2.a.s (by omega) fun u h2 u0 u1 k2=> ?_);have n2:=q2.a.ne (by decide) o2;have o3:=(k2.k _ n2).trans o2;have q3:=(q2.ks k2).app (ex:=[qA.row 1 [.int .i64 u] true]);simp only[g0,g1,g8,m7,m6,go_sem];obtain⟨r1,r2⟩:=wV (tmp:=qA.row 1 [.int .i64 u] true) o3;refine jt r2 r1 rfl (by decide) ?_;have q4:=(q3.set (o:=qA.dead) l2 n2).app (ex:=[qA.row 1 ([.int .i64 r]++[.int .i64 u]) true]);simp only[g0,g1,g8,m7,m6,go_sem];refine tail _ _ _ lv 0 [r,u] np0 (.slice 1 (h2++[qA.row 1 [.int .i64 u] true]).length 0 2 false) (by omega) (by omega) (by simp) (q4.up (by omega)) (.inr ⟨_,rfl,by simp, ?_⟩) (DVF.mk (by have:=q3.a.l;simpa using this)) ?_ ?_ ?_
   ·rw[gAr (by simp)];simp[qG]
   all_goals simp only[g0,g1,g8,m7,m6,go_sem]
  apply qF<;>intro hc<;>simp only[hc,g0,g1,g8,m7,m6,go_sem]
  ·refine qM (zB hb hs (by omega) fun r h1 r0 r1 k1=> ?_);have q1:=q0.ks k1;simp only[g0,g1,g8,m7,m6,go_sem];obtain⟨c,rfl⟩:∃c:Nat,r=(c:Int):=⟨r.toNat,by omega⟩;have ew:IntKind.i64.wrap (1+(c:Int))=((c+1:Nat):Int):=by rw[zD (by omega) (by omega)];omega
   rw[ew];refine Sem.loop (α:=Nat×List qA×AV×List Int) (fun q=>q.1<=c+1/\KG bytes sid (B+2+2*q.1) h q.2.1/\q.2.2.2.length=q.1/\((q.2.2.1=.nils/\q.2.2.2=[])\/∃id,q.2.2.1=.slice 1 id 0 q.2.2.2.length false/\0<q.2.2.2.length/\h.length<=id/\q.2.1[id]?=some (.row 1 (q.2.2.2.map qG) true)))
    (fun q=>(⟨[(9,.int .i64 ((c+1-q.1:Nat):Int)),(0,.ptr sid 0 0),(8,.int .i64 (np0:Nat))],[(6,.agg [.int .i64 0,.int .i64 0,.int .i64 0,.nils,.nils]),(7,.agg [.int .i64 k,.int .i64 lv,.int .i64 0,q.2.2.1,.nils])],q.2.1⟩:VSt)) (fun q=>c+1-q.1) (0,h1,.nils,[]) (by kernel_rfl)
    ⟨nZl _,q1,rfl,.inl ⟨rfl,rfl⟩⟩ (Can.sub (by simp[g0,g1,g8,m7,m6,go_sem]) (by simp[g0,g1,g8,m7,m6,go_sem])) ?_
   rintro⟨i,f,dv,d⟩ ⟨hi,kf,dl,hd⟩;simp only at hi kf dl hd;simp only[go_sem];apply qF<;>intro hc<;>simp only[hc,go_sem]
   ·have hlt:i<c+1:=by have:=odT hc;omega
    refine qM (zB hb kf.a.s (by omega) fun u f1 u0 u1 k2=> ?_);have e1:IntKind.i64.wrap (((c+1-i:Nat):Int)-1)=((c+1-(i+1):Nat):Int):=by rw[zD (by omega) (by omega)];omega
    have q3:=(kf.ks k2).app (ex:=[qA.row 1 [.int .i64 u] true]);simp only[go_sem];rcases hd with⟨rfl,rfl⟩ | ⟨id,rfl,d0,id0,o2⟩
    ·refine Q1 (Els.row (rw':=true) (el:=[.int .i64 u]) (by simp) rfl) (by simp) ?_;simp only[go_sem];simp only[e1];refine ql (i+1,_,.slice 1 (f1++[qA.row 1 [.int .i64 u] true]).length 0 1 false,[u]) ⟨hlt,(q3.app).up (by simp only;omega),by simp at dl;simp only[lCo,lNi];omega,.inr ⟨_,rfl,by simp, ?_,gCl⟩⟩ (by simp only;omega) (Can.sub (by simp[go_sem]) (by simp[go_sem]));have:=q3.a.l;simpa using this
    ·have n2:=kf.a.ne (by decide) o2;have o3:=(k2.k _ n2).trans o2;obtain⟨r1,r2⟩:=wV (tmp:=qA.row 1 [.int .i64 u] true) o3;refine jt r2 r1 (by simp) (by omega) ?_;simp only[go_sem];simp only[e1];have q4:=(q3.set (o:=qA.dead) id0 n2).app (ex:=[qA.row 1 (d.map qG++[.int .i64 u]) true]);refine ql (i+1,_,.slice 1 (f1++[qA.row 1 [.int .i64 u] true]).length 0 (d.length+1) false,d++[u]) ⟨hlt,q4.up (by simp only;omega),by simp[dl],.inr ⟨(f1++[qA.row 1 [.int .i64 u] true]).length,by simp,by simp, ?_, ?_⟩⟩ (by simp only;omega) (Can.sub (by simp[go_sem]) (by simp[go_sem]))
     ·have:=q3.a.l;simpa using this
     ·simp only;rw[gAr (by simp)];simp[qG]
   ·have hlt:i=c+1:=by have:=odF hc;omega
    subst hlt;refine tail _ _ f lv 0 d np0 dv (by omega) (by omega) (by omega) (kf.up (by omega)) (hd.imp id fun⟨id,a,b,_,e⟩=>⟨id,a,b,e⟩) (by rcases hd with⟨rfl,_⟩ | ⟨id,rfl,_,i0,_⟩;exact DVF.nils;exact DVF.mk i0) ?_ ?_ ?_<;>simp only[go_sem]
  refine tail _ _ h lv 0 [] np0 .nils (by omega) (by omega) (by simp) (q0.up (by omega)) (.inl ⟨rfl,rfl⟩) DVF.nils ?_ ?_ ?_<;>simp only[g0,g1,g8,m7,m6,go_sem]
 clear tail;simp only[XK,qQ,go_sem];refine jR (k:=5) (by rfl) (by rfl) (by exact⟨_,rfl⟩) (by decide) ?_;rw[qQU,qLZ];revert sw;generalize Qp=k18;intro sw;simp only[go_sem];refine qS qHG ?_;simp only[go_sem];refine qS qHH ?_;simp only[hnp,go_sem];apply qF<;>intro hc<;>simp only[hc,go_sem]
 ·refine sw _ _ lev ?_ ?_ ?_ ?_ ?_<;>simp only[go_sem]
 ·refine sw _ _ 0 ?_ ?_ ?_ ?_ ?_<;>simp only[go_sem]
end
def dat:Option AV->Option Nat
 | some (.agg [_,_,_,.slice 1 id _ _ _,_])=>some id
 | _=>none
structure NG(nid aid:Nat)(ps:List Nat)(h:List qA)(N:Ags):Prop where
 o:h[nid]?=some (.row 1 [.agg [.slice 5 aid 0 N.length false]] true)
 r:∃rs:List AV,h[aid]?=some (.row 5 rs true)/\rs.length=N.length/\∀(k:Nat)(x:qC),N[k]?=some x->∃(q:Nat)(dv:AV),ps[k]?=some q/\rs[k]?=some (qY x dv q)/\DV h dv x.Data/\h[q]?=some (.row 2 (x.Ports.map qE.enc) true)
 l:ps.length=N.length
 nd:ps.Nodup
 dd:∀rs:List AV,h[aid]?=some (.row 5 rs true)->∀i j d:Nat,dat rs[i]?=some d->dat rs[j]?=some d->i=j
theorem qPH{s m:qR}{h:List qA}{sh:Option Nat}{p:Nat}:jN (.load sh (.t p)) ⟨s,m,h⟩=Jd h sh (get s p):=by
 simp only[jN,val];have e:ev (toE s) (.t p)=get s p:=rfl;rw[e];cases get s p with
 | none=>rfl
 | some v=>
  cases v<;>try rfl
  rename_i id i j;simp only[Jd,toH];cases h[id]? with
  | none=>rfl
  | some o=>
   cases o<;>try rfl
   rename_i w el rw';simp only[jT];cases el[i]?<;>rfl
theorem JW{s m:qR}{h:List qA}{i d p id j k:Nat}{sh:Option Nat}{v:AV}(h1:get s d=some v)(h2:get s p=some (.ptr id j k))(h3:jT sh k j h[id]?=some v)(h4:v.rigid):ckVs ⟨s,m,h⟩ [.mk i (some d) none (.load sh (.t p)) []]:=by
 refine⟨⟨rfl,v,h1, ?_,h4⟩,trivial⟩;rw[qPH,h2];exact h3
section
variable {bytes:List Int} {sid B nid aid:Nat} {ps:List Nat} {h h':List qA} {N:Ags} {K:AV->List qA->Prop}
theorem NG.at(hN:NG nid aid ps h N){k:Nat}{x:qC}(hx:N[k]?=some x):∃rs q dv,h[aid]?=some (.row 5 rs true)/\rs.length=N.length/\ps[k]?=some q/\rs[k]?=some (qY x dv q)/\DV h dv x.Data/\h[q]?=some (.row 2 (x.Ports.map qE.enc) true):=by
 obtain⟨rs,h1,h2,h3⟩:=hN.r;obtain⟨q,dv,a,b,c,d⟩:=h3 k x hx;exact⟨rs,q,dv,h1,h2,a,b,c,d⟩
theorem NG.p2(hN:NG nid aid ps h N){q:Nat}(hq:q∈ps):∃el,h[q]?=some (.row 2 el true):=by
 obtain⟨k,hk,rfl⟩:=List.getElem_of_mem hq;have hkn:k<N.length:=by rw[<-hN.l];exact hk
 obtain⟨rs,q,dv,_,_,e,_,_,e2⟩:=hN.at (gEg hkn);rw[gEg hk]at e;cases e;exact⟨_,e2⟩
theorem NG.fresh(hN:NG nid aid ps h N){rs:List AV}(hr:h[aid]?=some (.row 5 rs true)){k d:Nat}(hd:dat rs[k]?=some d):d<h.length:=by
 obtain⟨rs',h1,h2,h3⟩:=hN.r;rw[hr]at h1;cases h1;by_cases hk:k<N.length
 ·obtain⟨q,dv,_,b,c,_⟩:=h3 k _ (gEg hk);rw[b]at hd;rcases c with⟨rfl,_⟩ | ⟨id,rfl,_,e⟩
  ·simp[dat,qY]at hd
  ·simp[dat,qY]at hd;subst hd;exact qJ e
 ·rw[gEn (by omega)]at hd;simp[dat]at hd
theorem NG.heap(hN:NG nid aid ps h N)(e1:h'[nid]?=h[nid]?)(e2:h'[aid]?=h[aid]?)(e3:∀q∈ps,h'[q]?=h[q]?)(hg:G1 h h'):NG nid aid ps h' N:=by
 obtain⟨rs,h1,h2,h3⟩:=hN.r;refine⟨e1.trans hN.o,⟨rs,e2.trans h1,h2,fun k x hx=> ?_⟩,hN.l,hN.nd,fun rs' e=>hN.dd rs' (e2.symm.trans e)⟩;obtain⟨q,dv,a,b,c,d⟩:=h3 k x hx;exact⟨q,dv,a,b,c.up hg,(e3 q (lMo a)).trans d⟩
theorem NG.ks{C:Nat}(hN:NG nid aid ps h N)(hs:SR bytes sid B h)(k:KS bytes sid C h h'):NG nid aid ps h' N:=by
 have ne:∀{j w:Nat}{el:List AV},w≠3->h[j]?=some (.row w el true)->j≠sid:=fun hw hj=>(KA.refl hs).ne hw hj;obtain⟨rs,h1,_,_⟩:=hN.r;exact hN.heap (k.k _ (ne (by decide) hN.o)) (k.k _ (ne (by decide) h1)) (fun q hq=>by obtain⟨el,e⟩:=hN.p2 hq;exact k.k _ (ne (by decide) e)) (k.g1 hs)
theorem NG.app(hN:NG nid aid ps h N)(ex:List qA):NG nid aid ps (h++ex) N:=by
 obtain⟨rs,h1,_,_⟩:=hN.r;exact hN.heap (gAl (qJ hN.o)) (gAl (qJ h1)) (fun q hq=>by obtain⟨el,e⟩:=hN.p2 hq;exact gAl (qJ e)) G1.app
theorem NG.write(hN:NG nid aid ps h N){a s q0:Nat}{x:qC}{r:qE}(hx:N[a]?=some x)(hq:ps[a]?=some q0):NG nid aid ps (h.set q0 (.row 2 ((x.Ports.set s r).map qE.enc) true)) (wM N (pt a s) r):=by
 obtain⟨rs,h1,h2,h3⟩:=hN.r;obtain⟨el,e0⟩:=hN.p2 (lMo hq);have hlq:=qJ e0;have n1:q0≠nid:=fun e=>by rw[e,hN.o]at e0;simp at e0
 have n2:q0≠aid:=fun e=>by rw[e,h1]at e0;simp at e0
 have hg:G1 h (h.set q0 (.row 2 ((x.Ports.set s r).map qE.enc) true)):=G1.set fun d _ q=>by rw[e0]at q;simp at q
 rw[Jr hx];refine⟨by rw[gSn n1,lLs];exact hN.o,⟨rs,by rw[gSn n2];exact h1,by rw[lLs];exact h2,fun k y hy=> ?_⟩,by rw[lLs];exact hN.l,hN.nd,fun rs' e=>hN.dd rs' (by rw[<-gSn n2];exact e)⟩;by_cases e:k=a
 ·subst e;rw[gSs (qJ hx)]at hy;cases hy;obtain⟨q,dv,a1,a2,a3,a4⟩:=h3 k x hx;rw[hq]at a1;cases a1;refine⟨q0,dv,hq, ?_,a3.up hg,gSs hlq⟩;rw[a2];simp[qY]
 ·rw[gSn (Ne.symm e)]at hy;obtain⟨q,dv,a1,a2,a3,a4⟩:=h3 k y hy;refine⟨q,dv,a1,a2,a3.up hg, ?_⟩;rw[gSn fun e2=> ?_]
  ·exact a4
  ·subst e2;have i1:=qJ hq;have i2:=qJ a1;rw[gEg i1]at hq;rw[gEg i2]at a1;have ee:=(Option.some.inj a1).trans (Option.some.inj hq).symm;have nd:=List.pairwise_iff_getElem.1 hN.nd;rcases Nat.lt_trichotomy k a with c | c | c
   ·exact nd k a i2 i1 c ee
   ·exact e c
   ·exact nd a k i1 i2 c ee.symm
theorem ZD{id n i:Nat}(h:i<n):idx 5 (some (.slice 5 id 0 n false)) (some (.int .i64 (i:Nat)))=some (.ptr id i 0):=by simp[idx,inI];omega
theorem QF{id n i:Nat}(h:i<n):idx 2 (some (.slice 2 id 0 n false)) (some (.int .i64 (i:Nat)))=some (.ptr id i 0):=by simp[idx,inI];omega
variable {a s c k:Nat}
theorem qKV(hN:NG nid aid ps h N)(hp:Has N a s)(hK:K (jc N (pt a s)).enc h):SCall Gm 490 [.ptr nid 0 0,(pt a s).enc] h K:=by
 obtain⟨x,hx,hs⟩:=wD.1 hp;obtain⟨rs,q,dv,h1,h2,h3,h4,h5,h6⟩:=hN.at hx;have e:jc N (pt a s)=x.Ports[s]:=Vl (z8.2 ⟨x,hx,gEg hs⟩);rw[e]at hK;refine sI YD ?_;simp only[YD,qQ,go_sem];refine zE rfl ?_;simp only[go_sem,hN.o,pt,ZD (qJ hx),h1,h4,qY,QF hs,h6,Vn hs];refine jR rfl rfl ⟨_,rfl⟩ (by decide) ?_;simp only[go_sem];exact hK
theorem qKW(hN:NG nid aid ps h N)(h1:Has N a s)(h2:Has N c k)(hK:∀h',NG nid aid ps h' (wG N (pt a s) (pt c k))->h'.length=h.length->(∀j,j∉ps->h'[j]?=h[j]?)->G1 h h'->K (.tup []) h'):SCall Gm 491 [.ptr nid 0 0,(pt a s).enc,(pt c k).enc] h K:=by
 obtain⟨x,hx,hs⟩:=wD.1 h1;obtain⟨rs,q,dv,r1,r2,r3,r4,r5,r6⟩:=hN.at hx;have hN1:=hN.write (s:=s) (r:=pt c k) hx r3;obtain⟨y,hy,hk⟩:=wD.1 ((ZY N (pt a s) (pt c k)).has.1 h2);obtain⟨rs',q',dv',t1,t2,t3,t4,t5,t6⟩:=hN1.at hy;have hN2:=hN1.write (s:=k) (r:=pt a s) hy t3;have m1:=lMo r3;have m2:=lMo t3;refine sI YE ?_;simp only[YE,qQ,go_sem];refine zE rfl ?_;simp only[go_sem];refine zE rfl ?_;simp only[go_sem,hN.o,pt,ZD (qJ hx),r1,r4,qY,QF hs];refine zq rfl r6 (Vn hs) qKE ?_;rw[qK1];simp only[go_sem,hN1.o,ZD (qJ hy),t1,t4,qY,QF hk];refine zq rfl t6 (Vn hk) qKE ?_;rw[qK1];simp only[go_sem];refine hK _ hN2 (by simp) (fun j hj=> ?_) ?_
 ·rw[gSn (by rintro rfl;exact hj m2),gSn (by rintro rfl;exact hj m1)]
 ·exact(G1.set fun d _ e=>by rw[r6]at e;simp at e).trans (G1.set fun d _ e=>by rw[t6]at e;simp at e)
theorem qRL(hN:NG nid aid ps h N)(h1:Has N a s)(hg:∀q,atP N a s=some q->∃b t,q=pt b t/\Has N b t)(hK:∀b,K (.bool b) h):SCall Gm 1095 [.ptr nid 0 0,(pt a s).enc] h K:=by
 obtain⟨q,hq⟩:=h1;obtain⟨b,t,rfl,hb⟩:=hg q hq;have e:jc N (pt a s)=pt b t:=Vl hq;refine sI XQ ?_;simp only[XQ,qQ,go_sem];refine zE rfl ?_;simp only[go_sem];refine qM (qKV hN ⟨_,hq⟩ ?_);rw[e];simp only[go_sem];refine jR rfl rfl ⟨_,rfl⟩ (by decide) ?_;simp only[pt,go_sem];apply qe<;>intro hc<;>simp only[hc,go_sem]
 ·refine qM (qKV hN hb ?_);simp only[go_sem];exact hK _
 ·exact hK _
theorem NG.push(hN:NG nid aid ps h N){x:qC}{q:Nat}{dv:AV}{tmp:qA}(hd:DV h dv x.Data)(hf:∀d rs,dat (some (qY x dv q))=some d->h[aid]?=some (.row 5 rs true)->∀k:Nat,dat rs[k]?≠some d)(hq:h[q]?=some (.row 2 (x.Ports.map qE.enc) true))(hn:q∉ps):
  ∃rs,h[aid]?=some (.row 5 rs true)/\rs.length=N.length/\(((h++[tmp]).set aid .dead)++[qA.row 5 (rs++[qY x dv q]) true])[nid]?=some (.row 1 [.agg [.slice 5 aid 0 N.length false]] true)/\
   NG nid (h.length+1) (ps++[q]) ((((h++[tmp]).set aid .dead)++[qA.row 5 (rs++[qY x dv q]) true]).set nid (.row 1 [.agg [.slice 5 (h.length+1) 0 (N.length+1) false]] true)) (N++[x])/\
   G1 h ((((h++[tmp]).set aid .dead)++[qA.row 5 (rs++[qY x dv q]) true]).set nid (.row 1 [.agg [.slice 5 (h.length+1) 0 (N.length+1) false]] true)):=by
 obtain⟨rs,h1,h2,h3⟩:=hN.r;have l0:=qJ hN.o;have l1:=qJ h1;have l2:=qJ hq;have n1:nid≠aid:=fun e=>by have:=hN.o;rw[e,h1]at this;simp at this
 have n2:q≠aid:=fun e=>by rw[e,h1]at hq;simp at hq
 have n3:q≠nid:=fun e=>by rw[e,hN.o]at hq;simp at hq
 have same:∀j,j<h.length->j≠aid->(((h++[tmp]).set aid qA.dead)++[qA.row 5 (rs++[qY x dv q]) true])[j]?=h[j]?:=fun j hj hne=>by
  rw[gAl (by simp;omega),gSn (Ne.symm hne),gAl hj]
 have same2:∀j,j<h.length->j≠aid->j≠nid->((((h++[tmp]).set aid qA.dead)++[qA.row 5 (rs++[qY x dv q]) true]).set nid (.row 1 [.agg [.slice 5 (h.length+1) 0 (N.length+1) false]] true))[j]?=h[j]?:=fun j hj hne hn2=>by
  rw[gSn (Ne.symm hn2)];exact same j hj hne
 have hg:G1 h ((((h++[tmp]).set aid qA.dead)++[qA.row 5 (rs++[qY x dv q]) true]).set nid (.row 1 [.agg [.slice 5 (h.length+1) 0 (N.length+1) false]] true)):=fun id d d0 e=>by
  rw[same2 id (qJ e) (fun q=>by rw[q,h1]at e;simp at e) (fun q=>by
   rw[q,hN.o]at e;cases d with
   | nil=>simp at d0
   | cons a b=>simp[qG]at e)]
  exact e
 refine⟨rs,h1,h2,(same nid l0 n1).trans hN.o,⟨by rw[gSs (by simp;omega)];simp,⟨rs++[qY x dv q], ?_,by simp[h2],fun k y hy=> ?_⟩,by simp[hN.l], ?_, ?_⟩,hg⟩
 ·rw[gSn (by omega),gAr (by simp)];simp
 ·by_cases hk:k<N.length
  ·rw[gAl hk]at hy;obtain⟨q1,dv1,a1,a2,a3,a4⟩:=h3 k y hy;have e1:q1≠aid:=fun e=>by rw[e,h1]at a4;simp at a4
   have e2:q1≠nid:=fun e=>by rw[e,hN.o]at a4;simp at a4
   exact⟨q1,dv1,by rw[gAl (qJ a1)];exact a1,by rw[gAl (qJ a2)];exact a2,a3.up hg,(same2 q1 (qJ a4) e1 e2).trans a4⟩
  ·rw[gAr (by omega)]at hy;have hk0:k-N.length=0:=by have:=qJ hy;simp at this;omega
   rw[hk0]at hy;simp at hy;subst hy;have hkN:k=N.length:=by omega
   subst hkN;exact⟨q,dv,by rw[<-hN.l,gCl],by rw[<-h2,gCl],hd.up hg,(same2 q l2 n2 n3).trans hq⟩
 ·exact List.nodup_append.2 ⟨hN.nd,by simp,fun a ha b hb e=>by simp at hb;subst hb;subst e;exact hn ha⟩
 ·intro rs' e i j d di dj;have er:rs'=rs++[qY x dv q]:=by
   rw[gSn (by omega),gAr (by simp)]at e;simpa using e.symm
  subst er;have at':∀{i:Nat},dat (rs++[qY x dv q])[i]?=some d->(i<rs.length/\dat rs[i]?=some d)\/(i=rs.length/\dat (some (qY x dv q))=some d):=fun{i} di=>by
   rcases Nat.lt_trichotomy i rs.length with c | c | c
   ·rw[gAl c]at di;exact .inl ⟨c,di⟩
   ·subst c;rw[gCl]at di;exact .inr ⟨rfl,di⟩
   ·rw[gEn (by simp;omega)]at di;simp[dat]at di
  rcases at' di with⟨_,p⟩ | ⟨u,p⟩<;>rcases at' dj with⟨_,p'⟩ | ⟨u',p'⟩
  ·exact hN.dd rs h1 i j d p p'
  ·exact absurd p (hf d rs p' h1 i)
  ·exact absurd p' (hf d rs p h1 j)
  ·rw[u,u']
theorem s709{k lev:Int}(hb:OkB bytes)(hs:SR bytes sid B h)(hB:B<800000000)(hk1:1<=k)(hk2:k<=12)(hN:NG nid aid ps h N)(h0:0<N.length)(hl:N.length<=1000)
  (hK:∀lv v d np h' aid' q,0<np->np<=4->d.length<=4->NG nid aid' (ps++[q]) h' (N++[⟨k,lv,v,d,List.replicate np zp⟩])->SR bytes sid (B+40) h'->G1 h h'->h.length<=q->(∀j o,h[j]?=some o->j≠sid->j≠nid->j≠aid->h'[j]?=some o)->K (.int .i64 (N.length:Nat)) h'):
  SCall Gm 709 [.ptr sid 0 0,.ptr nid 0 0,.int .i64 k,.int .i64 lev] h K:=by
 have hsl:sid<h.length:=by obtain⟨p,s,_,e⟩:=hs;exact qJ e
 refine sI Qu ?_;simp only[Qu,qQ,hN.o,go_sem];refine J8 (Vy hb hs hB hk1 hk2 hsl fun lv v d np dv q g n0 n4 d4 kg hdv hdf hq1 hq=> ?_);have hNg:NG nid aid ps g N:=by
  obtain⟨rs,h1,_,_⟩:=hN.r;have ne:∀{j w:Nat}{el:List AV},w≠3->h[j]?=some (.row w el true)->j≠sid:=fun hw hj=>(KA.refl hs).ne hw hj;exact hN.heap (kg.a.k _ (qJ hN.o) (ne (by decide) hN.o)) (kg.a.k _ (qJ h1) (ne (by decide) h1)) (fun q hq=>by obtain⟨el,e⟩:=hN.p2 hq;exact kg.a.k _ (qJ e) (ne (by decide) e)) kg.g
 refine⟨JW (id:=nid) (j:=0) (k:=0) (v:=.slice 5 aid 0 N.length false) (by simp only[go_sem]) (by simp only[go_sem]) (by rw[hNg.o];rfl) (by simp only[AV.rigid];omega), ?_⟩;have hqp:q∉ps:=fun hm=>by obtain⟨el,e⟩:=hN.p2 hm;have:=qJ e;omega
 have hq':g[q]?=some (.row 2 ((⟨k,lv,v,d,List.replicate np zp⟩:qC).Ports.map qE.enc) true):=by simp only[List.map_replicate];exact hq
 obtain⟨rs,p1,p2,p3,p4,p5⟩:=hNg.push (x:=⟨k,lv,v,d,List.replicate np zp⟩) (tmp:=.row 5 [qY ⟨k,lv,v,d,List.replicate np zp⟩ dv q] true) hdv (fun d' rs' e er k ek=>by
  obtain⟨rs0,h1,_,_⟩:=hN.r;have e2:=(kg.a.k _ (qJ h1) ((KA.refl hs).ne (by decide) h1)).symm.trans er;have l1:=hN.fresh e2 ek;rcases hdv with⟨rfl,_⟩ | ⟨id,rfl,_,_⟩
  ·simp[dat,qY]at e
  ·have:=hdf _ _ _ _ rfl;simp[dat,qY]at e;omega) hq' hqp
 have n1:nid≠aid:=fun e=>by have:=hNg.o;rw[e,p1]at this;simp at this
 simp only[go_sem];refine jn (el:=[qY ⟨k,lv,v,d,List.replicate np zp⟩ dv q]) rfl ?_;simp only[go_sem];obtain⟨r1,r2⟩:=wV (tmp:=.row 5 [qY ⟨k,lv,v,d,List.replicate np zp⟩ dv q] true) p1;refine jt r2 r1 p2 (by omega) ?_;simp only[lAp,nZa,go_sem];refine zq rfl p3 rfl put0 ?_;simp only[lSz];have keep:∀j o,h[j]?=some o->j≠sid->j≠nid->j≠aid->((((g++[qA.row 5 [qY ⟨k,lv,v,d,List.replicate np zp⟩ dv q] true]).set aid qA.dead)++[qA.row 5 (rs++[qY ⟨k,lv,v,d,List.replicate np zp⟩ dv q]) true]).set nid (.row 1 [.agg [.slice 5 (g.length+1) 0 (N.length+1) false]] true))[j]?=some o:=fun j o ho m1 m2 m3=>by
  have lj:=qJ ho;have lg:=kg.a.l;rw[gSn (Ne.symm m2),gAl (by simp;omega),gSn (Ne.symm m3),gAl (by omega),kg.a.k j lj m1];exact ho
 have hsr:SR bytes sid (B+40) ((((g++[qA.row 5 [qY ⟨k,lv,v,d,List.replicate np zp⟩ dv q] true]).set aid qA.dead)++[qA.row 5 (rs++[qY ⟨k,lv,v,d,List.replicate np zp⟩ dv q]) true]).set nid (.row 1 [.agg [.slice 5 (g.length+1) 0 (N.length+1) false]] true)):=by
  obtain⟨u,w,e1,e2⟩:=kg.a.s;refine⟨u,w,e1, ?_⟩;have ls:=qJ e2;rw[gSn (fun e=>by have:=hNg.o;rw[e,e2]at this;simp at this),gAl (by simp;omega),gSn (fun e=>by rw[e,e2]at p1;simp at p1),gAl ls];exact e2
 generalize hg:List.set _ _ _=g3;rw[hg]at p4 p5 keep hsr;have e5:IntKind.i64.wrap (((N.length+1:Nat):Int)-1)=((N.length:Nat):Int):=by rw[zD (by omega) (by omega)];omega
 simp only[p4.o,lAp,nZa,e5,go_sem];exact hK lv v d np _ _ q n0 n4 d4 p4 hsr (kg.g.trans p5) hq1 keep
end
structure GI(N:Ags):Prop where
 z:∀x∈N,0<x.Ports.length/\x.Ports.length<=4/\x.Data.length<=4
 w:∀a s q,atP N a s=some q->∃b t,q=pt b t/\Has N b t
section
variable {N:Ags} {a s c k:Nat}
theorem GI.has0(h:GI N){x:qC}(hx:N[a]?=some x):Has N a 0:=wD.2 ⟨x,hx,(h.z x (lMo hx)).1⟩
theorem GI.push(h:GI N)(h0:0<N.length){kk lv v:Int}{d:List Int}{np:Nat}(n0:0<np)(n4:np<=4)(d4:d.length<=4):GI (N++[⟨kk,lv,v,d,List.replicate np zp⟩]):=by
 have hz:Has (N++[⟨kk,lv,v,d,List.replicate np zp⟩]) 0 0:=(h.has0 (gEg h0)).app;refine⟨fun x hx=> ?_,fun a s q hq=> ?_⟩
 ·rcases zM.1 hx with q | q
  ·exact h.z x q
  ·simp at q;subst q;simp[n0,n4,d4]
 ·by_cases ha:a<N.length
  ·rw[Zq ha]at hq;obtain⟨b,t,e,hb⟩:=h.w a s q hq;exact⟨b,t,e,hb.app⟩
  ·obtain⟨x,hx,hs⟩:=z8.1 hq;rw[gAr (by omega)]at hx;have:=qJ hx;simp at this;have e0:a-N.length=0:=by omega
   rw[e0]at hx;simp at hx;subst hx;simp only at hs;rw[List.getElem?_replicate]at hs;split at hs
   ·cases hs;exact⟨0,0,rfl,hz⟩
   ·cases hs
theorem GI.one{kk lv v:Int}{d:List Int}{np:Nat}(n0:0<np)(n4:np<=4)(d4:d.length<=4):GI [⟨kk,lv,v,d,List.replicate np zp⟩]:=by
 refine⟨fun x hx=>by simp at hx;subst hx;simp[n0,n4,d4],fun a s q hq=> ?_⟩;obtain⟨x,hx,hs⟩:=z8.1 hq;have ha:=qJ hx;simp at ha;subst ha;simp at hx;subst hx;simp only at hs;rw[List.getElem?_replicate]at hs;split at hs
 ·cases hs;exact⟨0,0,rfl,wD.2 ⟨_,rfl,by simp[n0]⟩⟩
 ·cases hs
theorem GI.link(h:GI N)(h1:Has N a s)(h2:Has N c k):GI (wG N (pt a s) (pt c k)):=by
 have sm:=VJ N (pt a s) (pt c k);refine⟨fun x hx=> ?_,fun b t q hq=> ?_⟩
 ·obtain⟨i,hi,rfl⟩:=List.getElem_of_mem hx;obtain⟨y,hy,e⟩:=sm.back.at (gEg hi);have:=h.z y (lMo hy);simp only[jA,Prod.mk.injEq]at e;rw[<-e.2.2.2.1,<-e.2.2.2.2];exact this
 ·rw[wk h1 h2]at hq;split at hq
  ·cases hq;exact⟨a,s,rfl,sm.has.1 h1⟩
  ·split at hq
   ·cases hq;exact⟨c,k,rfl,sm.has.1 h2⟩
   ·obtain⟨b',t',e,hb⟩:=h.w b t q hq;exact⟨b',t',e,sm.has.1 hb⟩
end
structure GS(bytes:List Int)(sid nid B:Nat)(h:List qA)(N:Ags):Prop where
 n:∃aid ps,NG nid aid ps h N
 i:GI N
 s:SR bytes sid B h
 p:0<N.length
section
variable {bytes:List Int} {sid B nid:Nat} {h h':List qA} {N:Ags} {K:AV->List qA->Prop} {a s c k:Nat}
theorem GS.ks{C:Nat}(x:GS bytes sid nid B h N)(y:KS bytes sid C h h'):GS bytes sid nid C h' N:=by
 obtain⟨aid,ps,hN⟩:=x.n;exact⟨⟨aid,ps,hN.ks x.s y⟩,x.i,y.s,x.p⟩
theorem GS.up{C:Nat}(x:GS bytes sid nid B h N)(hc:B<=C):GS bytes sid nid C h N:=⟨x.n,x.i,x.s.up hc,x.p⟩
theorem SR.app(x:SR bytes sid B h)(ex:List qA):SR bytes sid B (h++ex):=by
 obtain⟨p,q,h1,h2⟩:=x;exact⟨p,q,h1,by rw[gAl (qJ h2)];exact h2⟩
theorem GS.app(x:GS bytes sid nid B h N)(ex:List qA):GS bytes sid nid B (h++ex) N:=by
 obtain⟨aid,ps,hN⟩:=x.n;exact⟨⟨aid,ps,hN.app ex⟩,x.i,x.s.app ex,x.p⟩
theorem zx{kk lev:Int}(hb:OkB bytes)(x:GS bytes sid nid B h N)(hB:B<800000000)(hk1:1<=kk)(hk2:kk<=12)(hl:N.length<=1000)
  (hK:∀h' N',GS bytes sid nid (B+40) h' N'->N'.length=N.length+1->(∀b t,Has N b t->Has N' b t)->Has N' N.length 0->K (.int .i64 (N.length:Nat)) h'):SCall Gm 709 [.ptr sid 0 0,.ptr nid 0 0,.int .i64 kk,.int .i64 lev] h K:=by
 obtain⟨aid,ps,hN⟩:=x.n;refine s709 hb x.s hB hk1 hk2 hN x.p hl fun lv v d np h' aid' q n0 n4 d4 hN' hs' _ _ _=> ?_;have gi:=x.i.push x.p (kk:=kk) (lv:=lv) (v:=v) n0 n4 d4;exact hK h' _ ⟨⟨aid',_,hN'⟩,gi,hs',by simp⟩ (by simp) (fun b t hb=>hb.app) (gi.has0 gCl)
theorem V3(x:GS bytes sid nid B h N)(h1:Has N a s)(h2:Has N c k)(hK:∀h' N',GS bytes sid nid B h' N'->SameA N N'->K (.tup []) h'):SCall Gm 491 [.ptr nid 0 0,(pt a s).enc,(pt c k).enc] h K:=by
 obtain⟨aid,ps,hN⟩:=x.n;refine qKW hN h1 h2 fun h' hN' hl hj hg=>hK h' _ ⟨⟨aid,ps,hN'⟩,x.i.link h1 h2, ?_,by rw[qPE];exact x.p⟩ (VJ _ _ _);obtain⟨p,q,e1,e2⟩:=x.s;refine⟨p,q,e1, ?_⟩;rw[hj sid fun hm=> ?_]
 ·exact e2
 ·obtain⟨el,e⟩:=hN.p2 hm;rw[e]at e2;simp at e2
theorem qRK(hb:OkB bytes)(x:GS bytes sid nid B h N)(hB:B<700000000)(hl:N.length<=900)
  (hK:∀h' N',GS bytes sid nid (B+200) h' N'->N'.length=N.length+2->K (.tup []) h'):SCall Gm 1094 [.ptr sid 0 0,.ptr nid 0 0] h K:=by
 refine sI XN ?_;have tail:∀(s' m':qR)(g:List qA)(M:Ags)(a b:Nat),GS bytes sid nid (B+200) g M->M.length=N.length+2->Has M a 0->Has M b 0->get s' 1=some (.ptr nid 0 0)->get s' 5=some (.int .i64 (a:Nat))->get s' 6=some (.int .i64 (b:Nat))->
   R ⟨Gm,h.length,[],[]⟩ [.ops Qq] ⟨s',m',g⟩ (ze [] K):=by
  intro s' m' g M a b gs ml ha hb g1 g5 g6;rw[qL0];simp only[g1,g5,g6,go_sem];refine qM (V3 gs ha hb fun g2 M2 gs2 sm=> ?_);simp only[go_sem];exact hK g2 M2 gs2 (by rw[sm.len,ml])
 simp only[XN];revert tail;generalize Qq=r19;intro tail;simp only[qQ,go_sem];refine qM (zB hb x.s (by omega) fun lev h1 _ _ k1=> ?_);have x1:=x.ks k1;simp only[go_sem];refine qM (zB hb x1.s (by omega) fun r h2 r0 r1 k2=> ?_);have x2:=x1.ks k2;simp only[go_sem];apply qF<;>intro hc<;>simp only[hc,go_sem]
 ·refine qM (zx hb x2 (by omega) (by decide) (by decide) (by omega) fun h3 N3 x3 l3 m3 e3=> ?_);simp only[go_sem];refine qM (zx hb x3 (by omega) (by decide) (by decide) (by omega) fun h4 N4 x4 l4 m4 e4=> ?_);simp only[go_sem];refine tail _ _ h4 N4 N.length N3.length (x4.up (by omega)) (by omega) (m4 _ _ e3) e4 ?_ ?_ ?_<;>simp only[go_sem]
 apply qF<;>intro hc<;>simp only[hc,go_sem]
 ·refine qM (zx hb x2 (by omega) (by decide) (by decide) (by omega) fun h3 N3 x3 l3 m3 e3=> ?_);simp only[go_sem];refine qM (zB hb x3.s (by omega) fun u h4 _ _ k4=> ?_);simp only[go_sem];refine qM (zB hb (x3.ks k4).s (by omega) fun u2 h5 _ _ k5=> ?_);simp only[go_sem];refine qM (zx hb ((x3.ks k4).ks k5) (by omega) (by decide) (by decide) (by omega) fun h4 N4 x4 l4 m4 e4=> ?_);simp only[go_sem];refine tail _ _ h4 N4 N.length N3.length (x4.up (by omega)) (by omega) (m4 _ _ e3) e4 ?_ ?_ ?_<;>simp only[go_sem]
 have c23:∀(s':qR),get s' 0=some (.ptr sid 0 0)->get s' 1=some (.ptr nid 0 0)->get s' 4=some (.int .i64 lev)->
   R ⟨Gm,h.length,[],[]⟩ [.ops Qr,.code ((qD.reg true XO).seq (.reg true XP)),.blk 0,.code (.reg true r19)] ⟨s',[],h2⟩ (ze [] K):=by
  intro s' g0 g1 g4;rw[qL1];simp only[g0,g1,g4,go_sem];refine jn (el:=([2,3,4,7,8,9,10,11,6,12]:List Int).map qG) rfl ?_;have x3:=x2.app [qA.row 1 (([2,3,4,7,8,9,10,11,6,12]:List Int).map qG) true];simp only[g0,g1,g4,go_sem];refine qM (w4 (xs:=[2,3,4,7,8,9,10,11,6,12]) hb x3.s (by omega) (by simp) rfl (by decide) fun kk h4 hk k4=> ?_);have hk2:1<=kk/\kk<=12:=by simp at hk;omega
  simp only[g0,g1,g4,go_sem];refine qM (zx hb (x3.ks k4) (by omega) hk2.1 hk2.2 (by omega) fun h3 N3 x3 l3 m3 e3=> ?_);simp only[g0,g1,g4,go_sem];refine qM (zx hb x3 (by omega) (by decide) (by decide) (by omega) fun h4 N4 x4 l4 m4 e4=> ?_);simp only[g0,g1,g4,go_sem];refine tail _ _ h4 N4 N.length N3.length (x4.up (by omega)) (by omega) (m4 _ _ e3) e4 ?_ ?_ ?_<;>simp only[g0,g1,g4,go_sem]
 revert c23;generalize Qr=r4;intro c23;apply qF<;>intro hc<;>simp only[hc,go_sem]
 ·refine c23 _ ?_ ?_ ?_<;>simp only[go_sem]
 apply qF<;>intro hc<;>simp only[hc,go_sem]
 ·refine c23 _ ?_ ?_ ?_<;>simp only[go_sem]
 clear c23;apply qF<;>intro hc<;>simp only[hc,go_sem]
 ·refine qM (zx hb x2 (by omega) (by decide) (by decide) (by omega) fun h3 N3 x3 l3 m3 e3=> ?_);simp only[go_sem];refine qM (zB hb x3.s (by omega) fun u h4 u0 u1 k4=> ?_);have ew:IntKind.i64.wrap (2+u)=2+u:=zD (by omega) (by omega);simp only[ew,go_sem];refine qM (zx hb (x3.ks k4) (by omega) (by omega) (by omega) (by omega) fun h4 N4 x4 l4 m4 e4=> ?_);simp only[go_sem];refine tail _ _ h4 N4 N.length N3.length (x4.up (by omega)) (by omega) (m4 _ _ e3) e4 ?_ ?_ ?_<;>simp only[go_sem]
 apply qF<;>intro hc<;>simp only[hc,go_sem]
 ·refine jn (el:=([7,8,11]:List Int).map qG) rfl ?_;have x3:=x2.app [qA.row 1 (([7,8,11]:List Int).map qG) true];simp only[go_sem];refine qM (w4 (xs:=[7,8,11]) hb x3.s (by omega) (by simp) rfl (by decide) fun kk h4 hk k4=> ?_);have hk2:1<=kk/\kk<=12:=by simp at hk;omega
  simp only[go_sem];refine qM (zx hb (x3.ks k4) (by omega) hk2.1 hk2.2 (by omega) fun h3 N3 x3 l3 m3 e3=> ?_);simp only[go_sem];refine qM (zx hb x3 (by omega) (by decide) (by decide) (by omega) fun h4 N4 x4 l4 m4 e4=> ?_);simp only[go_sem];refine tail _ _ h4 N4 N.length N3.length (x4.up (by omega)) (by omega) (m4 _ _ e3) e4 ?_ ?_ ?_<;>simp only[go_sem]
 apply qF<;>intro hc<;>simp only[hc,go_sem]
 ·refine qM (zx hb x2 (by omega) (by decide) (by decide) (by omega) fun h3 N3 x3 l3 m3 e3=> ?_);simp only[go_sem];refine qM (zx hb x3 (by omega) (by decide) (by decide) (by omega) fun h4 N4 x4 l4 m4 e4=> ?_);simp only[go_sem];refine tail _ _ h4 N4 N.length N3.length (x4.up (by omega)) (by omega) (m4 _ _ e3) e4 ?_ ?_ ?_<;>simp only[go_sem]
 apply qF<;>intro hc<;>simp only[hc,go_sem]
 ·refine qM (zx hb x2 (by omega) (by decide) (by decide) (by omega) fun h3 N3 x3 l3 m3 e3=> ?_);simp only[go_sem];refine jn (el:=([3,7,8,10,11]:List Int).map qG) rfl ?_;have x4:=x3.app [qA.row 1 (([3,7,8,10,11]:List Int).map qG) true];simp only[go_sem];refine qM (w4 (xs:=[3,7,8,10,11]) hb x4.s (by omega) (by simp) rfl (by decide) fun kk h4 hk k4=> ?_);have hk2:1<=kk/\kk<=12:=by simp at hk;omega
  simp only[go_sem];refine qM (zx hb (x4.ks k4) (by omega) hk2.1 hk2.2 (by omega) fun h4 N4 x4 l4 m4 e4=> ?_);simp only[go_sem];refine tail _ _ h4 N4 N.length N3.length (x4.up (by omega)) (by omega) (m4 _ _ e3) e4 ?_ ?_ ?_<;>simp only[go_sem]
 simp at*;omega
end
theorem qK9{w id n m:Nat}{s l:Env}{h:AH}{x y:Ao}{k:IntKind}(hx:ev s x=some (.slice w id 0 n false))(hy:ev s y=some (.int k (m:Nat)))(hm:m<=n):val (.slc w x none (some y) none) s l h=some (.slice w id 0 m false):=by
 simp only[val,hx,bnd,hy];rw[if_pos ⟨by omega,by omega⟩];simp
theorem qR8{w id n m:Nat}{s l:Env}{h:AH}{x y:Ao}{k:IntKind}(hx:ev s x=some (.slice w id 0 n false))(hy:ev s y=some (.int k (m:Nat)))(hm:m<=n):val (.slc w x (some y) none none) s l h=some (.slice w id m (n-m) false):=by
 simp only[val,hx,bnd,hy];rw[if_pos ⟨by omega,by omega⟩];simp
theorem c978{a b:Int}:Pure Gm 978 [.int .i64 a,.int .i64 b] (.int .i64 (if a<b then a else b)):=by
 refine pI YU (by simp[AV.trees,AV.tree,go_sem]) rfl ?_;simp only[YU,qQ,go_sem]
 repeat' (first | (refine zE rfl ?_;simp only[go_sem]) | (first | (apply qe<;>intro hc<;>simp only[hc,go_sem]) | (apply qF<;>intro hc<;>simp only[hc,go_sem])) | refine qV rfl ?_ | refine WD (by rfl) ?_)
 all_goals (simp_all<;>omega)
section
variable {bytes:List Int} {sid B nid aid:Nat} {ps:List Nat} {h h':List qA} {N:Ags} {K:AV->List qA->Prop} {a s c k:Nat}
theorem qRV{k lev:Int}(hb:OkB bytes)(hs:SR bytes sid B h)(hB:B<800000000)(hk1:1<=k)(hk2:k<=12)(ho:h[nid]?=some (.row 1 [.agg [.nils]] true))
  (hK:∀h' N',GS bytes sid nid (B+40) h' N'->N'.length=1->K (.int .i64 0) h'):
  SCall Gm 709 [.ptr sid 0 0,.ptr nid 0 0,.int .i64 k,.int .i64 lev] h K:=by
 have hsl:sid<h.length:=by obtain⟨p,s,_,e⟩:=hs;exact qJ e
 have hns:nid≠sid:=(KA.refl hs).ne (by decide) ho;refine sI Qu ?_;simp only[Qu,qQ,ho,go_sem];refine J8 (Vy hb hs hB hk1 hk2 hsl fun lv v d np dv q g n0 n4 d4 kg hdv hdf hq1 hq=> ?_);have og:g[nid]?=some (.row 1 [.agg [.nils]] true):=(kg.a.k nid (qJ ho) hns).trans ho;refine⟨JW (id:=nid) (j:=0) (k:=0) (v:=.nils) (by simp only[go_sem]) (by simp only[go_sem]) (by rw[og];rfl) trivial, ?_⟩;have hq':g[q]?=some (.row 2 ((⟨k,lv,v,d,List.replicate np zp⟩:qC).Ports.map qE.enc) true):=by simp only[List.map_replicate];exact hq
 simp only[go_sem];refine jn (el:=[qY ⟨k,lv,v,d,List.replicate np zp⟩ dv q]) rfl ?_;simp only[go_sem];refine Q1 (Els.row (rw':=true) (el:=[qY ⟨k,lv,v,d,List.replicate np zp⟩ dv q]) (by simp) rfl) (by simp) ?_;have og2:∀{e1 e2:List qA},((g++e1)++e2)[nid]?=some (.row 1 [.agg [.nils]] true):=fun{e1 e2}=>by
  rw[gAl (by have:=qJ og;simp;omega),gAl (qJ og)];exact og
 simp only[go_sem];refine zq rfl og2 rfl put0 ?_;simp only[lSz];generalize hG:List.set _ _ _=G;have lnid:=qJ og;have nq:q≠nid:=fun e=>by rw[e,og]at hq;simp at hq
 have n1:(g++[qA.row 5 [qY ⟨k,lv,v,d,List.replicate np zp⟩ dv q] true]).length≠nid:=by simp;omega
 have eG:∀j,j<g.length->j≠nid->G[j]?=g[j]?:=fun j hj hne=>by
  rw[<-hG,gSn (Ne.symm hne),gAl (by simp;omega),gAl hj]
 have gG:G1 g G:=fun id d d0 e=>by
  rw[eG id (qJ e) fun q=>by
   rw[q,og]at e;cases d with
   | nil=>simp at d0
   | cons a b=>simp[qG]at e]
  exact e
 have hNG:NG nid (g++[qA.row 5 [qY ⟨k,lv,v,d,List.replicate np zp⟩ dv q] true]).length [q] G [⟨k,lv,v,d,List.replicate np zp⟩]:=by
  refine⟨by rw[<-hG,gSs (by simp;omega)];simp,⟨[qY ⟨k,lv,v,d,List.replicate np zp⟩ dv q],by rw[<-hG,gSn (Ne.symm n1),gCl],rfl,fun i x hx=> ?_⟩,rfl,by simp,fun rs' e i j d9 di dj=> ?_⟩;have hi:=qJ hx;simp at hi;subst hi;simp at hx;subst hx
  focus exact⟨q,dv,rfl,rfl,hdv.up gG,(eG q (qJ hq) nq).trans hq'⟩
  rw[<-hG,gSn (Ne.symm n1),gCl]at e;have er:rs'=[qY ⟨k,lv,v,d,List.replicate np zp⟩ dv q]:=by simpa using e.symm
  subst er;have at':∀{i:Nat}{d':Nat},dat [qY ⟨k,lv,v,d,List.replicate np zp⟩ dv q][i]?=some d'->i=0:=fun{i d'} di=>by
   cases i with
   | zero=>rfl
   | succ i=>simp[dat]at di
  rw[at' di,at' dj]
 have hsr:SR bytes sid (B+40) G:=by
  obtain⟨u,w,e1,e2⟩:=kg.a.s;exact⟨u,w,e1,(eG sid (qJ e2) (Ne.symm hns)).trans e2⟩
 simp only[hNG.o,go_sem];exact hK G _ ⟨⟨_,_,hNG⟩,GI.one n0 n4 d4,hsr,by simp⟩ rfl
end
def frE(F:List (Nat×Nat)):List AV:=F.map fun p=>(pt p.1 p.2).enc
theorem qIV{F:List (Nat×Nat)}{i:Nat}(h:i<F.length):(frE F)[i]?=some (pt F[i].1 F[i].2).enc:=by simp[frE,h]
theorem WH{F:List (Nat×Nat)}:(frE F).length=F.length:=by simp[frE]
section
variable {bytes:List Int} {sid B b nid aid:Nat} {ps:List Nat} {h h':List qA} {N:Ags} {K:AV->List qA->Prop} {a s c k:Nat}
structure FS(bytes:List Int)(sid nid aid:Nat)(ps:List Nat)(B fid:Nat)(F:List (Nat×Nat))(h:List qA)(N:Ags):Prop where
 n:NG nid aid ps h N
 i:GI N
 s:SR bytes sid B h
 p:0<N.length
 f:∀p∈F,Has N p.1 p.2
 r:h[fid]?=some (.row 2 (frE F) true)
 d:fid∉ps
theorem qSL(hb:OkB bytes){J C fid:Nat}{F:List (Nat×Nat)}{g:List qA}{s' m':qR}(x:FS bytes sid nid aid ps C fid F g N)(hF:F.length=2*J)(hJ:J<=10000)(hC:C+2*J<800000000)(hl:N.length<=901)
  (g0:get s' 0=some (.ptr sid 0 0)) (g9:get s' 9=some (.ptr nid 0 0)) (g15:get s' 15=some (.slice 2 fid 0 (2*J) false)) (m8:get m' 8=some (.agg [.nils]))
  (hK:∀h' N',NG nid aid ps h' N'->GI N'->SR bytes sid (C+2*J) h'->0<N'.length->N'.length<=901->K (.agg [.slice 5 aid 0 N'.length false]) h'):
  R ⟨Gm,b,[],[]⟩ [.code (.blk 10 (.loop Qs)),.code (.seq (.reg true [.mk 0 (some 156) none (.load (some 1) (.t 9)) [],.mk 1 none none (.lstore 8 0 1 (.t 156)) []]) .ret)] ⟨s',m',g⟩ (ze [.l 8 (some 1)] K):=by
 simp only[go_sem];refine Sem.loop (α:=Nat×Nat×List (Nat×Nat)×List qA×Ags) (fun q=>q.1<=J/\q.2.2.1.length=2*(J-q.1)/\FS bytes sid nid aid ps (C+2*q.1) q.2.1 q.2.2.1 q.2.2.2.1 q.2.2.2.2/\q.2.2.2.2.length<=901)
  (fun q=>(⟨[(0,.ptr sid 0 0),(9,.ptr nid 0 0),(15,.slice 2 q.2.1 0 (2*(J-q.1)) false)],[(8,.agg [.nils])],q.2.2.2.1⟩:VSt)) (fun q=>J-q.1) (0,fid,F,g,N) (by kernel_rfl)
  ⟨nZl _,hF,x,hl⟩ (Can.sub (by simp[g0,g9,g15,go_sem]) (by simp[m8,go_sem])) ?_
 rintro⟨j,fd,F,g,N⟩ ⟨hj,hF,x,hl⟩;simp only at hj hF x hl;simp only[go_sem];apply qF<;>intro hc<;>simp only[hc,go_sem]
 ·have hlt:j<J:=by have:=odT hc;omega
  clear hc;have e1:IntKind.i64.wrap (((2*(J-j):Nat):Int)-1)=((2*(J-j)-1:Nat):Int):=by rw[zD (by omega) (by omega)];omega
  have hlast:2*(J-j)-1<F.length:=by omega
  simp only[e1,QF (show 2*(J-j)-1<2*(J-j) by omega),x.r,qIV hlast,go_sem];refine jR rfl rfl ⟨_,rfl⟩ (by decide) ?_;simp only[go_sem];refine Jl (qK9 (k:=.i64) (id:=fd) (n:=2*(J-j)) (m:=2*(J-j)-1) (by simp only[go_sem]) (by simp only[go_sem]) (by omega)) ?_;simp only[go_sem];have e2:IntKind.i64.wrap (((2*(J-j)-1:Nat):Int)-1)=((2*(J-j)-2:Nat):Int):=by rw[zD (by omega) (by omega)];omega
  simp only[e2,go_sem];refine qS c978 ?_;simp only[go_sem];refine qM (zB hb x.s (by omega) fun r g1 r0 r1 k1=> ?_);obtain⟨r,rfl⟩:∃r':Nat,r=(r':Int):=⟨r.toNat,by omega⟩;have hr:r<=2*(J-j)-2:=by
   split at r1<;>omega
  have nfs:fd≠sid:=(KA.refl x.s).ne (by decide) x.r;have xr:g1[fd]?=some (.row 2 (frE F) true):=(k1.k _ nfs).trans x.r;have xn:=x.n.ks x.s k1;obtain⟨kk,ekk⟩:∃kk,kk=2*(J-j)-2-r:=⟨_,rfl⟩;have e3:IntKind.i64.wrap (((2*(J-j)-2:Nat):Int)-(r:Int))=(kk:Int):=by rw[zD (by omega) (by omega)];omega
  have hk:kk<F.length:=by omega
  simp only[e3,QF (show kk<2*(J-j)-1 by omega),xr,qIV hk,go_sem];refine qM (qKW xn (x.f _ (gMm hlast)) (x.f _ (gMm hk)) fun g2 xn2 l2 k2 gg2=> ?_);have sm:=VJ N (pt F[2*(J-j)-1].1 F[2*(J-j)-1].2) (pt F[kk].1 F[kk].2);have gi2:=x.i.link (x.f _ (gMm hlast)) (x.f _ (gMm hk));have xr2:g2[fd]?=some (.row 2 (frE F) true):=(k2 _ x.d).trans xr;have xs2:SR bytes sid (C+2*j+2) g2:=by
   obtain⟨p,q,e1,e2⟩:=k1.s;refine⟨p,q,e1, ?_⟩;rw[k2 sid fun hm=> ?_]
   ·exact e2
   ·obtain⟨el,e⟩:=xn.p2 hm;rw[e]at e2;simp at e2
  generalize wG N (pt F[2*(J-j)-1].1 F[2*(J-j)-1].2) (pt F[kk].1 F[kk].2)=N2 at xn2 sm gi2;simp only[go_sem];refine Jl (qK9 (k:=.i64) (id:=fd) (n:=2*(J-j)-1) (m:=kk) (by simp only[go_sem]) (by simp only[go_sem]) (by omega)) ?_;have e4:IntKind.i64.wrap ((kk:Int)+1)=((kk+1:Nat):Int):=zJ (by omega);simp only[e4,go_sem];refine Jl (qR8 (k:=.i64) (id:=fd) (n:=2*(J-j)-1) (m:=kk+1) (by simp only[go_sem]) (by simp only[go_sem]) (by omega)) ?_;simp only[go_sem];have lF:(frE F).length=2*(J-j):=by rw[WH];exact hF
  have p1:=Els.part (w:=2) (off:=0) (n:=kk) (c:=false) xr2 (by omega);have y1:(((frE F).drop 0).take kk).length=kk:=by simp[lF];omega
  refine qGZ p1 (by omega) ?_;simp only[go_sem];have l2':=qJ xr2;have p2:Els (g2++[qA.row 2 (((frE F).drop 0).take kk) true]) 2 (.slice 2 fd (kk+1) (2*(J-j)-1-(kk+1)) false) (((frE F).drop (kk+1)).take (2*(J-j)-1-(kk+1))):=Els.part (rw':=true) (by rw[gAl l2'];exact xr2) (by omega);have y2:(((frE F).drop (kk+1)).take (2*(J-j)-1-(kk+1))).length=2*(J-(j+1))-kk:=by simp[lF];omega
  refine qG0 p2 (by rw[gAr (nLr _),nSs];rfl) rfl (by omega) ?_;simp only[y1,y2,go_sem];have eF:((frE F).drop 0).take kk++((frE F).drop (kk+1)).take (2*(J-j)-1-(kk+1))=frE (F.take kk++(F.drop (kk+1)).take (2*(J-j)-1-(kk+1))):=by simp[frE,List.map_take,List.map_drop]
  rw[eF];have nfd:∀q∈ps,q<g2.length:=fun q hq=>by obtain⟨el,e⟩:=xn2.p2 hq;exact qJ e
  have hh:∀{j0:Nat}{o:qA}{e1 e2:qA},g2[j0]?=some o->((g2++[e1]).set g2.length .dead++[e2])[j0]?=some o:=fun{j0 o e1 e2} hj0=>by
   have:=qJ hj0;rw[gAl (by simp;omega),gSn (by omega),gAl this];exact hj0
  refine ql (j+1,g2.length+1,F.take kk++(F.drop (kk+1)).take (2*(J-j)-1-(kk+1)),(g2++[qA.row 2 (((frE F).drop 0).take kk) true]).set g2.length qA.dead++[qA.row 2 (frE (F.take kk++(F.drop (kk+1)).take (2*(J-j)-1-(kk+1)))) true],N2) ⟨hlt, ?_,⟨xn2.heap ?_ ?_ (fun q hq=> ?_) ?_,gi2, ?_,by rw[sm.len];exact x.p,fun p hp=>sm.has.1 (x.f p ?_), ?_,fun hm=> ?_⟩,by rw[sm.len];exact hl⟩ (by simp only;omega) ?_
  ·have:=congrArg List.length eF;rw[WH,lAp,y1,y2]at this;simp only;omega
  ·exact(hh xn2.o).trans xn2.o.symm
  ·obtain⟨rs,e,_⟩:=xn2.r;exact(hh e).trans e.symm
  ·obtain⟨el,e⟩:=xn2.p2 hq;exact(hh e).trans e.symm
  ·exact fun id d d0 e=>hh e
  ·obtain⟨p,q,e1,e2⟩:=xs2;exact⟨p,q,e1,hh e2⟩
  ·rcases zM.1 hp with q | q
   ·exact List.mem_of_mem_take q
   ·exact List.mem_of_mem_drop (List.mem_of_mem_take q)
  ·rw[gAr (by simp)];simp
  ·have:=nfd _ hm;simp only at this;omega
  ·have ez:kk+(2*(J-(j+1))-kk)=2*(J-(j+1)):=by omega
   rw[ez];exact Can.sub (by simp[go_sem]) (by simp[go_sem])
 ·have hlt:j=J:=by have:=odF hc;omega
  subst hlt;clear hc;simp only[x.n.o,go_sem];exact hK g N x.n x.i x.s x.p hl
end
section
variable {bytes:List Int} {sid B b nid aid:Nat} {ps:List Nat} {h h':List qA} {N:Ags} {K:AV->List qA->Prop} {a s c k:Nat}
theorem qSM(hb:OkB bytes){C fid:Nat}{F:List (Nat×Nat)}{g:List qA}{s' m':qR}(x:FS bytes sid nid aid ps C fid F g N)(hJ:F.length<=10000)(hC:C<700000000)(hl:N.length<=900)
  (g0:get s' 0=some (.ptr sid 0 0)) (g9:get s' 9=some (.ptr nid 0 0)) (g15:get s' 15=some (.slice 2 fid 0 F.length false)) (m8:get m' 8=some (.agg [.nils]))
  (hK:∀h' aid' ps' N',NG nid aid' ps' h' N'->GI N'->SR bytes sid (C+20100) h'->0<N'.length->N'.length<=901->K (.agg [.slice 5 aid' 0 N'.length false]) h'):
  R ⟨Gm,b,[],[]⟩ [.code wO] ⟨s',m',g⟩ (ze [.l 8 (some 1)] K):=by
 have tail:∀{C2 J fid:Nat}{F:List (Nat×Nat)}{g:List qA}{s' m':qR}{aid:Nat}{ps:List Nat}{N:Ags}(x:FS bytes sid nid aid ps C2 fid F g N)(hF:F.length=2*J)(hJ:J<=10000)(hC2:C2<=C+40)(hl:N.length<=901)
  (g0:get s' 0=some (.ptr sid 0 0)) (g9:get s' 9=some (.ptr nid 0 0)) (g15:get s' 15=some (.slice 2 fid 0 (2*J) false)) (m8:get m' 8=some (.agg [.nils])),
  Sem ⟨Gm,b,[],[]⟩ [.code (.loop Qs),.blk 10,.code (.seq (.reg true [.mk 0 (some 156) none (.load (some 1) (.t 9)) [],.mk 1 none none (.lstore 8 0 1 (.t 156)) []]) .ret)] ⟨s',m',g⟩ (ze [.l 8 (some 1)] K):=by
  intro C2 J fid F g s' m' aid ps N x hF hJ hC2 hl g0 g9 g15 m8;rw[<-qQT,<-qQS];exact qSL hb x hF hJ (by omega) hl g0 g9 g15 m8 fun h' N' n gi sr p q=>hK h' aid ps N' n gi (sr.up (by omega)) p q
 rw[qL3];revert tail;generalize Qs=k22;intro tail;simp only[g0,g9,g15,m8,go_sem];have e2:(if (2:Int)=0 then none else some (AV.int .i64 ((F.length:Int).tmod 2)))=some (.int .i64 ((F.length%2:Nat):Int)):=by
  rw[if_neg (by decide),Int.tmod_eq_emod_of_nonneg (by omega)];rfl
 simp only[e2,go_sem];apply qF<;>intro hc<;>simp only[hc,g0,g9,g15,m8,go_sem]
 ·have hodd:F.length%2=1:=by have:=odT hc;omega
  refine qM (s709 hb x.s (by omega) (by decide) (by decide) x.n x.p (by omega) fun lv v d np g2 aid2 q n0 n4 d4 xn xs xg hq keep=> ?_);simp only[g0,g9,g15,m8,go_sem];have nfs:fid≠sid:=(KA.refl x.s).ne (by decide) x.r;have nfn:fid≠nid:=fun e=>by have:=x.n.o;rw[<-e,x.r]at this;simp at this
  have nfa:fid≠aid:=fun e=>by obtain⟨rs,e1,_⟩:=x.n.r;rw[<-e,x.r]at e1;simp at e1
  have xr:=keep fid _ x.r nfs nfn nfa;have gi:=x.i.push x.p (kk:=5) (lv:=lv) (v:=v) n0 n4 d4;obtain⟨r1,r2⟩:=wV (tmp:=qA.row 2 [(pt N.length 0).enc] true) xr;refine jt r2 r1 WH (by omega) ?_;simp only[g0,g9,g15,m8,go_sem];have eF:frE F++[(pt N.length 0).enc]=frE (F++[(N.length,0)]):=by simp[frE]
  rw[eF];have lf:=qJ xr;have hps:∀p∈ps++[q],p≠fid:=fun p hp e=>by
   subst e;rcases zM.1 hp with w | w
   ·exact x.d w
   ·simp at w;have:=qJ x.r;omega
  have hlt:∀p∈ps++[q],p<g2.length:=fun p hp=>by obtain⟨el,e⟩:=xn.p2 hp;exact qJ e
  have hh:∀{j0:Nat}{o:qA}{e1 e2:qA},j0≠fid->g2[j0]?=some o->((g2++[e1]).set fid .dead++[e2])[j0]?=some o:=fun{j0 o e1 e2} hne hj0=>by
   have:=qJ hj0;rw[gAl (by simp;omega),gSn (Ne.symm hne),gAl this];exact hj0
  have m1:nid≠fid:=Ne.symm nfn;have m2:aid2≠fid:=fun e=>by obtain⟨rs,e1,_⟩:=xn.r;rw[e,xr]at e1;simp at e1
  have m3:sid≠fid:=Ne.symm nfs;have ex2:F.length+1=2*((F.length+1)/2):=by omega
  refine tail (C2:=C+40) (J:=(F.length+1)/2) (fid:=g2.length+1) (F:=F++[(N.length,0)]) (aid:=aid2) (ps:=ps++[q]) (N:=N++[⟨5,lv,v,d,List.replicate np zp⟩]) ⟨xn.heap ?_ ?_ (fun p hp=> ?_) ?_,gi, ?_,by simp,fun p hp=> ?_, ?_,fun hm=> ?_⟩ (by simp;omega) (by omega) (nLr _) (by simp;omega) ?_ ?_ ?_ ?_
  ·exact(hh m1 xn.o).trans xn.o.symm
  ·obtain⟨rs,e,_⟩:=xn.r;exact(hh m2 e).trans e.symm
  ·obtain⟨el,e⟩:=xn.p2 hp;exact(hh (hps p hp) e).trans e.symm
  ·exact fun id d d0 e=>hh (fun w=>by rw[w,xr]at e;simp at e) e
  ·obtain⟨p,w,e1,e2⟩:=xs;exact⟨p,w,e1,hh m3 e2⟩
  ·rcases zM.1 hp with w | w
   ·exact(x.f p w).app
   ·simp at w;subst w;exact gi.has0 gCl
  ·rw[gAr (by simp)];simp
  ·have:=hlt _ hm;omega
  ·simp only[g0,go_sem]
  ·simp only[g9,go_sem]
  ·simp only[go_sem];rw[<-ex2];simp
  ·exact m8
 ·have hev:F.length=2*(F.length/2):=by have:=odF hc;omega
  exact tail x hev (by omega) (by omega) (by omega) (by simp only[g0,go_sem]) (by simp only[g9,go_sem]) (by simp only[g15,go_sem];rw[<-hev]) m8
end
section
variable {bytes:List Int} {sid B b nid aid:Nat} {ps:List Nat} {h h':List qA} {N:Ags} {K:AV->List qA->Prop} {a s c k:Nat}
theorem qSN(hb:OkB bytes){C:Nat}{bound:Int}{g:List qA}{s' m':qR}(hn:NG nid aid ps g N)(gi:GI N)(sr:SR bytes sid C g)(hp:0<N.length)(hC:C<700000000)(hl:N.length<=900)
  (g0:get s' 0=some (.ptr sid 0 0)) (g9:get s' 9=some (.ptr nid 0 0)) (g11:get s' 11=some (.int .i64 bound)) (m8:get m' 8=some (.agg [.nils]))
  (hK:∀h' aid' ps' N',NG nid aid' ps' h' N'->GI N'->SR bytes sid (C+20100) h'->0<N'.length->N'.length<=901->K (.agg [.slice 5 aid' 0 N'.length false]) h'):
  R ⟨Gm,b,[],[]⟩ [.code (.seq (.reg true [.mk 0 (some 66) none (.mov (.c (.lst 2 [] true))) [],.mk 1 (some 15) none (.mov (.t 66)) []]) (.seq (.seq (.reg true [.mk 0 (some 16) none (.mov (.c (.int .i64 0))) []]) (.blk 6 (.loop (.seq (.seq (.reg true J4) (.cond (.t 71) (.skip) (.exit 6))) J2)))) wO))] ⟨s',m',g⟩ (ze [.l 8 (some 1)] K):=by
 have hpl:∀q∈ps,q<g.length:=fun q hq=>by obtain⟨el,e⟩:=hn.p2 hq;exact qJ e
 have tb:∀{fid:Nat}{F:List (Nat×Nat)}{g:List qA}{s' m':qR}(x:FS bytes sid nid aid ps C fid F g N)(hJ:F.length<=10000)(g0:get s' 0=some (.ptr sid 0 0))(g9:get s' 9=some (.ptr nid 0 0))(g15:get s' 15=some (.slice 2 fid 0 F.length false))(m8:get m' 8=some (.agg [.nils])),
   R ⟨Gm,b,[],[]⟩ [.code wO] ⟨s',m',g⟩ (ze [.l 8 (some 1)] K):=fun x hJ g0 g9 g15 m8=>qSM hb x hJ hC hl g0 g9 g15 m8 hK
 revert tb;generalize wO=k23;intro tb;simp only[g0,g9,g11,m8,go_sem];refine Sem.loop (α:=Nat×Nat×List (Nat×Nat)×List qA) (fun q=>q.1<=N.length/\FS bytes sid nid aid ps C q.2.1 q.2.2.1 q.2.2.2 N/\q.2.2.1.length<=4*q.1)
  (fun q=>(⟨[(0,.ptr sid 0 0),(9,.ptr nid 0 0),(11,.int .i64 bound),(15,.slice 2 q.2.1 0 q.2.2.1.length false),(16,.int .i64 (q.1:Nat))],[(8,.agg [.nils])],q.2.2.2⟩:VSt)) (fun q=>N.length-q.1) (0,g.length,[],g++[.row 2 [] true]) (by kernel_rfl)
  ⟨nZl _,⟨hn.app _,gi,sr.app _,hp,fun p hp=>by simp at hp,by simp[frE],fun hm=>by have:=hpl _ hm;simp only at this;omega⟩,nLr _⟩
  (Can.ph (WkN.same (by simp[g0,go_sem]) (WkN.same (by simp[g9,go_sem]) (WkN.same (by simp[g11,go_sem]) (WkN.cons rfl (Wk.ph2 (by simp)) (WkN.same rfl WkN.nil))))) (WkN.same m8 WkN.nil)) ?_
 rintro⟨i,fid,F,g⟩ ⟨hi,x,hF⟩;simp only at hi x hF;simp only[x.n.o,go_sem];apply qF<;>intro hc<;>simp only[hc,go_sem]
 ·have hlt:i<N.length:=by have:=odT hc;omega
  clear hc;have hxx:=gEg hlt;obtain⟨rs,q,dv,h1,h2,h3,h4,h5,h6⟩:=x.n.at hxx;have zz:=gi.z _ (gMm hlt);refine Sem.loop (α:=Nat×Nat×List (Nat×Nat)×List qA) (fun q=>q.1<=N[i].Ports.length/\FS bytes sid nid aid ps C q.2.1 q.2.2.1 q.2.2.2 N/\q.2.2.1.length<=4*i+q.1)
   (fun q=>(⟨[(0,.ptr sid 0 0),(9,.ptr nid 0 0),(11,.int .i64 bound),(15,.slice 2 q.2.1 0 q.2.2.1.length false),(16,.int .i64 (i:Nat)),(17,.int .i64 (q.1:Nat))],[(8,.agg [.nils])],q.2.2.2⟩:VSt)) (fun q=>N[i].Ports.length-q.1) (0,fid,F,g) (by kernel_rfl)
   ⟨nZl _,x,hF⟩ (Can.sub (by simp[go_sem]) (by simp[go_sem])) ?_
  clear h1 h2 h3 h4 h5 h6 x hF;rintro⟨k,fid,F,g⟩ ⟨hk,x,hF⟩;simp only at hk x hF;obtain⟨rs,q,dv,h1,h2,h3,h4,h5,h6⟩:=x.n.at hxx;have h4':=h4;unfold qY at h4';generalize hQ:wy _ _ _ _ _ _ _=Q;have hq:∀(s2 m2:qR)(fid2:Nat)(F2:List (Nat×Nat))(g2:List qA),k<N[i].Ports.length->FS bytes sid nid aid ps C fid2 F2 g2 N->F2.length<=4*i+(k+1)->
    get s2 0=some (.ptr sid 0 0)->get s2 9=some (.ptr nid 0 0)->get s2 11=some (.int .i64 bound)->get s2 15=some (.slice 2 fid2 0 F2.length false)->get s2 16=some (.int .i64 (i:Nat))->get s2 17=some (.int .i64 ((k+1:Nat):Int))->get m2 8=some (.agg [.nils])->
    Q .nrm ⟨s2,m2,g2⟩:=by
   intro s2 m2 fid2 F2 g2 hk2 x2 hF2 a0 a9 a11 a15 a16 a17 a8;subst hQ;exact ql (k+1,fid2,F2,g2) ⟨hk2,x2,hF2⟩ (by simp only;omega) (Can.sub (by simp[go_sem,a0,a9,a11,a15,a16,a17]) (by simp[go_sem,a8]))
  simp only[x.n.o,ZD hlt,h1,h4',go_sem];apply qF<;>intro hc<;>simp only[hc,go_sem]
  ·have hkl:k<N[i].Ports.length:=by have:=odT hc;omega
   clear hc hQ;have hhas:Has N i k:=wD.2 ⟨_,hxx,hkl⟩;have tail:∀(s2 m2:qR)(v:Bool),get s2 0=some (.ptr sid 0 0)->get s2 9=some (.ptr nid 0 0)->get s2 11=some (.int .i64 bound)->get s2 15=some (.slice 2 fid 0 F.length false)->get s2 16=some (.int .i64 (i:Nat))->get s2 17=some (.int .i64 (k:Nat))->get s2 19=some (.bool v)->get m2 8=some (.agg [.nils])->get m2 18=some (pt i k).enc->
     R ⟨Gm,b,[],[]⟩ [.code (.seq (.reg true [.mk 0 (some 103) none (.mov (.t 19)) [],.mk 1 (some 104) none (.not (.t 103)) []]) (.cond (.t 104) (.reg true Zg) .skip)),.blk 9,.code (.reg true [.mk 0 (some 83) none (.mov (.t 17)) [],.mk 1 (some 84) none (.bin .add (.t 83) (.c (.int .i64 1))) [],.mk 2 (some 17) none (.mov (.t 84)) []])] ⟨s2,m2,g⟩ Q:=by
    intro s2 m2 v a0 a9 a11 a15 a16 a17 a19 a8 a18;have ek:IntKind.i64.wrap ((k:Int)+1)=((k+1:Nat):Int):=zJ (by omega);simp only[a0,a9,a11,a15,a16,a17,a19,a8,a18,go_sem];apply qF<;>intro hc<;>simp only[hc,a0,a9,a11,a15,a16,a17,a19,a8,a18,go_sem]
    ·obtain⟨r1,r2⟩:=wV (tmp:=qA.row 2 [(pt i k).enc] true) x.r;refine jt r2 r1 WH (by omega) ?_;simp only[a0,a9,a11,a15,a16,a17,a19,a8,a18,ek,go_sem];have eF:frE F++[(pt i k).enc]=frE (F++[(i,k)]):=by simp[frE]
     rw[eF];have lf:=qJ x.r;have hps:∀p∈ps,p≠fid:=fun p hp e=>x.d (e▸hp);have hlp:∀p∈ps,p<g.length:=fun p hp=>by obtain⟨el,e⟩:=x.n.p2 hp;exact qJ e
     have hh:∀{j0:Nat}{o:qA}{e1 e2:qA},j0≠fid->g[j0]?=some o->((g++[e1]).set fid .dead++[e2])[j0]?=some o:=fun{j0 o e1 e2} hne hj0=>by
      have:=qJ hj0;rw[gAl (by simp;omega),gSn (Ne.symm hne),gAl this];exact hj0
     have m1:nid≠fid:=fun e=>by have:=x.n.o;rw[e,x.r]at this;simp at this
     have m2:aid≠fid:=fun e=>by rw[e,x.r]at h1;simp at h1
     have m3:sid≠fid:=Ne.symm ((KA.refl x.s).ne (by decide) x.r);refine hq _ _ (g.length+1) (F++[(i,k)]) _ hkl ⟨x.n.heap ?_ ?_ (fun p hp=> ?_) ?_,gi, ?_,hp,fun p hp=> ?_, ?_,fun hm=> ?_⟩ (by simp;omega) ?_ ?_ ?_ ?_ ?_ ?_ a8
     ·exact(hh m1 x.n.o).trans x.n.o.symm
     ·exact(hh m2 h1).trans h1.symm
     ·obtain⟨el,e⟩:=x.n.p2 hp;exact(hh (hps p hp) e).trans e.symm
     ·exact fun id d d0 e=>hh (fun w=>by rw[w,x.r]at e;simp at e) e
     ·obtain⟨p,w,e1,e2⟩:=x.s;exact⟨p,w,e1,hh m3 e2⟩
     ·rcases zM.1 hp with w | w
      ·exact x.f p w
      ·simp at w;subst w;exact hhas
     ·rw[gAr (by simp)];simp
     ·have:=hlp _ hm;omega
     all_goals simp only[a0,a9,a11,a15,a16,a17,a19,go_sem]
     simp
    ·refine hq _ _ fid F g hkl x (by omega) ?_ ?_ ?_ ?_ ?_ ?_ a8<;>simp only[a0,a9,a11,a15,a16,a17,a19,ek,go_sem]
   have gw:∀q,atP N i k=some q->∃b t,q=pt b t/\Has N b t:=fun q hq=>gi.w i k q hq;refine jR rfl rfl ⟨_,rfl⟩ (by decide) ?_;revert tail;generalize (qD.seq (.reg true [.mk 0 (some 103) none (.mov (.t 19)) [],.mk 1 (some 104) none (.not (.t 103)) []]) (.cond (.t 104) (.reg true Zg) .skip))=cc;intro tail;simp only[go_sem];apply qe<;>intro hc<;>simp only[hc,go_sem]
   ·apply qe<;>intro hc<;>simp only[hc,go_sem]
    ·apply qe<;>intro hc<;>simp only[hc,go_sem]
     ·refine qM (qRL x.n hhas gw fun bb=> ?_);simp only[go_sem];refine tail _ _ bb ?_ ?_ ?_ ?_ ?_ ?_ ?_ ?_ ?_<;>first | rfl | simp only[go_sem]
     ·refine tail _ _ true ?_ ?_ ?_ ?_ ?_ ?_ ?_ ?_ ?_<;>first | rfl | simp only[go_sem]
    ·refine tail _ _ false ?_ ?_ ?_ ?_ ?_ ?_ ?_ ?_ ?_<;>first | rfl | simp only[go_sem]
   ·refine tail _ _ false ?_ ?_ ?_ ?_ ?_ ?_ ?_ ?_ ?_<;>first | rfl | simp only[go_sem]
  ·have hkl:k=N[i].Ports.length:=by have:=odF hc;omega
   clear hc hq;subst hQ;simp only[go_sem];simp only[zJ (show i<4611686018427387904 by omega)];exact ql (i+1,fid,F,g) ⟨hlt,x,by simp only;omega⟩ (by simp only;omega) (Can.sub (by simp[go_sem]) (by simp[go_sem]))
 ·have hlt:i=N.length:=by have:=odF hc;omega
  clear hc;refine tb x (by omega) ?_ ?_ ?_ ?_<;>simp only[go_sem]
end
section
variable {bytes:List Int} {sid B b nid aid:Nat} {ps:List Nat} {h h':List qA} {N:Ags} {K:AV->List qA->Prop} {a s c k:Nat}
theorem qSO(hb:OkB bytes){full:Bool}{bound:Int}{g:List qA}{s' m':qR}(x:GS bytes sid nid (B+100*N.length) g N)(hB:B<100000000)(hl:N.length<=700)
  (g0:get s' 0=some (.ptr sid 0 0)) (g3:get s' 3=some (.bool full)) (g9:get s' 9=some (.ptr nid 0 0)) (g11:get s' 11=some (.int .i64 bound)) (m8:get m' 8=some (.agg [.nils]))
  (hK:∀h' aid' ps' N',NG nid aid' ps' h' N'->GI N'->SR bytes sid (B+100000) h'->0<N'.length->N'.length<=901->K (.agg [.slice 5 aid' 0 N'.length false]) h'):
  R ⟨Gm,b,[],[]⟩ [.code J3] ⟨s',m',g⟩ (ze [.l 8 (some 1)] K):=by
 have tc:∀{g:List qA}{N:Ags}{s' m':qR}(x:GS bytes sid nid (B+100*N.length+2) g N)(hl:N.length<=700)(g0:get s' 0=some (.ptr sid 0 0))(g9:get s' 9=some (.ptr nid 0 0))(g11:get s' 11=some (.int .i64 bound))(m8:get m' 8=some (.agg [.nils])),
   R ⟨Gm,b,[],[]⟩ [.code (.seq (.reg true [oP 0 66 (.mov (.c (.lst 2 [] true))),oM 1 15 66]) (.seq (.seq (.reg true [oP 0 16 (.mov (.c (.int .i64 0)))]) (.blk 6 (.loop (.seq (.seq (.reg true J4) (.cond (.t 71) (.skip) (.exit 6))) J2)))) wO))] ⟨s',m',g⟩ (ze [.l 8 (some 1)] K):=by
  intro g N s' m' x hl g0 g9 g11 m8;obtain⟨aid,ps,hn⟩:=x.n;exact qSN hb hn x.i x.s x.p (by omega) (by omega) g0 g9 g11 m8 fun h' aid' ps' N' n gi sr p q=>hK h' aid' ps' N' n gi (sr.up (by omega)) p q
 rw[qL4];change R ⟨Gm,b,[],[]⟩ [.code (.seq _ (qD.seq (.reg true [oP 0 66 (.mov (.c (.lst 2 [] true))),oM 1 15 66]) (.seq (.seq (.reg true [oP 0 16 (.mov (.c (.int .i64 0)))]) (.blk 6 (.loop (.seq (.seq (.reg true J4) (.cond (.t 71) (.skip) (.exit 6))) J2)))) wO)))] ⟨s',m',g⟩ (ze [.l 8 (some 1)] K);revert tc;generalize (qD.seq (.reg true [oP 0 66 (.mov (.c (.lst 2 [] true))),oM 1 15 66]) (.seq (.seq (.reg true [oP 0 16 (.mov (.c (.int .i64 0)))]) (.blk 6 (.loop (.seq (.seq (.reg true J4) (.cond (.t 71) (.skip) (.exit 6))) J2)))) wO))=rest;intro tc;simp only[g0,g3,g9,g11,m8,go_sem];apply qF<;>intro hc<;>simp only[hc,g0,g3,g9,g11,m8,go_sem]
 ·refine Sem.loop (α:=List qA×Ags) (fun q=>GS bytes sid nid (B+100*q.2.length) q.1 q.2/\q.2.length<=700)
   (fun q=>(⟨[(0,.ptr sid 0 0),(9,.ptr nid 0 0),(11,.int .i64 bound)],[(8,.agg [.nils])],q.1⟩:VSt)) (fun q=>700-q.2.length) (g,N) (by kernel_rfl)
   ⟨x,hl⟩ (Can.sub (by simp[g0,g9,g11,go_sem]) (by simp[m8,go_sem])) ?_
  rintro⟨g,N⟩ ⟨x,hl⟩;simp only at x hl;obtain⟨aid,ps,hn⟩:=x.n;simp only[hn.o,go_sem];refine J8 (zB hb x.s (by omega) fun r g1 r0 r1 k1=> ?_);have x1:=x.ks k1;have hn1:=hn.ks x.s k1;refine⟨JW (id:=nid) (j:=0) (k:=0) (v:=.slice 5 aid 0 N.length false) (by simp only[go_sem]) (by simp only[go_sem]) (by rw[hn1.o];rfl) (by have:=x.p;simp only[AV.rigid];omega), ?_⟩;have ew:IntKind.i64.wrap (596-r)=596-r:=zD (by omega) (by omega);simp only[ew,go_sem];apply qF<;>intro hc<;>simp only[hc,go_sem]
  ·have hlt:(N.length:Int)<596-r:=odT hc;refine qM (zx hb x1 (by omega) (by decide) (by decide) (by omega) fun h3 N3 x3 l3 m3 e3=> ?_);simp only[go_sem];refine qM (zx hb x3 (by omega) (by decide) (by decide) (by omega) fun h4 N4 x4 l4 m4 e4=> ?_);simp only[go_sem];refine qM (V3 x4 (m4 _ _ e3) e4 fun h5 N5 x5 sm=> ?_);simp only[go_sem];have l5:=sm.len;exact ql (h5,N5) ⟨x5.up (by simp only;omega),by simp only;omega⟩ (by simp only;omega) (Can.sub (by simp[go_sem]) (by simp[go_sem]))
  ·refine tc x1 hl ?_ ?_ ?_ ?_<;>simp only[go_sem]
 ·refine tc (x.up (by omega)) hl ?_ ?_ ?_ ?_<;>simp only[g0,g3,g9,g11,m8,go_sem]
end
section
variable {bytes:List Int} {sid B b nid aid:Nat} {ps:List Nat} {h h':List qA} {N:Ags} {K:AV->List qA->Prop} {a s c k:Nat}
theorem s708(hb:OkB bytes)(hs:SR bytes sid B h)(hB:B<10000000){cp sg:Nat}{full:Bool}(hc:cp<=6)(hg:sg<=6)
  (hK:∀h' nid aid ps N,NG nid aid ps h' N->GI N->SR bytes sid (B+200000) h'->0<N.length->N.length<=901->K (.agg [.slice 5 aid 0 N.length false]) h'):
  SCall Gm 708 [.ptr sid 0 0,.int .i64 (cp:Nat),.int .i64 (sg:Nat),.bool full] h K:=by
 refine sI YK ?_;simp only[YK];have td:∀{g:List qA}{N:Ags}{s' m':qR}{nid:Nat}{bound:Int}(x:GS bytes sid nid (B+100*N.length) g N)(hl:N.length<=700)(g0:get s' 0=some (.ptr sid 0 0))(g3:get s' 3=some (.bool full))(g9:get s' 9=some (.ptr nid 0 0))(g11:get s' 11=some (.int .i64 bound))(m8:get m' 8=some (.agg [.nils])),
   R ⟨Gm,h.length,[],[]⟩ [.code J3] ⟨s',m',g⟩ (ze [.l 8 (some 1)] K):=by
  intro g N s' m' nid bound x hl g0 g3 g9 g11 m8;exact qSO hb x (by omega) hl g0 g3 g9 g11 m8 fun h' aid' ps' N' n gi sr p q=>hK h' nid aid' ps' N' n gi (sr.up (by omega)) p q
 have t25:∀{g:List qA}{N:Ags}{s' m':qR}{nid:Nat}(x:GS bytes sid nid (B+40) g N)(hl:N.length=1)(g0:get s' 0=some (.ptr sid 0 0))(g1:get s' 1=some (.int .i64 (cp:Nat)))(g2:get s' 2=some (.int .i64 (sg:Nat)))(g3:get s' 3=some (.bool full))(g9:get s' 9=some (.ptr nid 0 0))(m8:get m' 8=some (.agg [.nils])),
   R ⟨Gm,h.length,[],[]⟩ [.code Qt] ⟨s',m',g⟩ (ze [.l 8 (some 1)] K):=by
  intro g N s' m' nid x hl g0 g1 g2 g3 g9 m8;rw[qL5];revert td;generalize J3=k24;intro td;simp only[g0,g1,g2,g3,g9,m8,go_sem];refine Sem.loop (α:=Nat×List qA×Ags) (fun q=>q.1<=cp/\GS bytes sid nid (B+100*q.2.2.length) q.2.1 q.2.2/\q.2.2.length=1+2*q.1)
   (fun q=>(⟨[(0,.ptr sid 0 0),(2,.int .i64 (sg:Nat)),(3,.bool full),(9,.ptr nid 0 0),(10,.int .i64 ((cp-q.1:Nat):Int))],[(8,.agg [.nils])],q.2.1⟩:VSt)) (fun q=>cp-q.1) (0,g,N) (by kernel_rfl)
   ⟨nZl _,x.up (by simp only;omega),by simp only;omega⟩ (Can.sub (by simp[g0,g1,g2,g3,g9,go_sem]) (by simp[m8,go_sem])) ?_
  rintro⟨i,g,N⟩ ⟨hi,x,hl⟩;simp only at hi x hl;simp only[go_sem];apply qF<;>intro hc<;>simp only[hc,go_sem]
  ·have hlt:i<cp:=by have:=odT hc;omega
   refine qM (qRK hb x (by omega) (by omega) fun h3 N3 x3 l3=> ?_);have e1:IntKind.i64.wrap (((cp-i:Nat):Int)-1)=((cp-(i+1):Nat):Int):=by rw[zD (by omega) (by omega)];omega
   simp only[e1,go_sem];exact ql (i+1,h3,N3) ⟨hlt,x3.up (by simp only;omega),by simp only;omega⟩ (by simp only;omega) (Can.sub (by simp[go_sem]) (by simp[go_sem]))
  ·obtain⟨aid,ps,hn⟩:=x.n;simp only[hn.o,go_sem];refine Sem.loop (α:=Nat×List qA×Ags) (fun q=>q.1<=sg/\GS bytes sid nid (B+100*q.2.2.length) q.2.1 q.2.2/\q.2.2.length=N.length+q.1)
    (fun q=>(⟨[(0,.ptr sid 0 0),(3,.bool full),(9,.ptr nid 0 0),(11,.int .i64 (N.length:Nat)),(12,.int .i64 ((sg-q.1:Nat):Int))],[(8,.agg [.nils])],q.2.1⟩:VSt)) (fun q=>sg-q.1) (0,g,N) (by kernel_rfl)
    ⟨nZl _,x,rfl⟩ (Can.sub (by simp[go_sem]) (by simp[go_sem])) ?_
   rintro⟨j,g2,N2⟩ ⟨hj,x2,hl2⟩;simp only at hj x2 hl2;simp only[go_sem];apply qF<;>intro hc<;>simp only[hc,go_sem]
   ·have hlt:j<sg:=by have:=odT hc;omega
    refine qM (zB hb x2.s (by omega) fun u h3 u0 u1 k3=> ?_);have x3:=x2.ks k3;have ew:IntKind.i64.wrap (2+u)=2+u:=zD (by omega) (by omega);simp only[ew,go_sem];refine qM (zB hb x3.s (by omega) fun w h4 w0 w1 k4=> ?_);have x4:=x3.ks k4;simp only[go_sem];refine qM (zx hb x4 (by omega) (by omega) (by omega) (by omega) fun h5 N5 x5 l5 m5 e5=> ?_);have e1:IntKind.i64.wrap (((sg-j:Nat):Int)-1)=((sg-(j+1):Nat):Int):=by rw[zD (by omega) (by omega)];omega
    simp only[e1,go_sem];exact ql (j+1,h5,N5) ⟨hlt,x5.up (by simp only;omega),by simp only;omega⟩ (by simp only;omega) (Can.sub (by simp[go_sem]) (by simp[go_sem]))
   ·refine td (bound:=(N.length:Nat)) x2 (by omega) ?_ ?_ ?_ ?_ ?_<;>simp only[go_sem]
 clear td;revert t25;generalize Qt=k25;intro t25;simp only[qQ,go_sem];refine zq rfl gCl rfl rfl ?_;have eh:(h++[qA.row 1 [AV.agg [AV.nils]] true]).set h.length (qA.row 1 ([AV.agg [AV.nils]].set 0 (AV.agg (List.take 0 [AV.nils]++([AV.nils]++List.drop 1 [AV.nils])))) true)=h++[qA.row 1 [AV.agg [AV.nils]] true]:=by simp
 simp only[go_sem];rw[eh];refine qM (qRV (B:=B) hb (hs.app _) (by omega) (by decide) (by decide) (nid:=h.length) (by simp) fun g N x l=> ?_);simp only[go_sem];refine t25 x l ?_ ?_ ?_ ?_ ?_ ?_<;>simp only[go_sem]
end
structure WG(aid:Nat)(h:List qA)(N:Ags):Prop where
 r:∃rs:List AV,h[aid]?=some (.row 5 rs true)/\rs.length=N.length/\∀(k:Nat)(x:qC),N[k]?=some x->∃(q:Nat)(dv:AV),rs[k]?=some (qY x dv q)/\DV h dv x.Data/\h[q]?=some (.row 2 (x.Ports.map qE.enc) true)
 p:0<N.length/\N.length<=1001
 z:∀x∈N,0<x.Ports.length/\x.Ports.length<=4/\x.Data.length<=5
section
variable {bytes:List Int} {sid B b nid aid:Nat} {ps:List Nat} {h h':List qA} {N:Ags} {K:AV->List qA->Prop} {a s c k:Nat}
theorem NG.wg(hN:NG nid aid ps h N)(hp:0<N.length/\N.length<=1001)(hz:∀x∈N,0<x.Ports.length/\x.Ports.length<=4/\x.Data.length<=5):WG aid h N:=by
 obtain⟨rs,h1,h2,h3⟩:=hN.r;exact⟨⟨rs,h1,h2,fun k x hx=>by obtain⟨q,dv,_,b,c,d⟩:=h3 k x hx;exact⟨q,dv,b,c,d⟩⟩,hp,hz⟩
theorem qN4{dv:AV}{d:List Int}(x:DV h dv d):Cv h dv (.lst 1 (d.map qG) false):=by
 rcases x with⟨rfl,rfl⟩ | ⟨id,rfl,h0,h1⟩
 ·exact .nils
 ·refine .slc h1 (by simp) (by decide) (by simp) fun p hp=> ?_;rw[List.drop_zero,List.take_of_length_le (by simp)]at hp;obtain⟨i,hi,rfl⟩:=List.getElem_of_mem hp;simp only[List.getElem_zip];exact .refl (by simp[qG,AV.tree])
theorem qN8{x:qC}{dv:AV}{q:Nat}(h1:DV h dv x.Data)(h2:h[q]?=some (.row 2 (x.Ports.map qE.enc) true)):Cv h (qY x dv q) x.enc:=by
 have hp:Cv h (.slice 2 q 0 x.Ports.length false) (.lst 2 (x.Ports.map qE.enc) false):=by
  refine .slc h2 (by simp) (by decide) (by simp) fun p hp=> ?_;rw[List.drop_zero,List.take_of_length_le (by simp)]at hp;obtain⟨i,hi,rfl⟩:=List.getElem_of_mem hp;simp only[List.getElem_zip];exact .refl (by simp[qE.tr])
 refine .agg rfl fun p hm=> ?_;simp at hm;rcases hm with rfl | rfl | rfl | rfl | rfl
 ·exact .refl rfl
 ·exact .refl rfl
 ·exact .refl rfl
 ·exact qN4 h1
 ·exact hp
theorem WG.cv(x:WG aid h N):Cv h (.slice 5 aid 0 N.length false) (.lst 5 (N.map qC.enc) false):=by
 obtain⟨rs,h1,h2,h3⟩:=x.r;refine .slc h1 (by omega) (by decide) (by simp[h2]) fun p hp=> ?_;rw[List.drop_zero,List.take_of_length_le (by omega)]at hp;obtain⟨i,hi,rfl⟩:=List.getElem_of_mem hp;have hi':i<N.length:=by simp at hi;omega
 obtain⟨q,dv,e1,e2,e3⟩:=h3 i _ (gEg hi');simp only[List.getElem_zip,List.getElem_map];rw[gEg (by omega)]at e1;rw[Option.some.inj e1];exact qN8 e2 e3
theorem NG.upd(hN:NG nid aid ps h N)(i:GI N)(hl:N.length<=1001){x y:qC}{dv dv':AV}{q:Nat}{g:List qA}{rs:List AV}(hx:N[k]?=some x)(hr:h[aid]?=some (.row 5 rs true))(hk:rs[k]?=some (qY x dv q))
  (g1:g[aid]?=some (.row 5 (rs.set k (qY y dv' q)) true)) (hy:DV g dv' y.Data) (hyl:y.Data.length<=5) (hyp:y.Ports=x.Ports)
  (hq:∀(j:Nat) el,h[j]?=some (.row 2 el true)->g[j]?=some (.row 2 el true)) (hd:∀(j id:Nat)(d:List Int),dat rs[j]?=some id->j≠k->0<d.length->h[id]?=some (.row 1 (d.map qG) true)->g[id]?=some (.row 1 (d.map qG) true)):WG aid g (N.set k y):=by
 obtain⟨rs',h1,h2,h3⟩:=hN.r;rw[hr]at h1;cases h1;have lk:=qJ hx;refine⟨⟨_,g1,by simp[h2],fun j z hz=> ?_⟩,by simp;omega,fun z hz=> ?_⟩
 ·by_cases e:j=k
  ·subst e;rw[gSs lk]at hz;cases hz;obtain⟨q0,dv0,_,b,_,d⟩:=h3 j x hx;rw[hk]at b;have eq:q0=q:=by simp[qY]at b;exact b.2.symm
   subst eq;refine⟨q0,dv',gSs (by omega),hy, ?_⟩;rw[hyp];exact hq _ _ d
  ·rw[gSn (Ne.symm e)]at hz;obtain⟨q0,dv0,_,b,c,d⟩:=h3 j z hz;refine⟨q0,dv0,by rw[gSn (Ne.symm e)];exact b, ?_,hq _ _ d⟩;rcases c with c | ⟨id,rfl,c1,c2⟩
   ·exact .inl c
   ·exact .inr ⟨id,rfl,c1,hd j id _ (by rw[b];rfl) e c1 c2⟩
 ·rcases List.mem_or_eq_of_mem_set hz with q | rfl
  ·obtain⟨a,b,c⟩:=i.z z q;exact⟨a,b,by omega⟩
  ·obtain⟨a,b,c⟩:=i.z x (lMo hx);rw[hyp];exact⟨a,b,hyl⟩
theorem qRJ(hb:OkB bytes)(hs:SR bytes sid B h)(hB:B<1000000)
  (hK:∀h' nid aid ps N,NG nid aid ps h' N->GI N->SR bytes sid (B+300000) h'->0<N.length->N.length<=1000->K (.agg [.slice 5 aid 0 N.length false]) h'):
  SCall Gm 1083 [.ptr sid 0 0] h K:=by
 refine sI XJ ?_;simp only[XJ,qQ,go_sem];refine qM (zB hb hs (by omega) fun u h1 u0 u1 k1=> ?_);simp only[go_sem];refine qM (zB hb k1.s (by omega) fun w h2 w0 w1 k2=> ?_);simp only[go_sem];refine qM (Wy hb k2.s (by omega) fun f h3 k3=> ?_);simp only[go_sem];obtain⟨cp,rfl⟩:∃n:Nat,u=(n:Int):=⟨u.toNat,by omega⟩;obtain⟨sg,rfl⟩:∃n:Nat,w=(n:Int):=⟨w.toNat,by omega⟩;refine qM (s708 hb k3.s (by omega) (by omega) (by omega) fun h' nid aid ps N n gi sr p q=> ?_);simp only[go_sem];exact hK h' nid aid ps N n gi (sr.up (by omega)) p (by omega)
end
section
variable {bytes:List Int} {sid B b nid aid:Nat} {ps:List Nat} {h h':List qA} {N:Ags} {K:AV->List qA->Prop} {a s c k:Nat}
theorem GI.up5(i:GI N):∀x∈N,0<x.Ports.length/\x.Ports.length<=4/\x.Data.length<=5:=fun x hx=>by obtain⟨a,b,c⟩:=i.z x hx;exact⟨a,b,by omega⟩
theorem WG.unset{o:qA}{v v':AV}(x:WG aid (h.set nid o) N)(hn:h[nid]?=some (.row 1 [.agg [v]] true))(ho:o=.row 1 [.agg [v']] true):WG aid h N:=by
 obtain⟨rs,h1,h2,h3⟩:=x.r;have ne:∀{j w:Nat}{el:List AV},(h.set nid o)[j]?=some (.row w el true)->(w≠1\/∃d:List Int,0<d.length/\el=d.map qG)->h[j]?=some (.row w el true):=fun{j w el} e hw=>by
  by_cases ej:j=nid
  ·subst ej;rw[gSs (qJ hn),ho]at e;simp at e;rcases hw with hw | ⟨d,d0,hd⟩
   ·exact absurd e.1.symm hw
   ·rw[hd]at e;cases d with
    | nil=>simp at d0
    | cons a b=>simp[qG]at e
  ·rw[gSn (Ne.symm ej)]at e;exact e
 refine⟨⟨rs,ne h1 (.inl (by decide)),h2,fun k x hx=> ?_⟩,x.p,x.z⟩;obtain⟨q,dv,a,b,c⟩:=h3 k x hx;refine⟨q,dv,a, ?_,ne c (.inl (by decide))⟩;rcases b with b | ⟨id,b1,b2,b3⟩
 ·exact .inl b
 ·exact .inr ⟨id,b1,b2,ne b3 (.inr ⟨_,b2,rfl⟩)⟩
theorem s699(hb:OkB bytes)(hs:SR bytes sid B h)(hB:B<1000000)(hK:∀h' aid N,WG aid h' N->K (.agg [.slice 5 aid 0 N.length false]) h'):SCall Gm 699 [.ptr sid 0 0] h K:=by
 refine sI YI ?_;simp only[YI,qQ,go_sem];refine qM (qRJ hb hs hB fun g nid aid ps N n gi sr p q=> ?_);simp only[go_sem];refine qM (Wy hb sr (by omega) fun f g1 k1=> ?_);have n1:=n.ks sr k1;simp only[go_sem];apply qF<;>intro hc<;>simp only[hc,go_sem]
 ·exact hK g1 aid N (n1.wg ⟨p,by omega⟩ gi.up5)
 ·refine qM (zB hb k1.s (by omega) fun u g2 u0 u1 k2=> ?_);have n2:=n1.ks k1.s k2;obtain⟨i,rfl⟩:∃n:Nat,u=(n:Int):=⟨u.toNat,by omega⟩;have hi:i<N.length:=by omega
  simp only[ZD hi,go_sem];refine qM (zB hb k2.s (by omega) fun w g3 w0 w1 k3=> ?_);have n3:=n2.ks k2.s k3;obtain⟨rs,q,dv,h1,h2,_,h4,hdv,hq⟩:=n3.at (gEg hi);have hx:N[i]?=some N[i]:=gEg hi;generalize N[i]=x at h4 hdv hq hx;have hza:=(gi.z x (lMo hx));have lq:=qJ hq;have la:=qJ h1;have nqa:q≠aid:=fun e=>by rw[e,h1]at hq;simp at hq
  --a plain change of the agent,behind a draw
  have plain:∀{g4:List qA}{C:Nat}(y:qC),KG bytes sid C g3 g4->y.Data=x.Data->y.Ports=x.Ports->WG aid (g4.set aid (.row 5 (rs.set i (qY y dv q)) true)) (N.set i y):=by
   intro g4 C y k4 e1 e2;have l4:=k4.a.l;have e5:∀{j w:Nat}{el:List AV},w≠5->w≠3->g3[j]?=some (.row w el true)->(g4.set aid (.row 5 (rs.set i (qY y dv q)) true))[j]?=some (.row w el true):=fun{j w el} h5 h3 hj=>by
    rw[gSn (fun e=>h5 (by rw[<-e,h1]at hj;simp at hj;exact hj.1.symm))];rw[k4.a.k j (qJ hj) ((KA.refl k3.s).ne h3 hj)];exact hj
   refine n3.upd gi (by omega) hx h1 h4 (gSs (by omega)) ?_ (by rw[e1];omega) e2 (fun j el hj=>e5 (by decide) (by decide) hj) (fun j id d _ _ d0 hj=>e5 (by decide) (by decide) hj);rw[e1];rcases hdv with hdv | ⟨id,a,b,c⟩
   ·exact .inl hdv
   ·exact .inr ⟨id,a,b,e5 (by decide) (by decide) c⟩
  have hlen:∀y,(N.set i y).length=N.length:=fun y=>by simp
  simp only[go_sem];apply qF<;>intro hc<;>simp only[hc,go_sem]
  ·refine jn (el:=([0,1,3,13,-9223372036854775808]:List Int).map qG) rfl ?_;have q3:=(KG.refl k3.s).app (ex:=[qA.row 1 (([0,1,3,13,-9223372036854775808]:List Int).map qG) true]);simp only[go_sem];refine qM (w4 (xs:=[0,1,3,13,-9223372036854775808]) hb q3.a.s (by omega) (by simp) rfl (by decide) fun v g4 _ k4=> ?_);have q4:=q3.ks k4;have o4:=(q4.a.k aid la ((KA.refl k3.s).ne (by decide) h1)).trans h1;simp only[go_sem];refine zq (e':=qY {x with Kind:=v} dv q) rfl o4 h4 rfl ?_;simp only[go_sem];have:=hK _ _ _ (plain {x with Kind:=v} q4 rfl rfl);rw[hlen]at this;exact this
  apply qF<;>intro hc<;>simp only[hc,go_sem]
  ·refine jn (el:=([-1,1,8,9]:List Int).map qG) rfl ?_;have q3:=(KG.refl k3.s).app (ex:=[qA.row 1 (([-1,1,8,9]:List Int).map qG) true]);simp only[go_sem];refine qM (w4 (xs:=[-1,1,8,9]) hb q3.a.s (by omega) (by simp) rfl (by decide) fun v g4 _ k4=> ?_);have q4:=q3.ks k4;have o4:=(q4.a.k aid la ((KA.refl k3.s).ne (by decide) h1)).trans h1;simp only[go_sem];refine zq (e':=qY {x with Level:=v} dv q) rfl o4 h4 rfl ?_;simp only[go_sem];have:=hK _ _ _ (plain {x with Level:=v} q4 rfl rfl);rw[hlen]at this;exact this
  apply qF<;>intro hc<;>simp only[hc,go_sem]
  ·refine jn (el:=([-1,1,24,2147483648]:List Int).map qG) rfl ?_;have q3:=(KG.refl k3.s).app (ex:=[qA.row 1 (([-1,1,24,2147483648]:List Int).map qG) true]);simp only[go_sem];refine qM (w4 (xs:=[-1,1,24,2147483648]) hb q3.a.s (by omega) (by simp) rfl (by decide) fun v g4 _ k4=> ?_);have q4:=q3.ks k4;have o4:=(q4.a.k aid la ((KA.refl k3.s).ne (by decide) h1)).trans h1;simp only[go_sem];refine zq (e':=qY {x with Value:=v} dv q) rfl o4 h4 rfl ?_;simp only[go_sem];have:=hK _ _ _ (plain {x with Value:=v} q4 rfl rfl);rw[hlen]at this;exact this
  apply qF<;>intro hc<;>simp only[hc,go_sem]
  ·simp only[h1,h4,qY,go_sem];refine jn (el:=([-1,0,24]:List Int).map qG) rfl ?_;have q3:=(KG.refl k3.s).app (ex:=[qA.row 1 (([-1,0,24]:List Int).map qG) true]);simp only[go_sem];refine J8 (w4 (xs:=[-1,0,24]) hb q3.a.s (by omega) (by simp) rfl (by decide) fun v g4 _ k4=> ?_);have q4:=q3.ks k4;have o4:=(q4.a.k aid la ((KA.refl k3.s).ne (by decide) h1)).trans h1;have own:∀{G:List qA}{dv':AV}{d':List Int},(∀(j w:Nat)(el:List AV),g4[j]?=some (.row w el true)->dv≠.slice 1 j 0 x.Data.length false->G[j]?=some (.row w el true))->DV G dv' d'->d'.length<=5->
     WG aid (G.set aid (.row 5 (rs.set i (qY {x with Data:=d'} dv' q)) true)) (N.set i {x with Data:=d'}):=by
    intro G dv' d' e6 hD hl;have lG:aid<G.length:=qJ (e6 aid _ _ o4 fun e=>by
     rcases hdv with⟨e1,_⟩ | ⟨id,e1,_,e2⟩
     ·rw[e1]at e;cases e
     ·rw[e1]at e;cases e;rw[h1]at e2;simp at e2)
    have e5:∀{j w:Nat}{el:List AV},w≠5->w≠3->g3[j]?=some (.row w el true)->dv≠.slice 1 j 0 x.Data.length false->(G.set aid (.row 5 (rs.set i (qY {x with Data:=d'} dv' q)) true))[j]?=some (.row w el true):=fun{j w el} h5 h3 hj hne=>by
     rw[gSn (fun e=>h5 (by rw[<-e,h1]at hj;simp at hj;exact hj.1.symm))];exact e6 j w el ((q4.a.k j (qJ hj) ((KA.refl k3.s).ne h3 hj)).trans hj) hne
    refine n3.upd gi (by omega) hx h1 h4 (gSs lG) ?_ hl rfl (fun j el hj=>e5 (by decide) (by decide) hj fun e=> ?_) (fun j id d hd hjk d0 hj=>e5 (by decide) (by decide) hj fun e=>hjk (n3.dd rs h1 j i id hd (by rw[h4,e];rfl)))
    ·rcases hD with hD | ⟨id,a,b,c⟩
     ·exact .inl hD
     ·refine .inr ⟨id,a,b, ?_⟩;rw[gSn fun e=> ?_]
      ·exact c
      ·have:=e6 aid _ _ o4 fun e=>by
        rcases hdv with⟨e1,_⟩ | ⟨id,e1,_,e2⟩
        ·rw[e1]at e;cases e
        ·rw[e1]at e;cases e;rw[h1]at e2;simp at e2
       rw[<-e,this]at c;simp at c
    ·rcases hdv with⟨e1,_⟩ | ⟨id,e1,_,e2⟩
     ·rw[e1]at e;cases e
     ·rw[e1]at e;cases e;rw[hj]at e2;simp at e2
   rcases hdv with⟨rfl,hd0⟩ | ⟨id,rfl,d0,hid⟩
   ·refine⟨JW (id:=aid) (j:=i) (k:=3) (v:=.nils) (by simp only[go_sem]) (by simp only[go_sem]) (by rw[o4];simp only[jT,h4];rfl) trivial, ?_⟩;simp only[go_sem];refine Q1 (Els.row (rw':=true) (el:=[.int .i64 v]) (by simp) rfl) (by simp) ?_;simp only[go_sem];have e6:∀(j w:Nat)(el:List AV),g4[j]?=some (.row w el true)->AV.nils≠.slice 1 j 0 x.Data.length false->((g4++[qA.row 1 [AV.int IntKind.i64 v] true])++[qA.row 1 [AV.int IntKind.i64 v] true])[j]?=some (.row w el true):=fun j w el hj _=>by
     rw[gAl (by have:=qJ hj;simp;omega),gAl (qJ hj)];exact hj
    refine zq (e':=qY {x with Data:=[v]} (.slice 1 (g4++[qA.row 1 [AV.int IntKind.i64 v] true]).length 0 1 false) q) rfl (e6 _ _ _ o4 (by simp)) h4 rfl ?_;simp only[go_sem];have:=hK _ _ _ (own (d':=[v]) e6 (.inr ⟨_,rfl,by simp,gCl⟩) (by simp));rw[hlen]at this;exact this
   ·refine⟨JW (id:=aid) (j:=i) (k:=3) (v:=.slice 1 id 0 x.Data.length false) (by simp only[go_sem]) (by simp only[go_sem]) (by rw[o4];simp only[jT,h4];rfl) (by simp only[AV.rigid];omega), ?_⟩;simp only[go_sem];have oid:=(q4.a.k id (qJ hid) ((KA.refl k3.s).ne (by decide) hid)).trans hid;obtain⟨r1,r2⟩:=wV (tmp:=qA.row 1 [.int .i64 v] true) oid;refine jt r2 r1 (by simp) (by omega) ?_;simp only[go_sem];have e6:∀(j w:Nat)(el:List AV),g4[j]?=some (.row w el true)->AV.slice 1 id 0 x.Data.length false≠.slice 1 j 0 x.Data.length false->((g4++[qA.row 1 [AV.int IntKind.i64 v] true]).set id .dead++[qA.row 1 (List.map qG x.Data++[AV.int IntKind.i64 v]) true])[j]?=some (.row w el true):=fun j w el hj hne=>by
     rw[gAl (by have:=qJ hj;simp;omega),gSn (fun e=>hne (by rw[e])),gAl (qJ hj)];exact hj
    refine zq (e':=qY {x with Data:=x.Data++[v]} (.slice 1 (g4++[qA.row 1 [AV.int IntKind.i64 v] true]).length 0 (x.Data.length+1) false) q) rfl (e6 _ _ _ o4 (fun e=>by cases e;rw[h1]at hid;simp at hid)) h4 rfl ?_;simp only[go_sem];have:=hK _ _ _ (own (dv':=.slice 1 (g4++[qA.row 1 [AV.int IntKind.i64 v] true]).length 0 (x.Data.length+1) false) (d':=x.Data++[v]) e6 (.inr ⟨(g4++[qA.row 1 [AV.int IntKind.i64 v] true]).length,by simp,by simp,by rw[gAr (by simp)];simp[qG]⟩) (by simp;omega));rw[hlen]at this;exact this
  apply qF<;>intro hc<;>simp only[hc,go_sem]
  ·simp only[h1,h4,qY,go_sem];have hqi:ps[i]?=some q:=by
    obtain⟨rs',q',dv',a1,_,a3,a4,_,_⟩:=n3.at hx;rw[h1]at a1;cases a1;rw[h4]at a4;simp[qY]at a4;rw[a4.2];exact a3
   refine J8 (zB hb k3.s (by omega) fun v g4 v0 v1 k4=> ?_);have n4:=n3.ks k3.s k4;have o4:=(k4.k aid ((KA.refl k3.s).ne (by decide) h1)).trans h1;refine⟨JW (id:=aid) (j:=i) (k:=4) (v:=.slice 2 q 0 x.Ports.length false) (by simp only[go_sem]) (by simp only[go_sem]) (by rw[o4];simp only[jT,h4];rfl) (by simp only[AV.rigid];omega), ?_⟩;simp only[go_sem];refine J8 (zB hb k4.s (by omega) fun w2 g5 w20 w21 k5=> ?_);have n5:=n4.ks k4.s k5;have o5:=(k5.k aid ((KA.refl k4.s).ne (by decide) o4)).trans o4;have oq:=(k5.k q ((KA.refl k4.s).ne (by decide) ((k4.k q ((KA.refl k3.s).ne (by decide) hq)).trans hq))).trans ((k4.k q ((KA.refl k3.s).ne (by decide) hq)).trans hq);refine⟨JW (id:=aid) (j:=i) (k:=4) (v:=.slice 2 q 0 x.Ports.length false) (by simp only[go_sem]) (by simp only[go_sem]) (by rw[o5];simp only[jT,h4];rfl) (by simp only[AV.rigid];omega), ?_⟩;have e0:idx 2 (some (.slice 2 q 0 x.Ports.length false)) (some (.int .i64 0))=some (.ptr q 0 0):=QF (i:=0) hza.1;simp only[e0,go_sem];have np0:=hza.1;have epp:(x.Ports.map qE.enc)[0]?=some (x.Ports[0].enc):=by rw[gMp,gEg np0];rfl
   refine zq (e':=qE.enc ⟨IntKind.i64.wrap (v-1),IntKind.i64.wrap (w2-1)⟩) rfl oq epp rfl ?_;have es:(x.Ports.map qE.enc).set 0 (qE.enc ⟨IntKind.i64.wrap (v-1),IntKind.i64.wrap (w2-1)⟩)=(x.Ports.set 0 ⟨IntKind.i64.wrap (v-1),IntKind.i64.wrap (w2-1)⟩).map qE.enc:=by rw[List.map_set]
   rw[es];have n6:=n5.write (s:=0) (r:=⟨IntKind.i64.wrap (v-1),IntKind.i64.wrap (w2-1)⟩) hx hqi;simp only[go_sem];have:=hK _ aid _ (n6.wg ⟨by simp[Jr hx];omega,by simp[Jr hx];omega⟩ fun y hy=>by
    rw[Jr hx]at hy;rcases List.mem_or_eq_of_mem_set hy with hy | rfl
    ·exact gi.up5 y hy
    ·obtain⟨a,b,c⟩:=hza;exact⟨by simp;omega,by simp;omega,by simp;omega⟩)
   rw[Jr hx,hlen]at this;exact this
  apply qF<;>intro hc<;>simp only[hc,go_sem]
  ·refine qM (Vy hb k3.s (by omega) (by decide) (by decide) (by obtain⟨p,s,_,e⟩:=k3.s;exact qJ e) fun lv v d np dv2 q2 g4 np0 n4 d4 kg hdv2 hdf2 hq1 hq2=> ?_);have hNg:NG nid aid ps g4 N:=by
    have ne:∀{j w:Nat}{el:List AV},w≠3->g3[j]?=some (.row w el true)->j≠sid:=fun hw hj=>(KA.refl k3.s).ne hw hj;exact n3.heap (kg.a.k _ (qJ n3.o) (ne (by decide) n3.o)) (kg.a.k _ (qJ h1) (ne (by decide) h1)) (fun q hq=>by obtain⟨el,e⟩:=n3.p2 hq;exact kg.a.k _ (qJ e) (ne (by decide) e)) kg.g
   have hqp:q2∉ps:=fun hm=>by obtain⟨el,e⟩:=n3.p2 hm;have:=qJ e;omega
   have hq':g4[q2]?=some (.row 2 ((⟨5,lv,v,d,List.replicate np zp⟩:qC).Ports.map qE.enc) true):=by simp only[List.map_replicate];exact hq2
   obtain⟨rs2,p1,p2,p3,p4,p5⟩:=hNg.push (x:=⟨5,lv,v,d,List.replicate np zp⟩) (tmp:=.row 5 [qY ⟨5,lv,v,d,List.replicate np zp⟩ dv2 q2] true) hdv2 (fun d' rs' e er k ek=>by
    have e2:=(kg.a.k _ la ((KA.refl k3.s).ne (by decide) h1)).symm.trans er;have l1:=n3.fresh e2 ek;rcases hdv2 with⟨rfl,_⟩ | ⟨id,rfl,_,_⟩
    ·simp[dat,qY]at e
    ·have:=hdf2 _ _ _ _ rfl;simp[dat,qY]at e;omega) hq' hqp
   simp only[go_sem];refine jn (el:=[qY ⟨5,lv,v,d,List.replicate np zp⟩ dv2 q2]) rfl ?_;simp only[go_sem];obtain⟨r1,r2⟩:=wV (tmp:=.row 5 [qY ⟨5,lv,v,d,List.replicate np zp⟩ dv2 q2] true) p1;refine jt r2 r1 p2 (by omega) ?_;simp only[lAp,nZa,go_sem];have:=hK _ _ _ ((p4.wg ⟨by simp,by simp;omega⟩ fun y hy=>by
    rcases zM.1 hy with hy | hy
    ·exact gi.up5 y hy
    ·simp at hy;subst hy;exact⟨by simp;omega,by simp;omega,by simp;omega⟩).unset p3 rfl)
   rw[lAp]at this;exact this
  ·exact hK g3 aid N (n3.wg ⟨p,by omega⟩ gi.up5)
end
section
variable {bytes:List Int} {sid B b nid aid:Nat} {ps:List Nat} {h h':List qA} {N:Ags} {K:AV->List qA->Prop} {a s c k:Nat}
theorem NG.rebox(hN:NG nid aid ps h N):NG h.length aid ps (h++[.row 1 [.agg [.slice 5 aid 0 N.length false]] true]) N:=by
 have x:=hN.app [.row 1 [.agg [.slice 5 aid 0 N.length false]] true];exact⟨gCl,x.r,x.l,x.nd,x.dd⟩
theorem s317(hb:OkB bytes)(hs:SR bytes sid B h)(hB:B<900000)(hK:∀h' aid N,WG aid h' N->K (.agg [.slice 5 aid 0 N.length false]) h'):SCall Gm 317 [.ptr sid 0 0] h K:=by
 refine sI Xz ?_;simp only[Xz,qQ,go_sem];refine qM (Wy hb hs (by omega) fun f h1 k1=> ?_);simp only[go_sem];apply qF<;>intro hc<;>simp only[hc,go_sem]
 ·refine qM (s699 hb k1.s (by omega) fun g aid N w=> ?_);simp only[go_sem];exact hK g aid N w
 ·refine qM (zB hb k1.s (by omega) fun u h2 u0 u1 k2=> ?_);simp only[go_sem];refine qM (zB hb k2.s (by omega) fun w h3 w0 w1 k3=> ?_);simp only[go_sem];obtain⟨cp,rfl⟩:∃n:Nat,u=(n:Int):=⟨u.toNat,by omega⟩;obtain⟨sg,rfl⟩:∃n:Nat,w=(n:Int):=⟨w.toNat,by omega⟩;refine qM (s708 hb k3.s (by omega) (by omega) (by omega) fun g nid aid ps N n gi sr p q=> ?_);simp only[go_sem];refine zq rfl gCl rfl rfl ?_;have eh:(g++[qA.row 1 [AV.agg [AV.nils]] true]).set g.length (qA.row 1 ([AV.agg [AV.nils]].set 0 (AV.agg (List.take 0 [AV.nils]++([AV.slice 5 aid 0 N.length false]++List.drop 1 [AV.nils])))) true)=g++[qA.row 1 [AV.agg [AV.slice 5 aid 0 N.length false]] true]:=by simp
  simp only[go_sem];rw[eh];have x0:GS bytes sid g.length (B+300000) (g++[qA.row 1 [AV.agg [AV.slice 5 aid 0 N.length false]] true]) N:=⟨⟨aid,ps,n.rebox⟩,gi,(sr.app _).up (by omega),p⟩;generalize g++[qA.row 1 [AV.agg [AV.slice 5 aid 0 N.length false]] true]=g0 at x0;generalize g.length=nid2 at x0;refine qM (zB hb x0.s (by omega) fun v g1 v0 v1 k4=> ?_);have x1:=x0.ks k4;obtain⟨m,rfl⟩:∃n:Nat,v=(n:Int):=⟨v.toNat,by omega⟩;have hm:m<=3:=by omega
  simp only[go_sem];refine Sem.loop (α:=Nat×List qA×Ags) (fun q=>q.1<=m/\GS bytes sid nid2 (B+300002+100*q.1) q.2.1 q.2.2/\q.2.2.length=N.length+2*q.1)
   (fun q=>(⟨[(0,.ptr sid 0 0),(4,.ptr nid2 0 0),(5,.int .i64 ((m-q.1:Nat):Int))],[(2,.agg [.nils])],q.2.1⟩:VSt)) (fun q=>m-q.1) (0,g1,N) (by kernel_rfl)
   ⟨nZl _,x1,rfl⟩ (Can.sub (by simp[go_sem]) (by simp[go_sem])) ?_
  rintro⟨i,g2,N2⟩ ⟨hi,x2,hl2⟩;simp only at hi x2 hl2;simp only[go_sem];apply qF<;>intro hc<;>simp only[hc,go_sem]
  ·have hlt:i<m:=by have:=odT hc;omega
   refine qM (zx hb x2 (by omega) (by decide) (by decide) (by omega) fun h3 N3 x3 l3 m3 e3=> ?_);simp only[go_sem];refine jn (el:=([5,6]:List Int).map qG) rfl ?_;have x4:=x3.app [qA.row 1 (([5,6]:List Int).map qG) true];simp only[go_sem];refine qM (w4 (xs:=[5,6]) hb x4.s (by omega) (by simp) rfl (by decide) fun v h5 hv k5=> ?_);have x5:=x4.ks k5;have hv':1<=v/\v<=12:=by simp at hv;omega
   simp only[go_sem];refine qM (zx hb x5 (by omega) (by omega) (by omega) (by omega) fun h6 N6 x6 l6 m6 e6=> ?_);simp only[go_sem];refine qM (V3 x6 (m6 _ _ e3) e6 fun h7 N7 x7 sm=> ?_);have l7:=sm.len;have e1:IntKind.i64.wrap (((m-i:Nat):Int)-1)=((m-(i+1):Nat):Int):=by rw[zD (by omega) (by omega)];omega
   simp only[e1,go_sem];exact ql (i+1,h7,N7) ⟨hlt,x7.up (by simp only;omega),by simp only;omega⟩ (by simp only;omega) (Can.sub (by simp[go_sem]) (by simp[go_sem]))
  ·obtain⟨aid2,ps2,n2⟩:=x2.n;have hm2:N2.length<=1001:=by omega
   simp only[n2.o,go_sem];exact hK g2 aid2 N2 (n2.wg ⟨x2.p,hm2⟩ x2.i.up5)
theorem WG.sz(x:WG aid h N):(⟨N⟩:qI).sz<=1048576:=by
 have key:∀L:Ags,(∀y∈L,0<y.Ports.length/\y.Ports.length<=4/\y.Data.length<=5)->zC qC.sz L<=9*L.length:=by
  intro L
  induction L with
  | nil=>intro _;simp[zC]
  | cons a l ih=>
   intro hz;have:=ih fun y hy=>hz y (List.mem_cons_of_mem _ hy);obtain⟨_,p1,p2⟩:=hz a (by simp);simp only[zC,qC.sz,lCo];omega
 have:=key N x.z;have:=x.p;unfold qI.sz;simp only;omega
theorem WG.app(x:WG aid h N)(ex:List qA):WG aid (h++ex) N:=by
 obtain⟨rs,h1,h2,h3⟩:=x.r;refine⟨⟨rs,by rw[gAl (qJ h1)];exact h1,h2,fun k x hx=> ?_⟩,x.p,x.z⟩;obtain⟨q,dv,a,b,c⟩:=h3 k x hx;exact⟨q,dv,a,b.up G1.app,by rw[gAl (qJ c)];exact c⟩
theorem UE(x:WG aid h N):Cv h (.agg [.slice 5 aid 0 N.length false]) (qI.enc ⟨N⟩):=.agg rfl fun p hp=>by
 simp at hp;subst hp;exact x.cv
def Wo:qI:=⟨[⟨1,0,0,[],[⟨1,0⟩]⟩,⟨6,0,1,[],[⟨0,0⟩]⟩]⟩
theorem qQG:qo Wo=true:=by decide
theorem s316(hK:∀h',SR bytes h.length 0 h'->K (.ptr h.length 0 0) h'):SCall Gm 316 [.lst 1 (bytes.map z4) false] h K:=by
 refine sI Xy ?_;simp only[Xy,qQ,go_sem];refine JZ rfl ?_;simp only[go_sem];exact hK _ ⟨0,0,nLr _,gCl⟩
theorem r61(hb:OkB bytes):PureR Gm 61 [.lst 1 (bytes.map z4) false] fun v=>∃n:qI,qo n=true/\v=n.enc:=by
 refine PureR.intro [] [] (gk _ F61) (by kernel_rfl) rfl (by simp only[AV.trees,AV.tree,qx (enc:=z4) (fun _=>rfl) bytes,Bool.and_self]) (fun v hv=>by obtain⟨n,_,rfl⟩:=hv;exact qI.tr) ?_;simp only[F61,qQ,go_sem];refine qM (s316 fun g x=> ?_);simp only[go_sem];refine qM (s317 hb x (by omega) fun g aid N w=> ?_);simp only[go_sem];refine zq rfl gCl rfl rfl ?_;have eh:(g++[qA.row 1 [AV.agg [AV.nils]] true]).set g.length (qA.row 1 ([AV.agg [AV.nils]].set 0 (AV.agg (List.take 0 [AV.nils]++([AV.slice 5 aid 0 N.length false]++List.drop 1 [AV.nils])))) true)=g++[qA.row 1 [AV.agg [AV.slice 5 aid 0 N.length false]] true]:=by simp
 simp only[go_sem];rw[eh];have w2:WG aid (g++[qA.row 1 [AV.agg [AV.slice 5 aid 0 N.length false]] true]) N:=w.app _;have o2:(g++[qA.row 1 [AV.agg [AV.slice 5 aid 0 N.length false]] true])[g.length]?=some (.row 1 [AV.agg [AV.slice 5 aid 0 N.length false]] true):=gCl;generalize g++[qA.row 1 [AV.agg [AV.slice 5 aid 0 N.length false]] true]=g2 at w2 o2;generalize g.length=nid at o2;refine qM3 (vs':=[.ept (qI.enc ⟨N⟩) 0]) ⟨rfl,fun p hp=> ?_⟩ (c318 (n:=⟨N⟩) w2.sz) rfl ?_
 ·simp at hp;subst hp;exact .ptr o2 (by decide) rfl (UE w2)
 simp only[go_sem];apply qF<;>intro hc<;>simp only[hc,go_sem]
 ·simp only[o2,go_sem];exact qIS ⟨_,hc,rfl⟩ (UE w2)
 ·refine jn (el:=[qY ⟨1,0,0,[],[⟨1,0⟩]⟩ .nils g2.length,qY ⟨6,0,1,[],[⟨0,0⟩]⟩ .nils (g2++[qA.row 2 [AV.agg [AV.int IntKind.i64 1,AV.int IntKind.i64 0]] true]).length]) rfl ?_;simp only[go_sem];refine qIS ⟨Wo,qQG,rfl⟩ (UE (N:=Wo.Agents) ⟨⟨_,gCl,rfl,fun k x hx=> ?_⟩,by decide,by decide⟩)
  match k,hx with
  | 0,hx=>cases hx;exact⟨_,_,rfl,.inl ⟨rfl,rfl⟩,by rw[lAa,gAl (by simp),gCl];rfl⟩
  | 1,hx=>cases hx;exact⟨_,_,rfl,.inl ⟨rfl,rfl⟩,by rw[gAl (by simp),gCl];rfl⟩
  | k+2,hx=>simp[Wo]at hx
end
theorem c3{bytes:List Int}(hb:OkB bytes):Pure Gm 3 [.lst 1 (bytes.map z4) false] (.bool true):=by
 by_cases h:3000<(bytes.length:Int)
 ·refine Pure.intro [] [] qIZ (by kernel_rfl) rfl (by simp[AV.trees,AV.tree,qx (enc:=z4) (fun _=>rfl)]) rfl ?_;simp only[F3,qQ,go_sem];refine qS c60 ?_;have e0:decide (3000<(bytes.length:Int))=true:=decide_eq_true h;simp only[e0,go_sem];exact qV rfl rfl
 ·exact c3a bytes h (r61 hb)
end Go.Ab
