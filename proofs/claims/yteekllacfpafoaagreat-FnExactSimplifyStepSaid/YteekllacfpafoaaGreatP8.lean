/- Texts Cor43 .. Cor57: the abstract machine, its laws and contracts of functions: lemmas for the statement. No condition. -/
import Derived.Test.YteekllacfpafoaaGreatP7
set_option linter.unusedSimpArgs false
set_option linter.unusedVariables false
namespace Go.Ab
open Go
set_option maxRecDepth 10000
set_option maxHeartbeats 2000000
theorem qfX {h:List qC} {id n:Nat} {xs:List Int} {a b p:Int} {K:AV→List qC→Prop} (hid:id<h.length) (hn:xs.length=n) (hl:n≤4194304) (hab:0≤a∧a<b∧b≤n∧a≤p∧p<b)
    (hK:∀(ys:List Int) (m:Int) (r:Bool),ys.Perm xs→a≤m→m<b→K (.tup [.int .i64 m,.bool r]) (RW h id ys)):SCall Gm 1347 [.slice 1 id 0 n false,.int .i64 a,.int .i64 b,.int .i64 p] (RW h id xs) K:=by
  refine SCall.run [] [] qaN (by kernel_rfl) rfl ?_
  simp only [W7,qL,go_sem]
  simp (config:={maxSteps:=2000000}) (disch:=omega) only [go_sem,qP,qS,qT,Int.reduceEq]
  refine zD hid (by omega) (by omega) ?_;simp (config:={maxSteps:=2000000}) (disch:=omega) only [go_sem,qP,qS,qT,Int.reduceEq];refine zD hid (by omega) (by rw [List.length_set];omega) ?_;simp (maxSteps:=2000000) (disch:=omega) only [go_sem,qP,qS,qT,Int.reduceEq]
  have hp1:(swI xs a p).Perm xs:=jN (by omega) (by omega) (by omega) (by omega)
  show Sem _ _ ⟨_,_,RW h id (swI xs a p)⟩ _
  have hb:(RW h id xs).length=h.length:=qN1
  rw [hb]
  generalize swI xs a p=ys at hp1⊢
  have hyl:=hp1.length_eq
  refine j9 (fun i':Int=>a+1≤i') (fun i'=>(⟨[(0,.slice 1 id 0 n false),(1,.int .i64 a),(10,.int .i64 i'),(11,.int .i64 (b-1))],[],RW h id ys⟩:VSt)) (fun i'=>(b-i').toNat) (a+1)
      (fun i':Int=>a+1≤i') (fun i'=>(⟨[(0,.slice 1 id 0 n false),(1,.int .i64 a),(10,.int .i64 i'),(11,.int .i64 (b-1))],[],RW h id ys⟩:VSt)) (by kernel_rfl) (by first | omega | (simp only;omega)) (Can.sub (by simp [go_sem]) (by simp [go_sem])) ?_ ?_
  · rintro i' k1
    simp only [go_sem]
    refine qZ ?_ ?_<;>intro hc<;>simp only [hc,go_sem]
    · have hle:=odT hc
      simp (config:={maxSteps:=2000000}) (disch:=omega) only [go_sem,qP,qS,qT,Int.reduceEq]
      refine qG (jT _ _) ?_
      simp only [go_sem]
      refine qD ?_ ?_<;>intro hc<;>simp only [hc,go_sem]
      · simp (config:={maxSteps:=2000000}) (disch:=omega) only [go_sem,qP,qS,qT,Int.reduceEq]
        exact jP (i'+1) (by first | omega | (simp only;omega)) (by first | omega | (simp only;omega)) (Can.sub (by simp [go_sem]) (by simp [go_sem]))
      · exact jA i' (by omega) (Can.sub (by simp [go_sem]) (by simp [go_sem]))
    · exact jA i' (by omega) (Can.sub (by simp [go_sem]) (by simp [go_sem]))
  rintro i' k1
  simp only [go_sem]
  refine j9 (fun j':Int=>a≤j'∧j'≤b-1) (fun j'=>(⟨[(0,.slice 1 id 0 n false),(1,.int .i64 a),(10,.int .i64 i'),(11,.int .i64 j')],[],RW h id ys⟩:VSt)) (fun j'=>(j'+1).toNat) (b-1)
      (fun j':Int=>a≤j'∧j'≤b-1) (fun j'=>(⟨[(0,.slice 1 id 0 n false),(1,.int .i64 a),(10,.int .i64 i'),(11,.int .i64 j')],[],RW h id ys⟩:VSt)) (by kernel_rfl) ⟨(by first | omega | (simp only;omega)),(by first | omega | (simp only;omega))⟩ (Can.sub (by simp [go_sem]) (by simp [go_sem])) ?_ ?_
  · rintro j' ⟨m1,m2⟩
    simp only [go_sem]
    refine qZ ?_ ?_<;>intro hc<;>simp only [hc,go_sem]
    · have hle:=odT hc
      simp (config:={maxSteps:=2000000}) (disch:=omega) only [go_sem,qP,qS,qT,Int.reduceEq]
      refine qG (jT _ _) ?_
      simp only [go_sem]
      refine qD ?_ ?_<;>intro hc<;>simp only [hc,go_sem]
      · simp (config:={maxSteps:=2000000}) (disch:=omega) only [go_sem,qP,qS,qT,Int.reduceEq]
        exact jP (j'-1) ⟨(by first | omega | (simp only;omega)),(by first | omega | (simp only;omega))⟩ (by first | omega | (simp only;omega)) (Can.sub (by simp [go_sem]) (by simp [go_sem]))
      · exact jA j' ⟨by omega,by omega⟩ (Can.sub (by simp [go_sem]) (by simp [go_sem]))
    · exact jA j' ⟨by omega,by omega⟩ (Can.sub (by simp [go_sem]) (by simp [go_sem]))
  rintro j' ⟨m1,m2⟩
  simp only [go_sem]
  refine qD ?_ ?_<;>intro hc<;>simp only [hc,go_sem]
  · simp (config:={maxSteps:=2000000}) (disch:=omega) only [go_sem,qP,qS,qT,Int.reduceEq]
    refine zD hid (by omega) (by omega) ?_;simp (config:={maxSteps:=2000000}) (disch:=omega) only [go_sem,qP,qS,qT,Int.reduceEq];refine zD hid (by omega) (by rw [List.length_set];omega) ?_;simp (maxSteps:=2000000) (disch:=omega) only [go_sem,qP,qS,qT,Int.reduceEq]
    exact hK _ _ _ ((jN (by omega) (by omega) (by omega) (by omega)).trans hp1) m1 (by omega)
  have hle:=odF hc
  simp (config:={maxSteps:=2000000}) (disch:=omega) only [go_sem,qP,qS,qT,Int.reduceEq]
  refine zD hid (by omega) (by omega) ?_;simp (config:={maxSteps:=2000000}) (disch:=omega) only [go_sem,qP,qS,qT,Int.reduceEq];refine zD hid (by omega) (by rw [List.length_set];omega) ?_;simp (maxSteps:=2000000) (disch:=omega) only [go_sem,qP,qS,qT,Int.reduceEq]
  have hp2:(swI ys i' j').Perm xs:=(jN (by omega) (by omega) (by omega) (by omega)).trans hp1
  refine j9 (fun q:Int×Int×List Int=>a+1≤q.1∧a≤q.2.1∧q.2.1≤b-1∧q.2.2.Perm xs) (fun q=>(⟨[(0,.slice 1 id 0 n false),(1,.int .i64 a),(10,.int .i64 q.1),(11,.int .i64 q.2.1)],[],RW h id q.2.2⟩:VSt)) (fun q=>(q.2.1+1-q.1).toNat) (i'+1,j'-1,swI ys i' j')
    (fun q:Int×List Int=>a≤q.1∧q.1≤b-1∧q.2.Perm xs) (fun q=>(⟨[(0,.slice 1 id 0 n false),(1,.int .i64 a),(11,.int .i64 q.1)],[],RW h id q.2⟩:VSt)) (by kernel_rfl) ⟨(by first | omega | (simp only;omega)),(by first | omega | (simp only;omega)),(by first | omega | (simp only;omega)),hp2⟩ (Can.sub (by simp [go_sem]) (by simp [go_sem])) ?_ ?_
  · clear hp2 hp1 k1 m1 m2 hle hyl hc
    rintro ⟨i,j,zs⟩ ⟨h1,h2,h3,h4⟩
    simp only at h1 h2 h3 h4⊢
    have hzl:=h4.length_eq
    simp only [go_sem]
    refine j9 (fun i':Int=>i≤i') (fun i'=>(⟨[(0,.slice 1 id 0 n false),(1,.int .i64 a),(10,.int .i64 i'),(11,.int .i64 j)],[],RW h id zs⟩:VSt)) (fun i'=>(j+1-i').toNat) i
      (fun i':Int=>i≤i') (fun i'=>(⟨[(0,.slice 1 id 0 n false),(1,.int .i64 a),(10,.int .i64 i'),(11,.int .i64 j)],[],RW h id zs⟩:VSt)) (by kernel_rfl) (by first | omega | (simp only;omega)) (Can.sub (by simp [go_sem]) (by simp [go_sem])) ?_ ?_
    · rintro i' k1
      simp only [go_sem]
      refine qZ ?_ ?_<;>intro hc<;>simp only [hc,go_sem]
      · have hle:=odT hc
        simp (config:={maxSteps:=2000000}) (disch:=omega) only [go_sem,qP,qS,qT,Int.reduceEq]
        refine qG (jT _ _) ?_
        simp only [go_sem]
        refine qD ?_ ?_<;>intro hc<;>simp only [hc,go_sem]
        · simp (config:={maxSteps:=2000000}) (disch:=omega) only [go_sem,qP,qS,qT,Int.reduceEq]
          exact jP (i'+1) (by first | omega | (simp only;omega)) (by first | omega | (simp only;omega)) (Can.sub (by simp [go_sem]) (by simp [go_sem]))
        · exact jA i' (by omega) (Can.sub (by simp [go_sem]) (by simp [go_sem]))
      · exact jA i' (by omega) (Can.sub (by simp [go_sem]) (by simp [go_sem]))
    rintro i' k1
    simp only [go_sem]
    refine j9 (fun j':Int=>a≤j'∧j'≤j) (fun j'=>(⟨[(0,.slice 1 id 0 n false),(1,.int .i64 a),(10,.int .i64 i'),(11,.int .i64 j')],[],RW h id zs⟩:VSt)) (fun j'=>(j'+1).toNat) j
      (fun j':Int=>a≤j'∧j'≤j) (fun j'=>(⟨[(0,.slice 1 id 0 n false),(1,.int .i64 a),(10,.int .i64 i'),(11,.int .i64 j')],[],RW h id zs⟩:VSt)) (by kernel_rfl) ⟨(by first | omega | (simp only;omega)),(by first | omega | (simp only;omega))⟩ (Can.sub (by simp [go_sem]) (by simp [go_sem])) ?_ ?_
    · rintro j' ⟨m1,m2⟩
      simp only [go_sem]
      refine qZ ?_ ?_<;>intro hc<;>simp only [hc,go_sem]
      · have hle:=odT hc
        simp (config:={maxSteps:=2000000}) (disch:=omega) only [go_sem,qP,qS,qT,Int.reduceEq]
        refine qG (jT _ _) ?_
        simp only [go_sem]
        refine qD ?_ ?_<;>intro hc<;>simp only [hc,go_sem]
        · simp (config:={maxSteps:=2000000}) (disch:=omega) only [go_sem,qP,qS,qT,Int.reduceEq]
          exact jP (j'-1) ⟨(by first | omega | (simp only;omega)),(by first | omega | (simp only;omega))⟩ (by first | omega | (simp only;omega)) (Can.sub (by simp [go_sem]) (by simp [go_sem]))
        · exact jA j' ⟨by omega,by omega⟩ (Can.sub (by simp [go_sem]) (by simp [go_sem]))
      · exact jA j' ⟨by omega,by omega⟩ (Can.sub (by simp [go_sem]) (by simp [go_sem]))
    rintro j' ⟨m1,m2⟩
    simp only [go_sem]
    refine qD ?_ ?_<;>intro hc<;>simp only [hc,go_sem]
    · exact jA (j',zs) ⟨(by first | omega | (simp only;omega)),(by first | omega | (simp only;omega)),h4⟩ (Can.sub (by simp [go_sem]) (by simp [go_sem]))
    · have hle:=odF hc
      simp (config:={maxSteps:=2000000}) (disch:=omega) only [go_sem,qP,qS,qT,Int.reduceEq]
      refine zD hid (by omega) (by omega) ?_;simp (config:={maxSteps:=2000000}) (disch:=omega) only [go_sem,qP,qS,qT,Int.reduceEq];refine zD hid (by omega) (by rw [List.length_set];omega) ?_;simp (maxSteps:=2000000) (disch:=omega) only [go_sem,qP,qS,qT,Int.reduceEq]
      exact jP (i'+1,j'-1,swI zs i' j') ⟨(by first | omega | (simp only;omega)),(by first | omega | (simp only;omega)),(by first | omega | (simp only;omega)),(jN (by omega) (by omega) (by omega) (by omega)).trans h4⟩ (by first | omega | (simp only;omega)) (Can.sub (by simp [go_sem]) (by simp [go_sem]))
  · rintro ⟨j,zs⟩ ⟨h1,h2,h3⟩
    have hzl:=h3.length_eq
    simp only at h1 h2 h3 hzl⊢
    simp (config:={maxSteps:=2000000}) (disch:=omega) only [go_sem,qP,qS,qT,Int.reduceEq]
    refine zD hid (by omega) (by omega) ?_;simp (config:={maxSteps:=2000000}) (disch:=omega) only [go_sem,qP,qS,qT,Int.reduceEq];refine zD hid (by omega) (by rw [List.length_set];omega) ?_;simp (maxSteps:=2000000) (disch:=omega) only [go_sem,qP,qS,qT,Int.reduceEq]
    exact hK _ _ _ ((jN (by omega) (by omega) (by omega) (by omega)).trans h3) h1 (by omega)
end Go.Ab
namespace Go.Ab
open Go
set_option maxRecDepth 10000
set_option maxHeartbeats 2000000
theorem qfV {h:List qC} {id n:Nat} {xs:List Int} {a b:Int} {K:AV→List qC→Prop} (hid:id<h.length) (hn:xs.length=n) (hl:n≤4194304) (hab:0≤a∧a<b∧b≤n)
    (hK:∀(ys:List Int) (r:Bool),ys.Perm xs→K (.bool r) (RW h id ys)):SCall Gm 1344 [.slice 1 id 0 n false,.int .i64 a,.int .i64 b] (RW h id xs) K:=by
  refine SCall.run [] [] qaK (by kernel_rfl) rfl ?_
  simp only [W4,qL,go_sem]
  simp (config:={maxSteps:=2000000}) (disch:=omega) only [go_sem,qP,qS,qT,Int.reduceEq]
  refine j9 (fun q:Int×Int×List Int=>0≤q.1∧q.1≤5∧a+1≤q.2.1∧q.2.1≤b∧q.2.2.Perm xs) (fun q=>(⟨[(0,.slice 1 id 0 n false),(1,.int .i64 a),(2,.int .i64 b),(7,.int .i64 q.2.1),(8,.int .i64 q.1)],[],RW h id q.2.2⟩:VSt)) (fun q=>(5-q.1).toNat) (0,a+1,xs)
    (fun ys:List Int=>ys.Perm xs) (fun ys=>(⟨[],[],RW h id ys⟩:VSt)) (by kernel_rfl) ⟨(by first | omega | (simp only;omega)),(by first | omega | (simp only;omega)),(by first | omega | (simp only;omega)),(by first | omega | (simp only;omega)),.refl _⟩ (Can.sub (by simp [go_sem]) (by simp [go_sem])) ?_ ?_
  · rintro ⟨r,i,ys⟩ ⟨h1,h2,h3,h4,h5⟩
    simp only at h1 h2 h3 h4 h5⊢
    have hyl:=h5.length_eq
    simp only [go_sem]
    refine qD ?_ ?_<;>intro hc<;>simp only [hc,go_sem]
    · have hr5:=odT hc
      refine j9 (fun i':Int=>a+1≤i'∧i'≤b) (fun i'=>(⟨[(0,.slice 1 id 0 n false),(1,.int .i64 a),(2,.int .i64 b),(7,.int .i64 i'),(8,.int .i64 r)],[],RW h id ys⟩:VSt)) (fun i'=>(b-i').toNat) i
        (fun i':Int=>a+1≤i'∧i'≤b) (fun i'=>(⟨[(0,.slice 1 id 0 n false),(1,.int .i64 a),(2,.int .i64 b),(7,.int .i64 i'),(8,.int .i64 r)],[],RW h id ys⟩:VSt)) (by kernel_rfl) ⟨(by first | omega | (simp only;omega)),(by first | omega | (simp only;omega))⟩ (Can.sub (by simp [go_sem]) (by simp [go_sem])) ?_ ?_
      · rintro i' ⟨k1,k2⟩
        simp only [go_sem]
        refine qZ ?_ ?_<;>intro hc<;>simp only [hc,go_sem]
        · have hle:=odT hc
          simp (config:={maxSteps:=2000000}) (disch:=omega) only [go_sem,qP,qS,qT,Int.reduceEq]
          refine qG (jT _ _) ?_
          simp only [go_sem]
          refine qD ?_ ?_<;>intro hc<;>simp only [hc,go_sem]
          · simp (config:={maxSteps:=2000000}) (disch:=omega) only [go_sem,qP,qS,qT,Int.reduceEq]
            exact jP (i'+1) ⟨(by first | omega | (simp only;omega)),(by first | omega | (simp only;omega))⟩ (by first | omega | (simp only;omega)) (Can.sub (by simp [go_sem]) (by simp [go_sem]))
          · exact jA i' ⟨by omega,by omega⟩ (Can.sub (by simp [go_sem]) (by simp [go_sem]))
        · exact jA i' ⟨by omega,by omega⟩ (Can.sub (by simp [go_sem]) (by simp [go_sem]))
      rintro i' ⟨k1,k2⟩
      simp only [go_sem]
      refine qD ?_ ?_<;>intro hc<;>simp only [hc,go_sem]
      · exact hK _ _ h5
      have hib:=odF hc
      simp (config:={maxSteps:=2000000}) (disch:=omega) only [go_sem,qP,qS,qT,Int.reduceEq]
      refine qD ?_ ?_<;>intro hc<;>simp only [hc,go_sem]
      · exact hK _ _ h5
      have hib50:=odF hc
      simp (config:={maxSteps:=2000000}) (disch:=omega) only [go_sem,qP,qS,qT,Int.reduceEq]
      refine zD hid (by omega) (by omega) ?_;simp (config:={maxSteps:=2000000}) (disch:=omega) only [go_sem,qP,qS,qT,Int.reduceEq];refine zD hid (by omega) (by rw [List.length_set];omega) ?_;simp (maxSteps:=2000000) (disch:=omega) only [go_sem,qP,qS,qT,Int.reduceEq]
      have hp2:(swI ys i' (i'-1)).Perm xs:=(jN (by omega) (by omega) (by omega) (by omega)).trans h5
      refine qD ?_ ?_<;>intro hc<;>simp only [hc,go_sem]
      · simp (config:={maxSteps:=2000000}) (disch:=omega) only [go_sem,qP,qS,qT,Int.reduceEq]
        have hib2:=odT hc
        refine j9 (fun q:Int×List Int=>0≤q.1∧q.1≤i'-1∧q.2.Perm xs) (fun q=>(⟨[(0,.slice 1 id 0 n false),(1,.int .i64 a),(2,.int .i64 b),(7,.int .i64 i'),(8,.int .i64 r),(9,.int .i64 q.1)],[],RW h id q.2⟩:VSt)) (fun q=>q.1.toNat) (i'-1,swI ys i' (i'-1))
          (fun zs:List Int=>zs.Perm xs) (fun zs=>(⟨[(0,.slice 1 id 0 n false),(1,.int .i64 a),(2,.int .i64 b),(7,.int .i64 i'),(8,.int .i64 r)],[],RW h id zs⟩:VSt)) (by kernel_rfl) ⟨(by first | omega | (simp only;omega)),(by first | omega | (simp only;omega)),hp2⟩ (Can.sub (by simp [go_sem]) (by simp [go_sem])) ?_ ?_
        · rintro ⟨j,zs⟩ ⟨m1,m2,m3⟩
          simp only at m1 m2 m3⊢
          have hzl:=m3.length_eq
          simp only [go_sem]
          refine qD ?_ ?_<;>intro hc<;>simp only [hc,go_sem]
          · have hj1:=odT hc
            simp (config:={maxSteps:=2000000}) (disch:=omega) only [go_sem,qP,qS,qT,Int.reduceEq]
            refine qG (jT _ _) ?_
            simp only [go_sem]
            refine qD ?_ ?_<;>intro hc<;>simp only [hc,go_sem]
            · exact jA zs m3 (Can.sub (by simp [go_sem]) (by simp [go_sem]))
            · simp (config:={maxSteps:=2000000}) (disch:=omega) only [go_sem,qP,qS,qT,Int.reduceEq]
              refine zD hid (by omega) (by omega) ?_;simp (config:={maxSteps:=2000000}) (disch:=omega) only [go_sem,qP,qS,qT,Int.reduceEq];refine zD hid (by omega) (by rw [List.length_set];omega) ?_;simp (maxSteps:=2000000) (disch:=omega) only [go_sem,qP,qS,qT,Int.reduceEq]
              exact jP (j-1,swI zs j (j-1)) ⟨(by first | omega | (simp only;omega)),(by first | omega | (simp only;omega)),(jN (by omega) (by omega) (by omega) (by omega)).trans m3⟩ (by first | omega | (simp only;omega)) (Can.sub (by simp [go_sem]) (by simp [go_sem]))
          · exact jA zs m3 (Can.sub (by simp [go_sem]) (by simp [go_sem]))
        · intro zs hz
          have hzl:=hz.length_eq
          simp (config:={maxSteps:=2000000}) (disch:=omega) only [go_sem,qP,qS,qT,Int.reduceEq]
          refine qD ?_ ?_<;>intro hc<;>simp only [hc,go_sem]
          · simp (config:={maxSteps:=2000000}) (disch:=omega) only [go_sem,qP,qS,qT,Int.reduceEq]
            have hib3:=odT hc
            refine Sem.loop (fun q:Int×List Int=>i'+1≤q.1∧q.1≤b∧q.2.Perm xs) (fun q=>(⟨[(0,.slice 1 id 0 n false),(1,.int .i64 a),(2,.int .i64 b),(7,.int .i64 i'),(8,.int .i64 r),(10,.int .i64 q.1)],[],RW h id q.2⟩:VSt)) (fun q=>(b-q.1).toNat) (i'+1,zs) (by kernel_rfl) ⟨(by first | omega | (simp only;omega)),(by first | omega | (simp only;omega)),hz⟩ (Can.sub (by simp [go_sem]) (by simp [go_sem])) ?_
            rintro ⟨j,us⟩ ⟨m1,m2,m3⟩
            simp only at m1 m2 m3⊢
            have hul:=m3.length_eq
            simp only [go_sem]
            refine qD ?_ ?_<;>intro hc<;>simp only [hc,go_sem]
            · have hj1:=odT hc
              simp (config:={maxSteps:=2000000}) (disch:=omega) only [go_sem,qP,qS,qT,Int.reduceEq]
              refine qG (jT _ _) ?_
              simp only [go_sem]
              refine qD ?_ ?_<;>intro hc<;>simp only [hc,go_sem]
              · simp (config:={maxSteps:=2000000}) (disch:=omega) only [go_sem,qP,qS,qT,Int.reduceEq]
                exact jP (r+1,i',us) ⟨(by first | omega | (simp only;omega)),(by first | omega | (simp only;omega)),(by first | omega | (simp only;omega)),(by first | omega | (simp only;omega)),m3⟩ (by first | omega | (simp only;omega)) (Can.sub (by simp [go_sem]) (by simp [go_sem]))
              · simp (config:={maxSteps:=2000000}) (disch:=omega) only [go_sem,qP,qS,qT,Int.reduceEq]
                refine zD hid (by omega) (by omega) ?_;simp (config:={maxSteps:=2000000}) (disch:=omega) only [go_sem,qP,qS,qT,Int.reduceEq];refine zD hid (by omega) (by rw [List.length_set];omega) ?_;simp (maxSteps:=2000000) (disch:=omega) only [go_sem,qP,qS,qT,Int.reduceEq]
                exact qY (j+1,swI us j (j-1)) ⟨(by first | omega | (simp only;omega)),(by first | omega | (simp only;omega)),(jN (by omega) (by omega) (by omega) (by omega)).trans m3⟩ (by first | omega | (simp only;omega)) (Can.sub (by simp [go_sem]) (by simp [go_sem]))
            · simp (config:={maxSteps:=2000000}) (disch:=omega) only [go_sem,qP,qS,qT,Int.reduceEq]
              exact jP (r+1,i',us) ⟨(by first | omega | (simp only;omega)),(by first | omega | (simp only;omega)),(by first | omega | (simp only;omega)),(by first | omega | (simp only;omega)),m3⟩ (by first | omega | (simp only;omega)) (Can.sub (by simp [go_sem]) (by simp [go_sem]))
          · simp (config:={maxSteps:=2000000}) (disch:=omega) only [go_sem,qP,qS,qT,Int.reduceEq]
            exact jP (r+1,i',zs) ⟨(by first | omega | (simp only;omega)),(by first | omega | (simp only;omega)),(by first | omega | (simp only;omega)),(by first | omega | (simp only;omega)),hz⟩ (by first | omega | (simp only;omega)) (Can.sub (by simp [go_sem]) (by simp [go_sem]))
      · simp (config:={maxSteps:=2000000}) (disch:=omega) only [go_sem,qP,qS,qT,Int.reduceEq]
        refine qD ?_ ?_<;>intro hc<;>simp only [hc,go_sem]
        · simp (config:={maxSteps:=2000000}) (disch:=omega) only [go_sem,qP,qS,qT,Int.reduceEq]
          have hib3:=odT hc
          refine Sem.loop (fun q:Int×List Int=>i'+1≤q.1∧q.1≤b∧q.2.Perm xs) (fun q=>(⟨[(0,.slice 1 id 0 n false),(1,.int .i64 a),(2,.int .i64 b),(7,.int .i64 i'),(8,.int .i64 r),(10,.int .i64 q.1)],[],RW h id q.2⟩:VSt)) (fun q=>(b-q.1).toNat) (i'+1,swI ys i' (i'-1)) (by kernel_rfl) ⟨(by first | omega | (simp only;omega)),(by first | omega | (simp only;omega)),hp2⟩ (Can.sub (by simp [go_sem]) (by simp [go_sem])) ?_
          rintro ⟨j,us⟩ ⟨m1,m2,m3⟩
          simp only at m1 m2 m3⊢
          have hul:=m3.length_eq
          simp only [go_sem]
          refine qD ?_ ?_<;>intro hc<;>simp only [hc,go_sem]
          · have hj1:=odT hc
            simp (config:={maxSteps:=2000000}) (disch:=omega) only [go_sem,qP,qS,qT,Int.reduceEq]
            refine qG (jT _ _) ?_
            simp only [go_sem]
            refine qD ?_ ?_<;>intro hc<;>simp only [hc,go_sem]
            · simp (config:={maxSteps:=2000000}) (disch:=omega) only [go_sem,qP,qS,qT,Int.reduceEq]
              exact jP (r+1,i',us) ⟨(by first | omega | (simp only;omega)),(by first | omega | (simp only;omega)),(by first | omega | (simp only;omega)),(by first | omega | (simp only;omega)),m3⟩ (by first | omega | (simp only;omega)) (Can.sub (by simp [go_sem]) (by simp [go_sem]))
            · simp (config:={maxSteps:=2000000}) (disch:=omega) only [go_sem,qP,qS,qT,Int.reduceEq]
              refine zD hid (by omega) (by omega) ?_;simp (config:={maxSteps:=2000000}) (disch:=omega) only [go_sem,qP,qS,qT,Int.reduceEq];refine zD hid (by omega) (by rw [List.length_set];omega) ?_;simp (maxSteps:=2000000) (disch:=omega) only [go_sem,qP,qS,qT,Int.reduceEq]
              exact qY (j+1,swI us j (j-1)) ⟨(by first | omega | (simp only;omega)),(by first | omega | (simp only;omega)),(jN (by omega) (by omega) (by omega) (by omega)).trans m3⟩ (by first | omega | (simp only;omega)) (Can.sub (by simp [go_sem]) (by simp [go_sem]))
          · simp (config:={maxSteps:=2000000}) (disch:=omega) only [go_sem,qP,qS,qT,Int.reduceEq]
            exact jP (r+1,i',us) ⟨(by first | omega | (simp only;omega)),(by first | omega | (simp only;omega)),(by first | omega | (simp only;omega)),(by first | omega | (simp only;omega)),m3⟩ (by first | omega | (simp only;omega)) (Can.sub (by simp [go_sem]) (by simp [go_sem]))
        · simp (config:={maxSteps:=2000000}) (disch:=omega) only [go_sem,qP,qS,qT,Int.reduceEq]
          exact jP (r+1,i',swI ys i' (i'-1)) ⟨(by first | omega | (simp only;omega)),(by first | omega | (simp only;omega)),(by first | omega | (simp only;omega)),(by first | omega | (simp only;omega)),hp2⟩ (by first | omega | (simp only;omega)) (Can.sub (by simp [go_sem]) (by simp [go_sem]))
    · exact jA ys h5 (Can.sub (by simp [go_sem]) (by simp [go_sem]))
  · intro ys hy
    simp only [go_sem]
    exact hK _ _ hy
end Go.Ab
namespace Go.Ab
open Go
set_option maxRecDepth 10000
set_option maxHeartbeats 2000000
def PS (id n:Nat) (s:qg) (a b lim:Int) (wb wp:Bool):Prop:=get s 0=some (.slice 1 id 0 n false)∧get s 1=some (.int .i64 a)∧get s 2=some (.int .i64 b)∧get s 3=some (.int .i64 lim)∧get s 8=some (.bool wb)∧get s 9=some (.bool wp)
def PQ (h:List qC) (id n:Nat) (xs:List Int) (a b:Int) (Q:qX→VSt→Prop):Prop:=∀(s:qg) (a' b' lim:Int) (wb wp:Bool) (ys:List Int) (ex:List qC),PS id n s a' b' lim wb wp→a≤a'→a'≤b'→b'≤b→b'-a'<b-a→ys.Perm xs→Q .nrm ⟨s,[],RW (h++ex) id ys⟩
def PR (h:List qC) (id n:Nat) (a b:Int):Prop:=∀(ex:List qC) (ys:List Int) (a' b' lim:Int) (K:AV→List qC→Prop),ys.length=n→0≤a'→a'≤b'→b'≤n→b'-a'<b-a→
  (∀(zs:List Int) (ex':List qC),zs.Perm ys→K (.tup []) (RW (h++(ex++ex')) id zs))→SCall Gm 1053 [.slice 1 id 0 n false,.int .i64 a',.int .i64 b',.int .i64 lim] (RW (h++ex) id ys) K
section
variable {bb id n:Nat} {h ex:List qC} {xs ys:List Int} {s:qg} {a b lim:Int} {wb wp:Bool} {Q:qX→VSt→Prop}
theorem PR.mono {a' b':Int} (hr:PR h id n a b) (hl:b'-a'≤b-a):PR h id n a' b':=fun ex ys a2 b2 lim K h1 h2 h3 h4 h5 h6=>hr ex ys a2 b2 lim K h1 h2 h3 h4 (by omega) h6
theorem pd18 {m:Int} (hp:PS id n s a b lim wb wp) (h10:get s 10=some (.int .i64 (b-a))) (h14:get s 14=some (.int .i64 m)) (hl:n≤4194304) (hab:0≤a∧a≤m∧m<b∧b≤n) (hy:ys.Perm xs) (hyl:ys.length=n)
    (hr:PR h id n a b) (hq:PQ h id n xs a b Q):R ⟨Gm,bb,[],[]⟩ [.code QL,.blk 1] ⟨s,[],RW (h++ex) id ys⟩ Q:=by
  obtain ⟨p0,p1,p2,p3,p8,p9⟩:=hp
  simp (disch:=omega) only [go_sem,qP,Int.reduceEq,p0,p1,p2,p3,p8,p9,h10,h14]
  have ht:(b-a).tdiv 8=(b-a)/8:=Int.tdiv_eq_ediv_of_nonneg (by omega)
  simp (disch:=omega) only [ht,go_sem,qP,Int.reduceEq,p0,p1,p2,p3,p8,p9,h10,h14]
  refine qD ?_ ?_<;>intro hc<;>simp only [hc,go_sem]
  · simp (disch:=omega) only [go_sem,qP,Int.reduceEq,p0,p1,p2,p3,p8,p9,h10,h14]
    refine zO (hr ex ys a m lim _ hyl (by omega) (by omega) (by omega) (by omega) fun zs ex' hz=> ?_)
    simp (disch:=omega) only [go_sem,qP,Int.reduceEq,p0,p1,p2,p3,p8,p9,h10,h14]
    exact hq _ (m+1) b lim (decide ((b-a)/8≤m-a)) wp zs _ (by simp [PS,go_sem,p0,p1,p2,p3,p8,p9]) (by omega) (by omega) (by omega) (by omega) (hz.trans hy)
  · simp (disch:=omega) only [go_sem,qP,Int.reduceEq,p0,p1,p2,p3,p8,p9,h10,h14]
    refine zO (hr ex ys (m+1) b lim _ hyl (by omega) (by omega) (by omega) (by omega) fun zs ex' hz=> ?_)
    simp (disch:=omega) only [go_sem,qP,Int.reduceEq,p0,p1,p2,p3,p8,p9,h10,h14]
    exact hq _ a m lim (decide ((b-a)/8≤b-m)) wp zs _ (by simp [PS,go_sem,p0,p1,p2,p3,p8,p9]) (by omega) (by omega) (by omega) (by omega) (hz.trans hy)
theorem pd19 {p:Int} (hid:id<h.length) (hp:PS id n s a b lim wb wp) (h10:get s 10=some (.int .i64 (b-a))) (h11:get s 11=some (.int .i64 p)) (hl:n≤4194304) (hab:0≤a∧a≤p∧p<b∧b≤n) (hy:ys.Perm xs) (hyl:ys.length=n)
    (hr:PR h id n a b) (hq:PQ h id n xs a b Q):R ⟨Gm,bb,[],[]⟩ [.code QM,.blk 1] ⟨s,[],RW (h++ex) id ys⟩ Q:=by
  obtain ⟨p0,p1,p2,p3,p8,p9⟩:=hp
  have hid':id<(h++ex).length:=by rw [List.length_append];omega
  have h18:∀(s':qg) (m:Int) (r:Bool) (zs:List Int),PS id n s' a b lim wb r→get s' 10=some (.int .i64 (b-a))→get s' 14=some (.int .i64 m)→a≤m→m<b→zs.Perm ys→R ⟨Gm,bb,[],[]⟩ [.code QL,.blk 1] ⟨s',[],RW (h++ex) id zs⟩ Q:=
    fun s' m r zs k1 k2 k3 k4 k5 k6=>pd18 k1 k2 k3 hl (by omega) (k6.trans hy) (by rw [k6.length_eq,hyl]) hr hq
  rw [qVU]
  revert h18
  generalize QL=k18
  intro h18
  have fin:∀s',get s' 0=some (.slice 1 id 0 n false)→get s' 1=some (.int .i64 a)→get s' 2=some (.int .i64 b)→get s' 3=some (.int .i64 lim)→get s' 8=some (.bool wb)→get s' 10=some (.int .i64 (b-a))→get s' 11=some (.int .i64 p)→
      R ⟨Gm,bb,[],[]⟩ (.ops ZE::.code (.seq (.reg true [.mk 0 (some 102) none (.mov (.t 15)) [],.mk 1 (some 9) none (.mov (.t 102)) []]) k18)::[.blk 1]) ⟨s',[],RW (h++ex) id ys⟩ Q:=by
    intro s' q0 q1 q2 q3 q8 q10 q11
    rw [qVW]
    simp (disch:=omega) only [go_sem,q0,q1,q2,q11]
    refine zO (qfX (xs:=ys) hid' hyl hl (by omega) fun zs m r hz m1 m2=> ?_)
    simp (disch:=omega) only [go_sem]
    exact h18 _ m r zs (by simp [PS,go_sem,q0,q1,q2,q3,q8]) (by simp [go_sem,q10]) (by simp [go_sem]) m1 m2 hz
  revert fin
  generalize h11r:ZE=r11
  intro fin
  simp (disch:=omega) only [go_sem,qP,Int.reduceEq,p0,p1,p2,p3,p8,p9,h10,h11]
  refine qZ ?_ ?_<;>intro hc<;>simp only [hc,go_sem]
  · have ha:=odT hc
    simp (disch:=omega) only [go_sem,qP,qS,qT,p0,p1,p2,p3,p8,p9,h10,h11]
    refine qG (jT _ _) ?_
    simp only [go_sem]
    refine qD ?_ ?_<;>intro hc<;>simp only [hc,go_sem]
    · simp (disch:=omega) only [go_sem,p0,p1,p2,p3,p8,p9,h10,h11]
      refine zO (qfW (xs:=ys) hid' hyl hl (by omega) fun zs m hz m1 m2=> ?_)
      simp only [go_sem]
      exact hq _ m b lim wb wp zs _ (by simp [PS,go_sem,p0,p1,p2,p3,p8,p9]) (by omega) (by omega) (by omega) (by omega) (hz.trans hy)
    · refine fin _ ?_ ?_ ?_ ?_ ?_ ?_ ?_<;>simp [go_sem,p0,p1,p2,p3,p8,h10,h11]
  · refine fin _ ?_ ?_ ?_ ?_ ?_ ?_ ?_<;>simp [go_sem,p0,p1,p2,p3,p8,h10,h11]
theorem pd20 {p t:Int} (hid:id<h.length) (hp:PS id n s a b lim wb wp) (h10:get s 10=some (.int .i64 (b-a))) (h11:get s 11=some (.int .i64 p)) (h12:get s 12=some (.int .i64 t)) (hl:n≤4194304) (hab:0≤a∧a≤p∧p<b∧b≤n) (hy:ys.Perm xs) (hyl:ys.length=n)
    (hr:PR h id n a b) (hq:PQ h id n xs a b Q) (hret:∀(s':qg) (zs:List Int) (ex':List qC),zs.Perm xs→Q .ret ⟨s',[],RW (h++ex') id zs⟩):R ⟨Gm,bb,[],[]⟩ [.code Jy,.blk 1] ⟨s,[],RW (h++ex) id ys⟩ Q:=by
  obtain ⟨p0,p1,p2,p3,p8,p9⟩:=hp
  have hid':id<(h++ex).length:=by rw [List.length_append];omega
  have h19:∀(s':qg) (q:Int) (zs:List Int),PS id n s' a b lim wb wp→get s' 10=some (.int .i64 (b-a))→get s' 11=some (.int .i64 q)→a≤q→q<b→zs.Perm xs→R ⟨Gm,bb,[],[]⟩ [.code QM,.blk 1] ⟨s',[],RW (h++ex) id zs⟩ Q:=
    fun s' q zs k1 k2 k3 k4 k5 k6=>pd19 hid k1 k2 k3 hl (by omega) k6 (by rw [k6.length_eq,←hy.length_eq,hyl]) hr hq
  rw [qVV]
  revert h19
  generalize QM=k19
  intro h19
  have fin:∀s' q t' zs,zs.Perm xs→get s' 0=some (.slice 1 id 0 n false)→get s' 1=some (.int .i64 a)→get s' 2=some (.int .i64 b)→get s' 3=some (.int .i64 lim)→get s' 8=some (.bool wb)→get s' 9=some (.bool wp)→get s' 10=some (.int .i64 (b-a))→get s' 11=some (.int .i64 q)→get s' 12=some (.int .i64 t')→a≤q→q<b→
      R ⟨Gm,bb,[],[]⟩ (.ops ZG::.code (.cond (.t 68) (.seq (.reg true WU) (.cond (.t 72) (.ret) (.skip))) (.skip))::.code k19::[.blk 1]) ⟨s',[],RW (h++ex) id zs⟩ Q:=by
    intro s' q t' zs hz q0 q1 q2 q3 q8 q9 q10 q11 q12 q13 q14
    have hzl:zs.length=n:=by rw [hz.length_eq,←hy.length_eq,hyl]
    have go:∀s2:qg,(∀k,k≤12→get s2 k=get s' k)→R ⟨Gm,bb,[],[]⟩ [.code k19,.blk 1] ⟨s2,[],RW (h++ex) id zs⟩ Q:=fun s2 hs=>h19 _ q zs (by simp [PS,hs,q0,q1,q2,q3,q8,q9]) (by rw [hs _ (by omega),q10]) (by rw [hs _ (by omega),q11]) q13 q14 hz
    have gk:∀(s2:qg) (j:Nat) (v:AV),12<j→(∀k,k≤12→get s2 k=get s' k)→∀k,k≤12→get ((j,v)::s2) k=get s' k:=fun s2 j v hj hs k hk=>by
      simp only [get];rw [if_neg (by omega)];exact hs k hk
    rw [qVY]
    simp (disch:=omega) only [go_sem,q0,q1,q2,q8,q9,q11,q12]
    have g0:∀k,k≤12→get s' k=get s' k:=fun _ _=>rfl
    cases wb
    · simp (disch:=omega) only [go_sem,q0,q1,q2,q8,q9,q11,q12]
      refine go _ ?_
      repeat' (first | exact g0 | refine gk _ _ _ (by omega) ?_)
    · cases wp
      · simp (disch:=omega) only [go_sem,q0,q1,q2,q8,q9,q11,q12]
        refine go _ ?_
        repeat' (first | exact g0 | refine gk _ _ _ (by omega) ?_)
      · simp (disch:=omega) only [go_sem,q0,q1,q2,q8,q9,q11,q12]
        refine qD ?_ ?_<;>intro hc<;>simp only [hc,go_sem]
        · simp (disch:=omega) only [go_sem,q0,q1,q2,q8,q9,q11,q12]
          refine zO (qfV (xs:=zs) hid' hzl hl (by omega) fun us r hu=> ?_)
          simp only [go_sem]
          refine qD ?_ ?_<;>intro hc<;>simp only [hc,go_sem]
          · exact hret _ _ _ (hu.trans hz)
          · refine h19 _ q us ?_ ?_ ?_ q13 q14 (hu.trans hz)
            · simp [PS,go_sem,q0,q1,q2,q3,q8,q9]
            · simp [go_sem,q10]
            · simp [go_sem,q11]
        · refine go _ ?_
          repeat' (first | exact g0 | refine gk _ _ _ (by omega) ?_)
  revert fin
  generalize ZG=r7
  intro fin
  simp (disch:=omega) only [go_sem,qP,Int.reduceEq,p0,p1,p2,p3,p8,p9,h10,h11,h12]
  refine qD ?_ ?_<;>intro hc<;>simp only [hc,go_sem]
  · simp (disch:=omega) only [go_sem,p0,p1,p2,p3,p8,p9,h10,h11,h12]
    refine zO (qfU (xs:=ys) hid' hyl hl (by omega) fun zs hz=> ?_)
    simp (disch:=omega) only [go_sem,qP,p0,p1,p2,p3,p8,p9,h10,h11,h12]
    refine fin _ (b-1-(p-a)) 1 zs (hz.trans hy) ?_ ?_ ?_ ?_ ?_ ?_ ?_ ?_ ?_ (by omega) (by omega)<;>simp [go_sem,p0,p1,p2,p3,p8,p9,h10,h11,h12]
  · refine fin _ p t ys hy ?_ ?_ ?_ ?_ ?_ ?_ ?_ ?_ ?_ (by omega) (by omega)<;>simp [go_sem,p0,p1,p2,p3,p8,p9,h10,h11,h12]
end
end Go.Ab
namespace Go.Ab
open Go
set_option maxRecDepth 10000
set_option maxHeartbeats 2000000
theorem qfP (N:Nat):∀{h:List qC} {id n:Nat} {xs:List Int} {a b lim:Int} {K:AV→List qC→Prop},id<h.length→xs.length=n→n≤4194304→0≤a→a≤b→b≤n→(b-a).toNat=N→
    (∀(ys:List Int) (ex:List qC),ys.Perm xs→K (.tup []) (RW (h++ex) id ys))→SCall Gm 1053 [.slice 1 id 0 n false,.int .i64 a,.int .i64 b,.int .i64 lim] (RW h id xs) K:=by
  induction N using Nat.strongRecOn with
  | _ N ih=>
  intro h id n xs a b lim K hid hn hl ha hab hb hN hK
  have hr:PR h id n a b:=fun ex ys a' b' lim' K' h1 h2 h3 h4 h5 h6=>
    ih (b'-a').toNat (by omega) (by rw [List.length_append];omega) h1 hl h2 h3 h4 rfl fun zs ex' hz=>by rw [List.append_assoc];exact h6 zs ex' hz
  refine SCall.run [] [] qZL (by kernel_rfl) rfl ?_
  simp only [WT,qL,go_sem]
  refine Sem.loop (fun q:Int×Int×Int×Bool×Bool×List Int×List qC=>a≤q.1∧q.1≤q.2.1∧q.2.1≤b∧q.2.2.2.2.2.1.Perm xs)
    (fun q=>(⟨[(0,.slice 1 id 0 n false),(1,.int .i64 q.1),(2,.int .i64 q.2.1),(3,.int .i64 q.2.2.1),(8,.bool q.2.2.2.1),(9,.bool q.2.2.2.2.1)],[],RW (h++q.2.2.2.2.2.2) id q.2.2.2.2.2.1⟩:VSt)) (fun q=>(q.2.1-q.1).toNat) (a,b,lim,true,true,xs,[]) (by kernel_rfl) ⟨(by first | omega | (simp only;omega)),(by first | omega | (simp only;omega)),(by first | omega | (simp only;omega)),.refl _⟩ (by simp only [List.append_nil];exact Can.sub (by simp [go_sem]) (by simp [go_sem])) ?_
  rintro ⟨a',b',lim',wb,wp,ys,ex⟩ ⟨h1,h2,h3,h4⟩
  simp only at h1 h2 h3 h4⊢
  have hyl:ys.length=n:=by rw [h4.length_eq,hn]
  have hid':id<(h++ex).length:=by rw [List.length_append];omega
  have hr':PR h id n a' b':=hr.mono (by omega)
  generalize hQ:Jg _ _ _ _ _ _ _=Q
  have hq:PQ h id n xs a' b' Q:=by
    intro s a2 b2 lim2 wb2 wp2 zs ex2 hp g1 g2 g3 g4 g5
    subst hQ
    obtain ⟨p0,p1,p2,p3,p8,p9⟩:=hp
    exact qY (a2,b2,lim2,wb2,wp2,zs,ex2) ⟨by first | omega | (simp only;omega),by first | omega | (simp only;omega),by first | omega | (simp only;omega),g5⟩ (by first | omega | (simp only;omega)) (Can.sub (by simp [go_sem,p0,p1,p2,p3,p8,p9]) (by simp [go_sem]))
  have hret:∀(s':qg) (zs:List Int) (ex':List qC),zs.Perm xs→Q .ret ⟨s',[],RW (h++ex') id zs⟩:=by
    intro s' zs ex' hz
    subst hQ
    simp only [go_sem]
    exact hK _ _ hz
  clear hQ
  have h20:∀(s':qg) (p t l2:Int) (zs:List Int) (ex':List qC),PS id n s' a' b' l2 wb wp→get s' 10=some (.int .i64 (b'-a'))→get s' 11=some (.int .i64 p)→get s' 12=some (.int .i64 t)→a'≤p→p<b'→zs.Perm xs→
      R ⟨Gm,(RW h id xs).length,[],[]⟩ [.code Jy,.blk 1] ⟨s',[],RW (h++ex') id zs⟩ Q:=
    fun s' p t l2 zs ex' k1 k2 k3 k4 k5 k6 k7=>pd20 hid k1 k2 k3 k4 hl (by omega) k7 (by rw [k7.length_eq,hn]) hr' hq hret
  simp (config:={maxSteps:=2000000}) (disch:=omega) only [go_sem,qP,qS,qT,Int.reduceEq]
  refine qD ?_ ?_<;>intro hc<;>simp only [hc,go_sem]
  · refine zO (qfQ (xs:=ys) hid' hyl hl (by omega) fun zs hz=> ?_)
    simp only [go_sem]
    exact hret _ _ _ (hz.trans h4)
  have h12:=odF hc
  refine qD ?_ ?_<;>intro hc<;>simp only [hc,go_sem]
  · refine zO (qfR (xs:=ys) hid' hyl hl (by omega) fun zs hz=> ?_)
    simp only [go_sem]
    exact hret _ _ _ (hz.trans h4)
  have call:∀(s':qg) (l2:Int) (zs:List Int) (ex':List qC),PS id n s' a' b' l2 wb wp→get s' 10=some (.int .i64 (b'-a'))→zs.Perm xs→
      R ⟨Gm,(RW h id xs).length,[],[]⟩ [.ops ZF,.code Jy,.blk 1] ⟨s',[],RW (h++ex') id zs⟩ Q:=by
    intro s' l2 zs ex' ⟨p0,p1,p2,p3,p8,p9⟩ k2 k3
    have hid2:id<(h++ex').length:=by rw [List.length_append];omega
    rw [qVX]
    revert h20
    generalize Jy=k20
    intro h20
    simp (disch:=omega) only [go_sem,p0,p1,p2,p3,p8,p9]
    refine zO (qfT (xs:=zs) hid2 (by rw [k3.length_eq,hn]) hl (by omega) fun p t y hp=> ?_)
    simp only [go_sem]
    rw [List.append_assoc]
    refine h20 _ p t l2 zs _ ?_ ?_ ?_ ?_ hp.1 hp.2 k3<;>simp [PS,go_sem,p0,p1,p2,p3,p8,p9,k2]
  revert call
  generalize ZF=r4
  intro call
  cases wb
  · simp only [go_sem]
    refine zO (qfS (xs:=ys) hid' hyl hl (by omega) fun zs y hz=> ?_)
    simp only [go_sem]
    rw [List.append_assoc]
    refine call _ (IntKind.i64.wrap (lim'-1)) zs _ ?_ ?_ (hz.trans h4)<;>simp [PS,go_sem]
  · simp only [go_sem]
    refine call _ lim' ys _ ?_ ?_ h4<;>simp [PS,go_sem]
theorem s678 {h:List qC} {id n:Nat} {xs:List Int} {K:AV→List qC→Prop} (ho:h[id]?=some (.row 1 (xs.map qE) true)) (hn:xs.length=n) (hl:n≤4194304)
    (hK:∀(ys:List Int) (ex:List qC),ys.Perm xs→K (.tup []) (h.set id (.row 1 (ys.map qE) true)++ex)):SCall Gm 678 [.slice 1 id 0 n false] h K:=by
  have hid:id<h.length:=(List.getElem?_eq_some_iff.1 ho).1
  refine SCall.run [] [] g678 (by kernel_rfl) rfl ?_
  simp only [Xu,qL,go_sem]
  simp (disch:=omega) only [ZB,go_sem]
  refine qG (qQ8 (by omega)) ?_
  simp only [go_sem]
  rw [←qV2 ho]
  refine zO (qfP _ hid hn hl (by omega) (by omega) (by omega) rfl fun ys ex hy=> ?_)
  simp only [go_sem]
  rw [←qN0 hid]
  exact hK ys ex hy
end Go.Ab
namespace Go.Ab
open Go
set_option maxRecDepth 10000
set_option maxHeartbeats 2000000
attribute [local simp] zJ qf j3
def qA.nm:qA→List Int:=qA.fold fun x rs=>(if x.Kind=11 then [x.Value] else [])++(x.Data++rs.flatten)
theorem qA.nm_eq (x:qA):x.nm=(if x.Kind=11 then [x.Value] else [])++(x.Data++(x.Kids.map qA.nm).flatten):=by
  unfold qA.nm;rw [qA.fold_eq]
theorem qA.nm_len:∀x:qA,x.nm.length≤x.sz+1:=qA.ind fun x ih=>by
  rw [x.nm_eq,x.sz_eq]
  have h:∀ks:List qA,(∀y∈ks,y.nm.length≤y.sz+1)→(ks.map qA.nm).flatten.length≤ks.length+qF qA.sz ks:=by
    intro ks
    induction ks with
    | nil=>intro _;simp
    | cons a ks ih=>intro h;simp only [List.map_cons,List.flatten_cons,List.length_append,List.length_cons,qF];have:=h a (by simp);have:=ih (fun y hy=>h y (by simp [hy]));omega
  have:=h _ ih
  simp only [List.length_append]
  split<;>simp only [List.length_cons,List.length_nil]<;>omega
theorem qT4:∀(ds out:List Int) (k:Int),k∈ds.foldl zC out↔k∈out∨k∈ds
  |[],out,k=>by simp
  | d::ds,out,k=>by
    rw [List.foldl_cons,qT4 ds,qPX,List.mem_cons]
    constructor
    · rintro ((h | h) | h)<;>simp_all
    · rintro (h | h | h)<;>simp_all
theorem qA.names_mem:∀(x:qA) (out:List Int) (k:Int),k∈x.names out↔k∈out∨k∈x.nm:=qA.ind fun x ih out k=>by
  have h:∀ks:List qA,(∀y∈ks,∀(o:List Int) (k:Int),k∈y.names o↔k∈o∨k∈y.nm)→∀o:List Int,k∈ks.foldl (fun o y=>y.names o) o↔k∈o∨k∈(ks.map qA.nm).flatten:=by
    intro ks
    induction ks with
    | nil=>intro _ o;simp
    | cons a ks ih=>
      intro h o
      rw [List.foldl_cons,ih (fun y hy=>h y (by simp [hy])),h a (by simp),List.map_cons,List.flatten_cons,List.mem_append]
      constructor
      · rintro ((h | h) | h)<;>simp_all
      · rintro (h | h | h)<;>simp_all
  rw [x.names_eq,x.nm_eq,h _ ih,qT4,List.mem_append,List.mem_append]
  by_cases h11:x.Kind=11
  · rw [if_pos h11,if_pos h11,qPX,List.mem_singleton]
    constructor
    · rintro (((h | h) | h) | h)<;>simp_all
    · rintro (h | h | h | h)<;>simp_all
  · rw [if_neg h11,if_neg h11]
    constructor
    · rintro ((h | h) | h)<;>simp_all
    · rintro (h | h | h | h)<;>simp_all
theorem qd1 {x:qA} {i:Nat} (h:i<x.Kids.length):((x.Kids.take (i+1)).map qA.nm).flatten=((x.Kids.take i).map qA.nm).flatten++x.Kids[i].nm:=by
  rw [List.take_succ_eq_append_getElem h,List.map_append,List.flatten_append];simp
theorem qd0 (x:qA) (i:Nat):(x.Data++((x.Kids.take i).map qA.nm).flatten).length≤x.sz+1:=by
  have h:∀(ks:List qA) (i:Nat),((ks.take i).map qA.nm).flatten.length≤ks.length+qF qA.sz ks:=by
    intro ks
    induction ks with
    | nil=>intro i;simp
    | cons a ks ih=>
      intro i
      cases i with
      | zero=>simp
      | succ i=>simp only [List.take_succ_cons,List.map_cons,List.flatten_cons,List.length_append,List.length_cons,qF];have:=a.nm_len;have:=ih i;omega
  have:=h x.Kids i
  rw [List.length_append,x.sz_eq]
  omega
theorem qV5 (x:qA):∀(xs:List Int) (_:x.sz≤1048576) (_:xs.length+x.sz≤2097152),Acc Gm 1041 [x.enc] 1 (xs.map qE) ((xs++x.nm).map qE):=by
  induction x using qA.ind with
  | _ x ih=>
  intro xs hz hx h id K ho hK
  have hL:=x.len_sz
  have hid:id<h.length:=(List.getElem?_eq_some_iff.1 ho).1
  refine SCall.run [] [] qZH (by kernel_rfl) rfl ?_
  simp only [List.cons_append,List.nil_append,WP,qL,go_sem]
  refine qa qA.ln ?_
  simp only [go_sem]
  obtain ⟨pre,hpre⟩:∃p:List Int,p=if x.Kind=11 then [x.Value] else []:=⟨_,rfl⟩
  have hpl:pre.length≤1:=by rw [hpre];split<;>simp
  rw [x.nm_eq,←hpre] at hK
  have rest:∀(h1:List qC) (id1:Nat),zE h id 1 ((xs++pre).map qE) h1 id1→zE h id 1 ((xs++pre++x.Data).map qE) (h1.set id1 .dead++[.row 1 ((xs++pre).map qE++x.Data.map qE) true]) h1.length:=by
    intro h1 id1 hG
    have:=hG.trans (zE.app (zs:=(xs++pre).map qE++x.Data.map qE) hG.at')
    rw [List.map_append (l₁:=xs++pre)];exact this
  have body:∀(i:Nat) (hlt:i<x.Kids.length) (h':List qC) (id':Nat),zE h id 1 ((xs++pre++x.Data++((x.Kids.take i).map qA.nm).flatten).map qE) h' id'→Acc Gm 1041 [x.Kids[i].enc] 1 ((xs++pre++x.Data++((x.Kids.take i).map qA.nm).flatten).map qE) ((xs++pre++x.Data++((x.Kids.take (i+1)).map qA.nm).flatten).map qE):=by
    intro i hlt h' id' _
    have hm:=List.getElem_mem hlt
    have hk:=qA.kid_sz hm
    have hl:=qd0 x i
    rw [qd1 hlt,←List.append_assoc]
    refine ih _ hm _ (by omega) ?_
    have h2:∀(ks:List qA) (i:Nat) (h:i<ks.length),((ks.take i).map qA.nm).flatten.length+ks[i].sz+1≤ks.length+qF qA.sz ks:=by
      intro ks
      induction ks with
      | nil=>intro i h;simp at h
      | cons a ks ih=>
        intro i h
        cases i with
        | zero=>simp [qF];omega
        | succ i=>
          simp only [List.take_succ_cons,List.map_cons,List.flatten_cons,List.length_append,List.length_cons,qF,List.getElem_cons_succ]
          have:=a.nm_len;have:=ih i (by simpa using h);omega
    have:=h2 x.Kids i hlt
    have h3:=x.sz_eq
    simp only [List.length_append] at hl⊢
    omega
  refine qD ?_ ?_<;>intro hc<;>simp only [hc,go_sem]
  · have h11:=odT hc
    rw [if_pos h11] at hpre
    refine jO (el:=xs.map qE) Je (by rw [List.getElem?_append_left hid];exact ho) (by simp) (by omega) ?_
    have hG:zE h id 1 ((xs++pre).map qE) ((h++[qC.row 1 [AV.int .i64 x.Value] true]).set id .dead++[.row 1 (xs.map qE++[AV.int .i64 x.Value]) true]) (h++[qC.row 1 [AV.int .i64 x.Value] true]).length:=by
      have:=zE.ofApp (X:=[.row 1 [.int .i64 x.Value] true]) (zE.app (zs:=xs.map qE++[AV.int .i64 x.Value]) (by rw [List.getElem?_append_left hid];exact ho)) hid
      rw [hpre];simpa [qE] using this
    generalize hh:((h++[qC.row 1 [AV.int .i64 x.Value] true]).set id .dead++[qC.row 1 (xs.map qE++[AV.int .i64 x.Value]) true])=h1 at hG⊢
    generalize hi:(h++[qC.row 1 [AV.int .i64 x.Value] true]).length=id1 at hG⊢
    simp only [go_sem]
    refine qN7 (el:=(xs++pre).map qE) Els.lst hG.at' (by simp [hpre]) (by simp;omega) ?_
    replace hG:=rest _ _ hG
    generalize hh2:(h1.set id1 .dead++[qC.row 1 ((xs++pre).map qE++x.Data.map qE) true])=h2 at hG⊢
    simp only [go_sem]
    refine Sem.loop (fun a:Nat×List qC×Nat=>a.1≤x.Kids.length∧zE h id 1 ((xs++pre++x.Data++((x.Kids.take a.1).map qA.nm).flatten).map qE) a.2.1 a.2.2)
      (fun a=>(⟨[(1,.slice 1 a.2.2 0 (xs++pre++x.Data++((x.Kids.take a.1).map qA.nm).flatten).length false),(20,.lst 4 (x.Kids.map qA.enc) false),(21,.int .i64 (x.Kids.length:Nat)),(22,.int .i64 (a.1:Nat))],[(2,x.enc)],a.2.1⟩:VSt)) (fun a=>x.Kids.length-a.1) (0,h2,h1.length) (by kernel_rfl) ⟨Nat.zero_le _,by simpa using hG⟩
      (Can.sub (by simp [go_sem,hpre];omega) (by simp [go_sem])) ?_
    rintro ⟨i,h',id'⟩ ⟨hi',hG'⟩
    simp only at hi' hG'
    simp only [go_sem]
    refine qD ?_ ?_<;>intro hc<;>simp only [hc,go_sem]
    · have hlt:i<x.Kids.length:=by have:=odT hc;omega
      simp only [List.getElem?_map,gEg hlt,Option.map_some,go_sem]
      refine qO (k:=4) (by rfl) (by simp [go_sem]) (qA.isAgg _) (by decide) ?_;simp only [go_sem]
      refine ZW (body i hlt h' id' hG') hG'.at' (List.length_map _) rfl ?_
      intro h3 id3 hG3
      simp only [go_sem]
      simp only [qe (show i<4611686018427387904 by omega)]
      exact qY (i+1,h3,id3) ⟨by omega,hG'.trans hG3⟩ (by simp only;omega) (Can.sub (by simp [go_sem,-List.length_flatten,-List.length_append,-List.map_append]) (by simp [go_sem]))
    · have e:i=x.Kids.length:=by have:=odF hc;omega
      subst e
      rw [List.take_length] at hG'⊢
      have e2:xs++pre++x.Data++(x.Kids.map qA.nm).flatten=xs++(pre++(x.Data++(x.Kids.map qA.nm).flatten)):=by simp
      rw [e2] at hG'⊢
      have:=hK _ _ hG'
      simpa only [List.length_map] using this
  · have h11:=odF hc
    rw [if_neg h11] at hpre
    subst hpre
    refine qN7 (el:=(xs++[]).map qE) Els.lst (by rw [List.append_nil];exact ho) (by simp) (by simp;omega) ?_
    have hG:=rest h id (by rw [List.append_nil];exact zE.refl ho)
    generalize hh2:(h.set id .dead++[qC.row 1 ((xs++[]).map qE++x.Data.map qE) true])=h2 at hG⊢
    simp only [go_sem]
    refine Sem.loop (fun a:Nat×List qC×Nat=>a.1≤x.Kids.length∧zE h id 1 ((xs++[]++x.Data++((x.Kids.take a.1).map qA.nm).flatten).map qE) a.2.1 a.2.2)
      (fun a=>(⟨[(1,.slice 1 a.2.2 0 (xs++[]++x.Data++((x.Kids.take a.1).map qA.nm).flatten).length false),(20,.lst 4 (x.Kids.map qA.enc) false),(21,.int .i64 (x.Kids.length:Nat)),(22,.int .i64 (a.1:Nat))],[(2,x.enc)],a.2.1⟩:VSt)) (fun a=>x.Kids.length-a.1) (0,h2,h.length) (by kernel_rfl) ⟨Nat.zero_le _,by simpa using hG⟩
      (Can.sub (by simp [go_sem]) (by simp [go_sem])) ?_
    rintro ⟨i,h',id'⟩ ⟨hi',hG'⟩
    simp only at hi' hG'
    simp only [go_sem]
    refine qD ?_ ?_<;>intro hc<;>simp only [hc,go_sem]
    · have hlt:i<x.Kids.length:=by have:=odT hc;omega
      simp only [List.getElem?_map,gEg hlt,Option.map_some,go_sem]
      refine qO (k:=4) (by rfl) (by simp [go_sem]) (qA.isAgg _) (by decide) ?_;simp only [go_sem]
      refine ZW (body i hlt h' id' hG') hG'.at' (List.length_map _) rfl ?_
      intro h3 id3 hG3
      simp only [go_sem]
      simp only [qe (show i<4611686018427387904 by omega)]
      exact qY (i+1,h3,id3) ⟨by omega,hG'.trans hG3⟩ (by simp only;omega) (Can.sub (by simp [go_sem,-List.length_flatten,-List.length_append,-List.map_append]) (by simp [go_sem]))
    · have e:i=x.Kids.length:=by have:=odF hc;omega
      subst e
      rw [List.take_length] at hG'⊢
      have e2:xs++[]++x.Data++(x.Kids.map qA.nm).flatten=xs++([]++(x.Data++(x.Kids.map qA.nm).flatten)):=by simp
      rw [e2] at hG'⊢
      have:=hK _ _ hG'
      simpa only [List.length_map] using this
end Go.Ab
namespace Go.Ab
open Go
set_option maxRecDepth 10000
set_option maxHeartbeats 2000000
attribute [local simp] zJ qf j3
theorem qOM:∀(xs:List Int) (s:List Int×Option Int),(∀y,s.2=some y→y∈s.1)→(∀k,k∈(xs.foldl zX s).1↔k∈s.1∨k∈xs)∧(xs.foldl zX s).1.length≤s.1.length+xs.length
  |[],s,_=>by simp
  | x::xs,s,h=>by
    rw [List.foldl_cons]
    have hx:x∈(zX s x).1:=by
      unfold zX
      by_cases e:s.2=some x
      · simp only [if_pos e];exact h x e
      · simp only [if_neg e];simp
    have ih:=qOM xs (zX s x) (fun y hy=>by
      have:y=x:=by simpa [zX] using hy.symm
      subst this;exact hx)
    have hm:∀k,k∈(zX s x).1↔k∈s.1∨k=x:=by
      intro k
      unfold zX
      by_cases e:s.2=some x
      · simp only [if_pos e]
        constructor
        · exact .inl
        · rintro (q | rfl)
          · exact q
          · exact h _ e
      · simp only [if_neg e];simp
    have hl:(zX s x).1.length≤s.1.length+1:=by
      unfold zX
      by_cases e:s.2=some x
      · simp only [if_pos e];omega
      · simp only [if_neg e];simp
    refine ⟨fun k=> ?_,by rw [List.length_cons];omega⟩
    rw [ih.1,hm,List.mem_cons,or_assoc]
theorem qRP (xs:List Int) (k:Int):k∈zU xs↔k∈xs:=by
  have:=(qOM xs ([],none) (fun y hy=>by cases hy)).1 k
  simpa [zU] using this
theorem qRO (xs:List Int):(zU xs).length≤xs.length:=by
  have:=(qOM xs ([],none) (fun y hy=>by cases hy)).2
  simpa [zU] using this
def SetV (P:Int→Prop) (n:Nat) (v:AV):Prop:=∃ys:List Int,v=.lst 1 (ys.map qE) false∧(∀k,k∈ys↔P k)∧ys.length≤n
theorem SetV.tree {P:Int→Prop} {n:Nat}:∀v,SetV P n v→v.tree=true:=by
  rintro v ⟨ys,rfl,_⟩;simp [AV.tree]
theorem r664 {b:qI} {n:Nat} (hbz:b.sz≤1048576) (hn:n<b.Defs.length):PureR Gm 664 [b.enc,.int .i64 (n:Int)] (SetV (fun k=>k∈b.Defs[n].nm) 1048577):=by
  refine PureR.intro [] [] g664 (by kernel_rfl) rfl (by simp [AV.trees,AV.tree,go_sem]) SetV.tree ?_
  simp only [Xs,qL,go_sem]
  have hz':b.Defs.length+qF qA.sz b.Defs≤1048576:=hbz
  have hs:=zV (f:=qA.sz) (List.getElem_mem hn)
  have hl:=qA.nm_len b.Defs[n]
  refine qa rfl ?_;simp only [go_sem]
  simp only [List.getElem?_map,gEg hn,Option.map_some,go_sem]
  refine JW (as:=[b.Defs[n].enc]) (qV5 b.Defs[n] [] (by omega) (by simp;omega)) rfl ?_
  intro h' id' hG
  simp only [List.nil_append] at hG
  simp only [go_sem]
  refine zO (s678 hG.at' rfl (by simp;omega) fun ys ex hy=> ?_)
  simp only [go_sem]
  have hid:id'<h'.length:=hG.lt
  have ho:(h'.set id' (qC.row 1 (ys.map qE) true)++ex)[id']?=some (.row 1 (ys.map qE) true):=by
    rw [List.getElem?_append_left (by simpa using hid)];simp [hid]
  rw [show (([]:List Int)++b.Defs[n].nm).length=ys.length by rw [hy.length_eq];rfl]
  refine zO (qP6 ho (by rw [hy.length_eq];omega) ?_)
  simp only [go_sem]
  have hid2:id'<(h'.set id' (qC.row 1 (ys.map qE) true)++ex).length:=by simp;omega
  refine qR5 (v:=.lst 1 ((zU ys).map qE) false) ⟨zU ys,rfl,fun k=>by rw [qRP,hy.mem_iff],by have:=qRO ys;rw [hy.length_eq] at this;omega⟩ ?_
  exact Cv.row (by rw [List.getElem?_set_self hid2]) (by simp) (qf _) (by decide)
theorem qVO {b:qI} {a k:Int}:Ed (qr b) a k↔∃x,b.Defs[a.toNat]?=some x∧k∈x.nm:=by
  unfold Ed qr
  rw [List.getD_eq_getElem?_getD,List.getElem?_map]
  cases h:b.Defs[a.toNat]? with
  | none=>simp
  | some x=>simp [qA.names_mem]
structure ja (U:List (List Int)) (d:Int) (i:Nat) (seen:List Int):Prop where
  nd:seen.Nodup
  rng:∀s∈seen,0≤s∧s<U.length
  rch:∀s∈seen,s=d∨Relation.TransGen (Ed U) d s
  beg:d∈seen
  cls:∀j,j<i→∀s,seen[j]?=some s→∀k,Ed U s k→k∈seen
theorem ja.len {U:List (List Int)} {d:Int} {i:Nat} {seen:List Int} (h:ja U d i seen):seen.length≤U.length:=VV _ _ h.nd h.rng
theorem ja.start {U:List (List Int)} {d:Int} (hd:0≤d∧d<U.length):ja U d 0 [d]:=
  ⟨by simp,fun s hs=>by rw [List.mem_singleton] at hs;subst hs;exact hd,fun s hs=>.inl (by simpa using hs),by simp,fun j hj=>by omega⟩
theorem ja.done {U:List (List Int)} {d:Int} {seen:List Int} (h:ja U d seen.length seen) (k:Int):k∈seen↔k=d∨Relation.TransGen (Ed U) d k:=by
  constructor
  · exact h.rch k
  · have cl:∀{a c:Int},a∈seen→Ed U a c→c∈seen:=fun {a c} ha hc=>by
      obtain ⟨j,hj,e⟩:=List.getElem_of_mem ha
      exact h.cls j hj _ (by rw [gEg hj,e]) _ hc
    rintro (rfl | hr)
    · exact h.beg
    · induction hr with
      | single h1=>exact cl h.beg h1
      | tail _ h2 ih=>exact cl ih h2
theorem ja.next {U:List (List Int)} {d:Int} {i:Nat} {seen':List Int} {e:Int} (h:ja U d i seen') (hp:seen'[i]?=some e) (he:∀k,Ed U e k→k∈seen'):ja U d (i+1) seen':=
  ⟨h.nd,h.rng,h.rch,h.beg,fun j hj s hs k hk=>by
    rcases Nat.lt_succ_iff_lt_or_eq.1 hj with hj | rfl
    · exact h.cls j hj s hs k hk
    · rw [hp] at hs;cases hs;exact he k hk⟩
theorem ja.push {U:List (List Int)} (hU:ZL U) {d:Int} {i:Nat} {seen:List Int} {e k:Int} (h:ja U d i seen) (hi:i≤seen.length) (he:e∈seen) (hk:Ed U e k) (hn:k∉seen):ja U d i (seen++[k]) where
  nd:=by
    rw [List.nodup_append]
    refine ⟨h.nd,by simp, ?_⟩
    intro a ha b hb
    simp at hb
    rintro rfl;subst hb;exact hn ha
  rng:=by
    intro s hs
    rcases List.mem_append.1 hs with hs | hs
    · exact h.rng s hs
    · rw [List.mem_singleton] at hs;subst hs
      unfold Ed at hk
      rw [List.getD_eq_getElem?_getD] at hk
      cases q:U[e.toNat]? with
      | none=>rw [q] at hk;simp at hk
      | some ys=>rw [q] at hk;exact hU ys (List.mem_of_getElem? q) _ hk
  rch:=by
    intro s hs
    rcases List.mem_append.1 hs with hs | hs
    · exact h.rch s hs
    · rw [List.mem_singleton] at hs;subst hs
      rcases h.rch e he with rfl | hr
      · exact .inr (.single hk)
      · exact .inr (hr.tail hk)
  beg:=by simp [h.beg]
  cls:=fun j hj s hs k' hk'=>by
    rw [List.getElem?_append_left (by omega)] at hs
    exact List.mem_append_left _ (h.cls j hj s hs k' hk')
theorem qeF {h:List qC} {id p:Nat} {xs:List Int} (ho:h[id]?=some (.row 1 (xs.map qE) true)) (hp:p<xs.length):jr none 0 p h[id]?=some (.int .i64 xs[p]):=qPU ho hp
theorem qeR {b:qI} {d:Int} (hb:b.ok=true) (hbz:b.sz≤1048576) (hd:0≤d∧d<(b.Defs.length:Nat)):PureR Gm 1039 [b.enc,.lst 1 ([d].map qE) false] (SetV (fun k=>k=d∨Relation.TransGen (Ed (qr b)) d k) 24):=by
  refine PureR.intro [] [] qZF (by kernel_rfl) rfl (by simp [AV.trees,AV.tree,qE,go_sem]) SetV.tree ?_
  simp only [WN,qL,go_sem]
  have hz':b.Defs.length+qF qA.sz b.Defs≤1048576:=hbz
  have hU:=qQH hb
  have hul:(qr b).length=b.Defs.length:=by simp [qr]
  have h24:=(qOC hb).2
  refine qa rfl ?_;simp only [go_sem]
  refine j4 (n401 [d] (by simp)) ?_
  simp only [qPA,qPB,List.nil_append,List.length_nil,go_sem]
  refine j9 (fun a:Nat×List Int×List qC×Nat=>a.1≤a.2.1.length∧ja (qr b) d a.1 a.2.1∧a.2.2.1[a.2.2.2]?=some (.row 1 (a.2.1.map qE) true)) (fun a=>(⟨[(5,.slice 1 a.2.2.2 0 a.2.1.length false),(6,.int .i64 (a.1:Nat))],[(2,b.enc)],a.2.2.1⟩:VSt)) (fun a=>b.Defs.length-a.1) (0,[d],[.row 1 ([d].map qE) true],0)
    (fun a:List Int×List qC×Nat=>ja (qr b) d a.1.length a.1∧a.2.1[a.2.2]?=some (.row 1 (a.1.map qE) true)) (fun a=>(⟨[(5,.slice 1 a.2.2 0 a.1.length false)],[],a.2.1⟩:VSt)) (by kernel_rfl) ⟨Nat.zero_le _,ja.start (by omega),rfl⟩ (Can.sub (by simp [go_sem]) (by simp [go_sem])) ?_ ?_
  · rintro ⟨i,sn,h',id'⟩ ⟨hi,hS,ho⟩
    simp only at hi hS ho⊢
    have hsl:=hS.len
    simp only [go_sem]
    refine qD ?_ ?_<;>intro hc<;>simp only [hc,go_sem]
    · have hlt:i<sn.length:=by have:=odT hc;omega
      have hrg:=hS.rng _ (List.getElem_mem hlt)
      obtain ⟨e,he⟩:∃e:Nat,sn[i]=(e:Int):=⟨sn[i].toNat,by omega⟩
      have hel:e<b.Defs.length:=by omega
      rw [z0 hlt]
      simp only [Nat.zero_add,go_sem]
      rw [qeF ho hlt,he]
      simp only [go_sem]
      refine qRF (r664 hbz hel) ?_
      rintro v ⟨us,rfl,hus,hul2⟩
      simp only [go_sem]
      have hEd:∀k,Ed (qr b) (e:Int) k↔k∈us:=fun k=>by
        rw [qVO,Int.toNat_natCast,gEg hel,hus];simp
      refine Sem.loop (fun a:Nat×List Int×List qC×Nat=>a.1≤us.length∧i<a.2.1.length∧a.2.1[i]?=some (e:Int)∧ja (qr b) d i a.2.1∧(∀k∈us.take a.1,k∈a.2.1)∧a.2.2.1[a.2.2.2]?=some (.row 1 (a.2.1.map qE) true))
        (fun a=>(⟨[(5,.slice 1 a.2.2.2 0 a.2.1.length false),(6,.int .i64 (i:Nat)),(22,.lst 1 (us.map qE) false),(23,.int .i64 (us.length:Nat)),(24,.int .i64 (a.1:Nat))],[(2,b.enc)],a.2.2.1⟩:VSt)) (fun a=>us.length-a.1) (0,sn,h',id') (by kernel_rfl) ⟨Nat.zero_le _,hlt,by simp only;rw [gEg hlt,he],hS,by simp,ho⟩ (Can.sub (by simp [go_sem]) (by simp [go_sem])) ?_
      rintro ⟨j,sn2,h2,id2⟩ ⟨hj,hi2,hse,hS2,htk,ho2⟩
      simp only at hj hi2 hse hS2 htk ho2⊢
      have hsl2:=hS2.len
      simp only [go_sem]
      refine qD ?_ ?_<;>intro hc<;>simp only [hc,go_sem]
      · have hjl:j<us.length:=by have:=odT hc;omega
        simp only [List.getElem?_map,gEg hjl,Option.map_some,qE,go_sem]
        refine jI (vs':=[.lst 1 (sn2.map qE) false,.int .i64 us[j]]) (Cvs.cons (Cv.row ho2 (by simp) (qf _) (by decide)) (Cvs.cons (.refl rfl) Cvs.nil)) (c647 (by omega)) rfl ?_
        simp only [go_sem]
        have htk2:∀zs:List Int,(∀y∈sn2,y∈zs)→us[j]∈zs→∀k∈us.take (j+1),k∈zs:=by
          intro zs h1 h2 k hk
          rw [List.take_succ_eq_append_getElem hjl,List.mem_append,List.mem_singleton] at hk
          rcases hk with hk | rfl
          · exact h1 _ (htk _ hk)
          · exact h2
        refine qD ?_ ?_<;>intro hc<;>simp only [hc,go_sem]
        · have hnm:us[j]∉sn2:=by
            intro hm
            simp only [Bool.not_eq_true',List.any_eq_false] at hc
            exact hc _ hm (by simp)
          refine jO (el:=sn2.map qE) Je (by rw [List.getElem?_append_left (List.getElem?_eq_some_iff.1 ho2).1];exact ho2) (by simp) (by omega) ?_
          simp only [go_sem]
          simp only [qe (show j<4611686018427387904 by omega)]
          refine qY (j+1,sn2++[us[j]],_,(h2++[qC.row 1 [AV.int .i64 us[j]] true]).length) ⟨by simp only;omega,by simp;omega,by simp only;rw [List.getElem?_append_left hi2];exact hse,hS2.push hU (by omega) (List.mem_of_getElem? hse) ((hEd _).2 (List.getElem_mem hjl)) hnm,htk2 _ (fun y hy=>by simp [hy]) (by simp), ?_⟩ (by simp only;omega) (Can.sub (by simp [go_sem]) (by simp [go_sem]))
          simp only []
          rw [List.getElem?_append_right (by simp)];simp [qE]
        · have hmm:us[j]∈sn2:=by
            simp only [Bool.not_eq_false',List.any_eq_true,decide_eq_true_eq] at hc
            obtain ⟨y,hy,e⟩:=hc
            rw [e];exact hy
          simp only [qe (show j<4611686018427387904 by omega)]
          exact qY (j+1,sn2,h2,id2) ⟨by simp only;omega,hi2,hse,hS2,htk2 _ (fun y hy=>hy) hmm,ho2⟩ (by simp only;omega) (Can.sub (by simp [go_sem]) (by simp [go_sem]))
      · have hje:j=us.length:=by have:=odF hc;omega
        subst hje
        rw [List.take_length] at htk
        simp only [qe (show i<4611686018427387904 by omega)]
        exact jP (i+1,sn2,h2,id2) ⟨by simp only;omega,hS2.next hse fun k hk=>htk _ ((hEd k).1 hk),ho2⟩ (by simp only;omega) (Can.sub (by simp [go_sem]) (by simp [go_sem]))
    · have e:i=sn.length:=by have:=odF hc;omega
      subst e
      exact jA (sn,h',id') ⟨hS,ho⟩ (Can.sub (by simp [go_sem]) (by simp [go_sem]))
  · rintro ⟨sn,h',id'⟩ ⟨hS,ho⟩
    simp only at hS ho⊢
    have hsl:=hS.len
    simp only [go_sem]
    refine zO (s678 ho rfl (by omega) fun ys ex hy=> ?_)
    simp only [go_sem]
    have hid:id'<h'.length:=(List.getElem?_eq_some_iff.1 ho).1
    have ho2:(h'.set id' (qC.row 1 (ys.map qE) true)++ex)[id']?=some (.row 1 (ys.map qE) true):=by
      rw [List.getElem?_append_left (by simpa using hid)];simp [hid]
    rw [←hy.length_eq]
    refine zO (qP6 ho2 (by rw [hy.length_eq];omega) ?_)
    simp only [go_sem]
    have hid2:id'<(h'.set id' (qC.row 1 (ys.map qE) true)++ex).length:=by simp;omega
    refine qR5 (v:=.lst 1 ((zU ys).map qE) false) ⟨zU ys,rfl,fun k=>by rw [qRP,hy.mem_iff,hS.done],by have:=qRO ys;rw [hy.length_eq] at this;omega⟩ ?_
    exact Cv.row (by rw [List.getElem?_set_self hid2]) (by simp) (qf _) (by decide)
theorem qWS {b:qI} {n:Nat} {d:Int} (hbz:b.sz≤1048576) (hn:n<b.Defs.length):Pure Gm 1040 [.int .i64 (n:Int),.ept b.enc 0,.ept (.int .i64 d) 0] (.bool (decide (d∈b.Defs[n].nm))):=by
  refine Pure.intro [] [] qZG (by kernel_rfl) rfl (by simp [AV.trees,AV.tree,go_sem]) rfl ?_
  simp only [WO,qL,go_sem]
  refine qRF (r664 hbz hn) ?_
  rintro v ⟨us,rfl,hus,hul2⟩
  simp only [go_sem]
  refine qG (c647 (by omega)) ?_
  simp only [go_sem]
  refine qK rfl ?_
  rw [AV.bool.injEq,Bool.eq_iff_iff]
  simp [←hus d]
theorem qe1 {b:qI} {d:Int} {ys:List Int} (hy:∀k,k∈ys↔k=d∨Relation.TransGen (Ed (qr b)) d k):(ys.any fun e=>decide (d∈(b.Defs.getD e.toNat qR).nm))=wJ (qr b) d:=by
  unfold wJ
  have hz:qR.nm=[]:=by rw [qA.nm_eq];rfl
  have hE:∀e,Ed (qr b) e d↔d∈(b.Defs.getD e.toNat qR).nm:=fun e=>by
    rw [qVO,List.getD_eq_getElem?_getD]
    cases h:b.Defs[e.toNat]? with
    | none=>simp [hz]
    | some x=>simp
  rw [Bool.eq_iff_iff]
  simp only [List.any_eq_true,decide_eq_true_eq]
  constructor
  · rintro ⟨e,he,hd⟩
    rcases (hy e).1 he with rfl | hr
    · exact .single ((hE _).2 hd)
    · exact hr.tail ((hE _).2 hd)
  · intro hr
    cases hr with
    | single h1=>exact ⟨d,(hy d).2 (.inl rfl),(hE _).1 h1⟩
    | tail h1 h2=>exact ⟨_,(hy _).2 (.inr h1),(hE _).1 h2⟩
theorem qd2 {b:qI} (hb:b.ok=true) {d k:Int} (h:k=d∨Relation.TransGen (Ed (qr b)) d k) (hd:0≤d∧d<(b.Defs.length:Nat)):0≤k∧k<(b.Defs.length:Nat):=by
  have hul:(qr b).length=b.Defs.length:=by simp [qr]
  rcases h with rfl | hr
  · exact hd
  · have:∀{a c:Int},Ed (qr b) a c→0≤c∧c<(b.Defs.length:Nat):=fun {a c} h=>by
      unfold Ed at h
      rw [List.getD_eq_getElem?_getD] at h
      cases q:(qr b)[a.toNat]? with
      | none=>rw [q] at h;simp at h
      | some ys=>rw [q] at h;have:=qQH hb ys (List.mem_of_getElem? q) _ h;omega
    cases hr with
    | single h1=>exact this h1
    | tail _ h2=>exact this h2
theorem c663 {b:qI} {d:Int} (hb:b.ok=true) (hbz:b.sz≤1048576) (hd:0≤d∧d<(b.Defs.length:Nat)):Pure Gm 663 [b.enc,.int .i64 d] (.bool (wJ (qr b) d)):=by
  refine Pure.intro [2,3] [] g663 (by kernel_rfl) rfl (by simp [AV.trees,AV.tree,go_sem]) rfl ?_
  simp only [Xr,qL,go_sem]
  refine jm rfl ?_
  simp only [go_sem]
  refine jm rfl ?_
  simp only [go_sem]
  simp only [go_sem,List.nil_append,List.cons_append,List.set_cons_zero,List.set_cons_succ]
  refine qXR [2] (vs':=[b.enc,.lst 1 ([d].map qE) false]) (Cvs.cons (.refl (by simp [go_sem])) (Cvs.cons (Cv.row rfl rfl rfl (by decide)) Cvs.nil)) (qeR hb hbz hd) ?_
  rintro v ⟨ys,rfl,hys,hyl⟩
  simp only [go_sem]
  refine qG (ZV (f:=.fn 1040 [.ept b.enc 0,.ept (.int .i64 d) 0]) (fun e=>decide (d∈(b.Defs.getD e.toNat qR).nm)) (by simp [AV.tree,AV.trees,go_sem]) ys ?_ (by omega)) ?_
  · intro e he
    have hr:=qd2 hb ((hys e).1 he) hd
    obtain ⟨n,rfl⟩:=Int.eq_ofNat_of_zero_le hr.1
    have hn:n<b.Defs.length:=by omega
    refine ⟨1040,_,rfl, ?_⟩
    have:=qWS (d:=d) hbz hn
    rw [List.getD_eq_getElem?_getD,Int.toNat_natCast,gEg hn]
    exact this
  · simp only [go_sem]
    exact qK rfl (by rw [qe1 hys])
end Go.Ab
namespace Go.Ab
open Go
set_option maxRecDepth 10000
set_option maxHeartbeats 2000000
attribute [local simp] zJ qf j3
def JI (b:qI) (lim:Int) (i:Nat):Prop:=(b.Defs.getD i qR).Kind=4∧((b.Defs.getD i qR).size:Int)≤lim∧wJ (qr b) i=false
open Classical in
noncomputable def zP (b:qI) (lim:Int) (n:Nat):List Bool:=(List.range n).map fun i=>decide (JI b lim i)
theorem qO9 {b:qI} {lim:Int} {n:Nat}:(zP b lim n).length=n:=by simp [zP]
theorem qbC {b:qI} {lim:Int} {n:Nat} {v:Bool} (h:v=true↔JI b lim n):zP b lim (n+1)=zP b lim n++[v]:=by
  classical
  unfold zP
  rw [List.range_succ,List.map_append,List.map_cons,List.map_nil]
  congr 2
  rw [Bool.eq_iff_iff,h];simp
def InlH (b:qI) (lim:Int) (i:Nat) (X:AV) (h:List qC):Prop:=
  h[0]?=some (.row 3 [.agg [.lst 4 (b.Defs.map qA.enc) false,.int .i64 lim,X]] true)∧
    ((i=0∧X=.nils)∨∃id,id≠0∧X=.slice 1 id 0 i false∧h[id]?=some (.row 1 ((zP b lim i).map wl) true))
section
variable {E:Ev} {l:List qB} {ks:List Fr1} {s m:qg} {h:List qC} {Q:qX→VSt→Prop} {b:qI} {lim:Int} {i k:Nat} {X:AV} {v:Bool}
theorem qbD (hH:InlH b lim i X h) (hi:i≤24) (hv:v=true↔JI b lim i) (hr:∀id h2,id≠0→h2[0]?=h[0]?→h2[id]?=some (.row 1 ((zP b lim (i+1)).map wl) true)→R E (.ops l::ks) ⟨(k,.slice 1 id 0 (i+1) false)::s,m,h2⟩ Q):
    wR E 1 (some k) (some X) (some (.slice 1 h.length 0 1 false)) l ks ⟨s,m,h++[.row 1 [.bool v] true]⟩ Q:=by
  obtain ⟨h0,hX⟩:=hH
  have hl:0<h.length:=(List.getElem?_eq_some_iff.1 h0).1
  have hs:=qbC hv
  rcases hX with ⟨rfl,rfl⟩ | ⟨id,hid,rfl,ho⟩
  · refine qWB (ys:=[.bool v]) (Els.row Je rfl) (by simp) ?_
    refine hr _ _ (by simp) ?_ ?_
    · rw [List.getElem?_append_left (by simp),List.getElem?_append_left hl]
    · rw [Je,hs];rfl
  · have hil:id<h.length:=(List.getElem?_eq_some_iff.1 ho).1
    refine jO (el:=(zP b lim i).map wl) Je (by rw [List.getElem?_append_left hil];exact ho) (by simp [qO9]) (by omega) ?_
    refine hr _ _ (by simp) ?_ ?_
    · rw [List.getElem?_append_left (by simp),List.getElem?_set_ne hid,List.getElem?_append_left hl]
    · rw [List.getElem?_append_right (by simp),hs]
      simp [wl]
end
theorem c849 {b:qI} {lim:Int} (hb:b.ok=true) (hbz:b.sz≤1048576):Pure Gm 849 [b.enc,.int .i64 lim] (.ept (wM b lim (zP b lim b.Defs.length)) 0):=by
  refine Pure.intro [] [] g849 (by kernel_rfl) rfl (by simp [AV.trees,AV.tree,go_sem]) (by simp [AV.tree,AV.trees,go_sem]) ?_
  simp only [YD,qL,go_sem]
  have hz':b.Defs.length+qF qA.sz b.Defs≤1048576:=hbz
  have h24:=qOC hb
  refine qa rfl ?_;simp only [go_sem]
  refine jm rfl ?_
  simp only [go_sem]
  refine Sem.loop (fun a:Nat×AV×List qC=>a.1≤b.Defs.length∧InlH b lim a.1 a.2.1 a.2.2) (fun a=>(⟨[(1,.int .i64 lim),(5,.ptr 0 0 0),(15,.lst 4 (b.Defs.map qA.enc) false),(16,.int .i64 (b.Defs.length:Nat)),(17,.int .i64 (a.1:Nat))],[(2,b.enc)],a.2.2⟩:VSt)) (fun a=>b.Defs.length-a.1) (0,.nils,[.row 3 [.agg [.lst 4 (b.Defs.map qA.enc) false,.int .i64 lim,.nils]] true]) (by kernel_rfl) ⟨Nat.zero_le _,rfl,.inl ⟨rfl,rfl⟩⟩ (Can.sub (by simp [go_sem]) (by simp [go_sem])) ?_
  rintro ⟨i,X,h⟩ ⟨hi,h0,hX⟩
  simp only at hi h0 hX⊢
  simp only [go_sem]
  refine qD ?_ ?_<;>intro hc<;>simp only [hc,go_sem]
  · have hlt:i<b.Defs.length:=by have:=odT hc;omega
    simp only [List.getElem?_map,gEg hlt,Option.map_some,go_sem]
    have hm:=List.getElem_mem hlt
    have hv:=QU (ZQ hb hm).1
    have hs:=zV (f:=qA.sz) hm
    refine qO (k:=4) (by rfl) (by simp [go_sem]) (qA.isAgg _) (by decide) ?_;simp only [go_sem]
    refine qG (c665 b.Defs[i] (by omega) (by omega) (by omega)) ?_
    simp only [go_sem]
    simp only [h0,go_sem]
    have hg:b.Defs.getD i qR=b.Defs[i]:=by rw [List.getD_eq_getElem?_getD,gEg hlt];rfl
    have tail:∀(v:Bool) (s':qg) (m':qg) (Q':qX→VSt→Prop) (ks':List Fr1),(v=true↔JI b lim i)→get s' 27=some (.ptr 0 0 0)→
        (∀id h2 p,id≠0→h2[0]?=some (.row 3 [.agg [.lst 4 (b.Defs.map qA.enc) false,.int .i64 lim,.slice 1 id 0 (i+1) false]] true)→h2[id]?=some (.row 1 ((zP b lim (i+1)).map wl) true)→(∀k,k≤31→get p k=get s' k)→R ⟨Gm,0,[],[]⟩ ks' ⟨p,m',h2⟩ Q')→
        wR ⟨Gm,0,[],[]⟩ 1 (some 47) (some X) (some (AV.slice 1 h.length 0 1 false)) [qB.mk 21 (some 48) none (AOp.nilchk (Ao.t 27)) [],qB.mk 22 (some 49) none (AOp.faddr 2 (Ao.t 48)) [],
      qB.mk 23 none none (AOp.store 1 (Ao.t 49) (Ao.t 47)) []] ks' ⟨s',m',h++[qC.row 1 [AV.bool v] true]⟩ Q':=by
      intro v s' m' Q' ks' hv e27 hr
      refine qbD ⟨h0,hX⟩ (by omega) hv ?_
      intro id h2 hid e0 eid
      simp only [go_sem,e27]
      refine jM (by rfl) (e0.trans h0) (by rfl) (by rfl) ?_
      rw [qeS]
      have hl:0<h2.length:=(List.getElem?_eq_some_iff.1 (e0.trans h0)).1
      refine hr id _ _ hid ?_ ?_ ?_
      · rw [List.getElem?_set_self hl];rfl
      · rw [List.getElem?_set_ne (Ne.symm hid)];exact eid
      · intro k hk
        simp only [get]
        rw [if_neg (by omega),if_neg (by omega),if_neg (by omega)]
    refine qZ ?_ ?_<;>intro hc<;>simp only [hc,go_sem]
    · have h4:=odT hc
      refine qZ ?_ ?_<;>intro hc<;>simp only [hc,go_sem]
      · have hle:=odT hc
        refine qG (c663 hb hbz (by omega)) ?_
        simp only [go_sem]
        refine tail (!wJ (qr b) i) _ _ _ _ ?_ ?_ ?_
        · unfold JI;rw [hg];simp [h4,hle]
        · simp [go_sem]
        · intro id h2 p hid g1 g2 gp
          simp only [go_sem,gp 17 (by omega)]
          simp only [qe (show i<4611686018427387904 by omega)]
          exact qY (i+1,.slice 1 id 0 (i+1) false,h2) ⟨by simp only;omega,g1,.inr ⟨id,hid,rfl,g2⟩⟩ (by simp only;omega) (Can.sub (by simp [go_sem,gp]) (by simp [go_sem]))
      · have hle:¬((b.Defs[i].size:Int)≤lim):=by simpa using hc
        refine tail false _ _ _ _ ?_ ?_ ?_
        · unfold JI;rw [hg];simp [hle]
        · simp [go_sem]
        · intro id h2 p hid g1 g2 gp
          simp only [go_sem,gp 17 (by omega)]
          simp only [qe (show i<4611686018427387904 by omega)]
          exact qY (i+1,.slice 1 id 0 (i+1) false,h2) ⟨by simp only;omega,g1,.inr ⟨id,hid,rfl,g2⟩⟩ (by simp only;omega) (Can.sub (by simp [go_sem,gp]) (by simp [go_sem]))
    · have h4:¬b.Defs[i].Kind=4:=by simpa using hc
      refine tail false _ _ _ _ ?_ ?_ ?_
      · unfold JI;rw [hg];simp [h4]
      · simp [go_sem]
      · intro id h2 p hid g1 g2 gp
        simp only [go_sem,gp 17 (by omega)]
        simp only [qe (show i<4611686018427387904 by omega)]
        exact qY (i+1,.slice 1 id 0 (i+1) false,h2) ⟨by simp only;omega,g1,.inr ⟨id,hid,rfl,g2⟩⟩ (by simp only;omega) (Can.sub (by simp [go_sem,gp]) (by simp [go_sem]))
  · obtain rfl:i=b.Defs.length:=by have:=odF hc;omega
    rcases hX with ⟨e,_⟩ | ⟨id,hid,rfl,ho⟩
    · omega
    refine qy ?_
    refine .ptr h0 (by decide) rfl ?_
    refine .agg rfl ?_
    simp only [List.zip_cons_cons,List.zip_nil_left,List.mem_cons,List.not_mem_nil,or_false]
    rintro p (rfl | rfl | rfl)
    · exact .refl (by simp [AV.tree])
    · exact .refl rfl
    · exact Cv.row ho (by simp [qO9]) (by simp) (by decide)
end Go.Ab
namespace Go.Ab
open Go
set_option maxRecDepth 10000
set_option maxHeartbeats 2000000
attribute [local simp] zJ qf j3
noncomputable def Jq (b:qI) (c:qA) (lim budget:Int):AV:=if zR b c lim budget=0 then .ept (wM b lim (zP b lim b.Defs.length)) 0 else .nilp
theorem qgD {b:qI} {c:qA} {lim budget:Int}:(Jq b c lim budget).tree=true:=by
  unfold Jq;split<;>simp [AV.tree,go_sem]
theorem qSK {n m:Int}:([n].all fun k=>inI k 0 m)=inI n 0 m:=by simp
theorem qX1 {b:qI} (hb:b.ok=true):(b.Defs.all fun x=>x.closed&&x.strat 0)=b.Defs.all fun x=>x.strat 0:=by
  rw [Bool.eq_iff_iff]
  simp only [List.all_eq_true,Bool.and_eq_true]
  exact ⟨fun h x hx=>(h x hx).2,fun h x hx=>⟨(ZQ hb hx).1,h x hx⟩⟩
theorem c493 {b:qI} {c:qA} {lim budget:Int} (hbz:b.sz≤1048576) (hcz:c.sz≤1048576):Pure Gm 493 [b.enc,c.enc,.int .i64 lim,.int .i64 budget] (.tup [Jq b c lim budget,.int .i64 (zR b c lim budget)]):=by
  refine Pure.intro [] [] g493 (by kernel_rfl) rfl (by simp [AV.trees,AV.tree,go_sem]) (by simp [AV.tree,AV.trees,qgD]) ?_
  simp only [Xc,qL,go_sem]
  have hds:=c.dep_size
  have hss:=c.size_sz
  have bad:∀{h:List qC} {k:Int},zR b c lim budget=k→k≠0→Fin (some [.nilp,.int .i64 k]) h (.tup [Jq b c lim budget,.int .i64 (zR b c lim budget)]):=fun e hk=>by
    unfold Jq;rw [e,if_neg hk];exact jU rfl rfl
  refine qa rfl ?_;simp only [go_sem]
  refine qa qA.ln ?_
  simp only [go_sem]
  refine qG (c498 hbz) ?_
  simp only [go_sem]
  refine qZ ?_ ?_<;>intro hc<;>simp only [hc,go_sem]
  rotate_left
  · exact bad (by unfold zR;simp at hc;simp [hc]) (by decide)
  have h1:b.ok=true:=by simpa using hc
  refine qG (c521 hcz (by omega) (by omega)) ?_
  simp only [go_sem]
  refine qZ ?_ ?_<;>intro hc<;>simp only [hc,go_sem]
  rotate_left
  · exact bad (by unfold zR;simp at hc;simp [hc]) (by decide)
  have h2:c.closed=true:=by simpa using hc
  refine qG (c847 hcz) ?_
  simp only [go_sem]
  refine qD ?_ ?_<;>intro hc<;>simp only [hc,go_sem]
  · exact bad (by unfold zR;simp at hc;simp [hc]) (by decide)
  have h3:c.refs b.Defs.length=true:=by simpa using hc
  refine qG (c522 hcz (by omega)) ?_
  simp only [go_sem]
  refine qZ ?_ ?_<;>intro hc<;>simp only [hc,go_sem]
  rotate_left
  · exact bad (by unfold zR;simp [h2] at hc;simp [h1,h2,h3,hc]) (by decide)
  have h4:c.strat 0=true:=by rw [h2] at hc;simpa using hc
  refine qG (c848 hbz) ?_
  rw [qX1 h1]
  simp only [go_sem]
  refine qD ?_ ?_<;>intro hc<;>simp only [hc,go_sem]
  · exact bad (by unfold zR wS;rw [h1,h2,h3,h4];have:(b.Defs.all fun x=>x.strat 0)=false:=(by simpa using hc);rw [this];simp) (by decide)
  have h5:(b.Defs.all fun x=>x.strat 0)=true:=nf hc
  have h6:wS b=0:=by unfold wS;rw [h1,h5];rfl
  have hs:zR b c lim budget=if inI lim 0 40&&inI budget 0 2000 then 0 else 2:=by unfold zR;rw [h1,h2,h3,h4,h6];rfl
  refine jI (vs':=[.int .i64 40,.lst 1 ([lim].map qE) false]) (Cvs.cons (.refl rfl) (Cvs.cons (Cv.row rfl rfl rfl (by decide)) Cvs.nil)) (c436 (by simp)) rfl ?_
  rw [qSK]
  simp only [go_sem]
  refine qZ ?_ ?_<;>intro hc<;>simp only [hc,go_sem]
  rotate_left
  · exact bad (by rw [hs];have:inI lim 0 40=false:=(by simpa using hc);rw [this];rfl) (by decide)
  have h7:inI lim 0 40=true:=by simpa using hc
  refine jI (vs':=[.int .i64 2000,.lst 1 ([budget].map qE) false]) (Cvs.cons (.refl rfl) (Cvs.cons (Cv.row rfl rfl rfl (by decide)) Cvs.nil)) (c436 (by simp)) rfl ?_
  rw [qSK]
  simp only [go_sem]
  refine qD ?_ ?_<;>intro hc<;>simp only [hc,go_sem]
  · exact bad (by rw [hs,h7];have:inI budget 0 2000=false:=(by simpa using hc);rw [this];rfl) (by decide)
  have h8:inI budget 0 2000=true:=nf hc
  refine qG (c849 h1 hbz) ?_
  simp only [go_sem]
  have h0:zR b c lim budget=0:=by rw [hs,h7,h8];rfl
  unfold Jq
  rw [h0,if_pos rfl]
  exact jU (by simp [AV.tree,AV.trees,go_sem]) rfl
theorem qT0 {x y:qA} (hx:x.ok=true) (hxs:x.size≤400) (hy:y.ok=true) (hys:y.size≤400):(qA.put y x 0).sz≤802000:=by
  have h1:=Vg y x 0 hx
  have h2:=qA.sz_d4 _ (qPY (QA y hy) x 0 (QA x hx))
  have h3:=x.count_size 0
  have h4:(x.count 0:Int)*((y.size:Int)-1)≤400*399:=by
    have h5:(1:Int)≤y.size:=by have:=y.size_eq;omega
    exact Int.mul_le_mul (by omega) (by omega) (by omega) (by omega)
  omega
theorem qWG {b:qI} {I:List Bool} {x:qA} {l:Int} (hb:b.ok=true) (hx:x.valid=true):(atC b I x l).1.sz≤802000:=by
  obtain ⟨ho,hd,hs,hz,hv⟩:=zG hx
  have hz0:=WI
  cases hK:x.Kids with
  | nil=>unfold atC;rw [hK];show qR.sz≤_;omega
  | cons a ys=>
  rw [J2 hK]
  have ham:a∈x.Kids:=by rw [hK];simp
  have haz:=qA.kid_sz ham
  have hys:(ys.headD qR).sz≤x.sz:=by
    match ys,hK with
    |[],_=>show qR.sz≤_;omega
    | c::_,hK=>exact qA.kid_sz (by rw [hK];simp)
  unfold at1
  split
  · show qA.sz (.mk 2 _ [] [])≤_;rw [qA.sz_eq];simp [qF,go_sem]
  split
  · have:=qO0 a.Kids (.mk 11 (jX x) [] [])
    have h1:=a.sz_eq
    have h2:(qA.mk 11 (jX x) [] []).sz=0:=by rw [qA.sz_eq];simp [qF,go_sem]
    show (wo _ _).sz≤_
    unfold wo
    omega
  split
  · rename_i h1
    rcases qUA ho with h0 | ⟨_,h5,a',c,k,hK',h4,hk⟩ | ⟨h2,_⟩ | ⟨h3,_⟩ | ⟨h4,_⟩<;>try omega
    rw [hK'] at hK;cases hK
    have hk0:zL a=k:=by unfold zL;rw [hk];rfl
    have hcv:=zG (zT hx (show c∈x.Kids by rw [hK'];simp))
    have hkv:=zG (zT (zT hx ham) (show k∈a.Kids by rw [hk];simp))
    show (qA.put c (zL a) 0).sz≤_
    rw [hk0]
    exact qT0 hkv.1 hkv.2.2.1 hcv.1 hcv.2.2.1
  split
  · show (zr _ _).sz≤_
    rw [qN6]
    have:(b.Defs.getD a.Value.toNat qR).sz≤2000:=by
      rw [List.getD_eq_getElem?_getD]
      rcases h:b.Defs[a.Value.toNat]? with _ | d
      · show qR.sz≤_;omega
      · exact (zG ((Jx hb).2 d (List.mem_of_getElem? h)).1).2.2.2.1
    omega
  split
  · rename_i h7
    obtain ⟨a',c,hK'⟩:=zu ((qx ho).1 (by omega))
    rw [hK'] at hK;cases hK
    have h72:=h7.2
    show (jD x c l).1.sz≤_
    unfold jD at h72⊢
    simp only [List.headD_cons] at h72
    split at h72
    · rename_i h0
      rw [if_pos h0]
      have e:zQ x l=zA a (c.levels 0 l) l:=by unfold zQ;rw [hK']
      have hv2:=VI (zT hx ham) (by rw [←e];exact h0)
      rw [←e] at hv2
      have hv3:=zG hv2
      have hcv:=zG (zT hx (show c∈x.Kids by rw [hK'];simp))
      exact qT0 hcv.1 hcv.2.2.1 hv3.1 hv3.2.2.1
    · cases h72
  · show qR.sz≤_;omega
theorem qR9 {x:qA} {f:qA→Int→qA×Int} {l:Int} (hf:∀y∈x.Kids,(f y l).1.sz≤y.sz+802000):∀(n i:Nat),i+n=x.Kids.length→(wX x ((x.Kids.drop i).map f) i l).1.sz≤x.sz+802000
  | 0,i,h=>by
    rw [show x.Kids.drop i=[] from List.drop_eq_nil_of_le (by omega)]
    show qR.sz≤_
    rw [WI];omega
  | n+1,i,h=>by
    have hlt:i<x.Kids.length:=by omega
    rw [qOZ hlt]
    split
    · exact qR9 hf n (i+1) (by omega)
    · show qA.sz (.mk _ _ _ _)≤_
      have h1:=qQG (f:=qA.sz) (y:=(f x.Kids[i] l).1) hlt
      have h2:=hf _ (List.getElem_mem hlt)
      have h3:=x.sz_eq
      have h4:=zV (f:=qA.sz) (List.getElem_mem hlt)
      rw [qA.sz_eq,qA.mk_data,qA.mk_kids,List.length_set]
      omega
theorem qU6 {b:qI} {I:List Bool} (hb:b.ok=true):∀(x:qA) (l:Int),x.valid=true→(jQ b I x l).1.sz≤x.sz+802000:=qA.ind fun x ih l hx=>by
  rw [Vu]
  split
  · exact qR9 (fun y hy=>ih y hy _ (zT hx hy)) x.Kids.length 0 (by omega)
  · have:=qWG (I:=I) (l:=l) hb hx;omega
theorem qe2 {U:List (List Int)} {n:Nat} {v:Int} (h:0≤v∧v<(n:Nat)):((zt U n).any fun k=>decide (k=v))=wJ U v:=by
  rw [Bool.eq_iff_iff]
  simp only [List.any_eq_true,decide_eq_true_eq]
  unfold zt
  constructor
  · rintro ⟨k,hk,rfl⟩;exact (List.mem_filter.1 hk).2
  · intro hr
    refine ⟨v,List.mem_filter.2 ⟨?_,hr⟩,rfl⟩
    exact List.mem_map.2 ⟨v.toNat,List.mem_range.2 (by omega),by omega⟩
theorem qN8 {b:qI} {lim:Int} {x:qA} {l:Int} (ho:x.ok=true) (hf:x.refs b.Defs.length=true):
    (atC b (zP b lim b.Defs.length) x l).2=(zI b (zo b) lim x l).2.1:=by
  classical
  cases hK:x.Kids with
  | nil=>unfold atC zI;rw [hK]
  | cons a ys=>
  rw [J2 hK]
  unfold at1 zI
  rw [hK]
  simp only []
  have ham:a∈x.Kids:=by rw [hK];simp
  by_cases h3:x.Kind=3
  · rw [if_pos h3]
    obtain ⟨a',c,hK'⟩:=zu ((qx ho).1 (by omega))
    rw [hK'] at hK;cases hK
    have hr:qW x=if a.Kind=11 then 4 else if a.Kind=2 then (if c.Kind=2 then 2 else if c.Kind=11 then 4 else 0) else 0:=by unfold qW;rw [hK'];simp only [];rw [if_neg (by omega),if_pos h3]
    by_cases h2:a.Kind=2
    · by_cases c2:c.Kind=2
      · rw [if_pos (by rw [hr,if_neg (by omega),if_pos h2,if_pos c2]),if_pos (show a.Kind=2∧([c].headD qR).Kind=2 from ⟨h2,c2⟩)]
      · have:qW x=if c.Kind=11 then 4 else 0:=by rw [hr,if_neg (by omega),if_pos h2,if_neg c2]
        rw [if_neg (by rw [this];split<;>omega),if_neg (by rw [this];split<;>omega),if_neg (by rw [this];split<;>omega),if_neg (by omega),if_neg (by omega),if_neg (show ¬(a.Kind=2∧([c].headD qR).Kind=2) from fun h=>c2 h.2)]
    · have:qW x=if a.Kind=11 then 4 else 0:=by
        rw [hr]
        by_cases e:a.Kind=11
        · rw [if_pos e,if_pos e]
        · rw [if_neg e,if_neg e,if_neg h2]
      rw [if_neg (by rw [this];split<;>omega),if_neg (by rw [this];split<;>omega),if_neg (by rw [this];split<;>omega),if_neg (by omega),if_neg (by omega),if_neg (show ¬(a.Kind=2∧([c].headD qR).Kind=2) from fun h=>h2 h.1)]
  rw [if_neg h3]
  by_cases h9:x.Kind=10∨x.Kind=9
  · rw [if_pos h9]
    have hn:¬qW x=2∧¬qW x=1:=by
      unfold qW;rw [hK];simp only []
      rw [if_neg (by omega),if_neg h3]
      split
      · split
        · omega
        · split<;>omega
      · split
        · split
          · omega
          · split<;>omega
        · omega
    rw [if_neg hn.1]
    by_cases r3:qW x=3
    · rw [if_pos r3,if_pos r3]
    · rw [if_neg r3,if_neg r3,if_neg hn.2,if_neg (by omega),if_neg (by omega)]
  rw [if_neg h9]
  by_cases h5:x.Kind=5
  · rw [if_pos h5]
    have hr:qW x=if a.Kind=4 then 1 else if a.Kind=11 then 4 else 0:=by unfold qW;rw [hK];simp only [];rw [if_pos h5]
    by_cases h4:a.Kind=4
    · rw [if_pos h4] at hr
      rw [if_neg (by omega),if_neg (by omega),if_pos hr,if_pos h4]
    rw [if_neg h4] at hr
    have hr2:¬qW x=2∧¬qW x=3∧¬qW x=1:=by rw [hr];split<;>omega
    rw [if_neg hr2.1,if_neg hr2.2.1,if_neg hr2.2.2,if_neg h4]
    by_cases h11:a.Kind=11
    · have hv:=Vl (qv ho ham) (wy hf ham) h11
      obtain ⟨n,hV⟩:∃n:Nat,a.Value=n:=⟨a.Value.toNat,by omega⟩
      have hlt:n<b.Defs.length:=by omega
      have hI:(zP b lim b.Defs.length).getD a.Value.toNat false=decide (JI b lim n):=by
        unfold zP
        rw [hV,Int.toNat_natCast,List.getD_eq_getElem?_getD,List.getElem?_map,List.getElem?_range hlt];rfl
      rw [qSM hK h11 hV hlt]
      have hR:((zo b).any fun k=>decide (k=a.Value))=wJ (qr b) n:=by rw [hV];exact qe2 (by omega)
      rw [hR,hI]
      have hg:b.Defs.getD n qR=b.Defs[n]:=by rw [List.getD_eq_getElem?_getD,gEg hlt];rfl
      have hg2:b.Defs.getD a.Value.toNat qR=b.Defs[n]:=by rw [hV,Int.toNat_natCast];exact hg
      rw [hg2]
      unfold JI
      rw [hg]
      by_cases hin:(b.Defs[n].Kind=4∧(b.Defs[n].size:Int)≤lim∧wJ (qr b) n=false)∧l+b.Defs[n].boxes≤8
      · rw [if_pos ⟨h5,h11,by simpa using hin.1,hin.2⟩,if_pos (by simp [hin.1.1,hin.1.2.1,hin.1.2.2,hin.2])]
      · rw [if_neg (fun h=>hin ⟨by simpa using h.2.2.1,h.2.2.2⟩),if_neg (by omega),if_neg (fun h=>hin (by simp at h;exact ⟨⟨h.1.1.1,h.1.2,h.1.1.2⟩,h.2⟩))]
    · rw [if_neg (fun h=>h11 h.2.1),if_neg (by omega)]
      have:wZ b (zo b) lim x l=false:=by unfold wZ;rw [hK];simp [h11]
      rw [this];rfl
  rw [if_neg h5]
  have hr:qW x=0:=Qz h5 h3 (fun h=>h9 (.inr h)) (fun h=>h9 (.inl h))
  rw [if_neg (by omega),if_neg (by omega),if_neg (by omega),if_neg (fun h=>h5 h.1)]
  by_cases h7:x.Kind=7
  · rw [if_pos h7]
    unfold jD
    by_cases h0:(zQ x l).2=0
    · rw [if_pos h0,if_pos ⟨h7,rfl⟩,if_pos h0]
    · rw [if_neg h0,if_neg (fun h=>by cases h.2),if_neg h0]
  · rw [if_neg h7,if_neg (fun h=>h7 h.1)]
theorem qSA {x:qA} {f:qA→Int→qA×Int} {g:qA→Int→jG} {l:Int}:∀(ks:List qA) (i:Nat),(∀y∈ks,(f y l).2=(g y l).2.1)→(wX x (ks.map f) i l).2=(j8 x (ks.map g) i l).2.1
  |[],_,_=>rfl
  | y::ks,i,h=>by
    simp only [List.map_cons,wX,j8]
    have e:=h y (by simp)
    by_cases h0:(g y l).2.1=0
    · rw [if_pos h0,if_pos (by omega)]
      exact qSA ks (i+1) fun z hz=>h z (by simp [hz])
    · rw [if_neg h0,if_neg (by omega)];exact e
theorem qU5 {b:qI} {lim:Int}:∀(x:qA) (l:Int),x.ok=true→x.refs b.Defs.length=true→(jQ b (zP b lim b.Defs.length) x l).2=(jn b (zo b) lim x l).2.1:=qA.ind fun x ih l ho hf=>by
  rw [Vu,Zk]
  have e:=qN8 (lim:=lim) (l:=l) ho hf
  by_cases h0:(zI b (zo b) lim x l).2.1=0
  · rw [if_pos h0,if_pos (by omega)]
    exact qSA _ _ fun y hy=>ih y hy _ (qv ho hy) (wy hf hy)
  · rw [if_neg h0,if_neg (by omega)];exact e
end Go.Ab
namespace Go.Ab
open Go
set_option maxRecDepth 10000
set_option maxHeartbeats 2000000
attribute [local simp] zJ qf j3
noncomputable def wh (b:qI) (c:qA) (lim:Int):jG:=
  if zR b c lim 0=0 then (let o:=jQ b (zP b lim b.Defs.length) c 0;if o.2=0 then (qR,0,3) else if o.1.fits=false then (qR,0,4) else (o.1,o.2,0))
  else (qR,0,zR b c lim 0)
theorem qgF {b:qI} {c:qA} {limit budget:Int} (h:zR b c limit budget=0):c.strat 0=true:=by
  unfold zR at h
  split at h
  · split at h
    · rename_i h1;exact h1
    · cases h
  · cases h
theorem qOY {h:List qC} {y:jG} {k:Int} (e:y=(qR,0,k)):Fin (some [.agg [.int .i64 0,.int .i64 0,.nils,.nils],.int .i64 0,.int .i64 k]) h (zZ y):=by
  subst e;unfold Fin
  refine .tup rfl ?_
  simp only [List.zip_cons_cons,List.zip_nil_left,List.mem_cons,List.not_mem_nil,or_false]
  rintro p (rfl | rfl | rfl)
  · exact w6
  · exact .refl rfl
  · exact .refl rfl
end Go.Ab
namespace Go.Ab
open Go
set_option maxRecDepth 10000
set_option maxHeartbeats 2000000
theorem qTW {α:Type} {enc:α→AV}:∀{xs:List α},(∀x∈xs,(enc x).pl=true)→AV.pls (xs.map enc)=true
  |[],_=>rfl
  | x::xs,h=>by simp only [List.map_cons,AV.pls,h x (by simp),qTW (xs:=xs) (fun y hy=>h y (by simp [hy])),Bool.and_self]
theorem qRL {α:Type} {enc:α→AV}:∀{xs:List α},(∀x∈xs,(enc x).cn=true)→AV.cns (xs.map enc)=true
  |[],_=>rfl
  | x::xs,h=>by simp only [List.map_cons,AV.cns,h x (by simp),qRL (xs:=xs) (fun y hy=>h y (by simp [hy])),Bool.and_self]
theorem qUJ {α:Type} {enc:α→AV} {f:α→Int→α} {c:α→Nat}:∀{xs:List α} (k:Int),(∀x∈xs,∀k,(enc (f x k)).rows=(enc x).rows)→AV.rowss ((mkL f c xs k).map enc)=AV.rowss (xs.map enc)
  |[],_,_=>rfl
  | x::xs,k,h=>by simp only [mkL,List.map_cons,AV.rowss,h x (by simp),qUJ (xs:=xs) _ fun y hy=>h y (by simp [hy])]
theorem qA.plx:∀x:qA,x.enc.pl=true:=qA.ind fun x ih=>by
  rw [qA.enc_eq];simp [AV.pl,AV.pls,jW (enc:=qE) (fun _=>rfl),qTW ih]
theorem qA.cnx:∀x:qA,x.enc.cn=true:=qA.ind fun x ih=>by
  rw [qA.enc_eq];simp [AV.cn,AV.cns,qOL (enc:=qE) (fun _=>rfl),qRL ih]
theorem qA.layE (x:qA) (n:Nat):lay x.enc n=(.agg [.int .i64 x.Kind,.int .i64 x.Value,.slice 1 (n) 0 x.Data.length false,.slice 4 (n+AV.rows (.lst 1 (x.Data.map qE) false)) 0 x.Kids.length false],(lay (.lst 1 (x.Data.map qE) false) (n)).2++((lay (.lst 4 (x.Kids.map qA.enc) false) (n+AV.rows (.lst 1 (x.Data.map qE) false))).2++[])):=by
  rw [qA.enc_eq];simp [lay,qU,jo,AV.rows,Nat.add_assoc,Nat.add_comm,Nat.add_left_comm]
theorem qA.rowsE (x:qA):x.enc.rows=AV.rows (.lst 1 (x.Data.map qE) false)+AV.rows (.lst 4 (x.Kids.map qA.enc) false):=by rw [qA.enc_eq];simp [AV.rows,AV.rowss,Nat.add_assoc]
mutual
def qA.ct:qA→Nat
  |.mk _ _ d ks=>1+1+qF ctI d+qA.cts ks
def qA.cts:List qA→Nat
  |[]=>0
  | x::xs=>x.ct+qA.cts xs
end
theorem qA.cts_eq:∀xs,qA.cts xs=qF qA.ct xs
  |[]=>by simp [qA.cts,qF]
  | x::xs=>by simp [qA.cts,qF,qA.cts_eq xs]
theorem qA.ct_eq (x:qA):x.ct=1+1+qF ctI x.Data+qF qA.ct x.Kids:=by cases x;simp [qA.ct,qA.cts_eq,qA.Data,qA.Kids]
mutual
def qA.mrk:qA→Int→qA
  |.mk _ _ d ks,k=>.mk k (k+1) (mkL mkI ctI d (k+1+1)) (qA.mrks ks (k+1+1+((qF ctI d:Nat):Int)))
def qA.mrks:List qA→Int→List qA
  |[],_=>[]
  | x::xs,k=>x.mrk k::qA.mrks xs (k+x.ct)
end
theorem qA.mrks_eq:∀xs k,qA.mrks xs k=mkL qA.mrk qA.ct xs k
  |[],k=>by simp [qA.mrks,mkL]
  | x::xs,k=>by simp [qA.mrks,mkL,qA.mrks_eq xs]
theorem qA.mrk_eq (x:qA) (k:Int):x.mrk k=.mk k (k+1) (mkL mkI ctI x.Data (k+1+1)) (mkL qA.mrk qA.ct x.Kids (k+1+1+((qF ctI x.Data:Nat):Int))):=by
  cases x;simp [qA.mrk,qA.mrks_eq,qA.Data,qA.Kids]
theorem qA.mrkK (x:qA) (k:Int):(x.mrk k).Kind=k:=by rw [qA.mrk_eq];rfl
theorem qA.mrkV (x:qA) (k:Int):(x.mrk k).Value=k+1:=by rw [qA.mrk_eq];rfl
theorem qA.mrkD (x:qA) (k:Int):(x.mrk k).Data=mkL mkI ctI x.Data (k+1+1):=by rw [qA.mrk_eq];rfl
theorem qA.mrkC (x:qA) (k:Int):(x.mrk k).Kids=mkL qA.mrk qA.ct x.Kids (k+1+1+((qF ctI x.Data:Nat):Int)):=by rw [qA.mrk_eq];rfl
theorem qA.rowsM:∀(x:qA) (k:Int),(x.mrk k).enc.rows=x.enc.rows:=qA.ind fun x ih k=>by
  rw [qA.rowsE,qA.rowsE,qA.mrkD,qA.mrkC]
  simp only [AV.rows,qUJ _ ih,zd mkI ctI (enc:=qE) (fun _ _=>rfl)]
def qA.mkV (x:qA) (k:Int):qA:=.mk x.Kind x.Value (mkL mkI ctI x.Data (k)) (mkL qA.mrk qA.ct x.Kids (k+((qF ctI x.Data:Nat):Int)))
def qA.ctV (x:qA):Nat:=qF ctI x.Data+qF qA.ct x.Kids
theorem qA.mkVK (x:qA) (k:Int):(x.mkV k).Kind=x.Kind:=rfl
theorem qA.mkVV (x:qA) (k:Int):(x.mkV k).Value=x.Value:=rfl
theorem qA.mkVD (x:qA) (k:Int):(x.mkV k).Data=mkL mkI ctI x.Data (k):=rfl
theorem qA.mkVC (x:qA) (k:Int):(x.mkV k).Kids=mkL qA.mrk qA.ct x.Kids (k+((qF ctI x.Data:Nat):Int)):=rfl
theorem qA.rowsV (x:qA) (k:Int):(x.mkV k).enc.rows=x.enc.rows:=by
  rw [qA.rowsE,qA.rowsE,qA.mkVD,qA.mkVC]
  simp only [AV.rows,zd qA.mrk qA.ct (enc:=qA.enc) qA.rowsM,zd mkI ctI (enc:=qE) (fun _ _=>rfl)]
theorem qA.ctle:∀x:qA,x.ct≤16+16*x.sz:=qA.ind fun x ih=>by
  have h:∀xs:List qA,(∀y∈xs,y.ct≤16+16*y.sz)→qF qA.ct xs≤16*(xs.length+qF qA.sz xs):=by
    intro xs
    induction xs with
    | nil=>intro _;exact Nat.le_refl _
    | cons a xs ihx=>intro h;have:=h a (by simp);have:=ihx (fun y hy=>h y (by simp [hy]));simp only [qF,List.length_cons];omega
  have h0:=h _ ih
  rw [x.ct_eq,x.sz_eq,JZ];omega
theorem qA.ctVle (x:qA):x.ctV≤16*x.sz:=by
  have h0:=x.ctle
  rw [x.ct_eq,JZ] at h0
  have h1:=Vv (c:=qA.ct) (z:=qA.sz) qA.ctle x.Kids
  rw [x.sz_eq];unfold qA.ctV;rw [JZ];omega
theorem n147 (xs:List Int) (hl:xs.length≤1048576):Fresh Gm 147 [.lst 1 (xs.map qE) false] (.lst 1 (xs.map qE) false):=qgU g147 xs hl
theorem n83 (x:qA):∀(_:x.sz≤1048576),Fresh Gm 83 [x.enc] x.enc:=by
  induction x using qA.ind with
  | _ x ih=>
  intro hz
  refine Fresh.intro [] [] g83 (by kernel_rfl) rfl (by simp [AV.trees,AV.tree,qA.tr]) (qA.plx x) ?_
  simp only [F83,qL,go_sem]
  refine qa qA.ln ?_
  simp only [go_sem]
  rw [qA.sz_eq] at hz
  refine j4 (n147 _ (by omega)) ?_
  simp only [go_sem,JJ]
  refine j4 (qVI qA.isSh qA.plx rfl rfl (by simp) Yz x.Kids (fun y hm=>ih y hm (by have:=zV (f:=qA.sz) hm;omega)) (by omega)) ?_
  simp only [go_sem,JJ]
  refine qO rfl rfl ⟨_,rfl⟩ (by decide) ?_
  simp only [go_sem]
  exact Jb (pre:=[]) (post:=[]) (qA.plx x) (by simp [zW,qA.layE,qo,Nat.add_assoc]) (by simp [qA.layE,qo,Nat.add_assoc])
theorem n342 (xs:List qA) (hl:xs.length+qF qA.sz xs≤1048576):Fresh Gm 342 [.lst 4 (xs.map qA.enc) false] (.lst 4 (xs.map qA.enc) false):=
  qVI qA.isSh qA.plx rfl rfl (by simp) Yz xs (fun x hm=>n83 x (by have:=zV (f:=qA.sz) hm;omega)) (by omega)
theorem qI.plx (x:qI):x.enc.pl=true:=by simp [qI.enc,AV.pl,AV.pls,jW qA.plx]
theorem qI.cnx (x:qI):x.enc.cn=true:=by simp [qI.enc,AV.cn,AV.cns,qOL qA.cnx]
theorem qI.layE (x:qI) (n:Nat):lay x.enc n=(.agg [.slice 4 (n) 0 x.Defs.length false],(lay (.lst 4 (x.Defs.map qA.enc) false) (n)).2++[]):=by
  simp [qI.enc,lay,qU,jo,AV.rows,Nat.add_assoc,Nat.add_comm,Nat.add_left_comm]
theorem qI.rowsE (x:qI):x.enc.rows=AV.rows (.lst 4 (x.Defs.map qA.enc) false):=by simp [qI.enc,AV.rows,AV.rowss,Nat.add_assoc]
def qI.mrk (x:qI) (k:Int):qI:={Defs:=mkL qA.mrk qA.ct x.Defs (k)}
def qI.ct (x:qI):Nat:=qF qA.ct x.Defs
def qI.mkV (x:qI) (k:Int):qI:={Defs:=mkL qA.mrk qA.ct x.Defs (k)}
def qI.ctV (x:qI):Nat:=qF qA.ct x.Defs
theorem qI.rowsM (x:qI) (k:Int):(x.mrk k).enc.rows=x.enc.rows:=by simp [qI.rowsE,qI.mrk,AV.rows,zd qA.mrk qA.ct (enc:=qA.enc) qA.rowsM]
theorem qI.rowsV (x:qI) (k:Int):(x.mkV k).enc.rows=x.enc.rows:=by simp [qI.rowsE,qI.mkV,AV.rows,zd qA.mrk qA.ct (enc:=qA.enc) qA.rowsM]
theorem qI.ctle (x:qI):x.ct≤16+16*x.sz:=by
  have h0:=Vv (c:=qA.ct) (z:=qA.sz) qA.ctle x.Defs
  simp only [qI.ct,qI.sz]
  omega
theorem qI.ctVle (x:qI):x.ctV≤16*x.sz:=by
  have h0:=Vv (c:=qA.ct) (z:=qA.sz) qA.ctle x.Defs
  simp only [qI.ctV,qI.sz]
  omega
theorem n82 (x:qI) (hz:x.sz≤1048576):Fresh Gm 82 [x.enc] x.enc:=by
  refine Fresh.intro [] [] g82 (by kernel_rfl) rfl (by simp [AV.trees,AV.tree,qI.tr]) (qI.plx x) ?_
  simp only [F82,qL,go_sem]
  refine qa rfl ?_
  simp only [go_sem]
  unfold qI.sz at hz
  refine j4 (n342 _ (by omega)) ?_
  simp only [go_sem,JJ]
  exact Jb (pre:=[]) (post:=[]) (qI.plx x) (by simp [zW,qI.layE,qo,Nat.add_assoc]) (by simp [qI.layE,qo,Nat.add_assoc])
theorem k90 (xs:List Int) (k:Int) (h0:0≤k) (hk:k+(qF ctI xs:Nat)≤4611686018427387904) (hz:xs.length≤4194304):Mark Gm 90 (.lst 1 (xs.map qE) false) (.lst 1 ((mkL mkI ctI xs k).map qE) false) k (k+(qF ctI xs:Nat)):=qdU g90 rfl xs k h0 hk hz
theorem qbI (n:Nat):∀(xs:List qA) (k:Int) (_:xs.length+qF qA.sz xs<n) (_:0≤k) (_:k+(qF qA.ct xs:Nat)≤4611686018427387904) (_:xs.length+qF qA.sz xs≤4194304),Mark Gm 347 (.lst 4 (xs.map qA.enc) false) (.lst 4 ((mkL qA.mrk qA.ct xs k).map qA.enc) false) k (k+(qF qA.ct xs:Nat)):=by
  induction n with
  | zero=>intro xs k h;exact absurd h (by omega)
  | succ n ih=>
  intro xs k hn h0 hk hz
  refine Mark.intro g347 (by kernel_rfl) rfl (jW qA.plx xs) (jW qA.plx _) (by simp only [AV.rows,zd qA.mrk qA.ct (enc:=qA.enc) qA.rowsM]) ?_
  simp only [XR,qL,JJ,go_sem,Nat.zero_add]
  refine Sem.loop (fun i:Nat=>i≤xs.length) (fun i=>(⟨[(0,.slice 4 0 0 xs.length false),(1,.int .i64 (k+((qF qA.ct (xs.take i):Nat):Int))),(5,.int .i64 (i:Nat))],[],(lay (.lst 4 ((mkL qA.mrk qA.ct (xs.take i) k++xs.drop i).map qA.enc) false) 0).2⟩:VSt)) (fun i=>xs.length-i) 0 (by kernel_rfl) (Nat.zero_le _) (by simp only [List.take_zero,mkL,List.nil_append,List.drop_zero,qF,Int.ofNat_zero,Int.natCast_zero,Int.add_zero];exact Can.sub (by simp [go_sem]) (by simp [go_sem])) ?_
  intro i hi
  simp only [go_sem,Nat.zero_add]
  refine qD ?_ ?_<;>intro hc<;>simp only [hc,go_sem,Nat.zero_add]
  · have hlt:i<xs.length:=by have:=odT hc;omega
    have hct:=qVE qA.ct hlt
    have hcl:=qVC qA.ct xs (i+1)
    have hrow:=qA.rowsM
    rw [List.drop_eq_getElem_cons hlt,qS0]
    have hsz:qA.sz xs[i]≤qF qA.sz xs:=zV (f:=qA.sz) (List.getElem_mem hlt)
    obtain ⟨K,hK⟩:∃K:Int,K=k+((qF qA.ct (xs.take i):Nat):Int):=⟨_,rfl⟩
    have hend:k+((qF qA.ct (xs.take (i+1)):Nat):Int)=K+((qA.ct xs[i]:Nat):Int):=by rw [hct,hK];omega
    have hKb:0≤K∧K+((qA.ct xs[i]:Nat):Int)≤4611686018427387904:=by rw [←hend];omega
    have hmk:(mkL qA.mrk qA.ct (xs.take (i+1)) k++xs.drop (i+1))=mkL qA.mrk qA.ct (xs.take i) k++qA.mrk xs[i] K::xs.drop (i+1):=by rw [qTI qA.mrk qA.ct hlt,←hK,List.append_assoc];rfl
    have hrx:=hrow xs[i] K
    rw [←hK]
    obtain ⟨y,hy⟩:∃y,y=xs[i]:=⟨_,rfl⟩
    rw [←hy] at hmk hend hKb hrx hsz⊢
    have hcy:qA.ct y=1+1+qF ctI y.Data+qF qA.ct y.Kids:=qA.ct_eq y
    rw [hcy] at hend hKb
    rw [qA.sz_eq] at hsz
    have hA:(qU ((mkL qA.mrk qA.ct (xs.take i) k).map qA.enc) 1).1.length=i:=by rw [wG,List.length_map,wv];simp;omega
    have hoA:=jo ((mkL qA.mrk qA.ct (xs.take i) k).map qA.enc) 1
    have e2:=qS0 (enc:=qA.enc) (w:=4) (c:=false) (A:=mkL qA.mrk qA.ct (xs.take i) k) (B:=xs.drop (i+1)) (z:=qA.mrk y K)
    rw [hrx] at e2
    rw [qA.layE] at e2⊢
    obtain ⟨p,hp⟩:∃p,p=1+AV.rowss ((mkL qA.mrk qA.ct (xs.take i) k).map qA.enc):=⟨_,rfl⟩
    rw [←hp] at e2⊢
    generalize (qU ((xs.drop (i+1)).map qA.enc) (p+y.enc.rows)).1=vB at e2⊢
    generalize (qU ((xs.drop (i+1)).map qA.enc) (p+y.enc.rows)).2=oB at e2⊢
    generalize (qU ((mkL qA.mrk qA.ct (xs.take i) k).map qA.enc) 1).1=vA at e2 hA⊢
    generalize (qU ((mkL qA.mrk qA.ct (xs.take i) k).map qA.enc) 1).2=oA at e2 hoA⊢
    simp only [wu hA,Jn hA,z0 hlt,List.set_cons_zero,go_sem,Nat.zero_add]
    refine jM (e':=.agg [.int .i64 (K),.int .i64 y.Value,.slice 1 (p) 0 y.Data.length false,.slice 4 (p+AV.rows (.lst 1 (y.Data.map qE) false)) 0 y.Kids.length false]) (by rfl) (by rfl) (wu hA) (by rfl) ?_
    simp only [wu hA,Jn hA,z0 hlt,List.set_cons_zero,go_sem,Nat.zero_add]
    rw [qi (n:=K+1) (by omega) (by omega)]
    try simp only [wu hA,Jn hA,z0 hlt,List.set_cons_zero,go_sem,Nat.zero_add]
    refine jM (e':=.agg [.int .i64 (K),.int .i64 (K+1),.slice 1 (p) 0 y.Data.length false,.slice 4 (p+AV.rows (.lst 1 (y.Data.map qE) false)) 0 y.Kids.length false]) (by rfl) (by rfl) (wu hA) (by rfl) ?_
    simp only [wu hA,Jn hA,z0 hlt,List.set_cons_zero,go_sem,Nat.zero_add]
    rw [qi (n:=K+1+1) (by omega) (by omega)]
    try simp only [wu hA,Jn hA,z0 hlt,List.set_cons_zero,go_sem,Nat.zero_add]
    refine JX (n:=p) (pre:=.row 4 (vA++.agg [.int .i64 (K),.int .i64 (K+1),.slice 1 (p) 0 y.Data.length false,.slice 4 (p+AV.rows (.lst 1 (y.Data.map qE) false)) 0 y.Kids.length false]::vB) true::(oA++[])) (post:=((lay (.lst 4 (y.Kids.map qA.enc) false) (p+AV.rows (.lst 1 (y.Data.map qE) false))).2++[])++oB) (t:=(.lst 1 (y.Data.map qE) false)) (t':=(.lst 1 ((mkL mkI ctI y.Data (K+1+1)).map qE) false)) (k90 y.Data (K+1+1) (by omega) (by omega) (by omega)) ?_ ?_ (by rw [JJ,List.length_map]) ?_
    · first | rfl | (simp only [List.length_cons,List.length_append,List.length_nil,hoA,qo,AV.rows,zd mkI ctI (enc:=qE) (fun _ _=>rfl)];done) | (simp only [List.length_cons,List.length_append,List.length_nil,hoA,qo,AV.rows,zd mkI ctI (enc:=qE) (fun _ _=>rfl)];omega)
    · first | rfl | (simp only [List.append_assoc,List.nil_append,List.append_nil,List.cons_append];done)
    simp only [wu hA,Jn hA,z0 hlt,List.set_cons_zero,List.cons_append,go_sem,Nat.zero_add]
    refine JX (n:=p+AV.rows (.lst 1 (y.Data.map qE) false)) (pre:=.row 4 (vA++.agg [.int .i64 (K),.int .i64 (K+1),.slice 1 (p) 0 y.Data.length false,.slice 4 (p+AV.rows (.lst 1 (y.Data.map qE) false)) 0 y.Kids.length false]::vB) true::(oA++((lay (.lst 1 ((mkL mkI ctI y.Data (K+1+1)).map qE) false) (p)).2))) (post:=([])++oB) (t:=(.lst 4 (y.Kids.map qA.enc) false)) (t':=(.lst 4 ((mkL qA.mrk qA.ct y.Kids (K+1+1+((qF ctI y.Data:Nat):Int))).map qA.enc) false)) (ih y.Kids (K+1+1+((qF ctI y.Data:Nat):Int)) (by omega) (by omega) (by omega) (by omega)) ?_ ?_ (by rw [JJ,List.length_map]) ?_
    · first | rfl | (simp only [List.length_cons,List.length_append,List.length_nil,hoA,qo,AV.rows,zd mkI ctI (enc:=qE) (fun _ _=>rfl)];done) | (simp only [List.length_cons,List.length_append,List.length_nil,hoA,qo,AV.rows,zd mkI ctI (enc:=qE) (fun _ _=>rfl)];omega)
    · first | rfl | (simp only [List.append_assoc,List.nil_append,List.append_nil,List.cons_append];done)
    simp only [wu hA,Jn hA,z0 hlt,List.set_cons_zero,List.cons_append,go_sem,Nat.zero_add]
    simp only [qe (show i<4611686018427387904 by omega)]
    refine qY (i+1) (by omega) (by omega) ?_
    have e3:K+1+1+((qF ctI y.Data:Nat):Int)+((qF qA.ct y.Kids:Nat):Int)=k+((qF qA.ct (xs.take (i+1)):Nat):Int):=by first | (rw [hend];done) | (rw [hend];omega)
    rw [e3]
    rw [hmk,e2]
    simp only [qA.mrkK,qA.mrkV,qA.mrkD,qA.mrkC,wv,AV.rows,List.append_assoc,List.nil_append,List.append_nil,List.cons_append,zd qA.mrk qA.ct (enc:=qA.enc) qA.rowsM,zd mkI ctI (enc:=qE) (fun _ _=>rfl)]
    exact Can.sub (by simp [go_sem]) (by simp [go_sem])
  · have hge:i=xs.length:=by have:=odF hc;omega
    subst hge
    refine Yt (by rw [List.take_length]) ?_
    rw [List.take_length,List.drop_length,List.append_nil]
theorem k347 (xs:List qA) (k:Int) (h0:0≤k) (hk:k+(qF qA.ct xs:Nat)≤4611686018427387904) (hz:xs.length+qF qA.sz xs≤4194304):Mark Gm 347 (.lst 4 (xs.map qA.enc) false) (.lst 4 ((mkL qA.mrk qA.ct xs k).map qA.enc) false) k (k+(qF qA.ct xs:Nat)):=qbI _ xs k (Nat.lt_succ_self _) h0 hk hz
theorem k89 (x:qA) (k:Int) (h0:0≤k) (hk:k+(x.ctV:Nat)≤4611686018427387904) (hz:x.sz≤4194304):Mark Gm 89 x.enc (x.mkV k).enc k (k+(x.ctV:Nat)):=by
  refine Mark.intro g89 (by kernel_rfl) rfl (qA.plx x) (qA.plx _) (qA.rowsV x k) ?_
  rw [qA.layE,qA.layE]
  simp only [F89,qL,go_sem,Nat.zero_add]
  refine qa rfl ?_
  simp only [go_sem,Nat.zero_add]
  unfold qA.ctV at hk
  rw [qA.sz_eq] at hz
  refine JX (n:=0) (pre:=[]) (post:=(lay (.lst 4 (x.Kids.map qA.enc) false) (AV.rows (.lst 1 (x.Data.map qE) false))).2++[]) (t:=(.lst 1 (x.Data.map qE) false)) (t':=(.lst 1 ((mkL mkI ctI x.Data (k)).map qE) false)) (k90 x.Data (k) (by omega) (by omega) (by omega)) ?_ ?_ (by rw [JJ,List.length_map]) ?_
  · first | rfl | (simp only [List.length_append,List.length_nil,qo,AV.rows,zd qA.mrk qA.ct (enc:=qA.enc) qA.rowsM,zd mkI ctI (enc:=qE) (fun _ _=>rfl)];done) | (simp only [List.length_append,List.length_nil,qo,AV.rows,zd qA.mrk qA.ct (enc:=qA.enc) qA.rowsM,zd mkI ctI (enc:=qE) (fun _ _=>rfl)];omega)
  · first | rfl | (simp only [List.append_assoc,List.nil_append,List.append_nil];done)
  simp only [List.append_assoc,List.nil_append,List.append_nil,go_sem,Nat.zero_add]
  refine JX (n:=AV.rows (.lst 1 (x.Data.map qE) false)) (pre:=(lay (.lst 1 ((mkL mkI ctI x.Data (k)).map qE) false) (0)).2) (post:=[]) (t:=(.lst 4 (x.Kids.map qA.enc) false)) (t':=(.lst 4 ((mkL qA.mrk qA.ct x.Kids (k+((qF ctI x.Data:Nat):Int))).map qA.enc) false)) (k347 x.Kids (k+((qF ctI x.Data:Nat):Int)) (by omega) (by omega) (by omega)) ?_ ?_ (by rw [JJ,List.length_map]) ?_
  · first | rfl | (simp only [List.length_append,List.length_nil,qo,AV.rows,zd qA.mrk qA.ct (enc:=qA.enc) qA.rowsM,zd mkI ctI (enc:=qE) (fun _ _=>rfl)];done) | (simp only [List.length_append,List.length_nil,qo,AV.rows,zd qA.mrk qA.ct (enc:=qA.enc) qA.rowsM,zd mkI ctI (enc:=qE) (fun _ _=>rfl)];omega)
  · first | rfl | (simp only [List.append_assoc,List.nil_append,List.append_nil];done)
  simp only [List.append_assoc,List.nil_append,List.append_nil,go_sem,Nat.zero_add]
  refine Yt (by first | rfl | (simp only [qA.ctV];done) | (simp only [qA.ctV];omega)) ?_
  simp only [qA.mkVK,qA.mkVV,qA.mkVD,qA.mkVC,wv,AV.rows,Nat.zero_add,List.append_assoc,List.nil_append,List.append_nil,zd qA.mrk qA.ct (enc:=qA.enc) qA.rowsM,zd mkI ctI (enc:=qE) (fun _ _=>rfl)]
theorem k88 (x:qI) (k:Int) (h0:0≤k) (hk:k+(x.ctV:Nat)≤4611686018427387904) (hz:x.sz≤4194304):Mark Gm 88 x.enc (x.mkV k).enc k (k+(x.ctV:Nat)):=by
  refine Mark.intro g88 (by kernel_rfl) rfl (qI.plx x) (qI.plx _) (qI.rowsV x k) ?_
  rw [qI.layE,qI.layE]
  simp only [F88,qL,go_sem,Nat.zero_add]
  refine qa rfl ?_
  simp only [go_sem,Nat.zero_add]
  unfold qI.ctV at hk
  simp only [qI.sz] at hz
  refine JX (n:=0) (pre:=[]) (post:=[]) (t:=(.lst 4 (x.Defs.map qA.enc) false)) (t':=(.lst 4 ((mkL qA.mrk qA.ct x.Defs (k)).map qA.enc) false)) (k347 x.Defs (k) (by omega) (by omega) (by omega)) ?_ ?_ (by rw [JJ,List.length_map]) ?_
  · first | rfl | (simp only [List.length_append,List.length_nil,qo,AV.rows,zd qA.mrk qA.ct (enc:=qA.enc) qA.rowsM];done) | (simp only [List.length_append,List.length_nil,qo,AV.rows,zd qA.mrk qA.ct (enc:=qA.enc) qA.rowsM];omega)
  · first | rfl | (simp only [List.append_assoc,List.nil_append,List.append_nil];done)
  simp only [List.append_assoc,List.nil_append,List.append_nil,go_sem,Nat.zero_add]
  refine Yt (by first | rfl | (simp only [qI.ctV];done) | (simp only [qI.ctV];omega)) ?_
  simp only [qI.mkV,AV.rows,Nat.zero_add,List.append_assoc,List.nil_append,List.append_nil,zd qA.mrk qA.ct (enc:=qA.enc) qA.rowsM]
theorem q92 (xs:List Int) (k:Int) (h0:0≤k) (hk:k+(qF ctI xs:Nat)≤4611686018427387904) (hz:xs.length≤4194304):Pure Gm 92 [.lst 1 ((mkL mkI ctI xs k).map qE) false,.int .i64 k] (.int .i64 (k+(qF ctI xs:Nat))):=qbA g92 rfl xs k h0 hk hz
theorem qeQ (n:Nat):∀(xs:List qA) (k:Int) (_:xs.length+qF qA.sz xs<n) (_:0≤k) (_:k+(qF qA.ct xs:Nat)≤4611686018427387904) (_:xs.length+qF qA.sz xs≤4194304),Pure Gm 348 [(.lst 4 ((mkL qA.mrk qA.ct xs k).map qA.enc) false),.int .i64 k] (.int .i64 (k+(qF qA.ct xs:Nat))):=by
  induction n with
  | zero=>intro xs k h;exact absurd h (by omega)
  | succ n ih=>
  intro xs k hn h0 hk hz
  refine Pure.intro [] [] g348 (by kernel_rfl) rfl (by simp [AV.trees,AV.tree,zg qA.isSh.tree]) rfl ?_
  simp only [XS,qL,go_sem,Nat.zero_add]
  refine Sem.loop (fun i:Nat=>i≤xs.length) (fun i=>(⟨[(0,(.lst 4 ((mkL qA.mrk qA.ct xs k).map qA.enc) false)),(1,.int .i64 (k+((qF qA.ct (xs.take i):Nat):Int))),(5,.int .i64 (i:Nat))],[],[]⟩:VSt)) (fun i=>xs.length-i) 0 (by kernel_rfl) (Nat.zero_le _) (by simp only [List.take_zero,qF,Int.ofNat_zero,Int.natCast_zero,Int.add_zero];exact Can.sub (by simp [go_sem]) (by simp [go_sem])) ?_
  intro i hi
  simp only [wv,go_sem,Nat.zero_add]
  refine qD ?_ ?_<;>intro hc<;>simp only [hc,go_sem,Nat.zero_add]
  · have hlt:i<xs.length:=by have:=odT hc;omega
    have hct:=qVE qA.ct hlt
    have hcl:=qVC qA.ct xs (i+1)
    have hget:=qTH qA.mrk qA.ct hlt k
    have hsz:qA.sz xs[i]≤qF qA.sz xs:=zV (f:=qA.sz) (List.getElem_mem hlt)
    obtain ⟨K,hK⟩:∃K:Int,K=k+((qF qA.ct (xs.take i):Nat):Int):=⟨_,rfl⟩
    have hend:k+((qF qA.ct (xs.take (i+1)):Nat):Int)=K+((qA.ct xs[i]:Nat):Int):=by rw [hct,hK];omega
    have hKb:0≤K∧K+((qA.ct xs[i]:Nat):Int)≤4611686018427387904:=by rw [←hend];omega
    rw [←hK] at hget⊢
    obtain ⟨y,hy⟩:∃y,y=xs[i]:=⟨_,rfl⟩
    rw [←hy] at hget hend hKb hsz
    have hcy:qA.ct y=1+1+qF ctI y.Data+qF qA.ct y.Kids:=qA.ct_eq y
    rw [hcy] at hend hKb
    rw [qA.sz_eq] at hsz
    simp only [List.getElem?_map,hget,Option.map_some,go_sem,Nat.zero_add]
    try simp only [List.getElem?_map,hget,Option.map_some,qA.mrkK,qA.mrkV,qA.mrkD,qA.mrkC,go_sem,Nat.zero_add]
    rw [qi (n:=K+1) (by omega) (by omega)]
    try simp only [List.getElem?_map,hget,Option.map_some,qA.mrkK,qA.mrkV,qA.mrkD,qA.mrkC,go_sem,Nat.zero_add]
    try simp only [List.getElem?_map,hget,Option.map_some,qA.mrkK,qA.mrkV,qA.mrkD,qA.mrkC,go_sem,Nat.zero_add]
    rw [qi (n:=K+1+1) (by omega) (by omega)]
    try simp only [List.getElem?_map,hget,Option.map_some,qA.mrkK,qA.mrkV,qA.mrkD,qA.mrkC,go_sem,Nat.zero_add]
    try simp only [List.getElem?_map,hget,Option.map_some,qA.mrkK,qA.mrkV,qA.mrkD,qA.mrkC,go_sem,Nat.zero_add]
    refine qG (q92 y.Data (K+1+1) (by omega) (by omega) (by omega)) ?_
    simp only [List.getElem?_map,hget,Option.map_some,qA.mrkK,qA.mrkV,qA.mrkD,qA.mrkC,go_sem,Nat.zero_add]
    rw [show decide (K+1+1+((qF ctI y.Data:Nat):Int)<0)=false from decide_eq_false (by omega)]
    simp only [List.getElem?_map,hget,Option.map_some,qA.mrkK,qA.mrkV,qA.mrkD,qA.mrkC,go_sem,Nat.zero_add]
    try simp only [List.getElem?_map,hget,Option.map_some,qA.mrkK,qA.mrkV,qA.mrkD,qA.mrkC,go_sem,Nat.zero_add]
    refine qG (ih y.Kids (K+1+1+((qF ctI y.Data:Nat):Int)) (by omega) (by omega) (by omega) (by omega)) ?_
    simp only [List.getElem?_map,hget,Option.map_some,qA.mrkK,qA.mrkV,qA.mrkD,qA.mrkC,go_sem,Nat.zero_add]
    rw [show decide (K+1+1+((qF ctI y.Data:Nat):Int)+((qF qA.ct y.Kids:Nat):Int)<0)=false from decide_eq_false (by omega)]
    simp only [List.getElem?_map,hget,Option.map_some,qA.mrkK,qA.mrkV,qA.mrkD,qA.mrkC,go_sem,Nat.zero_add]
    simp only [qe (show i<4611686018427387904 by omega)]
    refine qY (i+1) (by omega) (by omega) ?_
    have e3:K+1+1+((qF ctI y.Data:Nat):Int)+((qF qA.ct y.Kids:Nat):Int)=k+((qF qA.ct (xs.take (i+1)):Nat):Int):=by first | (rw [hend];done) | (rw [hend];omega)
    rw [e3]
    exact Can.sub (by simp [go_sem]) (by simp [go_sem])
  · have hge:i=xs.length:=by have:=odF hc;omega
    subst hge
    refine qK rfl ?_
    rw [List.take_length]
theorem q348 (xs:List qA) (k:Int) (h0:0≤k) (hk:k+(qF qA.ct xs:Nat)≤4611686018427387904) (hz:xs.length+qF qA.sz xs≤4194304):Pure Gm 348 [(.lst 4 ((mkL qA.mrk qA.ct xs k).map qA.enc) false),.int .i64 k] (.int .i64 (k+(qF qA.ct xs:Nat))):=qeQ _ xs k (Nat.lt_succ_self _) h0 hk hz
theorem q91 (x:qA) (k:Int) (h0:0≤k) (hk:k+(x.ctV:Nat)≤4611686018427387904) (hz:x.sz≤4194304):Pure Gm 91 [(x.mkV k).enc,.int .i64 k] (.int .i64 (k+(x.ctV:Nat))):=by
  refine Pure.intro [] [] g91 (by kernel_rfl) rfl (by simp [AV.trees,AV.tree,qA.tr]) rfl ?_
  simp only [F91,qL,go_sem,Nat.zero_add]
  refine qa qA.ln ?_
  simp only [go_sem,Nat.zero_add]
  unfold qA.ctV at hk
  rw [qA.sz_eq] at hz
  refine qG (q92 x.Data (k) (by omega) (by omega) (by omega)) ?_
  simp only [go_sem,Nat.zero_add]
  try (rw [show decide (k+((qF ctI x.Data:Nat):Int)<0)=false from decide_eq_false (by omega)];simp only [go_sem,Nat.zero_add])
  refine qG (q348 x.Kids (k+((qF ctI x.Data:Nat):Int)) (by omega) (by omega) (by omega)) ?_
  simp only [go_sem,Nat.zero_add]
  try (rw [show decide (k+((qF ctI x.Data:Nat):Int)+((qF qA.ct x.Kids:Nat):Int)<0)=false from decide_eq_false (by omega)];simp only [go_sem,Nat.zero_add])
  refine qK rfl ?_
  first | rfl | (simp only [qA.ctV,AV.int.injEq,true_and];done) | (simp only [qA.ctV,AV.int.injEq,true_and];omega)
end Go.Ab
namespace Go.Ab
open Go
set_option maxRecDepth 10000
set_option maxHeartbeats 2000000
attribute [local simp] zJ qf j3
theorem qWN {E:Ev} {l:List qB} {ks:List Fr1} {s m:qg} {h:List qC} {Q:qX→VSt→Prop} {k w:Nat} {z v:AV} {e:Env} (hl:v.cells.length=w) (hr:R E (.ops l::ks) ⟨(k,.slice w h.length 0 1 false)::s,m,h++[.row w [v] true]⟩ Q):
    Bsl E (some k) w 1 (fil e w [z] 0 (some v) []) l ks ⟨s,m,h⟩ Q:=by
  rw [qY3 hl,qY2,qWO,qdX];exact hr
theorem VK {E:Ev} {l:List qB} {ks:List Fr1} {s m:qg} {h:List qC} {Q:qX→VSt→Prop} {t:Nat} {x:qA} {n:Nat} {cs:List AV} (h1:cs.length=4) (hr:R E (.ops l::ks) ⟨s,(t,(lay x.enc n).1)::m,h⟩ Q):Lst E t 0 4 (some (.agg cs)) (some (lay x.enc n).1) l ks ⟨s,m,h⟩ Q:=
  qO h1 (by rw [Zl (qA.plx x)];exact qA.ln (x:=x)) (by rw [qA.layE];exact ⟨_,rfl⟩) (by decide) hr
theorem n385 (x:qA):∀(_:x.sz≤1048576),Fresh Gm 385 [x.enc] x.enc:=by
  induction x using qA.ind with
  | _ x ih=>
  intro hz
  have hL:=x.len_sz
  have hse:=x.sz_eq
  refine Fresh.intro [] [] g385 (by kernel_rfl) rfl (by simp [AV.trees,go_sem]) (qA.plx x) ?_
  simp only [XV,qL,go_sem]
  refine qa qA.ln ?_
  simp only [go_sem]
  refine j4 (n401 x.Data (by omega)) ?_
  simp only [qPA,qPB,List.nil_append,List.length_nil,go_sem]
  refine qO (k:=4) (by rfl) (by rfl) (by exact ⟨_,rfl⟩) (by decide) ?_;simp only [go_sem]
  refine Sem.loop (fun i:Nat=>i≤x.Kids.length) (fun i=>(⟨[(15,.lst 4 (x.Kids.map qA.enc) false),(16,.int .i64 (x.Kids.length:Nat)),(17,.int .i64 (i:Nat))],[(1,x.enc),(3,.agg [.int .i64 x.Kind,.int .i64 x.Value,.slice 1 0 0 x.Data.length false,.slice 4 1 0 i false]),(2,.agg [.int .i64 0,.int .i64 0,.nils,.nils])],(qU [.lst 1 (x.Data.map qE) false] 0).2++.row 4 (qU ((x.Kids.take i).map qA.enc) 2).1 true::(qU ((x.Kids.take i).map qA.enc) 2).2⟩:VSt)) (fun i=>x.Kids.length-i) 0 (by kernel_rfl) (Nat.zero_le _) ?_ ?_
  · refine Can.start (w:=4) (ps:=[.lst 1 (x.Data.map qE) false]) (b:=1) (by simp [AV.pls,AV.pl,jW (enc:=qE) (fun _=>rfl)]) (by simp [AV.rowss,AV.rows,Vn]) (by simp [qU,lay,lI]) ?_ ?_
    · exact ⟨⟨_,rfl,.tree (by simp [AV.tree,go_sem])⟩,⟨_,rfl,.tree rfl⟩,⟨_,rfl,.tree rfl⟩,trivial⟩
    · exact ⟨⟨_,rfl,.tree (by simp [go_sem])⟩,⟨_,rfl,.agg rfl (VR2s.cons (.tree rfl) (VR2s.cons (.tree rfl) (VR2s.cons (.slice (qU3 (by omega))) (VR2s.cons (.ph qgG) VR2s.nil)))).2⟩,⟨_,rfl,.tree rfl⟩,trivial⟩
  · intro i hi
    simp only [go_sem]
    refine qD ?_ ?_<;>intro hc<;>simp only [hc,go_sem]
    · have hlt:i<x.Kids.length:=by have:=odT hc;omega
      have hm:=List.getElem_mem hlt
      have hk:=qA.kid_sz hm
      simp only [List.getElem?_map,gEg hlt,Option.map_some,go_sem]
      refine qO (k:=4) (by rfl) (by simp [go_sem]) (qA.isAgg _) (by decide) ?_;simp only [go_sem]
      refine j4 (ih _ hm (by omega)) ?_
      simp only [go_sem]
      refine qWN (w:=4) ((Zl (qA.plx x.Kids[i])).trans qA.ln) ?_
      simp only [go_sem]
      have hA:(qU ((x.Kids.take i).map qA.enc) 2).1.length=i:=by rw [wG];simp;omega
      have hps:(qU [AV.lst 1 (x.Data.map qE) false] 0).2=[.row 1 (x.Data.map qE) true]:=by simp [qU,lay,lI]
      refine jO (len:=i) (el:=(qU ((x.Kids.take i).map qA.enc) 2).1) Je (by rw [hps];rfl) hA (by omega) ?_
      simp only [go_sem]
      simp only [qe (show i<4611686018427387904 by omega)]
      refine qY (i+1) (by omega) (by omega) ?_
      have e:(x.Kids.take (i+1)).map qA.enc=(x.Kids.take i).map qA.enc++[qA.enc x.Kids[i]]:=by
        rw [List.take_succ_eq_append_getElem hlt,List.map_append];rfl
      refine Can.push (w:=4) (ps:=[.lst 1 (x.Data.map qE) false]) (A:=(x.Kids.take i).map qA.enc) (t:=x.Kids[i].enc) (b:=1) (by simp [AV.pls,AV.pl,jW (enc:=qE) (fun _=>rfl)]) (jW qA.plx _) (qA.plx _) (by simp [AV.rowss,AV.rows,Vn]) rfl ?_ ?_
        ⟨⟨_,rfl,.tree (by simp [AV.tree,go_sem])⟩,⟨_,rfl,.tree rfl⟩,⟨_,rfl,.tree rfl⟩,trivial⟩ ⟨⟨_,rfl,.tree (by simp [go_sem])⟩,⟨_,rfl,.agg rfl (VR2s.cons (.tree rfl) (VR2s.cons (.tree rfl) (VR2s.cons (.slice (qUG (by omega))) (VR2s.cons (.slice (qfC.trans ?_)) VR2s.nil)))).2⟩,⟨_,rfl,.tree rfl⟩,trivial⟩
      · rw [hps];simp only [jo,List.cons_append,List.nil_append,List.set_cons_zero,List.set_cons_succ,List.append_assoc,List.length_cons,List.length_append,List.length_nil,Nat.zero_add,Nat.add_comm 1,Nat.reduceAdd,show AV.rowss ((x.Kids.take i).map qA.enc)+1+1=2+AV.rowss ((x.Kids.take i).map qA.enc) by omega]
      · rw [e]
      · rw [hps];simp only [List.length_append,List.length_cons,List.length_nil,jo,qo];congr 2;omega
    · obtain rfl:i=x.Kids.length:=by have:=odF hc;omega
      rw [List.take_length]
      refine qO (k:=4) (by rfl) (by rfl) (by exact ⟨_,rfl⟩) (by decide) ?_;simp only [go_sem]
      exact Jb (t:=x.enc) (pre:=[]) (post:=[]) (qA.plx x) (by simp [zW,qA.layE,qo,AV.rows,Vn]) (by simp [qA.layE,lay,qU,qo,lI,AV.rows,Vn])
end Go.Ab
namespace Go.Ab
open Go
set_option maxRecDepth 10000
set_option maxHeartbeats 2000000
attribute [local simp] zJ qf j3
inductive Bel:Int→qA→Prop
  | var {v n:Int} {d:List Int} (h:v<n):Bel n (.mk 1 v d [])
  | node {k v n:Int} {d:List Int} {ks:List qA} (hk:¬k=1) (h:∀(i:Nat) (hi:i<ks.length),Bel (n+qV k i) ks[i]):Bel n (.mk k v d ks)
theorem Bel.kid {n:Int} {x:qA} (h:Bel n x) {i:Nat} (hi:i<x.Kids.length):Bel (n+qV x.Kind i) x.Kids[i]:=by
  cases h with
  | var h=>simp [qA.Kids] at hi
  | node hk h=>exact h i hi
theorem qQS {α:Type} {p:Nat→α→Bool}:∀{xs:List α} {k:Nat},jH p xs k=false→∀(i:Nat) (h:i<xs.length),p (k+i) xs[i]=false
  |[],k,_=>fun i h=>by simp at h
  | x::xs,k,h=>by
    simp only [jH,Bool.or_eq_false_iff] at h
    intro i hi
    cases i with
    | zero=>exact h.1
    | succ i=>have:=qQS h.2 i (by simpa using hi);rw [show k+1+i=k+(i+1) by omega] at this;simpa using this
theorem VN {α β:Type} {f:Nat→α→β}:∀(xs:List α) (k i:Nat) (h:i<xs.length),(zB f xs k)[i]'(by rw [wc];exact h)=f (k+i) xs[i]
  | x::xs,k,0,_=>rfl
  | x::xs,k,i+1,h=>by
    have:=VN (f:=f) xs (k+1) i (by simpa using h)
    simp only [zB,List.getElem_cons_succ]
    rw [this,show k+1+i=k+(i+1) by omega]
theorem qWJ:∀(x:qA) (n:Int),x.ok=true→x.above n=false→Bel n x:=qA.ind fun x ih n ho h=>by
  rw [x.above_eq] at h
  have e:=x.eta
  by_cases h1:x.Kind=1
  · rw [if_pos h1] at h
    rw [Qw ho h1,h1] at e
    rw [←e]
    exact .var (by have:=odF h;omega)
  · rw [if_neg h1] at h
    rw [←e]
    exact .node h1 fun i hi=>ih _ (List.getElem_mem hi) _ (qv ho (List.getElem_mem hi)) (by have:=qQS h i hi;rwa [Nat.zero_add] at this)
theorem qA.high_le (x:qA) (m:Int) (h1:x.Kind=1→x.Value≤m) (h0: -1≤m) (hk:∀y∈x.Kids,y.high≤m):x.high≤m:=by
  rw [x.high_eq]
  have:∀(ks:List qA) (n:Int),n≤m→(∀y∈ks,y.high≤m)→ks.foldl (fun n y=>if y.high<n then n else y.high) n≤m:=by
    intro ks
    induction ks with
    | nil=>intro n hn _;exact hn
    | cons a ks ih=>
      intro n hn h
      rw [List.foldl_cons]
      refine ih _ ?_ fun y hy=>h y (by simp [hy])
      split
      · exact hn
      · exact h a (by simp)
  refine this _ _ ?_ hk
  split
  · rename_i h;exact h1 h
  · exact h0
theorem Bel.high {n:Int} {x:qA} (h:Bel n x):0≤n→x.high<n+x.dep:=by
  induction h with
  | @var v n d h=>
    intro hn
    have hd:=(qA.mk 1 v d []).dep_eq
    have:=(qA.mk 1 v d []).high_le (n+(qA.mk 1 v d []).dep-1) (fun _=>by show v≤_;omega) (by omega) (fun y hy=>by simp [qA.Kids] at hy)
    omega
  | @node k v n d ks hk h ih=>
    intro hn
    have hd:=(qA.mk k v d ks).dep_eq
    have:=(qA.mk k v d ks).high_le (n+(qA.mk k v d ks).dep-1) (fun h1=>absurd h1 hk) (by omega) (fun y hy=>by
      obtain ⟨i,hi,rfl⟩:=List.getElem_of_mem hy
      have hkd:=qA.dep_kid hy
      have hb:=jt k i
      have:=ih i hi (by omega)
      simp only [qA.Kids] at hkd⊢
      omega)
    omega
theorem Bel.shift {m:Int} {x:qA} (h:Bel m x):∀(a f n:Int),m=n+f→0≤a→0≤n→Bel (n+a+f) (x.shift a f):=by
  induction h with
  | @var v m d h=>
    intro a f n hm ha hn
    rw [qA.shift_eq]
    refine .var ?_
    show wC 1 v a f<_
    unfold wC
    split<;>omega
  | @node k v m d ks hk h ih=>
    intro a f n hm ha hn
    rw [qA.shift_eq]
    refine .node hk fun i hi=> ?_
    have hi2:i<ks.length:=by rw [wc] at hi;exact hi
    simp only [qA.Kids]
    rw [VN _ _ _ hi2,Nat.zero_add]
    have:=ih i hi2 a (f+qV k i) n (by omega) ha hn
    show Bel (n+a+f+qV k i) (qA.shift a ks[i] (f+qV k i))
    rw [show n+a+f+qV k i=n+a+(f+qV k i) by omega]
    exact this
theorem Bel.put {m:Int} {x arg:qA} (h:Bel m x):∀(d n:Int),m=n+1+d→0≤d→0≤n→Bel n arg→Bel (n+d) (qA.put arg x d):=by
  induction h with
  | @var v m d h=>
    intro e n hm he hn ha
    rw [qA.put_eq,if_pos (by rfl)]
    by_cases hv:v=e
    · rw [if_pos (by exact hv)]
      have:=ha.shift e 0 n (by omega) he hn
      rwa [Int.add_zero] at this
    · rw [if_neg (by exact hv)]
      refine .var ?_
      show wg v e<_
      unfold wg
      split<;>omega
  | @node k v m d ks hk h ih=>
    intro e n hm he hn ha
    rw [qA.put_eq,if_neg (by exact hk)]
    refine .node hk fun i hi=> ?_
    have hi2:i<ks.length:=by rw [wc] at hi;exact hi
    have hb:=jt k i
    simp only [qA.Kids]
    rw [VN _ _ _ hi2,Nat.zero_add]
    have:=ih i hi2 (e+qV k i) n (by omega) (by omega) hn ha
    show Bel (n+e+qV k i) (qA.put arg ks[i] (e+qV k i))
    rw [show n+e+qV k i=n+(e+qV k i) by omega]
    exact this
theorem qSO {body arg:qA} {n:Int} (hn:0≤n∧n≤80) (hb:Bel (n+1) body) (ha:Bel n arg) (ho:body.ok=true):
    (jC body arg=0∧jV body arg=qA.put arg body 0)∨(jC body arg=4∧(qA.put arg body 0).fits=false):=by
  have h1:=Vg arg body 0 ho
  have h2:=(hb.put (arg:=arg) 0 n (by omega) (by omega) hn.1 ha).high (by omega)
  unfold jV jC qA.fits
  by_cases c1:400<(body.size:Int)+body.count 0*((arg.size:Int)-1)
  · rw [if_pos c1]
    exact .inr ⟨rfl,by rw [decide_eq_false (p:=(qA.put arg body 0).size≤400) (by omega),Bool.false_and]⟩
  rw [if_neg c1]
  by_cases c2:80<(qA.put arg body 0).dep
  · rw [if_pos c2]
    exact .inr ⟨rfl,by rw [decide_eq_false (p:=(qA.put arg body 0).dep≤80) (by omega),Bool.and_false]⟩
  rw [if_neg c2,if_neg (by omega),if_pos rfl]
  exact .inl ⟨rfl,rfl⟩
end Go.Ab
namespace Go.Ab
open Go
set_option maxRecDepth 10000
set_option maxHeartbeats 2000000
attribute [local simp] zJ qf j3
theorem Bel.sub {n:Int} {x y:qA} {i:Nat} (h:Bel n x) (hy:x.Kids[i]?=some y) (hb:qV x.Kind i=0):Bel n y:=by
  obtain ⟨hi,rfl⟩:=List.getElem?_eq_some_iff.1 hy
  have:=h.kid hi
  rwa [hb,Int.add_zero] at this
theorem Bel.sub1 {n:Int} {x y:qA} {i:Nat} (h:Bel n x) (hy:x.Kids[i]?=some y) (hb:qV x.Kind i=1):Bel (n+1) y:=by
  obtain ⟨hi,rfl⟩:=List.getElem?_eq_some_iff.1 hy
  have:=h.kid hi
  rwa [hb] at this
theorem qbV {a:qA} {L:List Int} {l n:Int} (ho:a.ok=true) (hb:Bel n a) (h:(zA a L l).2=0):Bel n (zA a L l).1:=by
  have hk:a.Kind=6→Bel n (zL a):=fun h6=>by
    obtain ⟨k,hk⟩:=z7 ((qx ho).2 (by omega))
    have:zL a=k:=by unfold zL;rw [hk];rfl
    rw [this]
    exact hb.sub (i:=0) (by rw [hk];rfl) (by unfold qV;rw [if_neg (by omega)])
  unfold zA at h⊢
  split
  · exact hb
  split
  · exact hb
  split
  · rename_i h6;exact hk h6.1
  split
  · exact hb
  split
  · rename_i h6;exact hk h6.2
  · rw [if_neg (by assumption),if_neg (by assumption),if_neg (by assumption),if_neg (by assumption),if_neg (by assumption)] at h;cases h
theorem qe3 {x a c:qA} (h3:x.Kind=3) (hK:x.Kids=[a,c]):qW x=if a.Kind=11 then 4 else if a.Kind=2 then (if c.Kind=2 then 2 else if c.Kind=11 then 4 else 0) else 0:=by
  unfold qW;rw [hK];simp only [];rw [if_neg (by omega),if_pos h3]
theorem qWE {b:qI} {I:List Bool} {x a c:qA} {l:Int} (h3:x.Kind=3) (hK:x.Kids=[a,c]):
    at1 b I x a c l=if a.Kind=2∧c.Kind=2 then (.mk 2 (opI x.Value a.Value c.Value) [] [],1) else (qR,0):=by
  have hr:=qe3 h3 hK
  have h5:¬x.Kind=5:=by omega
  have h7:¬x.Kind=7:=by omega
  unfold at1
  by_cases hc:a.Kind=2∧c.Kind=2
  · rw [if_neg (by omega),if_pos hc.1,if_pos hc.2] at hr
    rw [if_pos hr,if_pos hc]
  · have hr2:qW x=4∨qW x=0:=by
      rw [hr]
      by_cases e:a.Kind=11
      · rw [if_pos e];exact .inl rfl
      rw [if_neg e]
      by_cases e2:a.Kind=2
      · rw [if_pos e2,if_neg (fun h=>hc ⟨e2,h⟩)]
        split
        · exact .inl rfl
        · exact .inr rfl
      · rw [if_neg e2];exact .inr rfl
    have n2:¬qW x=2:=by omega
    have n3:¬qW x=3:=by omega
    have n1:¬qW x=1:=by omega
    rw [if_neg n2,if_neg n3,if_neg n1,if_neg (fun h=>h5 h.1),if_neg (fun h=>h7 h.1),if_neg hc]
theorem qe5 {x a:qA} {ys:List qA} (h:x.Kind=10∨x.Kind=9) (hK:x.Kids=a::ys):qW x=3∨qW x=4∨qW x=0:=by
  unfold qW;rw [hK];simp only []
  rw [if_neg (by omega),if_neg (by omega)]
  split
  · split
    · exact .inl rfl
    · split
      · exact .inr (.inl rfl)
      · exact .inr (.inr rfl)
  · split
    · split
      · exact .inl rfl
      · split
        · exact .inr (.inl rfl)
        · exact .inr (.inr rfl)
    · exact .inr (.inr rfl)
def ZJ (o:qA×Int) (p:jG):Prop:=(p.2.2=0∧p.1=o.1)∨(p.2.2=4∧o.1.fits=false∧¬o.2=0)
theorem qWF {b:qI} {lim:Int} {x:qA} {l n:Int} (ho:x.ok=true) (hf:x.refs b.Defs.length=true) (hn:0≤n∧n≤80) (hb:Bel n x):
    ZJ (atC b (zP b lim b.Defs.length) x l) (zI b (zo b) lim x l):=by
  classical
  have hrule:=qN8 (lim:=lim) (l:=l) ho hf
  unfold ZJ
  cases hK:x.Kids with
  | nil=>
    left
    unfold atC zI;rw [hK];exact ⟨rfl,rfl⟩
  | cons a ys=>
  have ham:a∈x.Kids:=by rw [hK];simp
  rw [J2 hK] at hrule⊢
  --the implementation's rule tells the case
  by_cases h3:x.Kind=3
  · left
    obtain ⟨a',c,hK'⟩:=zu ((qx ho).1 (.inl h3))
    rw [hK'] at hK;cases hK
    have er:zI b (zo b) lim x l=if a.Kind=2∧c.Kind=2 then (.mk 2 (opI x.Value a.Value c.Value) [] [],1,0) else (qR,0,0):=by
      unfold zI;rw [hK'];simp only [];rw [if_pos h3];rfl
    have ea:=qWE (b:=b) (I:=zP b lim b.Defs.length) (l:=l) h3 hK'
    rw [show ([c].headD qR)=c from rfl,ea,er]
    by_cases hc:a.Kind=2∧c.Kind=2
    · rw [if_pos hc,if_pos hc];exact ⟨rfl,rfl⟩
    · rw [if_neg hc,if_neg hc];exact ⟨rfl,rfl⟩
  by_cases h9:x.Kind=10∨x.Kind=9
  · left
    unfold at1 zI
    rw [hK]
    simp only []
    rw [if_neg h3,if_pos h9]
    have hq:=qe5 h9 hK
    have hn2:¬qW x=2∧¬qW x=1:=by clear hrule;omega
    have h5:¬x.Kind=5:=by clear hrule;omega
    have h7:¬x.Kind=7:=by clear hrule;omega
    rw [if_neg hn2.1]
    by_cases r3:qW x=3
    · rw [if_pos r3,if_pos r3];exact ⟨rfl,rfl⟩
    · rw [if_neg r3,if_neg r3,if_neg hn2.2,if_neg (fun h=>h5 h.1),if_neg (fun h=>h7 h.1)];exact ⟨rfl,rfl⟩
  by_cases h5:x.Kind=5
  · obtain ⟨a',c,hK'⟩:=zu ((qx ho).1 (by omega))
    rw [hK'] at hK;cases hK
    have hr:qW x=if a.Kind=4 then 1 else if a.Kind=11 then 4 else 0:=by unfold qW;rw [hK'];simp only [];rw [if_pos h5]
    by_cases h4:a.Kind=4
    · rw [if_pos h4] at hr
      obtain ⟨k,hk⟩:=z7 ((qx (qv ho ham)).2 (.inl h4))
      have hk0:zL a=k:=by unfold zL;rw [hk];rfl
      have hba:Bel n a:=hb.sub (i:=0) (by rw [hK'];rfl) (by unfold qV;rw [if_neg (by omega)])
      have hbc:Bel n c:=hb.sub (i:=1) (by rw [hK'];rfl) (by unfold qV;rw [if_neg (by omega)])
      have hbk:Bel (n+1) k:=hba.sub1 (i:=0) (by rw [hk];rfl) (by unfold qV;rw [if_pos (.inl h4)])
      have hko:=qv (qv ho ham) (show k∈a.Kids by rw [hk];simp)
      have ea:at1 b (zP b lim b.Defs.length) x a c l=(qA.put c k 0,3):=by
        unfold at1;rw [if_neg (by omega),if_neg (by omega),if_pos hr,hk0]
      have er:zI b (zo b) lim x l=(jV k c,3,jC k c):=by
        unfold zI;rw [hK'];simp only [];rw [if_neg h3,if_neg h9,if_pos h5,if_pos h4,hk0];rfl
      rw [show ([c].headD qR)=c from rfl,ea,er]
      rcases qSO hn hbk hbc hko with ⟨i1,i2⟩ | ⟨i1,i2⟩
      · exact .inl ⟨i1,i2⟩
      · exact .inr ⟨i1,i2,by show ¬(3:Int)=0;decide⟩
    · left
      have hrr:¬qW x=2∧¬qW x=3∧¬qW x=1:=by rw [hr,if_neg h4];split<;>omega
      have e1:zI b (zo b) lim x l=if wZ b (zo b) lim x l=true then (zr (b.Defs.getD a.Value.toNat qR) c,5,0) else (qR,0,0):=by
        unfold zI;rw [hK'];simp only [];rw [if_neg h3,if_neg h9,if_pos h5,if_neg h4];rfl
      have e2:at1 b (zP b lim b.Defs.length) x a c l=if x.Kind=5∧a.Kind=11∧(zP b lim b.Defs.length).getD a.Value.toNat false=true∧l+(b.Defs.getD a.Value.toNat qR).boxes≤8 then (zr (b.Defs.getD a.Value.toNat qR) c,5) else (qR,0):=by
        unfold at1;rw [if_neg hrr.1,if_neg hrr.2.1,if_neg hrr.2.2]
        split
        · rfl
        · rw [if_neg (by omega)]
      rw [show ([c].headD qR)=c from rfl] at hrule⊢
      rw [e1,e2] at hrule⊢
      by_cases q:wZ b (zo b) lim x l=true
      · rw [if_pos q] at hrule⊢
        split at hrule
        · rename_i q2;rw [if_pos q2];exact ⟨rfl,rfl⟩
        · cases hrule
      · rw [if_neg q] at hrule⊢
        split at hrule
        · cases hrule
        · rename_i q2;rw [if_neg q2];exact ⟨rfl,rfl⟩
  have hr:qW x=0:=Qz h5 h3 (fun h=>h9 (.inr h)) (fun h=>h9 (.inl h))
  by_cases h7:x.Kind=7
  · obtain ⟨a',c,hK'⟩:=zu ((qx ho).1 (by omega))
    rw [hK'] at hK;cases hK
    have ea:at1 b (zP b lim b.Defs.length) x a c l=if (jD x c l).2=true then ((jD x c l).1,4) else (qR,0):=by
      unfold at1;rw [if_neg (by omega),if_neg (by omega),if_neg (by omega),if_neg (fun h=>h5 h.1)]
      by_cases e:(jD x c l).2=true
      · rw [if_pos ⟨h7,e⟩,if_pos e]
      · rw [if_neg (fun h=>e h.2),if_neg e]
    have er:zI b (zo b) lim x l=if (zQ x l).2=0 then (jV c (zQ x l).1,4,jC c (zQ x l).1) else (qR,0,0):=by
      unfold zI;rw [hK'];simp only [];rw [if_neg h3,if_neg h9,if_neg h5,if_pos h7];rfl
    rw [show ([c].headD qR)=c from rfl,ea,er]
    unfold jD
    by_cases h0:(zQ x l).2=0
    · rw [if_pos h0,if_pos h0,if_pos rfl]
      have hba:Bel n a:=hb.sub (i:=0) (by rw [hK'];rfl) (by unfold qV;rw [if_neg (by omega)])
      have hbc:Bel (n+1) c:=hb.sub1 (i:=1) (by rw [hK'];rfl) (by unfold qV;rw [if_pos (.inr ⟨h7,rfl⟩)])
      have e:zQ x l=zA a (c.levels 0 l) l:=by unfold zQ;rw [hK']
      have hbl:=qbV (qv ho ham) hba (by rw [←e];exact h0)
      rw [←e] at hbl
      have hco:=qv ho (show c∈x.Kids by rw [hK'];simp)
      rcases qSO hn hbc hbl hco with ⟨i1,i2⟩ | ⟨i1,i2⟩
      · exact .inl ⟨i1,i2⟩
      · exact .inr ⟨i1,i2,by show ¬(4:Int)=0;decide⟩
    · rw [if_neg h0,if_neg h0,if_neg (by decide)]
      exact .inl ⟨rfl,rfl⟩
  · left
    unfold at1 zI
    rw [hK]
    simp only []
    have n2:¬qW x=2:=by omega
    have n3:¬qW x=3:=by omega
    have n1:¬qW x=1:=by omega
    rw [if_neg h3,if_neg h9,if_neg h5,if_neg h7,if_neg n2,if_neg n3,if_neg n1,if_neg (fun h=>h5 h.1),if_neg (fun h=>h7 h.1)]
    exact ⟨rfl,rfl⟩
theorem qY8 {k v:Int} {d:List Int} {ks:List qA} {y:qA} (hy:y∈ks) (h:y.fits=false):(qA.mk k v d ks).fits=false:=by
  have h1:=zV (f:=qA.size) hy
  have h2:=(qA.mk k v d ks).size_eq
  have h3:=qA.dep_kid (x:=qA.mk k v d ks) (y:=y) hy
  unfold qA.fits at h⊢
  simp only [Bool.and_eq_false_iff,decide_eq_false_iff_not] at h⊢
  simp only [qA.Kids] at h2
  omega
theorem qSB {x:qA} {f:qA→Int→qA×Int} {g:qA→Int→jG} {l:Int}:∀(n i:Nat),i+n=x.Kids.length→(∀(j:Nat) (h:j<x.Kids.length),ZJ (f x.Kids[j] l) (g x.Kids[j] l)∧(f x.Kids[j] l).2=(g x.Kids[j] l).2.1)→ZJ (wX x ((x.Kids.drop i).map f) i l) (j8 x ((x.Kids.drop i).map g) i l)
  | 0,i,h,_=>by
    rw [show x.Kids.drop i=[] from List.drop_eq_nil_of_le (by omega)]
    exact .inl ⟨rfl,rfl⟩
  | n+1,i,h,hs=>by
    have hlt:i<x.Kids.length:=by omega
    rw [qOZ hlt,Zh hlt]
    obtain ⟨h1,h2⟩:=hs i hlt
    by_cases h0:(g x.Kids[i] l).2.1=0
    · rw [if_pos h0,if_pos (by omega)]
      exact qSB n (i+1) (by omega) hs
    · rw [if_neg h0,if_neg (by omega)]
      rcases h1 with ⟨q1,q2⟩ | ⟨q1,q2,q3⟩
      · exact .inl ⟨q1,by rw [q2]⟩
      · exact .inr ⟨q1,qY8 (List.mem_of_getElem? (List.getElem?_set_self hlt)) q2,q3⟩
theorem qgL {b:qI} {lim:Int}:∀(x:qA) (l n:Int),x.ok=true→x.refs b.Defs.length=true→0≤n→n+x.dep≤80→Bel n x→ZJ (jQ b (zP b lim b.Defs.length) x l) (jn b (zo b) lim x l):=qA.ind fun x ih l n ho hf hn hd hb=>by
  rw [Vu,Zk]
  have e:=qN8 (lim:=lim) (l:=l) ho hf
  by_cases h0:(zI b (zo b) lim x l).2.1=0
  · rw [if_pos h0,if_pos (by omega)]
    refine qSB x.Kids.length 0 (by omega) fun j hj=> ?_
    have hm:=List.getElem_mem hj
    have hkd:=qA.dep_kid hm
    have hbi:=jt x.Kind j
    exact ⟨ih _ hm _ _ (qv ho hm) (wy hf hm) (by omega) (by omega) (hb.kid hj),qU5 _ _ (qv ho hm) (wy hf hm)⟩
  · rw [if_neg h0,if_neg (by omega)]
    exact qWF ho hf ⟨hn,by omega⟩ hb
noncomputable def Q1 (b:qI) (c:qA) (lim:Int):jG:=
  if zR b c lim 0=0 then (let o:=j0 b (zo b) lim c;if o.2.2=0 then (if o.2.1=0 then (qR,0,3) else (o.1,o.2.1,0)) else (qR,0,o.2.2))
  else (qR,0,zR b c lim 0)
theorem qgM (b:qI) (c:qA) (lim:Int):wh b c lim=Q1 b c lim:=by
  unfold wh Q1
  by_cases h0:zR b c lim 0=0
  · rw [if_pos h0,if_pos h0]
    obtain ⟨hb,hv,hf,hcl,_⟩:=Vt h0
    have ho:=(zG hv).1
    have hr:=qU5 (lim:=lim) c 0 ho hf
    have hd:=(zG hv).2.1
    have hab:c.above 0=false:=by
      unfold qA.closed at hcl
      simp only [Bool.and_eq_true,Bool.not_eq_true'] at hcl
      exact hcl.2
    have hs:=qgL (lim:=lim) c 0 0 ho hf (by omega) (by omega) (qWJ c 0 ho hab)
    unfold j0
    simp only []
    generalize jn b (zo b) lim c 0=p at hr hs⊢
    generalize jQ b (zP b lim b.Defs.length) c 0=o at hr hs⊢
    rcases hs with ⟨h1,h2⟩ | ⟨h1,h2,h3⟩
    · rw [h1,h2,←hr]
      by_cases hz:o.2=0
      · simp [hz]
      · by_cases hft:o.1.fits=false
        · simp [hz,hft]
        · simp [hz,hft]
    · rw [h1,if_neg h3,if_pos h2];simp
  · rw [if_neg h0,if_neg h0]
end Go.Ab
namespace Go.Ab
open Go
set_option maxRecDepth 10000
set_option maxHeartbeats 2000000
attribute [local simp] zJ qf j3
theorem qTB {α:Type} {f:Nat→α→α}:∀{xs:List α} {k:Nat},(∀x∈xs,∀k,f k x=x)→zB f xs k=xs
  |[],_,_=>rfl
  | x::xs,k,h=>by simp only [zB,h x (by simp) k,qTB (xs:=xs) fun y hy=>h y (by simp [hy])]
theorem qgA:∀(x:qA) (f:Int),x.shift 0 f=x:=qA.ind fun x ih f=>by
  rw [qA.shift_eq,qTB fun y hy k=>ih y hy _]
  have:wC x.Kind x.Value 0 f=x.Value:=by unfold wC;split<;>omega
  rw [this,qA.eta]
theorem qg5 {h:List qC} {a b:Int}:J0 (some [.agg [.int .i64 0,.int .i64 0,.nils,.nils],.int .i64 a,.int .i64 b]) h (zZ (qR,a,b)):=by
  have e:lay (zZ (qR,a,b)) 0=(.tup [.agg [.int .i64 0,.int .i64 0,.slice 1 0 0 0 false,.slice 4 1 0 0 false],.int .i64 a,.int .i64 b],[.row 1 [] true,.row 4 [] true]):=by
    simp [zZ,lay,qU,qA.layE,qR,qA.Kind,qA.Value,qA.Data,qA.Kids,AV.rows,AV.rowss]
  refine ⟨[none,none],rfl,by rw [e];exact ⟨.ph,.ph,trivial⟩, ?_⟩
  rw [e]
  have q:VR2 [none,none] (.agg [.int .i64 0,.int .i64 0,.nils,.nils]) (.agg [.int .i64 0,.int .i64 0,.slice 1 0 0 0 false,.slice 4 1 0 0 false]):=
    .agg rfl (VR2s.cons (.tree rfl) (VR2s.cons (.tree rfl) (VR2s.cons (.ph rfl) (VR2s.cons (.ph rfl) VR2s.nil)))).2
  exact .tup rfl (VR2s.cons q (VR2s.cons (.tree rfl) (VR2s.cons (.tree rfl) VR2s.nil))).2
theorem z9 (x:qA) (n:Nat):(lay x.enc n).1.part 0 (some 4)=some (lay x.enc n).1:=qS1 (qA.plx x) ⟨_,qA.enc_eq x⟩ qA.ln
theorem Y6 {e:AV} {k k2:IntKind} {n n2:Int} {m:Nat}:lay (.tup [e,.int k n,.int k2 n2]) m=(.tup [(lay e m).1,.int k n,.int k2 n2],(lay e m).2):=by simp [lay,qU]
theorem qQF {b:qI} {c:qA} {lim k:Int} {h:List qC} (e:wh b c lim=(qR,0,k)):J0 (some [.agg [.int .i64 0,.int .i64 0,.nils,.nils],.int .i64 0,.int .i64 k]) h (zZ (wh b c lim)):=by
  rw [e];exact qg5
theorem n175 {b:qI} {c:qA} {lim:Int} (hbz:b.sz≤1048576) (hcz:c.sz≤1048576):Fresh Gm 175 [b.enc,c.enc,.int .i64 lim] (zZ (wh b c lim)):=by
  refine Fresh.intro [] [] g175 (by kernel_rfl) rfl (by simp [AV.trees,AV.tree,go_sem]) (by simp [zZ,AV.pl,AV.pls,qA.plx]) ?_
  simp only [XP,qL,go_sem]
  refine qa rfl ?_;simp only [go_sem]
  refine qa qA.ln ?_
  simp only [go_sem]
  refine qG (c493 hbz hcz) ?_
  simp only [go_sem]
  refine qD ?_ ?_<;>intro hc<;>simp only [hc,go_sem]
  · have h0:¬zR b c lim 0=0:=by simpa using hc
    refine qO (k:=4) (by rfl) (by rfl) (by exact ⟨_,rfl⟩) (by decide) ?_;simp only [go_sem]
    exact qQF (by unfold wh;rw [if_neg h0])
  have h0:zR b c lim 0=0:=by simpa using hc
  obtain ⟨hb,hv,hf,hcl,_⟩:=Vt h0
  have hst:=qgF h0
  have hs:wh b c lim=(if (jQ b (zP b lim b.Defs.length) c 0).2=0 then (qR,0,3) else if (jQ b (zP b lim b.Defs.length) c 0).1.fits=false then (qR,0,4) else ((jQ b (zP b lim b.Defs.length) c 0).1,(jQ b (zP b lim b.Defs.length) c 0).2,0)):=by unfold wh;rw [if_pos h0]
  have hsv:Jq b c lim 0=.ept (wM b lim (zP b lim b.Defs.length)) 0:=by unfold Jq;rw [if_pos h0]
  rw [hsv]
  have hcz2:=(zG hv).2.2.2.1
  have hsz:=qU6 (I:=zP b lim b.Defs.length) hb c 0 hv
  refine qG (c494 c b lim _ 0 hb hbz hv hf qO9 hst (by omega)) ?_
  generalize jQ b (zP b lim b.Defs.length) c 0=o at hs hsz⊢
  have hds:=o.1.dep_size
  have hss:=o.1.size_sz
  simp only [go_sem]
  refine qO (k:=4) (by rfl) (by simp [go_sem]) (qA.isAgg _) (by decide) ?_;simp only [go_sem]
  refine qD ?_ ?_<;>intro hc<;>simp only [hc,go_sem]
  · refine qO (k:=4) (by rfl) (by rfl) (by exact ⟨_,rfl⟩) (by decide) ?_;simp only [go_sem]
    exact qQF (by rw [hs,if_pos (by simpa using hc)])
  have h1:¬o.2=0:=by simpa using hc
  refine qG (c495 (by omega) (by omega) (by omega)) ?_
  simp only [go_sem]
  refine qD ?_ ?_<;>intro hc<;>simp only [hc,go_sem]
  · refine qO (k:=4) (by rfl) (by rfl) (by exact ⟨_,rfl⟩) (by decide) ?_;simp only [go_sem]
    exact qQF (by rw [hs,if_neg h1,if_pos (by simpa using hc)])
  have h2:¬o.1.fits=false:=by simpa using hc
  refine j4 (n385 o.1 (by omega)) ?_
  simp only [go_sem]
  refine VK rfl ?_
  simp only [z9,go_sem]
  rw [hs,if_neg h1,if_neg h2]
  exact Jb (t:=zZ (o.1,o.2,0)) (pre:=[]) (post:=[]) (by simp [zZ,AV.pl,AV.pls,qA.plx]) (by simp [zW,zZ,Y6]) (by simp [zZ,Y6])
theorem qeG {b:qI} {c:qA} {lim:Int}:(wh b c lim).1.sz≤5*400+804001:=by
  have hz:=WI
  unfold wh
  split
  · rename_i h0
    obtain ⟨hb,hv,hf,hcl,_⟩:=Vt h0
    have hcz2:=(zG hv).2.2.2.1
    have hsz:=qU6 (I:=zP b lim b.Defs.length) hb c 0 hv
    simp only []
    split
    · show qR.sz≤_;omega
    split
    · show qR.sz≤_;omega
    · show (jQ _ _ _ _).1.sz≤_;omega
  · show qR.sz≤_;omega
theorem mkK {k v:Int} {d:List Int} {ks:List qA}:(qA.mk k v d ks).Kind=k:=rfl
theorem mkVl {k v:Int} {d:List Int} {ks:List qA}:(qA.mk k v d ks).Value=v:=rfl
theorem qf9 {m:Int}:∀(x:qA) (a f:Int),0≤a→x.vb m=true→(x.shift a f).vb (m+a)=true:=qA.ind fun x ih a f ha h=>by
  rw [qA.shift_eq,qA.vb_eq]
  simp only [mkK,mkVl,qA.mk_kids,Bool.and_eq_true,Bool.or_eq_true,Bool.not_eq_true',decide_eq_false_iff_not]
  refine ⟨?_,qPK fun y hy k=>ih y hy a _ ha (WG h hy)⟩
  by_cases hk:x.Kind=1
  · right
    have:=V0 h hk
    unfold wC inI
    simp only [Bool.and_eq_true,decide_eq_true_eq]
    split<;>omega
  · exact .inl (decide_eq_false hk)
theorem qeP {m M:Int} {arg:qA} (ha:arg.vb m=true):∀(x:qA) (d:Int),0≤d→m+d+x.dep≤M→x.vb m=true→(qA.put arg x d).vb M=true:=qA.ind fun x ih d hd hM h=>by
  have hdp:=x.dep_eq
  rw [qA.put_eq]
  by_cases hk:x.Kind=1
  · rw [if_pos hk]
    by_cases hv:x.Value=d
    · rw [if_pos hv]
      exact WH (by omega) _ (qf9 arg d 0 hd ha)
    · rw [if_neg hv,qA.vb_eq]
      have:=V0 h hk
      simp only [mkK,mkVl,qA.mk_kids,List.all_nil,Bool.and_true,Bool.or_eq_true,Bool.not_eq_true',decide_eq_false_iff_not]
      right
      unfold wg inI
      simp only [Bool.and_eq_true,decide_eq_true_eq]
      split<;>omega
  · rw [if_neg hk,qA.vb_eq]
    simp only [mkK,mkVl,qA.mk_kids,Bool.and_eq_true,Bool.or_eq_true,Bool.not_eq_true',decide_eq_false_iff_not]
    refine ⟨.inl (decide_eq_false hk), ?_⟩
    rw [List.all_eq_true]
    intro y hy
    obtain ⟨j,hj,rfl⟩:=List.getElem_of_mem hy
    have hj2:j<x.Kids.length:=by rw [wc] at hj;exact hj
    rw [VN _ _ _ hj2]
    have hm:=List.getElem_mem hj2
    have hkd:=qA.dep_kid hm
    have hb:=jt x.Kind (0+j)
    exact ih _ hm _ (by omega) (by omega) (WG h hm)
theorem qQV {f a:qA} {m:Int} (hf:f.vb m=true) (ha:a.vb m=true):(zr f a).vb m=true:=by
  rw [qA.vb_eq];simp [zr,qA.Kind,qA.Value,qA.Kids,hf,ha]
theorem qSD {m:Int}:∀(as:List qA) (f:qA),f.vb m=true→(∀a∈as,a.vb m=true)→(as.foldl zr f).vb m=true
  |[],f,h,_=>h
  | a::as,f,h,ha=>qSD as (zr f a) (qQV h (ha a (by simp))) fun y hy=>ha y (by simp [hy])
theorem qPF {k v m:Int} {d:List Int} (hk:¬k=1):(qA.mk k v d []).vb m=true:=by
  rw [qA.vb_eq];simp [qA.Kind,qA.Kids,hk]
theorem w7 {m:Int}:qR.vb m=true:=qPF (by decide)
theorem qSQ {x y:qA} (hx:x.valid=true) (hy:y.valid=true):(jV x y).vb 1000=true:=by
  unfold jV
  split
  · exact qeP (m:=255) (Zv y (zG hy).1) x 0 (by omega) (by have:=(zG hx).2.1;omega) (Zv x (zG hx).1)
  · exact w7
theorem qfF {b:qI} {R:List Int} {lim:Int} {x:qA} {l:Int} (hb:b.ok=true) (hx:x.valid=true):(zI b R lim x l).1.vb 1000=true:=by
  obtain ⟨ho,hd,hs,hz,hv⟩:=zG hx
  have up:∀y:qA,y.valid=true→y.vb 1000=true:=fun y hy=>WH (by omega) _ (Zv y (zG hy).1)
  unfold zI
  split
  · exact w7
  rename_i a ys hK
  have ham:a∈x.Kids:=by rw [hK];simp
  have hys:(ys.headD qR).vb 1000=true:=by
    match ys,hK with
    |[],_=>exact w7
    | c::_,hK=>exact up c (zT hx (by rw [hK];simp))
  split
  · split
    · exact qPF (by decide)
    · exact w7
  split
  · split
    · exact qSD _ _ (qPF (by decide)) fun y hy=>up y (zT (zT hx ham) hy)
    · exact w7
  split
  · rename_i h5
    obtain ⟨a',c,hK'⟩:=zu ((qx ho).1 (by omega))
    rw [hK'] at hK;cases hK
    split
    · rename_i h4
      obtain ⟨k,hk⟩:=z7 ((qx (qv ho ham)).2 (.inl h4))
      have hk0:zL a=k:=by unfold zL;rw [hk];rfl
      rw [hk0]
      exact qSQ (zT (zT hx ham) (by rw [hk];simp)) (zT hx (show c∈x.Kids by rw [hK'];simp))
    split
    · refine qQV ?_ hys
      rw [List.getD_eq_getElem?_getD]
      rcases h:b.Defs[a.Value.toNat]? with _ | d
      · exact w7
      · exact up d ((Jx hb).2 d (List.mem_of_getElem? h)).1
    · exact w7
  split
  · rename_i h7
    split
    · rename_i h0
      obtain ⟨a',c,hK'⟩:=zu ((qx ho).1 (by omega))
      have e:zQ x l=zA a' (c.levels 0 l) l:=by unfold zQ;rw [hK']
      rw [hK'] at hK;cases hK
      have hv:=VI (zT hx ham) (by rw [←e];exact h0)
      rw [←e] at hv
      exact qSQ (zT hx (show c∈x.Kids by rw [hK'];simp)) hv
    · exact w7
  · exact w7
theorem qR8 {x:qA} {f:qA→Int→jG} {l:Int} (hx:x.vb 1000=true) (hf:∀y∈x.Kids,(f y l).1.vb 1000=true):∀(n i:Nat),i+n=x.Kids.length→(j8 x ((x.Kids.drop i).map f) i l).1.vb 1000=true
  | 0,i,h=>by
    rw [show x.Kids.drop i=[] from List.drop_eq_nil_of_le (by omega)]
    exact w7
  | n+1,i,h=>by
    have hlt:i<x.Kids.length:=by omega
    rw [Zh hlt]
    split
    · exact qR8 hx hf n (i+1) (by omega)
    · show (qA.mk _ _ _ _).vb _=true
      rw [qA.vb_eq] at hx⊢
      simp only [Bool.and_eq_true] at hx⊢
      refine ⟨hx.1, ?_⟩
      rw [List.all_eq_true]
      intro y hy
      rcases List.mem_or_eq_of_mem_set hy with h | rfl
      · exact List.all_eq_true.1 hx.2 y h
      · exact hf _ (List.getElem_mem hlt)
theorem qbE {b:qI} {R:List Int} {lim:Int} (hb:b.ok=true):∀(x:qA) (l:Int),x.valid=true→(jn b R lim x l).1.vb 1000=true:=qA.ind fun x ih l hx=>by
  rw [Zk]
  split
  · exact qR8 (WH (by omega) _ (Zv x (zG hx).1)) (fun y hy=>ih y hy _ (zT hx hy)) x.Kids.length 0 (by omega)
  · exact qfF hb hx
theorem c174 {b:qI} {c:qA} {lim:Int} (hbz:b.sz≤1048576) (hcz:c.sz≤1048576):Pure Gm 174 [b.enc,c.enc,.int .i64 lim] (zZ (Q1 b c lim)):=by
  refine Pure.intro [] [] g174 (by kernel_rfl) rfl (by simp [AV.trees,AV.tree,go_sem]) (by simp [AV.tree,AV.trees,go_sem]) ?_
  simp only [XO,qL,go_sem]
  refine jm rfl ?_
  simp only [go_sem]
  refine jm qA.ln ?_
  simp only [go_sem]
  refine jI (vs':=[.ept b.enc 0,.ept c.enc 0,.int .i64 lim,.int .i64 0]) (Cvs.cons (.ptr rfl (by decide) rfl (.refl (by simp [go_sem]))) (Cvs.cons (.ptr rfl (by decide) rfl (.refl (by simp [go_sem]))) (Cvs.cons (.refl rfl) (Cvs.cons (.refl rfl) Cvs.nil)))) (c479 hbz hcz) rfl ?_
  simp only [go_sem]
  refine qD ?_ ?_<;>intro hc<;>simp only [hc,go_sem]
  · refine qO (k:=4) (by rfl) (by rfl) (by exact ⟨_,rfl⟩) (by decide) ?_;simp only [go_sem]
    exact qOY (by unfold Q1;rw [if_neg (by simpa using hc)])
  have h0:zR b c lim 0=0:=by simpa using hc
  obtain ⟨hb,hv,hf,_⟩:=Vt h0
  have hr:Q1 b c lim=(if (j0 b (zo b) lim c).2.2=0 then (if (j0 b (zo b) lim c).2.1=0 then (qR,0,3) else ((j0 b (zo b) lim c).1,(j0 b (zo b) lim c).2.1,0)) else (qR,0,(j0 b (zo b) lim c).2.2)):=by unfold Q1;rw [if_pos h0]
  have hsz:(j0 b (zo b) lim c).1.sz≤c.sz+4100:=qSN hb c 0 hv
  have hvb:(j0 b (zo b) lim c).1.vb 1000=true:=qbE hb c 0 hv
  have hcz2:=(zG hv).2.2.2.1
  refine ZX [0] (vs':=[.ept b.enc 0,.int .i64 lim]) (Cvs.cons (.ptr rfl (by decide) rfl (.refl (by simp [go_sem]))) (Cvs.cons (.refl rfl) Cvs.nil)) (c480 hb hbz) ?_
  simp only [go_sem]
  refine ZX [1] (vs':=[.ept (ju b (zt (qr b) b.Defs.length) lim) 0,.ept c.enc 0]) (Cvs.cons (.refl (by simp [AV.tree,go_sem])) (Cvs.cons (.ptr rfl (by decide) rfl (.refl (by simp [go_sem]))) Cvs.nil)) (c481 hb hbz hv hf (by have:=qT8 (qr b) b.Defs.length;have:=(Jx hb).1;omega)) ?_
  change R _ _ ⟨_::_,_,_⟩ _
  have e37:j0 b (zt (qr b) b.Defs.length) lim c=j0 b (zo b) lim c:=rfl
  rw [e37]
  generalize j0 b (zo b) lim c=o at hr hsz hvb⊢
  have hds:=o.1.dep_size
  have hss:=o.1.size_sz
  simp only [zZ,go_sem]
  refine jM (by simp [go_sem]) rfl rfl qA.putall ?_
  simp only [go_sem]
  refine qD ?_ ?_<;>intro hc<;>simp only [hc,go_sem]
  · refine qO (k:=4) (by rfl) (by rfl) (by exact ⟨_,rfl⟩) (by decide) ?_;simp only [go_sem]
    exact qOY (by rw [hr,if_neg (by simpa using hc)])
  have h1:o.2.2=0:=by simpa using hc
  refine qD ?_ ?_<;>intro hc<;>simp only [hc,go_sem]
  · refine qO (k:=4) (by rfl) (by rfl) (by exact ⟨_,rfl⟩) (by decide) ?_;simp only [go_sem]
    exact qOY (by rw [hr,if_pos h1,if_pos (by simpa using hc)])
  have h2:¬o.2.1=0:=by simpa using hc
  refine ZX [2] (vs':=[.ept o.1.enc 0]) (Cvs.cons (.ptr rfl (by decide) rfl (.refl (by simp [go_sem]))) Cvs.nil) (c387 (by omega) (by omega) (WH (by omega) _ hvb)) ?_
  rw [qgA]
  simp only [go_sem]
  refine qO (k:=4) (by rfl) (by simp [go_sem]) (qA.isAgg _) (by decide) ?_;simp only [go_sem]
  rw [hr,if_pos h1,if_neg h2]
  exact wW rfl
end Go.Ab
namespace Go.Ab
open Go
set_option maxRecDepth 10000
set_option maxHeartbeats 2000000
attribute [local simp] zJ qf j3
theorem qSW (x:qA) (k:Int) (n:Nat):(lay (x.mkV k).enc n).1=(lay x.enc n).1:=by
  rw [qA.layE,qA.layE]
  simp only [qA.mkVK,qA.mkVV,qA.mkVD,qA.mkVC,wv,AV.rows,zd mkI ctI (enc:=qE) (fun _ _=>rfl)]
theorem z8 (x:qI) (n:Nat):(lay x.enc n).1.part 0 (some 1)=some (lay x.enc n).1:=qS1 (qI.plx x) ⟨_,rfl⟩ rfl
theorem qbQ (x:qI) (n:Nat):(lay x.enc n).1.cells.length=1:=by rw [Zl (qI.plx x)];rfl
theorem qbP (x:qI) (n:Nat):∃cs,(lay x.enc n).1=.agg cs:=⟨_,congrArg Prod.fst (qI.layE x n)⟩
theorem c22 {b:qI} {c:qA} {lim:Int} (hb:b.bd) (hx:c.bd):Pure Gm 22 [b.enc,c.enc,.int .i64 lim] (.bool true):=by
  refine Pure.intro [] [] g22 (by kernel_rfl) rfl (by simp [AV.trees,AV.tree,go_sem]) rfl ?_
  simp only [F22,qL,go_sem]
  refine qa rfl ?_;simp only [go_sem]
  refine qa qA.ln ?_
  simp only [go_sem]
  refine qG (c79 b hb 1048576 (by omega)) ?_
  simp only [go_sem]
  refine qD ?_ ?_<;>intro hc<;>simp only [hc,go_sem]
  · exact qK rfl rfl
  have hbz:b.sz≤1048576:=by
    have:=odF hc
    rw [ws] at this;omega
  rw [wH hbz]
  refine qG (c80 c hx (1048576-b.sz) (by omega)) ?_
  simp only [go_sem]
  refine qD ?_ ?_<;>intro hc<;>simp only [hc,go_sem]
  · exact qK rfl rfl
  have hcz:c.sz≤1048576-b.sz:=by
    have:=odF hc
    rw [ws] at this;omega
  have hAz:=qeG (b:=b) (c:=c) (lim:=lim)
  have k0:=c174 (lim:=lim) hbz (c:=c) (by omega)
  rw [←qgM] at k0
  have k1:=n175 (lim:=lim) hbz (c:=c) (by omega)
  generalize wh b c lim=A at hAz k0 k1
  obtain ⟨G,r,e⟩:=A
  simp only at hAz
  refine qG (c82 b hbz) ?_
  simp only [go_sem]
  refine qG (c83 c (by omega)) ?_
  simp only [go_sem]
  refine qG k0 ?_
  simp only [zZ,go_sem]
  refine qO (k:=4) (by rfl) (by simp [go_sem]) (qA.isAgg _) (by decide) ?_;simp only [go_sem]
  refine j4 (n82 b hbz) ?_
  simp only [go_sem]
  refine qO (k:=1) rfl (qbQ b 0) (qbP b 0) (by decide) ?_
  simp only [z8,go_sem]
  refine j4 (n83 c (by omega)) ?_
  simp only [go_sem]
  refine VK rfl ?_
  obtain ⟨B,hB⟩:∃B,B=b.enc.rows:=⟨_,rfl⟩
  obtain ⟨C,hC⟩:∃C,C=c.enc.rows:=⟨_,rfl⟩
  simp only [z9,z8,go_sem,List.nil_append,qo,←hB]
  have atB:∀{h post:List qC},h=(lay b.enc 0).2++post→Cv h (lay b.enc 0).1 b.enc:=fun {h post} hh=>Y7 (pre:=[]) (qI.plx b) (qI.cnx b) hh
  have atC:∀{b':qI} {h post:List qC},b'.enc.rows=B→h=(lay b'.enc 0).2++((lay c.enc B).2++post)→Cv h (lay c.enc B).1 c.enc:=fun {b' h post} hr hh=>by
    have hl:(lay b'.enc 0).2.length=B:=(qo _ _).trans hr
    rw [←hl] at hh⊢
    exact Y7 (qA.plx c) (qA.cnx c) hh
  have atG:∀{b':qI} {c' G':qA} {h post:List qC},b'.enc.rows=B→c'.enc.rows=C→h=(lay b'.enc 0).2++((lay c'.enc B).2++((lay G'.enc (B+C)).2++post))→Cv h (lay G'.enc (B+C)).1 G'.enc:=fun {b' c' G' h post} hr hr2 hh=>by
    have hl:((lay b'.enc 0).2++(lay c'.enc B).2).length=B+C:=by rw [List.length_append,qo,qo,hr,hr2]
    rw [←List.append_assoc] at hh
    rw [←hl] at hh⊢
    exact Y7 (qA.plx G') (qA.cnx G') hh
  refine qXQ (Cvs.cons (atB (post:=(lay c.enc B).2) rfl) (Cvs.cons (atC (b':=b) (post:=[]) hB.symm (by simp)) (Cvs.cons (.refl rfl) Cvs.nil))) k1 ?_
  have hlBC:((lay b.enc 0).2++(lay c.enc B).2).length=B+C:=by rw [List.length_append,qo,qo,hB,hC]
  simp only [hlBC,zZ,Y6,z9,z8,go_sem,List.append_assoc]
  refine VK rfl ?_
  simp only [z9,z8,go_sem]
  refine jI (Cvs.cons (atG (b':=b) (c':=c) (post:=[]) hB.symm hC.symm (by simp)) (Cvs.cons (.refl (by simp [go_sem])) Cvs.nil)) (c85 G (by omega)) rfl ?_
  simp only [z9,z8,go_sem]
  refine qG (c82 b hbz) ?_
  simp only [z9,z8,go_sem]
  refine jI (Cvs.cons (atB rfl) (Cvs.cons (.refl (by simp [go_sem])) Cvs.nil)) (c87 b (by omega)) rfl ?_
  simp only [z9,z8,go_sem]
  refine qG (c83 c (by omega)) ?_
  simp only [z9,z8,go_sem]
  refine jI (Cvs.cons (atC (b':=b) hB.symm rfl) (Cvs.cons (.refl (by simp [go_sem])) Cvs.nil)) (c85 c (by omega)) rfl ?_
  simp only [z9,z8,go_sem]
  have ctB:=b.ctVle
  have ctC:=c.ctVle
  have ctG:=G.ctVle
  refine JX (k88 b 1 (by omega) (by omega) (by omega)) (pre:=[]) rfl rfl rfl ?_
  simp only [z9,z8,go_sem,List.nil_append]
  have hlB:(lay (b.mkV 1).enc 0).2.length=B:=by rw [qo,qI.rowsV,hB]
  refine JX (k89 c (1+((b.ctV:Nat):Int)) (by omega) (by omega) (by omega)) hlB rfl rfl ?_
  simp only [z9,z8,go_sem]
  have hneg:decide ((1:Int)+((b.ctV:Nat):Int)+((c.ctV:Nat):Int)<0)=false:=decide_eq_false (by omega)
  simp only [hneg,z9,z8,go_sem]
  have hrB:(b.mkV 1).enc.rows=B:=by rw [qI.rowsV,hB]
  have hrC:(c.mkV (1+((b.ctV:Nat):Int))).enc.rows=C:=by rw [qA.rowsV,hC]
  refine jI (Cvs.cons (atG (b':=b.mkV 1) (c':=c.mkV (1+((b.ctV:Nat):Int))) (post:=[]) hrB hrC (by simp)) (Cvs.cons (.refl (by simp [go_sem])) Cvs.nil)) (c85 G (by omega)) rfl ?_
  simp only [z9,z8,go_sem]
  have hlG:((lay (b.mkV 1).enc 0).2++(lay (c.mkV (1+((b.ctV:Nat):Int))).enc B).2).length=B+C:=by rw [List.length_append,qo,qo,hrB,hrC]
  refine JX (k89 G 1 (by omega) (by omega) (by omega)) (post:=[]) hlG (by simp) rfl ?_
  simp only [z9,z8,go_sem,List.append_assoc,List.append_nil]
  refine jI (Cvs.cons (by rw [←qSW G 1];exact atG (post:=[]) hrB hrC (by simp)) (Cvs.cons (.refl rfl) Cvs.nil)) (q91 G 1 (by omega) (by omega) (by omega)) rfl ?_
  have hneg2:decide ((1:Int)+((G.ctV:Nat):Int)<0)=false:=decide_eq_false (by omega)
  simp only [hneg2,z9,z8,go_sem]
  refine qG (c82 b hbz) ?_
  simp only [z9,z8,go_sem]
  refine qG (c83 c (by omega)) ?_
  simp only [z9,z8,go_sem]
  refine j4 k1 ?_
  simp only [zZ,Y6,z9,z8,go_sem]
  refine VK rfl ?_
  simp only [z9,z8,go_sem]
  refine jI (Cvs.cons (Y7 (pre:=(lay (b.mkV 1).enc 0).2++((lay (c.mkV (1+((b.ctV:Nat):Int))).enc B).2++(lay (G.mkV 1).enc (B+C)).2)) (post:=[]) (qA.plx G) (qA.cnx G) (by simp)) (Cvs.cons (.refl (by simp [go_sem])) Cvs.nil)) (c85 G (by omega)) rfl ?_
  simp only [z9,z8,go_sem]
  refine jI (Cvs.cons (by rw [←qSW G 1];exact atG hrB hrC (by simp only [List.append_assoc];rfl)) (Cvs.cons (.refl rfl) Cvs.nil)) (q91 G 1 (by omega) (by omega) (by omega)) rfl ?_
  simp only [hneg2,z9,z8,go_sem]
  exact qK rfl rfl
end Go.Ab
