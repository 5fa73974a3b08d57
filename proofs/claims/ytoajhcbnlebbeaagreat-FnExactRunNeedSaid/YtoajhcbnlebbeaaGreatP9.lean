/- Texts Nee24 .. Nee38: the abstract machine, its laws and contracts of functions: lemmas for the statement. No condition. -/
import Derived.Test.YtoajhcbnlebbeaaGreatP8
set_option linter.unusedSimpArgs false
set_option linter.unusedVariables false
namespace Go.Ab
open Go
set_option maxRecDepth 10000
set_option maxHeartbeats 2000000
theorem qI.part0 {c:qI}:c.enc.part 0 (some 4)=some c.Term.enc:=by rw [qA.enc_eq];rfl
theorem qF.part3 {f:qF}:f.enc.part 3 (some 5)=some f.Closure.enc:=rfl
theorem qH.part1 {t:qH}:t.enc.part 1 (some 5)=some t.Closure.enc:=rfl
theorem qG.part0 {m:qG}:m.enc.part 0 (some 5)=some m.Control.enc:=rfl
theorem lkT {g:Nat} {bs:List AV} {c:qI} {v:AV} (h:Pure Gm g (.ept c.Term.enc 0::bs) v):Pure Gm g (.ept c.enc 0::bs) v:=
 Pure.lk0 qI.tr qI.part0 (by rw [qA.ln];decide) h
def zi (b:qO) (hl:Int) (c:qI):Bool:=c.Term.valid&&c.Term.er&&c.Term.refs b.Defs.length&& !c.Term.above c.Env.length&&decide (c.Env.length≤256)&&c.Env.all fun a=>inI a 0 (hl-1)
def JL (b:qO):Bool:=b.ok&&b.Defs.all qA.er
def JY (c:qI):Bool:=decide (c.Term.Kind=0)&&decide (c.Term.Value=0)&&decide (c.Term.Data.length=0)&&decide (c.Term.Kids.length=0)&&decide (c.Env.length=0)
def jo (b:qO) (ds:List Int):Bool:=ds.all fun d=>inI d 0 (b.Defs.length-1)
def z5 (b:qO) (hl:Int) (f:qF):Bool:=
 if f.Kind=3 then inI f.Value 1 6&&decide (f.Data.length=0)&&zi b hl f.Closure
 else JY f.Closure&&(
  if f.Kind=1∨f.Kind=2 then inI f.Value 0 (hl-1)&&decide (f.Data.length=0)
  else if f.Kind=4 then inI f.Value 1 6&&decide (f.Data.length=1)&&inI (f.Data.getD 0 0) (-2147483648) 2147483647
  else if f.Kind=5 then decide (f.Value=0)&&inI f.Data.length 1 4&&jo b f.Data
  else if f.Kind=6 then decide (f.Value=0)&&decide (f.Data.length=2)&&jo b f.Data
  else false)
def jv (b:qO) (hl:Int) (t:qH):Bool:=zi b hl t.Closure&&(!t.Done || t.Closure.val)
def qG.ok (b:qO) (m:qG):Bool:=
 JL b&&decide (m.Heap.length≤2000)&&decide (m.Stack.length≤400)&&zi b m.Heap.length m.Control&&m.Stack.all (z5 b m.Heap.length)&&m.Heap.all (jv b m.Heap.length)
theorem c819 {b:qO} (hb:b.sz≤1048576):Pure Gm 819 [.ept b.enc 0] (.bool (JL b)):=by
 refine Pure.intro [] [] g819 (by kernel_rfl) rfl (by simp [AV.trees,AV.tree,go_sem]) rfl ?_;simp only [Yg,qP,go_sem];have hb':b.Defs.length+qE qA.sz b.Defs≤1048576:=hb;refine qK (c579 hb) ?_;simp only [go_sem];refine qM ?_ ?_<;>intro hc<;>simp only [hc,go_sem]
 ·exact qJ rfl (by unfold JL;rw [nt hc];rfl)
 have g1:=nf hc;refine Sem.loop (fun i:Nat=>i≤b.Defs.length∧JL b=(b.Defs.drop i).all qA.er) (fun i=>(⟨[(0,.ept b.enc 0),(3,.int .i64 (i:Nat))],[],[]⟩:VSt)) (fun i=>b.Defs.length-i) 0 (by kernel_rfl) ⟨Nat.zero_le _,by simp [JL,g1]⟩ (Can.sub (by simp [go_sem]) (by simp [go_sem])) ?_;rintro i ⟨hi,hI⟩;simp only [go_sem];refine qM ?_ ?_<;>intro hc<;>simp only [hc,go_sem]
 ·have hlt:i<b.Defs.length:=by have:=odT hc;omega
  simp only [gMp,gEg hlt,oMs,go_sem];have hm:=gMm hlt;have hk:=zP (f:=qA.sz) hm;refine qK (c724 _ (by omega)) ?_;simp only [go_sem];rw [jI hlt,List.all_cons] at hI;refine qM ?_ ?_<;>intro hc<;>simp only [hc,go_sem]
  ·exact qJ rfl (by rw [hI,nt hc];rfl)
  ·simp only [qq (show i<4611686018427387904 by omega)];refine qo (i+1) ⟨by omega, ?_⟩ (by omega) (Can.sub (by simp [go_sem]) (by simp [go_sem]));rw [hI,nf hc];rfl
 ·obtain rfl:i=b.Defs.length:=by have:=odF hc;omega
  exact qJ rfl (by rw [hI];simp)
theorem c820 {b:qO} {c:qI} {hl:Int} (hz:c.sz≤1048576) (h0:0≤hl∧hl≤1048576):Pure Gm 820 [.ept b.enc 0,.ept c.enc 0,.int .i64 hl] (.bool (zi b hl c)):=by
 refine Pure.intro [] [] g820 (by kernel_rfl) rfl (by simp [AV.trees,AV.tree,go_sem]) rfl ?_;simp only [Yh,qP,go_sem];have hz':c.Term.sz+c.Env.length≤1048576:=hz;have bad:∀{h:List qC},zi b hl c=false→Fin (some [.bool false]) h (.bool (zi b hl c)):=fun h=>qJ rfl (by rw [h]);refine qK (lkT (c642 (x:=c.Term) (by omega))) ?_;simp only [go_sem];rw [qQN];refine qY ?_ ?_<;>intro hc<;>simp only [hc,go_sem]
 ·have g1:=nf hc;have hd:c.Term.dep≤80:=by have:=g1;unfold qA.valid at this;simp only [bAt,decide_eq_true_eq] at this;omega
  refine qK (lkT (c724 c.Term (by omega))) ?_;simp only [go_sem];refine qY ?_ ?_<;>intro hc<;>simp only [hc,go_sem]
  ·have g2:=nf hc;refine qK (lkT (c725 c.Term _ (by omega))) ?_;simp only [go_sem];refine qY ?_ ?_<;>intro hc<;>simp only [hc,go_sem]
   ·have g3:=nf hc;refine qK (lkT (c878 c.Term _ (by omega) (by omega))) ?_;simp only [go_sem];refine qY ?_ ?_<;>intro hc<;>simp only [hc,go_sem]
    ·have g4:=hc;refine qM ?_ ?_<;>intro hc<;>simp only [hc,go_sem]
     ·exact bad (by unfold zi;rw [show decide (c.Env.length≤256)=false from decide_eq_false (by have:=odT hc;omega)];simp)
     have g5:decide (c.Env.length≤256)=true:=decide_eq_true (by have:=odF hc;omega);refine Sem.loop (fun i:Nat=>i≤c.Env.length∧zi b hl c=(c.Env.drop i).all (fun a=>inI a 0 (hl-1))) (fun i=>(⟨[(0,.ept b.enc 0),(1,.ept c.enc 0),(2,.int .i64 hl),(7,.int .i64 (i:Nat))],[],[]⟩:VSt)) (fun i=>c.Env.length-i) 0 (by kernel_rfl) ⟨Nat.zero_le _,by simp [zi,g1,g2,g3,g4,g5]⟩ (Can.sub (by simp [go_sem]) (by simp [go_sem])) ?_;rintro i ⟨hi,hI⟩;simp only [go_sem];refine qM ?_ ?_<;>intro hc<;>simp only [hc,go_sem]
     ·have hlt:i<c.Env.length:=by have:=odT hc;omega
      simp only [gMp,gEg hlt,oMs,go_sem];simp only [qD,go_sem];rw [qr (by omega) (by omega)];refine qK jb ?_;simp only [go_sem];rw [jI hlt,List.all_cons] at hI;refine qM ?_ ?_<;>intro hc<;>simp only [hc,go_sem]
      ·exact bad (by rw [hI,nt hc];rfl)
      ·simp only [qq (show i<4611686018427387904 by omega)];refine qo (i+1) ⟨by omega, ?_⟩ (by omega) (Can.sub (by simp [go_sem]) (by simp [go_sem]));rw [hI,nf hc];rfl
     ·obtain rfl:i=c.Env.length:=by have:=odF hc;omega
      exact qJ rfl (by rw [hI];simp)
    ·exact bad (by unfold zi;simp [hc])
   ·exact bad (by unfold zi;rw [nt hc];simp)
  ·exact bad (by unfold zi;rw [nt hc];simp)
 ·exact bad (by unfold zi;rw [nt hc];simp)
theorem qTN {c:qI} (hz:c.sz≤1048576):Pure Gm 1147 [.ept c.enc 0] (.bool (JY c)):=by
 refine Pure.intro [] [] qVR (by kernel_rfl) rfl (by simp [AV.trees,AV.tree,go_sem]) rfl ?_;simp only [Wq,qP,go_sem];have hz':c.Term.sz+c.Env.length≤1048576:=hz
 repeat' (first | (first | (refine qY ?_ ?_<;>intro hc<;>simp only [hc,go_sem]) | (refine qM ?_ ?_<;>intro hc<;>simp only [hc,go_sem])) | refine qJ rfl ?_)
 all_goals (simp_all [JY])
theorem qOU {b:qO} {ds:List Int} (hb:b.sz≤1048576) (hl:ds.length≤1048576):Pure Gm 1148 [.ept b.enc 0,.lst 1 (ds.map qD) false] (.bool (jo b ds)):=by
 refine Pure.intro [] [] qVS (by kernel_rfl) rfl (by simp [AV.trees,AV.tree,go_sem,zU]) rfl ?_;simp only [Wr,qP,go_sem];have hb':b.Defs.length+qE qA.sz b.Defs≤1048576:=hb;refine Sem.loop (fun i:Nat=>i≤ds.length∧jo b ds=(ds.drop i).all (fun d=>inI d 0 (b.Defs.length-1))) (fun i=>(⟨[(0,.ept b.enc 0),(1,.lst 1 (ds.map qD) false),(5,.int .i64 (i:Nat))],[],[]⟩:VSt)) (fun i=>ds.length-i) 0 (by kernel_rfl) ⟨Nat.zero_le _,by simp [jo]⟩ (Can.sub (by simp [go_sem]) (by simp [go_sem])) ?_;rintro i ⟨hi,hI⟩;simp only [go_sem];refine qM ?_ ?_<;>intro hc<;>simp only [hc,go_sem]
 ·have hlt:i<ds.length:=by have:=odT hc;omega
  simp only [gMp,gEg hlt,oMs,go_sem];simp only [qD,go_sem];rw [qr (by omega) (by omega)];refine qK jb ?_;simp only [go_sem];rw [jI hlt,List.all_cons] at hI;refine qM ?_ ?_<;>intro hc<;>simp only [hc,go_sem]
  ·exact qJ rfl (by rw [hI,nt hc];rfl)
  ·simp only [qq (show i<4611686018427387904 by omega)];refine qo (i+1) ⟨by omega, ?_⟩ (by omega) (Can.sub (by simp [go_sem]) (by simp [go_sem]));rw [hI,nf hc];rfl
 ·obtain rfl:i=ds.length:=by have:=odF hc;omega
  exact qJ rfl (by rw [hI];simp)
theorem qTO {x:qI} (hz:x.sz≤1048576):Pure Gm 1149 [.ept x.enc 0] (.bool x.fields):=by
 refine Pure.intro [] [] qPQ (by kernel_rfl) rfl (by simp [AV.trees,AV.tree,go_sem]) rfl ?_;simp only [ZQ,qP,go_sem];have hz':=hz;unfold qI.sz at hz';have hk:=x.Term.sz_eq;refine qM ?_ ?_<;>intro hc<;>simp only [hc,go_sem]
 ·exact qJ rfl (by unfold qI.fields;rw [show decide (x.Term.Kids.length=x.Env.length)=false from decide_eq_false (by have:=odF (nt hc);omega)];rfl)
 have hv:x.fields=jN x.Term.Kids 0:=by unfold qI.fields;rw [decide_eq_true (by have:=odT (nf hc);omega)];rfl
 rw [hv];refine Sem.loop (fun i:Nat=>i≤x.Term.Kids.length∧jN x.Term.Kids 0=jN (x.Term.Kids.drop i) i) (fun i=>(⟨[(0,.ept x.enc 0),(3,.int .i64 (i:Nat))],[],[]⟩:VSt)) (fun i=>x.Term.Kids.length-i) 0 (by kernel_rfl) ⟨Nat.zero_le _,by simp⟩ (Can.sub (by simp [go_sem]) (by simp [go_sem])) ?_;rintro i ⟨hi,hI⟩;simp only [go_sem];refine qM ?_ ?_<;>intro hc<;>simp only [hc,go_sem]
 ·have hlt:i<x.Term.Kids.length:=by have:=odT hc;omega
  rw [qNY hlt] at hI;clear hc;simp only [gMp,gEg hlt,oMs,go_sem];refine qY ?_ ?_<;>intro hc<;>simp only [hc,go_sem]
  ·have hc1:=hc;simp only [gMp,gEg hlt,oMs,go_sem];refine qM ?_ ?_<;>intro hc<;>simp only [hc,go_sem]
   ·exact qJ rfl (by simp at hc hc1;simp [hI,hc,hc1])
   ·simp only [qq (show i<4611686018427387904 by omega)];refine qo (i+1) ⟨by omega, ?_⟩ (by omega) (Can.sub (by simp [go_sem]) (by simp [go_sem]));simp at hc hc1;rw [hI];simp [hc,hc1]
  ·exact qJ rfl (by simp at hc;simp [hI,hc])
 ·obtain rfl:i=x.Term.Kids.length:=by have:=odF hc;omega
  exact qJ rfl (by rw [hI,List.drop_length];rfl)
theorem c822 {x:qI} (hz:x.sz≤1048576):Pure Gm 822 [.ept x.enc 0] (.bool x.val):=by
 refine Pure.intro [] [] g822 (by kernel_rfl) rfl (by simp [AV.trees,AV.tree,go_sem]) rfl ?_;simp only [Zb,qP,go_sem];refine qM ?_ ?_<;>intro hc<;>simp only [hc,go_sem]
 ·exact qJ rfl (by unfold qI.val;simp at hc;simp [hc])
 have h4:=hc;refine qM ?_ ?_<;>intro hc<;>simp only [hc,go_sem]
 ·exact qJ rfl (by unfold qI.val;simp at hc;simp [hc])
 have h2:=hc;clear hc;refine qM ?_ ?_<;>intro hc<;>simp only [hc,go_sem];rotate_left
 ·exact qJ rfl (by unfold qI.val;simp at hc h4 h2;simp [hc,h4,h2])
 refine qK (qTO hz) ?_;simp only [go_sem];exact qJ rfl (by unfold qI.val;simp at hc h4 h2;simp [hc])
theorem c821 {b:qO} {f:qF} {hl:Int} (hb:b.sz≤1048576) (hz:f.sz≤1048576) (h0:0≤hl∧hl≤1048576):Pure Gm 821 [.ept b.enc 0,.ept f.enc 0,.int .i64 hl] (.bool (z5 b hl f)):=by
 refine Pure.intro [] [] g821 (by kernel_rfl) rfl (by simp [AV.trees,AV.tree,go_sem]) rfl ?_;simp only [Yi,qP,go_sem];have hz':f.Data.length+f.Closure.sz≤1048576:=hz;have lk:∀{g:Nat} {a v:AV} {bs:List AV},Pure Gm g (a::.ept f.Closure.enc 0::bs) v→Pure Gm g (a::.ept f.enc 3::bs) v:=fun h=>Pure.lk1 qF.tr qF.part3 (by rw [qI.ln];decide) h;have lk0:∀{g:Nat} {v:AV} {bs:List AV},Pure Gm g (.ept f.Closure.enc 0::bs) v→Pure Gm g (.ept f.enc 3::bs) v:=fun h=>Pure.lk0 qF.tr qF.part3 (by rw [qI.ln];decide) h;refine qM ?_ ?_<;>intro hc<;>simp only [hc,go_sem]
 ·have hk:=odT hc;clear hc;refine qK jb ?_;simp only [go_sem];refine qY ?_ ?_<;>intro hc<;>simp only [hc,go_sem]
  ·have g1:=hc;refine qY ?_ ?_<;>intro hc<;>simp only [hc,go_sem]
   ·have g2:=hc;refine qK (lk (c820 (by omega) h0)) ?_;simp only [go_sem];exact qJ rfl (by unfold z5;rw [if_pos hk,g1];simp at g2;simp [g2])
   ·exact qJ rfl (by unfold z5;rw [if_pos hk,g1];simp at hc;simp [hc])
  ·exact qJ rfl (by unfold z5;rw [if_pos hk,hc];simp)
 have hk:=odF hc;clear hc;refine qK (lk0 (qTN (by omega))) ?_;simp only [go_sem];refine qM ?_ ?_<;>intro hc<;>simp only [hc,go_sem]
 ·exact qJ rfl (by unfold z5;rw [if_neg hk,nt hc];simp)
 have g0:=nf hc;clear hc;have eF:z5 b hl f=(if f.Kind=1∨f.Kind=2 then inI f.Value 0 (hl-1)&&decide (f.Data.length=0)
  else if f.Kind=4 then inI f.Value 1 6&&decide (f.Data.length=1)&&inI (f.Data.getD 0 0) (-2147483648) 2147483647
  else if f.Kind=5 then decide (f.Value=0)&&inI f.Data.length 1 4&&jo b f.Data
  else if f.Kind=6 then decide (f.Value=0)&&decide (f.Data.length=2)&&jo b f.Data
  else false):=by unfold z5;rw [if_neg hk,g0,Bool.true_and]
 rw [eF];clear eF;refine qM ?_ ?_<;>intro hc<;>simp only [hc,go_sem]
 ·have h12:f.Kind=1∨f.Kind=2:=by have:=odT hc;omega
  rw [if_pos h12];clear hc;rw [qr (by omega) (by omega)];refine qK jb ?_;simp only [go_sem];refine qY ?_ ?_<;>intro hc<;>simp only [hc,go_sem]
  ·exact qJ rfl (by first | (simp;done) | (simp_all;done) | (simp_all;omega))
  ·exact qJ rfl (by first | (simp;done) | (simp_all;done) | (simp_all;omega))
 have k1:=odF hc;clear hc;refine qM ?_ ?_<;>intro hc<;>simp only [hc,go_sem]
 ·have h12:f.Kind=1∨f.Kind=2:=by have:=odT hc;omega
  rw [if_pos h12];clear hc;rw [qr (by omega) (by omega)];refine qK jb ?_;simp only [go_sem];refine qY ?_ ?_<;>intro hc<;>simp only [hc,go_sem]
  ·exact qJ rfl (by first | (simp;done) | (simp_all;done) | (simp_all;omega))
  ·exact qJ rfl (by first | (simp;done) | (simp_all;done) | (simp_all;omega))
 have k2:=odF hc;clear hc;rw [if_neg (by omega)];refine qM ?_ ?_<;>intro hc<;>simp only [hc,go_sem]
 ·rw [if_pos (odT hc)];clear hc;refine qK jb ?_;simp only [go_sem];refine qY ?_ ?_<;>intro hc<;>simp only [hc,go_sem]
  ·have g1:=hc;refine qY ?_ ?_<;>intro hc<;>simp only [hc,go_sem]
   ·have hd:f.Data.length=1:=by have:=odT hc;omega
    obtain ⟨d,hd'⟩:=List.length_eq_one_iff.1 hd;simp only [hd',List.map_cons,List.map_nil,qD,List.getElem?_cons_zero,oMs,go_sem];refine qK jb ?_;simp only [go_sem];exact qJ rfl (by first | (simp;done) | (simp_all;done) | (simp_all;omega))
   ·exact qJ rfl (by first | (simp;done) | (simp_all;done) | (simp_all;omega))
  ·exact qJ rfl (by first | (simp;done) | (simp_all;done) | (simp_all;omega))
 have k4:=odF hc;clear hc;rw [if_neg k4];refine qM ?_ ?_<;>intro hc<;>simp only [hc,go_sem]
 ·rw [if_pos (odT hc)];clear hc;refine qY ?_ ?_<;>intro hc<;>simp only [hc,go_sem]
  ·have g1:=hc;refine qK jb ?_;simp only [go_sem];refine qY ?_ ?_<;>intro hc<;>simp only [hc,go_sem]
   ·have g2:=hc;refine qK (qOU hb (by omega)) ?_;simp only [go_sem];exact qJ rfl (by first | (simp;done) | (simp_all;done) | (simp_all;omega))
   ·exact qJ rfl (by first | (simp;done) | (simp_all;done) | (simp_all;omega))
  ·exact qJ rfl (by first | (simp;done) | (simp_all;done) | (simp_all;omega))
 have k5:=odF hc;clear hc;rw [if_neg k5];refine qM ?_ ?_<;>intro hc<;>simp only [hc,go_sem]
 ·rw [if_pos (odT hc)];clear hc;refine qY ?_ ?_<;>intro hc<;>simp only [hc,go_sem]
  ·have g1:=hc;refine qY ?_ ?_<;>intro hc<;>simp only [hc,go_sem]
   ·have g2:=hc;refine qK (qOU hb (by omega)) ?_;simp only [go_sem];exact qJ rfl (by simp at g1;have h2:f.Data.length=2:=(by have:=odT g2;omega);simp [g1,h2])
   ·exact qJ rfl (by have h2:¬f.Data.length=2:=(by have:=odF hc;omega);simp [h2])
  ·exact qJ rfl (by first | (simp;done) | (simp_all;done) | (simp_all;omega))
 ·rw [if_neg (odF hc)];exact qJ rfl rfl
theorem c458 {b:qO} {m:qG} (hb:b.sz≤1048576) (hz:m.sz≤1048576):Pure Gm 458 [.ept b.enc 0,.ept m.enc 0] (.bool (m.ok b)):=by
 refine Pure.intro [] [] g458 (by kernel_rfl) rfl (by simp [AV.trees,AV.tree,go_sem]) rfl ?_;simp only [Xo,qP,go_sem];have hz':m.Control.sz+(m.Stack.length+qE qF.sz m.Stack)+(m.Heap.length+qE qH.sz m.Heap)≤1048576:=hz;have bad:∀{h:List qC},m.ok b=false→Fin (some [.bool false]) h (.bool (m.ok b)):=fun h=>qJ rfl (by rw [h]);refine qK (c819 hb) ?_;simp only [go_sem];refine qY ?_ ?_<;>intro hc<;>simp only [hc,go_sem]
 ·have g1:=nf hc;refine qY ?_ ?_<;>intro hc<;>simp only [hc,go_sem]
  ·have g2:decide (m.Heap.length≤2000)=true:=decide_eq_true (by have:=odF hc;omega);have q2:=odT g2;refine qY ?_ ?_<;>intro hc<;>simp only [hc,go_sem]
   ·have g3:decide (m.Stack.length≤400)=true:=decide_eq_true (by have:=odF hc;omega);have q3:=odT g3;refine qK (Pure.lk1 qG.tr qG.part0 (by rw [qI.ln];decide) (c820 (c:=m.Control) (by omega) (by omega))) ?_;simp only [go_sem];refine qM ?_ ?_<;>intro hc<;>simp only [hc,go_sem]
    ·exact bad (by unfold qG.ok;rw [nt hc];simp)
    have g4:=nf hc;clear hc;refine Sem.loop (fun i:Nat=>i≤m.Stack.length∧m.ok b=((m.Stack.drop i).all (z5 b m.Heap.length)&&m.Heap.all (jv b m.Heap.length))) (fun i=>(⟨[(0,.ept b.enc 0),(1,.ept m.enc 0),(5,.int .i64 (m.Heap.length:Nat)),(6,.int .i64 (i:Nat))],[],[]⟩:VSt)) (fun i=>m.Stack.length-i) 0 (by kernel_rfl) ⟨Nat.zero_le _,by simp [qG.ok,g1,g2,g3,g4]⟩ (Can.sub (by simp [go_sem]) (by simp [go_sem])) ?_;rintro i ⟨hi,hI⟩;simp only [go_sem];refine qM ?_ ?_<;>intro hc<;>simp only [hc,go_sem]
    ·have hlt:i<m.Stack.length:=by have:=odT hc;omega
     simp only [gMp,gEg hlt,oMs,go_sem];have hm:=zP (f:=qF.sz) (gMm hlt);refine qK (c821 hb (by omega) (by omega)) ?_;simp only [go_sem];rw [jI hlt,List.all_cons] at hI;refine qM ?_ ?_<;>intro hc<;>simp only [hc,go_sem]
     ·exact bad (by rw [hI,nt hc];rfl)
     ·simp only [qq (show i<4611686018427387904 by omega)];refine qo (i+1) ⟨by omega, ?_⟩ (by omega) (Can.sub (by simp [go_sem]) (by simp [go_sem]));rw [hI,nf hc];rfl
    ·obtain rfl:i=m.Stack.length:=by have:=odF hc;omega
     rw [List.drop_length,List.all_nil,Bool.true_and] at hI;have hJ:=hI;clear hc hI;refine Sem.loop (fun i:Nat=>i≤m.Heap.length∧m.ok b=(m.Heap.drop i).all (jv b m.Heap.length)) (fun i=>(⟨[(0,.ept b.enc 0),(1,.ept m.enc 0),(5,.int .i64 (m.Heap.length:Nat)),(7,.int .i64 (i:Nat))],[],[]⟩:VSt)) (fun i=>m.Heap.length-i) 0 (by kernel_rfl) ⟨Nat.zero_le _,by simp [hJ]⟩ (Can.sub (by simp [go_sem]) (by simp [go_sem])) ?_;rintro i ⟨hi,hI⟩;simp only [go_sem];refine qM ?_ ?_<;>intro hc<;>simp only [hc,go_sem]
     ·have hlt:i<m.Heap.length:=by have:=odT hc;omega
      simp only [gMp,gEg hlt,oMs,go_sem];have hm:=zP (f:=qH.sz) (gMm hlt);rw [jI hlt,List.all_cons] at hI;generalize ht:m.Heap[i]=t at hm hI;have hm':t.Closure.sz≤1048576:=by have:t.sz=t.Closure.sz:=rfl;omega
      refine qK (Pure.lk1 qH.tr qH.part1 (by rw [qI.ln];decide) (c820 (c:=t.Closure) hm' (by omega))) ?_;simp only [go_sem];refine qY ?_ ?_<;>intro hc<;>simp only [hc,go_sem]
      ·have c1:=nf hc;refine qY ?_ ?_<;>intro hc<;>simp only [hc,go_sem]
       ·have c2:=hc;refine qK (Pure.lk0 qH.tr qH.part1 (by rw [qI.ln];decide) (c822 (x:=t.Closure) hm')) ?_;simp only [go_sem];refine qM ?_ ?_<;>intro hc<;>simp only [hc,go_sem]
        ·exact bad (by rw [hI];unfold jv;rw [c1,c2,nt hc];rfl)
        ·simp only [qq (show i<4611686018427387904 by omega)];refine qo (i+1) ⟨by omega, ?_⟩ (by omega) (Can.sub (by simp [go_sem]) (by simp [go_sem]));rw [hI];unfold jv;rw [c1,c2,nf hc];rfl
       ·have c2:t.Done=false:=by simpa using hc
        simp only [qq (show i<4611686018427387904 by omega)];refine qo (i+1) ⟨by omega, ?_⟩ (by omega) (Can.sub (by simp [go_sem]) (by simp [go_sem]));rw [hI];unfold jv;rw [c1,c2];rfl
      ·exact bad (by rw [hI];unfold jv;rw [nt hc];rfl)
     ·obtain rfl:i=m.Heap.length:=by have:=odF hc;omega
      exact qJ rfl (by rw [hI];simp)
   ·exact bad (by unfold qG.ok;rw [show decide (m.Stack.length≤400)=false from decide_eq_false (by have:=odT (hc.trans rfl);omega)];simp)
  ·exact bad (by unfold qG.ok;rw [show decide (m.Heap.length≤2000)=false from decide_eq_false (by have:=odT (hc.trans rfl);omega)];simp)
 ·exact bad (by unfold qG.ok;rw [nt hc];simp)
theorem qLQ {m:qG} {a:Int} (hz:m.Heap.length≤1048576):Pure Gm 1047 [.ept m.enc 0,.int .i64 a] (.bool (inI a 0 (m.Heap.length-1))):=by
 refine Pure.intro [] [] qVD (by kernel_rfl) rfl (by simp [AV.trees,AV.tree,go_sem]) rfl ?_;simp only [Wc,qP,go_sem]
 repeat' (first | (refine qW rfl ?_;simp only [go_sem]) | (first | (refine qY ?_ ?_<;>intro hc<;>simp only [hc,go_sem]) | (refine qM ?_ ?_<;>intro hc<;>simp only [hc,go_sem])) | refine qJ rfl ?_ | refine jg (by rfl) ?_)
 all_goals (simp_all [inI]<;>omega)
theorem qTI {m:qG} {a:Int} (hz:m.Heap.length≤1048576):Pure Gm 1046 [.int .i64 a,.ept (.ept m.enc 0) 0] (.bool (!inI a 0 (m.Heap.length-1))):=by
 refine Pure.intro [] [] qVC (by kernel_rfl) rfl (by simp [AV.trees,AV.tree,go_sem]) rfl ?_;simp only [Wb,qP,go_sem];refine qK (qLQ hz) ?_;simp only [go_sem];exact qJ rfl rfl
theorem c672 {b:qO} {m:qG} {c:qI} (hz:c.sz≤1048576) (hm:m.Heap.length≤1048576):Pure Gm 672 [.ept m.enc 0,b.enc,c.enc] (.bool (zi b m.Heap.length c)):=by
 refine Pure.intro [3] [] g672 (by kernel_rfl) rfl (by simp [AV.trees,AV.tree,go_sem]) rfl ?_;simp only [YN,qP,go_sem];have hz':c.Term.sz+c.Env.length≤1048576:=hz;have hdl:=qL5 (x:=c.Term) (by omega);refine jh rfl ?_;simp only [go_sem]
 repeat' (first | (refine qW rfl ?_;simp only [go_sem]))
 simp only [go_sem,List.nil_append,List.cons_append,List.set_cons_zero,List.set_cons_succ];have bad:∀{h:List qC},zi b m.Heap.length c=false→Fin (some [.bool false]) h (.bool (zi b m.Heap.length c)):=fun h=>qJ rfl (by rw [h]);refine qK (c259 (x:=c.Term) (by omega) hdl.1 hdl.2) ?_;simp only [go_sem];refine qY ?_ ?_<;>intro hc<;>simp only [hc,go_sem]
 ·have g0:=nf hc;have g1:c.Term.valid=true:=by simp only [bAt] at g0;exact g0.1
  have g2:c.Term.er=true:=by simp only [bAt] at g0;exact g0.2
  have hv:=JF g1;refine qK (c847 (x:=c.Term) (by omega)) ?_;simp only [go_sem];refine qY ?_ ?_<;>intro hc<;>simp only [hc,go_sem]
  ·have g3:=nf hc;refine qK (c880 c.Term _ hv.1 (by omega) (by omega)) ?_;simp only [go_sem];refine qY ?_ ?_<;>intro hc<;>simp only [hc,go_sem]
   ·have g4:c.Term.above c.Env.length=false:=by simpa using hc
    refine qM ?_ ?_<;>intro hc<;>simp only [hc,go_sem]
    ·exact bad (by unfold zi;rw [show decide (c.Env.length≤256)=false from decide_eq_false (by have:=odT hc;omega)];simp)
    have g5:decide (c.Env.length≤256)=true:=decide_eq_true (by have:=odF hc;omega);refine qK (Zk (f:=.fn 1046 [.ept (.ept m.enc 0) 0]) (fun a=> !inI a 0 (m.Heap.length-1)) (by simp [AV.tree,AV.trees,go_sem]) c.Env (fun y _=>⟨1046,_,rfl,qTI hm⟩) (by omega)) ?_;simp only [go_sem];exact qJ rfl (by unfold zi;rw [QY,g1,g2,g3,g4,g5];simp)
   ·exact bad (by unfold zi;simp at hc;simp [hc])
  ·exact bad (by unfold zi;rw [nt hc];simp)
 ·exact bad (by unfold zi;simp at hc;cases h:c.Term.valid<;>simp_all)
theorem c788 {xs:List Int} (hl:xs.length≤1048576):Pure Gm 788 [.lst 1 (xs.map qD) false,.nils] (.bool (decide (xs.length=0))):=by
 refine Pure.intro [] [] g788 (by kernel_rfl) rfl (by simp [AV.trees,AV.tree,go_sem,zU]) rfl ?_;simp only [Yc,qP,go_sem];refine qM ?_ ?_<;>intro hc<;>simp only [hc,go_sem]
 ·exact qJ rfl (by simp at hc;simp [hc])
 have h0:xs=[]:=by simpa using hc
 subst h0;clear hc;refine Sem.loop (fun i:Nat=>i≤0∧True) (fun i=>(⟨[(13,.int .i64 (i:Nat)),(12,.int .i64 0),(0,.lst 1 [] false),(1,.nils)],[],[]⟩:VSt)) (fun i=>0-i) 0 (by kernel_rfl) ⟨Nat.zero_le _,trivial⟩ (Can.sub (by simp [go_sem]) (by simp [go_sem])) ?_;rintro i ⟨hi,hI⟩;simp only [go_sem];refine qM ?_ ?_<;>intro hc<;>simp only [hc,go_sem]
 ·exact absurd (odT hc) (by omega)
 ·exact qJ rfl rfl
theorem qTT {xs:List qA} (hl:xs.length≤1048576):Pure Gm 1475 [.lst 4 (xs.map qA.enc) false,.nils,.fn 1337 []] (.bool (decide (xs.length=0))):=by
 refine Pure.intro [] [] qWB (by kernel_rfl) rfl (by simp [AV.trees,AV.tree,go_sem,jA]) rfl ?_;simp only [XL,qP,go_sem];refine qM ?_ ?_<;>intro hc<;>simp only [hc,go_sem]
 ·exact qJ rfl (by simp at hc;simp [hc])
 have h0:xs=[]:=by simpa using hc
 subst h0;clear hc;simp only [XM];refine Sem.loop (fun i:Nat=>i≤0∧True) (fun i=>(⟨[(17,.int .i64 (i:Nat)),(16,.int .i64 0),(15,.lst 4 [] false),(0,.lst 4 [] false),(1,.nils),(2,.fn 1337 [])],[],[]⟩:VSt)) (fun i=>0-i) 0 (by kernel_rfl) ⟨Nat.zero_le _,trivial⟩ (Can.sub (by simp [go_sem]) (by simp [go_sem])) ?_;rintro i ⟨hi,hI⟩;simp only [go_sem];refine qM ?_ ?_<;>intro hc<;>simp only [hc,go_sem]
 ·exact absurd (odT hc) (by omega)
 ·exact qJ rfl rfl
theorem qTQ {x:qA} (hz:x.sz≤1048576):Pure Gm 1337 [x.enc,.agg [.int .i64 0,.int .i64 0,.nils,.nils]] (.bool (decide (x.Kind=0)&&decide (x.Value=0)&&decide (x.Data.length=0)&&decide (x.Kids.length=0))):=by
 refine Pure.intro [] [] qV6 (by kernel_rfl) rfl (by simp [AV.trees,AV.tree,go_sem]) rfl ?_;simp only [XG,qP,go_sem];have hL:=x.len_sz;refine qW qA.ln ?_;simp only [go_sem];refine qW rfl ?_;simp only [go_sem];refine qY ?_ ?_<;>intro hc<;>simp only [hc,go_sem]
 ·have g1:=hc;refine qY ?_ ?_<;>intro hc<;>simp only [hc,go_sem]
  ·have g2:=hc;refine qK (c788 (by omega)) ?_;simp only [go_sem];refine qY ?_ ?_<;>intro hc<;>simp only [hc,go_sem]
   ·refine qK (qTT (by omega)) ?_;simp only [go_sem];exact qJ rfl (by simp_all)
   ·exact qJ rfl (by simp_all)
  ·exact qJ rfl (by simp_all)
 ·exact qJ rfl (by simp_all)
theorem qTJ {x:qI} (hz:x.sz≤1048576):Pure Gm 1049 [x.enc] (.bool (JY x)):=by
 refine Pure.intro [] [] qVF (by kernel_rfl) rfl (by simp [AV.trees,AV.tree,go_sem]) rfl ?_;simp only [Wd,qP,go_sem];have hz':x.Term.sz+x.Env.length≤1048576:=hz;refine qW rfl ?_;simp only [go_sem];refine qK (qTQ (x:=x.Term) (by omega)) ?_;simp only [go_sem];refine qY ?_ ?_<;>intro hc<;>simp only [hc,go_sem]
 ·exact qJ rfl (by unfold JY;rw [hc];simp)
 ·exact qJ rfl (by unfold JY;rw [hc];simp)
theorem qTR {d:Int} {b:qO} (hb:b.Defs.length≤1048576):Pure Gm 1338 [.int .i64 d,.ept b.enc 0] (.bool (!inI d 0 (b.Defs.length-1))):=by
 refine Pure.intro [] [] qV7 (by kernel_rfl) rfl (by simp [AV.trees,AV.tree,go_sem]) rfl ?_;simp only [XH,qP,go_sem];refine qY ?_ ?_<;>intro hc<;>simp only [hc,go_sem]
 ·have h1:=odF hc;exact qJ rfl (by simp only [inI,AV.bool.injEq];rw [Bool.eq_iff_iff];simp;omega)
 ·have h1:=odT (hc.trans rfl);exact qJ rfl (by simp only [inI,AV.bool.injEq];rw [Bool.eq_iff_iff];simp;omega)
theorem qOR {b:qO} {ds:List Int} (hb:b.Defs.length≤1048576) (hl:ds.length≤1048576):Pure Gm 1052 [b.enc,.lst 1 (ds.map qD) false] (.bool (jo b ds)):=by
 refine Pure.intro [2] [] qVI (by kernel_rfl) rfl (by simp [AV.trees,AV.tree,go_sem,zU]) rfl ?_;simp only [Wg,qP,go_sem];refine jh rfl ?_;simp only [go_sem];simp only [go_sem,List.nil_append,List.cons_append,List.set_cons_zero,List.set_cons_succ];refine qK (Zk (f:=.fn 1338 [.ept b.enc 0]) (fun d=> !inI d 0 (b.Defs.length-1)) (by simp [AV.tree,AV.trees,go_sem]) ds (fun y _=>⟨1338,_,rfl,qTR hb⟩) hl) ?_;simp only [go_sem];exact qJ rfl (by rw [QY];simp [jo])
theorem c676 {b:qO} {m:qG} {f:qF} (hz:f.sz≤1048576) (hm:m.Heap.length≤1048576) (hb:b.Defs.length≤1048576):Pure Gm 676 [.ept m.enc 0,b.enc,f.enc] (.bool (z5 b m.Heap.length f)):=by
 refine Pure.intro [] [] g676 (by kernel_rfl) rfl (by simp [AV.trees,AV.tree,go_sem]) rfl ?_;simp only [YQ,qP,go_sem];have hz':f.Data.length+f.Closure.sz≤1048576:=hz;refine qW rfl ?_;simp only [go_sem];refine qW rfl ?_;simp only [go_sem];by_cases hk:f.Kind=3
 ·simp only [hk,decide_true,Bool.not_true,Int.reduceEq,decide_false,go_sem];refine qK qLR ?_;simp only [go_sem];have eF:z5 b m.Heap.length f=(inI f.Value 1 6&&decide (f.Data.length=0)&&zi b m.Heap.length f.Closure):=by unfold z5;rw [if_pos hk]
  rw [eF];refine qY ?_ ?_<;>intro hc<;>simp only [hc,go_sem]
  ·have g1:=hc;refine qY ?_ ?_<;>intro hc<;>simp only [hc,go_sem]
   ·have g2:=hc;refine qK (c672 (by omega) hm) ?_;simp only [go_sem];exact qJ rfl (by first | (simp;done) | (simp_all;done) | (simp_all;omega))
   ·exact qJ rfl (by first | (simp;done) | (simp_all;done) | (simp_all;omega))
  ·exact qJ rfl (by first | (simp;done) | (simp_all;done) | (simp_all;omega))
 rw [show decide (f.Kind=3)=false from decide_eq_false hk];simp only [Bool.not_false,go_sem];refine qK (qTJ (by omega)) ?_;simp only [go_sem];refine qM ?_ ?_<;>intro hc<;>simp only [hc,go_sem]
 ·exact qJ rfl (by unfold z5;rw [if_neg hk,nt hc];simp)
 have g0:=nf hc;clear hc;have eF:z5 b m.Heap.length f=(if f.Kind=1∨f.Kind=2 then inI f.Value 0 ((m.Heap.length:Int)-1)&&decide (f.Data.length=0)
  else if f.Kind=4 then inI f.Value 1 6&&decide (f.Data.length=1)&&inI (f.Data.getD 0 0) (-2147483648) 2147483647
  else if f.Kind=5 then decide (f.Value=0)&&inI f.Data.length 1 4&&jo b f.Data
  else if f.Kind=6 then decide (f.Value=0)&&decide (f.Data.length=2)&&jo b f.Data
  else false):=by unfold z5;rw [if_neg hk,g0,Bool.true_and]
 rw [eF];clear eF;refine qM ?_ ?_<;>intro hc<;>simp only [hc,go_sem]
 ·have h12:f.Kind=1∨f.Kind=2:=by have:=odT hc;omega
  rw [if_pos h12];clear hc;refine qK (qLQ hm) ?_;simp only [go_sem];refine qY ?_ ?_<;>intro hc<;>simp only [hc,go_sem]
  ·exact qJ rfl (by first | (simp;done) | (simp_all;done) | (simp_all;omega))
  ·exact qJ rfl (by first | (simp;done) | (simp_all;done) | (simp_all;omega))
 have k1:=odF hc;clear hc;refine qM ?_ ?_<;>intro hc<;>simp only [hc,go_sem]
 ·have h12:f.Kind=1∨f.Kind=2:=by have:=odT hc;omega
  rw [if_pos h12];clear hc;refine qK (qLQ hm) ?_;simp only [go_sem];refine qY ?_ ?_<;>intro hc<;>simp only [hc,go_sem]
  ·exact qJ rfl (by first | (simp;done) | (simp_all;done) | (simp_all;omega))
  ·exact qJ rfl (by first | (simp;done) | (simp_all;done) | (simp_all;omega))
 have k2:=odF hc;clear hc;rw [if_neg (by omega)];rw [show decide (f.Kind=3)=false from decide_eq_false hk];simp only [go_sem];refine qM ?_ ?_<;>intro hc<;>simp only [hc,go_sem]
 ·rw [if_pos (odT hc)];clear hc;refine qK qLR ?_;simp only [go_sem];refine qY ?_ ?_<;>intro hc<;>simp only [hc,go_sem]
  ·have g1:=hc;refine qY ?_ ?_<;>intro hc<;>simp only [hc,go_sem]
   ·have hd:f.Data.length=1:=by have:=odT hc;omega
    obtain ⟨d,hd'⟩:=List.length_eq_one_iff.1 hd;simp only [hd',List.map_cons,List.map_nil,qD,List.getElem?_cons_zero,oMs,go_sem];refine qK qOQ ?_;simp only [go_sem];exact qJ rfl (by first | (simp;done) | (simp_all;done) | (simp_all;omega))
   ·exact qJ rfl (by first | (simp;done) | (simp_all;done) | (simp_all;omega))
  ·exact qJ rfl (by first | (simp;done) | (simp_all;done) | (simp_all;omega))
 have k4:=odF hc;clear hc;rw [if_neg k4]
 try simp only [YR,go_sem]
 refine qM ?_ ?_<;>intro hc<;>simp only [hc,go_sem]
 ·rw [if_pos (odT hc)];clear hc;refine qY ?_ ?_<;>intro hc<;>simp only [hc,go_sem]
  ·have g1:=hc;refine qY ?_ ?_<;>intro hc<;>simp only [hc,go_sem]
   ·have g2:=odT hc;refine qY ?_ ?_<;>intro hc<;>simp only [hc,go_sem]
    ·have g3:=odT hc;have h4:inI f.Data.length 1 4=true:=by simp only [inI];simp;omega
     refine qK (qOR hb (by omega)) ?_;simp only [go_sem];exact qJ rfl (by simp at g1;rw [h4];simp [g1])
    ·have h4:inI f.Data.length 1 4=false:=by have:=odF (hc.trans rfl);simp only [inI];simp;omega
     exact qJ rfl (by rw [h4];simp)
   ·have h4:inI f.Data.length 1 4=false:=by have:=odF (hc.trans rfl);simp only [inI];simp;omega
    exact qJ rfl (by rw [h4];simp)
  ·exact qJ rfl (by simp at hc;simp [hc])
 have k5:=odF hc;clear hc;rw [if_neg k5];refine qM ?_ ?_<;>intro hc<;>simp only [hc,go_sem]
 ·rw [if_pos (odT hc)];clear hc;refine qY ?_ ?_<;>intro hc<;>simp only [hc,go_sem]
  ·have g1:=hc;refine qY ?_ ?_<;>intro hc<;>simp only [hc,go_sem]
   ·have g2:=hc;refine qK (qOR hb (by omega)) ?_;simp only [go_sem];exact qJ rfl (by simp at g1;have h2:f.Data.length=2:=(by have:=odT g2;omega);simp [g1,h2])
   ·exact qJ rfl (by have h2:¬f.Data.length=2:=(by have:=odF (hc.trans rfl);omega);simp [h2])
  ·exact qJ rfl (by simp at hc;simp [hc])
 ·rw [if_neg (odF hc)];exact qJ rfl rfl
theorem c675 {b:qO} {m:qG} {f:qF} (hz:f.sz≤1048576) (hm:m.Heap.length≤1048576) (hb:b.Defs.length≤1048576):Pure Gm 675 [f.enc,.ept m.enc 0,.ept b.enc 0] (.bool (!z5 b m.Heap.length f)):=by
 refine Pure.intro [] [] g675 (by kernel_rfl) rfl (by simp [AV.trees,AV.tree,go_sem]) rfl ?_;simp only [YP,qP,go_sem];refine qW rfl ?_;simp only [go_sem];refine qK (c676 hz hm hb) ?_;simp only [go_sem];exact qJ rfl rfl
theorem qTB {b:qO}:JL b=(b.ok&&b.Defs.all fun c=>c.valid&&c.er):=by
 unfold JL;cases h:b.ok
 ·rfl
 ·simp only [Bool.true_and];unfold qO.ok at h;simp only [bAt,List.all_eq_true] at h;rw [Bool.eq_iff_iff];simp only [List.all_eq_true,bAt];constructor
  ·intro q x hx;have:=(h.2 x hx).1;unfold qA.closed at this;simp only [bAt] at this;exact ⟨this.1,q x hx⟩
  ·exact fun q x hx=>(q x hx).2
theorem c674 {f:AV} (p:qF→Bool) (hft:f.tree=true) (xs:List qF) (hf:∀x∈xs,Zf Gm f [x.enc] (.bool (p x))) (hl:xs.length≤1048576):Pure Gm 674 [.lst 8 (xs.map qF.enc) false,f] (.bool (xs.any p)):=
 qL4 qF.isSh (gc:=1048) g674 qVE f p hft xs hf hl
theorem c293 {b:qO} {m:qG} (hb:b.sz≤1048576) (hz:m.sz≤1048576):Pure Gm 293 [b.enc,m.enc] (.bool (m.ok b)):=by
 refine Pure.intro [2,3] [] g293 (by kernel_rfl) rfl (by simp [AV.trees,AV.tree,go_sem]) rfl ?_;simp only [XZ,qP,go_sem];have hz':m.Control.sz+(m.Stack.length+qE qF.sz m.Stack)+(m.Heap.length+qE qH.sz m.Heap)≤1048576:=hz;have hb':b.Defs.length+qE qA.sz b.Defs≤1048576:=hb;have bad:∀{h:List qC},m.ok b=false→Fin (some [.bool false]) h (.bool (m.ok b)):=fun h=>qJ rfl (by rw [h]);refine jh rfl ?_;simp only [go_sem];simp only [go_sem,List.nil_append,List.cons_append,List.set_cons_zero,List.set_cons_succ];refine jh rfl ?_;simp only [go_sem];simp only [go_sem,List.nil_append,List.cons_append,List.set_cons_zero,List.set_cons_succ];refine qK (c671 hb) ?_;simp only [go_sem];rw [←qTB];refine qY ?_ ?_<;>intro hc<;>simp only [hc,go_sem]
 ·have g1:=nf hc;refine qY ?_ ?_<;>intro hc<;>simp only [hc,go_sem]
  ·have g2:decide (m.Heap.length≤2000)=true:=decide_eq_true (by have:=odF hc;omega);have q2:=odT g2;refine qY ?_ ?_<;>intro hc<;>simp only [hc,go_sem]
   ·have g3:decide (m.Stack.length≤400)=true:=decide_eq_true (by have:=odF hc;omega);have q3:=odT g3;refine qK (c672 (c:=m.Control) (by omega) (by omega)) ?_;simp only [go_sem];refine qM ?_ ?_<;>intro hc<;>simp only [hc,go_sem]
    ·exact bad (by unfold qG.ok;rw [nt hc];simp)
    have g4:=nf hc;clear hc
    try simp only [Xb,Xa,go_sem]
    refine Sem.loop (fun i:Nat=>i≤m.Heap.length∧m.ok b=(m.Stack.all (z5 b m.Heap.length)&&(m.Heap.drop i).all (jv b m.Heap.length))) (fun i=>(⟨[(3,.ept m.enc 0),(2,.ept b.enc 0),(30,.lst 6 (m.Heap.map qH.enc) false),(31,.int .i64 (m.Heap.length:Nat)),(32,.int .i64 (i:Nat))],[],[.dead,.dead]⟩:VSt)) (fun i=>m.Heap.length-i) 0 (by kernel_rfl) ⟨Nat.zero_le _,by simp [qG.ok,g1,g2,g3,g4]⟩ (Can.sub (by simp [go_sem]) (by simp [go_sem])) ?_;rintro i ⟨hi,hI⟩;simp only [go_sem];refine qM ?_ ?_<;>intro hc<;>simp only [hc,go_sem]
    ·have hlt:i<m.Heap.length:=by have:=odT hc;omega
     simp only [gMp,gEg hlt,oMs,go_sem];have hm:=zP (f:=qH.sz) (gMm hlt);rw [jI hlt,List.all_cons] at hI;generalize ht:m.Heap[i]=t at hm hI;have hm':t.Closure.sz≤1048576:=by have:t.sz=t.Closure.sz:=rfl;omega
     refine qf (k:=6) rfl rfl ⟨_,rfl⟩ (by decide) ?_;simp only [Xc,go_sem];refine qK (c672 (c:=t.Closure) hm' (by omega)) ?_;simp only [go_sem];refine qY ?_ ?_<;>intro hc<;>simp only [hc,go_sem]
     ·have c1:=nf hc;refine qY ?_ ?_<;>intro hc<;>simp only [hc,go_sem]
      ·have c2:=hc;refine qK (c673 (x:=t.Closure) hm') ?_;simp only [go_sem];refine qM ?_ ?_<;>intro hc<;>simp only [hc,go_sem]
       ·exact bad (by rw [hI];unfold jv;rw [c1,c2,nt hc];simp)
       ·simp only [qq (show i<4611686018427387904 by omega)];refine qo (i+1) ⟨by omega, ?_⟩ (by omega) (Can.sub (by simp [go_sem]) (by simp [go_sem]));rw [hI];unfold jv;rw [c1,c2,nf hc];simp
      ·have c2:t.Done=false:=by simpa using hc
       simp only [qq (show i<4611686018427387904 by omega)];refine qo (i+1) ⟨by omega, ?_⟩ (by omega) (Can.sub (by simp [go_sem]) (by simp [go_sem]));rw [hI];unfold jv;simp [c1,c2]
     ·exact bad (by rw [hI];unfold jv;simp at hc;simp [hc])
    ·obtain rfl:i=m.Heap.length:=by have:=odF hc;omega
     rw [List.drop_length,List.all_nil,Bool.and_true] at hI;refine qK (c674 (f:=.fn 675 [.ept m.enc 0,.ept b.enc 0]) (fun f=> !z5 b m.Heap.length f) (by simp [AV.tree,AV.trees,go_sem]) m.Stack (fun y hy=>⟨675,_,rfl,c675 (by have:=zP (f:=qF.sz) hy;omega) (by omega) (by omega)⟩) (by omega)) ?_;simp only [go_sem];exact qJ rfl (by rw [hI,QY])
   ·exact bad (by unfold qG.ok;rw [show decide (m.Stack.length≤400)=false from decide_eq_false (by have:=odT (hc.trans rfl);omega)];simp)
  ·exact bad (by unfold qG.ok;rw [show decide (m.Heap.length≤2000)=false from decide_eq_false (by have:=odT (hc.trans rfl);omega)];simp)
 ·exact bad (by unfold qG.ok;rw [nt hc];simp)
attribute [local simp] jA zU
theorem qYN {c:qI} (h:JY c=true):c=noC:=by
 unfold JY at h;simp only [bAt,decide_eq_true_eq,List.length_eq_zero_iff] at h;obtain ⟨⟨⟨⟨h1,h2⟩,h3⟩,h4⟩,h5⟩:=h;obtain ⟨t,e⟩:=c;obtain ⟨k,v,d,ks⟩:=t;simp only [qA.Kind,qA.Value,qA.Data,qA.Kids] at h1 h2 h3 h4 h5;subst h1 h2 h3 h4 h5;rfl
theorem c823 {c:qI} (hz:c.sz≤1048576) (hv:c.Term.valid=true∨c=noC):Pure Gm 823 [.ept c.enc 0] (c.enc):=by
 refine Pure.intro [] [] g823 (by kernel_rfl) rfl (by simp [AV.trees,AV.tree,go_sem]) (by simp [go_sem]) ?_;simp only [Yj,qP,go_sem];have hz':c.Term.sz+c.Env.length≤1048576:=hz;refine qK (c402 c.Env (by omega)) ?_;simp only [go_sem];refine qf (k:=5) rfl rfl ⟨_,rfl⟩ (by decide) ?_;simp only [go_sem];refine qM ?_ ?_<;>intro hc<;>simp only [hc,go_sem]
 ·have h1:c.Term.valid=true:=hv.resolve_right (fun q=>by subst q;exact absurd (nt hc) (by decide));have hw:=JF h1;refine qK (lkT (c387 (x:=c.Term) (by omega) (by omega) hw.2.2.2.2)) ?_;rw [qaQ];simp only [go_sem];refine wU (c':=.agg [.int .i64 c.Term.Kind,.int .i64 c.Term.Value,.lst 1 (c.Term.Data.map qD) false,.lst 4 (c.Term.Kids.map qA.enc) false,.lst 1 (c.Env.map qD) false]) (by simp [go_sem]) (by rw [qA.enc_eq];rfl) ?_;simp only [go_sem];refine qf (k:=5) rfl rfl ⟨_,rfl⟩ (by decide) ?_;simp only [go_sem];exact qJ (by simp [go_sem]) rfl
 ·have h2:c=noC:=by
   refine hv.resolve_left fun q=> ?_;have hk:c.Term.Kind=0:=by simpa using hc
   have hn:=Jt (JF q).1;simp [zN,inI,shp,hk] at hn;omega
  subst h2;refine qf (k:=5) rfl rfl ⟨_,rfl⟩ (by decide) ?_;simp only [go_sem];refine j5 (.agg rfl ?_);simp only [List.zip_cons_cons,List.zip_nil_left,List.mem_cons,List.not_mem_nil,or_false];rintro p (rfl | rfl | rfl | rfl | rfl)
  ·exact .refl rfl
  ·exact .refl rfl
  ·exact .nils
  ·exact .nils
  ·exact .refl rfl
def Old (h g:List qC):Prop:=h.length≤g.length∧∀j,j<h.length→g[j]?=h[j]?
theorem Old.refl (h:List qC):Old h h:=⟨Nat.le_refl _,fun _ _=>rfl⟩
theorem Old.trans {a b c:List qC} (x:Old a b) (y:Old b c):Old a c:=⟨Nat.le_trans x.1 y.1,fun j hj=>(y.2 j (Nat.lt_of_lt_of_le hj x.1)).trans (x.2 j hj)⟩
theorem Old.push {h g:List qC} {o:qC} (x:Old h g):Old h (g++[o]):=⟨by simp;have:=x.1;omega,fun j hj=>by rw [gAl (Nat.lt_of_lt_of_le hj x.1)];exact x.2 j hj⟩
theorem Old.set {h g:List qC} {o:qC} {i:Nat} (x:Old h g) (hi:h.length≤i):Old h (g.set i o):=⟨by simp;exact x.1,fun j hj=>by rw [gSn (by omega)];exact x.2 j hj⟩
def FV (f:qF):Prop:=(f.Closure.Term.valid=true∧f.Closure.Env.length≤256∨f.Closure=noC)∧f.Data.length≤4
theorem Zm {c:qI} (h:c.Term.valid=true∧c.Env.length≤256∨c=noC):c.sz≤3000:=by
 rcases h with ⟨h1,h2⟩ | rfl
 ·have:=(JF h1).2.2.2.1;unfold qI.sz;omega
 ·decide
theorem s460 {h:List qC} {M:qG} {K:AV→List qC→Prop} (hc:M.Control.Term.valid=true∧M.Control.Env.length≤3000) (hs:∀f∈M.Stack,FV f) (ht:∀t∈M.Heap,t.Closure.Term.valid=true∧t.Closure.Env.length≤256)
  (l1:M.Stack.length≤100000) (l2:M.Heap.length≤100000)
  (hK:∀g si hi,Old h g→g[si]?=some (.row 8 (M.Stack.map qF.enc) true)→g[hi]?=some (.row 6 (M.Heap.map qH.enc) true)→h.length≤si→h.length≤hi→si≠hi→K (.agg (Nec M si hi)) g):SCall Gm 460 [.ept M.enc 0] h K:=by
 refine SCall.run [] [] g460 (by kernel_rfl) rfl ?_;simp only [Xq,qP,go_sem];have hcz:M.Control.sz≤1048576:=by have:=(JF hc.1).2.2.2.1;unfold qI.sz;omega
 refine qK (Pure.lk0 qG.tr qG.part0 (by rw [qI.ln];decide) (c823 (c:=M.Control) hcz (.inl hc.1))) ?_;simp only [go_sem];refine qf (k:=7) rfl rfl ⟨_,rfl⟩ (by decide) ?_;simp only [go_sem]
 try simp only [Xr,go_sem]
 have hlt1:∀{i:Nat} {si:Nat} {g:List qC},g[si]?=some (.row 8 ((M.Stack.take i).map qF.enc) true)→si<g.length:=fun h=>qc h;refine UF (fun q:Nat×List qC×Nat=>q.1≤M.Stack.length∧Old h q.2.1∧h.length≤q.2.2∧q.2.1[q.2.2]?=some (.row 8 ((M.Stack.take q.1).map qF.enc) true))
  (fun q=>(⟨[(0,.ept M.enc 0),(4,.int .i64 (q.1:Nat))],[(3,.agg [.int .i64 M.Control.Term.Kind,.int .i64 M.Control.Term.Value,.lst 1 (M.Control.Term.Data.map qD) false,.lst 4 (M.Control.Term.Kids.map qA.enc) false,.lst 1 (M.Control.Env.map qD) false,.slice 8 q.2.2 0 q.1 false,.nils]),
   (2,.agg [.int .i64 0,.int .i64 0,.nils,.nils,.nils,.nils,.nils])],q.2.1⟩:VSt)) (fun q=>M.Stack.length-q.1) (0,h++[.row 8 [] true],h.length)
  (fun q:List qC×Nat=>Old h q.1∧h.length≤q.2∧q.1[q.2]?=some (.row 8 (M.Stack.map qF.enc) true))
  (fun q=>(⟨[(0,.ept M.enc 0)],[(3,.agg [.int .i64 M.Control.Term.Kind,.int .i64 M.Control.Term.Value,.lst 1 (M.Control.Term.Data.map qD) false,.lst 4 (M.Control.Term.Kids.map qA.enc) false,.lst 1 (M.Control.Env.map qD) false,.slice 8 q.2 0 M.Stack.length false,.nils]),
   (2,.agg [.int .i64 0,.int .i64 0,.nils,.nils,.nils,.nils,.nils])],q.1⟩:VSt)) (by kernel_rfl) ?_ ?_ ?_ ?_
 ·exact ⟨Nat.zero_le _,(Old.refl h).push,Nat.le_refl _,by simp⟩
 ·refine Can.ph (w:=8) ?_ ?_
  ·exact WkN.same (by simp [go_sem]) (WkN.same (by simp [go_sem]) .nil)
  ·refine WkN.cons (v:=.agg [.int .i64 M.Control.Term.Kind,.int .i64 M.Control.Term.Value,.lst 1 (M.Control.Term.Data.map qD) false,.lst 4 (M.Control.Term.Kids.map qA.enc) false,.lst 1 (M.Control.Env.map qD) false,.nils,.nils]) (by simp [go_sem]) (.agg (.same (.same (.same (.same (.same (.cons (.ph (by simp)) (.same .nil)))))))) (WkN.same (by simp [go_sem]) .nil)
 ·rintro ⟨i,g,si⟩ ⟨h1,h2,h3,h4⟩;simp only at h1 h2 h3 h4⊢;simp only [go_sem];refine qM ?_ ?_<;>intro hc<;>simp only [hc,go_sem]
  ·have hlt:i<M.Stack.length:=by have:=odT hc;omega
   clear hc;simp only [gMp,gEg hlt,oMs,go_sem];have hm:=gMm hlt;have hf:=hs _ hm;generalize hfe:M.Stack[i]=f at hm hf;have hfz:=Zm hf.1;refine qK (c402 f.Data (by have:=hf.2;omega)) ?_;simp only [go_sem];refine qK (Pure.lk0 qF.tr qF.part3 (by rw [qI.ln];decide) (c823 (c:=f.Closure) (by omega) (hf.1.imp And.left id))) ?_;simp only [go_sem];have l4:=qc h4;refine ja (x:=f.enc) (xs:=(M.Stack.take i).map qF.enc) (js:=[]) List.getElem?_concat_length (by rw [gAl l4,lAn];exact h4) (by rw [lMp,List.length_take];omega) (by omega) ?_;simp only [go_sem];simp only [lAp,lCo,lNi,nZa,qq (show i<4611686018427387904 by omega)];refine UE (i+1,_,g.length+1) ⟨by simp only;omega, ?_, ?_, ?_⟩ (by simp only;omega) (Can.sub (by simp [go_sem]) (by simp [go_sem]))
   ·exact (h2.push.set h3).push
   ·have:=h2.1;simp only;omega
   ·simp only;rw [gAr (by simp),ZJ hlt,hfe];simp
  ·obtain rfl:i=M.Stack.length:=by have:=odF hc;omega
   rw [List.take_length] at h4;exact UV (g,si) ⟨h2,h3,h4⟩ (Can.sub (by simp [go_sem]) (by simp [go_sem]))
 ·rintro ⟨g0,si⟩ ⟨h1,hsi,h3⟩;simp only at h1 hsi h3⊢;simp only [go_sem];refine Sem.loop (fun q:Nat×List qC×Nat=>q.1≤M.Heap.length∧Old h q.2.1∧h.length≤q.2.2∧q.2.1[q.2.2]?=some (.row 6 ((M.Heap.take q.1).map qH.enc) true)∧q.2.1[si]?=some (.row 8 (M.Stack.map qF.enc) true))
   (fun q=>(⟨[(0,.ept M.enc 0),(6,.int .i64 (q.1:Nat))],[(3,.agg [.int .i64 M.Control.Term.Kind,.int .i64 M.Control.Term.Value,.lst 1 (M.Control.Term.Data.map qD) false,.lst 4 (M.Control.Term.Kids.map qA.enc) false,.lst 1 (M.Control.Env.map qD) false,.slice 8 si 0 M.Stack.length false,.slice 6 q.2.2 0 q.1 false]),
    (2,.agg [.int .i64 0,.int .i64 0,.nils,.nils,.nils,.nils,.nils])],q.2.1⟩:VSt)) (fun q=>M.Heap.length-q.1) (0,g0++[.row 6 [] true],g0.length) (by kernel_rfl) ?_ ?_ ?_
  ·exact ⟨Nat.zero_le _,h1.push,h1.1,by simp,by simp only;rw [gAl (qc h3)];exact h3⟩
  ·refine Can.ph (w:=6) ?_ ?_
   ·exact WkN.same (by simp [go_sem]) (WkN.same (by simp [go_sem]) .nil)
   ·refine WkN.cons (v:=.agg [.int .i64 M.Control.Term.Kind,.int .i64 M.Control.Term.Value,.lst 1 (M.Control.Term.Data.map qD) false,.lst 4 (M.Control.Term.Kids.map qA.enc) false,.lst 1 (M.Control.Env.map qD) false,.slice 8 si 0 M.Stack.length false,.nils]) (by simp [go_sem]) (.agg (.same (.same (.same (.same (.same (.same (.cons (.ph (by simp)) .nil)))))))) (WkN.same (by simp [go_sem]) .nil)
  ·rintro ⟨i,g,hi⟩ ⟨h1,h2,h3,h4,h5⟩;simp only at h1 h2 h3 h4 h5⊢;simp only [go_sem];refine qM ?_ ?_<;>intro hc<;>simp only [hc,go_sem]
   ·have hlt:i<M.Heap.length:=by have:=odT hc;omega
    clear hc;simp only [gMp,gEg hlt,oMs,go_sem];have hm:=gMm hlt;have hf:=ht _ hm;generalize hfe:M.Heap[i]=t at hm hf;have hfz:=Zm (.inl hf);refine qK (Pure.lk0 qH.tr qH.part1 (by rw [qI.ln];decide) (c823 (c:=t.Closure) (by omega) (.inl hf.1))) ?_;simp only [go_sem];have l4:=qc h4;have hne:hi≠si:=by rintro rfl;rw [h4] at h5;cases h5
    refine ja (x:=t.enc) (xs:=(M.Heap.take i).map qH.enc) (js:=[]) List.getElem?_concat_length (by rw [gAl l4,lAn];exact h4) (by rw [lMp,List.length_take];omega) (by omega) ?_;simp only [go_sem];simp only [lAp,lCo,lNi,nZa,qq (show i<4611686018427387904 by omega)];refine qo (i+1,_,g.length+1) ⟨by simp only;omega, ?_, ?_, ?_, ?_⟩ (by simp only;omega) (Can.sub (by simp [go_sem]) (by simp [go_sem]))
    ·exact (h2.push.set h3).push
    ·have:=h2.1;simp only;omega
    ·simp only;rw [gAr (by simp),ZJ hlt,hfe];simp
    ·simp only;have l5:=qc h5;rw [gAl (by simp;omega),gSn hne,gAl l5];exact h5
   ·obtain rfl:i=M.Heap.length:=by have:=odF hc;omega
    rw [List.take_length] at h4;refine qf (k:=7) rfl rfl ⟨_,rfl⟩ (by decide) ?_;simp only [go_sem];exact hK g si hi h2 h5 h4 hsi h3 (by rintro rfl;rw [h4] at h5;cases h5)
theorem qa7 (xs:List qH):AV.trees (xs.map qH.enc)=true:=zA qH.isSh.tree xs
theorem s827 {h:List qC} {xs:List qF} {K:AV→List qC→Prop} (hl:xs.length≤4194304) (hK:K (.slice 8 h.length 0 xs.length false) (h++[.row 8 (xs.map qF.enc) true])):SCall Gm 827 [.lst 8 (xs.map qF.enc) false] h K:=by
 cases xs with
 | nil=>exact SCall.fresh (qL0 (w:=8) (xs:=[]) g827 (fun n=>rfl) rfl rfl (by simp)) hK
 | cons x xs=>
  refine SCall.run [] [] g827 (by kernel_rfl) rfl ?_;simp only [Yx,Qe,qP,List.map_cons,go_sem];refine VW Els.lst (by simp only [lCo,lMp] at hl⊢;omega) ?_;simp only [go_sem];simpa using hK
theorem s828 {h:List qC} {xs:List qH} {K:AV→List qC→Prop} (hl:xs.length≤4194304) (hK:K (.slice 6 h.length 0 xs.length false) (h++[.row 6 (xs.map qH.enc) true])):SCall Gm 828 [.lst 6 (xs.map qH.enc) false] h K:=by
 cases xs with
 | nil=>exact SCall.fresh (qL0 (w:=6) (xs:=[]) g828 (fun n=>rfl) rfl rfl (by simp)) hK
 | cons x xs=>
  refine SCall.run [] [] g828 (by kernel_rfl) rfl ?_;simp only [Yy,Qe,qP,List.map_cons,go_sem];refine VW Els.lst (by simp only [lCo,lMp] at hl⊢;omega) ?_;simp only [go_sem];simpa using hK
theorem s465 {h:List qC} {M:qG} {K:AV→List qC→Prop} (l1:M.Stack.length≤100000) (l2:M.Heap.length≤100000)
  (hK:K (.ptr (h.length+2) 0 0) ((h++[.row 8 (M.Stack.map qF.enc) true]++[.row 6 (M.Heap.map qH.enc) true])++[.row 7 [.agg (Nec M h.length (h.length+1))] true])):SCall Gm 465 [M.enc] h K:=by
 refine SCall.run [] [] g465 (by kernel_rfl) rfl ?_;simp only [Xt,qP,go_sem];refine qW rfl ?_;simp only [go_sem];refine qe (s827 (by omega) ?_);simp only [go_sem];refine qe (s828 (by omega) ?_);simp only [go_sem];refine jh rfl ?_;simp only [go_sem];simpa [Nec,Jk,QV,qz] using hK
def wO:qG:=⟨noC,[],[]⟩
theorem U0 {g:List qC} {si hi:Nat} {M:qG} {js:List AV} (h1:g[si]?=some (.row 8 (M.Stack.map qF.enc++js) true)) (h2:g[hi]?=some (.row 6 (M.Heap.map qH.enc) true)):Cv g (.agg (Nec M si hi)) M.enc:=by
 unfold Nec qG.enc;refine .agg rfl ?_;simp only [List.zip_cons_cons,List.zip_nil_left,List.mem_cons,List.not_mem_nil,or_false];rintro p (rfl | rfl | rfl | rfl | rfl | rfl | rfl)
 ·exact .refl rfl
 ·exact .refl rfl
 ·exact .refl (by simp [AV.tree])
 ·exact .refl (by simp [AV.tree])
 ·exact .refl (by simp [AV.tree])
 ·have e:((M.Stack.map qF.enc++js).drop 0).take M.Stack.length=M.Stack.map qF.enc:=by rw [List.drop_zero];exact List.take_left' (by simp)
  refine .slc h1 (by simp) (by decide) (by rw [e]) ?_;rw [e];intro p hp;obtain ⟨i,hi,rfl⟩:=List.getElem_of_mem hp;simp only [List.getElem_zip,List.getElem_map];exact .refl qF.tr
 ·exact Cv.row h2 (by simp) (qa7 _) (by decide)
theorem qLY {b:qO} {hl:Nat} {c:qI} (h:zi b hl c=true):CI b.Defs.length hl 256 c:=by
 unfold zi at h;simp only [bAt,Bool.not_eq_true',decide_eq_true_eq,List.all_eq_true,inI] at h;obtain ⟨⟨⟨⟨⟨h1,h2⟩,h3⟩,h4⟩,h5⟩,h6⟩:=h;exact ⟨⟨h1,h2,h3,h4⟩,h5,fun a ha=>by have:=h6 a ha;omega⟩
theorem qPN {b:qO} {hl:Nat} {f:qF} (h:z5 b hl f=true):FI b.Defs.length hl f∧FV f:=by
 unfold z5 at h;by_cases h3:f.Kind=3
 ·rw [if_pos h3] at h;simp only [bAt,decide_eq_true_eq] at h;have hc:=qLY h.2;exact ⟨⟨fun k=>by omega,fun _=>hc,fun k=>by omega,fun k=>by omega,fun k=>by omega⟩,.inl ⟨hc.t.v,hc.l⟩,by omega⟩
 rw [if_neg h3,bAt] at h;have hn:=qYN h.1;replace h:=h.2;have dfs:∀{ds:List Int},jo b ds=true→∀d∈ds,0≤d∧d<(b.Defs.length:Int):=fun {ds} q d hd=>by
  unfold jo at q;simp only [List.all_eq_true,inI,decide_eq_true_eq,bAt] at q;have:=q d hd;omega
 by_cases h12:f.Kind=1∨f.Kind=2
 ·rw [if_pos h12] at h;simp only [bAt,decide_eq_true_eq,inI] at h;exact ⟨⟨fun _=>by omega,fun k=>by omega,fun k=>by omega,fun k=>by omega,fun k=>by omega⟩,.inr hn,by omega⟩
 rw [if_neg h12] at h;by_cases h4:f.Kind=4
 ·rw [if_pos h4] at h;simp only [bAt,decide_eq_true_eq,inI] at h;exact ⟨⟨fun k=>by omega,fun k=>by omega,fun k=>by omega,fun k=>by omega,fun k=>by omega⟩,.inr hn,by omega⟩
 rw [if_neg h4] at h;by_cases h5:f.Kind=5
 ·rw [if_pos h5] at h;simp only [bAt,decide_eq_true_eq,inI] at h;exact ⟨⟨fun k=>by omega,fun k=>by omega,fun k=>by omega,fun _=>dfs h.2,fun k=>by omega⟩,.inr hn,by omega⟩
 rw [if_neg h5] at h;by_cases h6:f.Kind=6
 ·rw [if_pos h6] at h;simp only [bAt,decide_eq_true_eq,inI] at h;exact ⟨⟨fun k=>by omega,fun k=>by omega,fun k=>by omega,fun _=>dfs h.2,fun k=>h.1.2⟩,.inr hn,by omega⟩
 ·rw [if_neg h6] at h;cases h
theorem qM2 {b:qO} {M:qG} (h:M.ok b=true):BI b∧MI b M∧∀f∈M.Stack,FV f:=by
 unfold qG.ok JL at h;simp only [bAt,decide_eq_true_eq,List.all_eq_true] at h;obtain ⟨⟨⟨⟨⟨⟨h1,h0⟩,h2⟩,h3⟩,h4⟩,h5⟩,h6⟩:=h;have cl:∀{x:qA},x.closed=true→x.er=true→x.refs b.Defs.length=true→TI b.Defs.length 0 x:=fun {x} q1 q2 q3=>by
  unfold qA.closed at q1;simp only [bAt,Bool.not_eq_true'] at q1;exact ⟨q1.1,q2,q3,q1.2⟩
 unfold qO.ok at h1;simp only [bAt,List.all_eq_true,inI,decide_eq_true_eq] at h1;refine ⟨⟨by omega,fun d hd=>cl (h1.2 d hd).1 (h0 d hd) (h1.2 d hd).2⟩,⟨⟨qLY h4,fun f hf=>(qPN (h5 f hf)).1,fun t ht=> ?_⟩,h3,h2⟩,fun f hf=>(qPN (h5 f hf)).2⟩;have:=h6 t ht;unfold jv at this;simp only [bAt] at this;exact qLY this.1
namespace qG
variable {b:qO} {M:qG}
theorem addr_stack {t:qA}:(M.addr t).2.Stack=M.Stack:=by unfold addr;split<;>rfl
theorem addrs_stack:∀(ks:List qA) (M:qG),(addrs ks M).2.Stack=M.Stack
 |[],M=>rfl
 | a::ks,M=>by simp only [addrs];rw [addrs_stack ks,addr_stack]
theorem push_mem {f g:qF} (hf:f∈(M.push g).Stack):f∈M.Stack∨f=g:=by unfold push at hf;simpa using hf
theorem pop_mem {f:qF} (hf:f∈M.pop.Stack):f∈M.Stack:=List.dropLast_subset _ hf
end qG
theorem QU {k v:Int} {d:List Int} (h:d.length≤4):FV ⟨k,v,d,noC⟩:=⟨.inr rfl,h⟩
theorem qYJ {b:qO} {M:qG} (hM:MI b M) (hF:∀f∈M.Stack,FV f):∀f∈(M.move b).2.Stack,FV f:=by
 have hT:=hM.c.t;have hl:=hT.lens;have le:∀{f:qF} {N:qG},N.Stack=M.Stack→f∈N.Stack→FV f:=fun {f N} e hf=>hF f (e▸hf);intro f hf;unfold qG.move at hf;split at hf
 ·unfold qG.meet at hf
  repeat' split at hf
  ·exact hF f (List.dropLast_subset _ hf)
  ·exact hF f (qG.pop_mem hf)
  ·rcases qG.push_mem (M:=M.pop) hf with q | rfl
   ·exact hF f (qG.pop_mem q)
   ·exact QU (by simp)
  ·exact hF f (qG.pop_mem hf)
  ·exact hF f (qG.pop_mem hf)
  ·exact hF f (qG.pop_mem hf)
  ·simp only [qG.toRef,qG.ctl,List.mem_append,List.mem_map] at hf;rcases hf with q | ⟨a,_,rfl⟩
   ·exact hF f (qG.pop_mem q)
   ·exact QU (by simp)
  ·exact hF f hf
 ·unfold qG.eval at hf
  repeat' split at hf
  ·unfold qG.enter at hf;simp only [qG.ctl] at hf;split at hf
   ·exact hF f hf
   ·rcases qG.push_mem hf with q | rfl
    ·exact hF f q
    ·exact QU (by simp)
  ·rcases qG.push_mem (M:=(M.addr (M.Control.Term.kid 1)).2) hf with q | rfl
   ·exact le qG.addr_stack q
   ·exact QU (by simp)
  ·rename_i h1 h5 h3;rcases qG.push_mem (M:=M) hf with q | rfl
   ·exact hF f q
   ·refine ⟨.inl ⟨?_,hM.c.l⟩,by simp⟩;have hl2:=(WE hT.ok).1 (.inl h3);have hl1:1<M.Control.Term.Kids.length:=by omega
    show (M.Control.Term.kid 1).valid=true;rw [jC hl1];exact (hT.kid0 (by omega) hl1).v
  ·rcases qG.push_mem (M:=M) hf with q | rfl
   ·exact hF f q
   ·exact QU hl.2
  ·rcases qG.push_mem (M:=M) hf with q | rfl
   ·exact hF f q
   ·exact QU hl.2
  ·exact hF f hf
  ·exact le (qG.addrs_stack _ _) hf
theorem qaW {b:qO} {M:qG} (hM:MI b M) (hF:∀f∈M.Stack,FV f):∀f∈(M.step b).2.2.Stack,FV f:=by
 have e:(M.step b).2.2=(M.move b).2:=by unfold qG.step;split;rfl;split<;>rfl
 rw [e];exact qYJ hM hF
theorem U1 {h:List qC}:Cv h qQO wO.enc:=by
 refine .agg rfl ?_;simp only [List.zip_cons_cons,List.zip_nil_left,List.mem_cons,List.not_mem_nil,or_false];rintro p (rfl | rfl | rfl | rfl | rfl | rfl | rfl)
 ·exact .refl rfl
 ·exact .refl rfl
 ·exact .nils
 ·exact .nils
 ·exact .nils
 ·exact .nils
 ·exact .nils
end Go.Ab
namespace Go.Ab
open Go
structure zB (S:List (Option Nat)) (h:List qC) (v t:AV):Prop where
 p:t.pl=true
 d:zW S=true
 o:zy S h S (lay t 0).2
 v:VR2 S v (lay t 0).1
structure qw (S:List (Option Nat)) (h:List qC) (vs ts:List AV):Prop where
 p:AV.pls ts=true
 d:zW S=true
 o:zy S h S (qS ts 0).2
 v:VR2s S vs (qS ts 0).1
theorem qQ3:∀{as bs:List AV},AV.pls (as++bs)=(AV.pls as&&AV.pls bs)
 |[],_=>by simp [AV.pls]
 | a::as,bs=>by simp [AV.pls,qQ3 (as:=as),Bool.and_assoc]
section
variable {S S':List (Option Nat)} {h h':List qC} {v t:AV} {vs ts vs' ts':List AV}
theorem zB.len (x:zB S h v t):S.length=t.rows:=by rw [JZ x.o,qV]
theorem qw.len (x:qw S h vs ts):S.length=AV.rowss ts:=by rw [JZ x.o,zO]
theorem qw.cnt (x:qw S h vs ts):vs.length=ts.length:=by rw [x.v.1,jQ]
theorem zB.heap (x:zB S h v t) (hh:∀j,some j∈S→h'[j]?=h[j]?):zB S h' v t:=⟨x.p,x.d,WC hh x.o,x.v⟩
theorem qw.heap (x:qw S h vs ts) (hh:∀j,some j∈S→h'[j]?=h[j]?):qw S h' vs ts:=⟨x.p,x.d,WC hh x.o,x.v⟩
theorem qw.nil:qw [] h [] []:=⟨rfl,rfl,trivial,VR2s.nil⟩
theorem qw.app (x:qw S h vs ts) (y:qw S' h vs' ts') (hn:∀j,some j∈S→some j∉S'):qw (S++S') h (vs++vs') (ts++ts'):=by
 have l1:=x.len;have l2:=y.len;have m1:∀i,i<AV.rowss ts→(S++S')[0+i]?=S[0+i]?:=fun i hi=>gAl (by omega);have m2:∀i,i<AV.rowss ts'→(S++S')[0+AV.rowss ts+i]?=S'[0+i]?:=fun i hi=>by
  rw [gAr (by omega)];congr 1;omega
 refine ⟨by rw [qQ3,x.p,y.p];rfl,Zr x.d y.d hn, ?_, ?_⟩
 ·rw [w8];exact Js (US x.p m1 x.o) (US y.p m2 y.o)
 ·rw [w8];exact VR2s.app (VR2.moves _ _ _ _ x.p m1 x.v) (VR2.moves _ _ _ _ y.p m2 y.v)
theorem zB.one (x:zB S h v t):qw S h [v] [t]:=by
 refine ⟨by simp [AV.pls,x.p],x.d, ?_, ?_⟩
 ·simp only [qS,lAn];exact x.o
 ·simp only [qS];exact VR2s.cons x.v VR2s.nil
theorem qw.snoc (x:qw S h vs ts) (y:zB S' h v t) (hn:∀j,some j∈S→some j∉S'):qw (S++S') h (vs++[v]) (ts++[t]):=x.app y.one hn
theorem qw.scal (x:qw S h vs ts) {a:AV} (ha:∀n,lay a n=(a,[])) (hp:a.pl=true) (ht:a.tree=true):qw S h (vs++[a]) (ts++[a]):=by
 have y:qw [] h [a] [a]:=⟨by simp [AV.pls,hp],rfl,by simp only [qS,ha];trivial,by simp only [qS,ha];exact VR2s.cons (.tree ht) VR2s.nil⟩;have:=x.app y (fun j hj=>by simp);rwa [lAn] at this
theorem qw.agg (x:qw S h vs ts):zB S h (.agg vs) (.agg ts):=⟨by simp only [AV.pl];exact x.p,x.d,by simp only [lay];exact x.o,by simp only [lay];exact .agg x.v.1 x.v.2⟩
theorem qw.tup (x:qw S h vs ts):zB S h (.tup vs) (.tup ts):=⟨by simp only [AV.pl];exact x.p,x.d,by simp only [lay];exact x.o,by simp only [lay];exact .tup x.v.1 x.v.2⟩
theorem zB.aggs {w:AV} (x:zB S h w (.agg ts)):∃vs,w=.agg vs∧qw S h vs ts:=by
 have hv:=x.v;simp only [lay] at hv;obtain ⟨cs,rfl,hc⟩:=hv.aggs;exact ⟨cs,rfl,by have:=x.p;simp only [AV.pl] at this;exact this,x.d,by have:=x.o;simp only [lay] at this;exact this,hc⟩
theorem qw.row {k w:Nat} (x:qw S h vs ts) (hr:h[k]?=some (.row w vs true)) (hn:some k∉S):zB (some k::S) h (.slice w k 0 ts.length false) (.lst w ts false):=by
 have m:∀i,i<AV.rowss ts→(some k::S)[0+1+i]?=S[0+i]?:=fun i hi=>by
  rw [show 0+1+i=i+1 by omega,List.getElem?_cons_succ,nZa]
 refine ⟨by simp only [AV.pl];exact x.p,qUS x.d hn, ?_, ?_⟩
 ·simp only [lay];exact ⟨.row hr (VR2.moves _ _ _ _ x.p m x.v),US x.p m x.o⟩
 ·simp only [lay];exact .slice (by simp)
theorem zB.nils {w:Nat} {c:Bool}:zB [none] h .nils (.lst w [] false):=by
 refine ⟨rfl,rfl, ?_, ?_⟩
 ·simp only [lay,qS];exact ⟨.ph,trivial⟩
 ·simp only [lay,qS,lNi];exact .ph rfl
theorem zB.new {pre post:List qC} {n:Nat} (hp:t.pl=true) (hn:pre.length=n) (hh:h=pre++((lay t n).2++post)):zB ((List.range' n t.rows).map some) h (lay t n).1 t:=by
 subst hn;have hm:∀i,i<t.rows→((List.range' pre.length t.rows).map some)[0+i]?=some (some (pre.length+i)):=fun i hi=>by
  rw [gMp,List.getElem?_range' (by omega)];simp
 refine ⟨hp,Qi (List.nodup_range'),Q8 (by simp [qV]) fun i j o h1 h2=> ?_,qMN t _ _ hp hm⟩;have hi:i<t.rows:=by have:=(gSi.1 h2).1;rw [qV] at this;exact this
 have:=hm i hi;rw [nZa] at this;rw [this] at h1;cases h1;refine qMM t pre.length 0 hp hm (fun i o hi=> ?_) i o h2;rw [hh,gAr (by omega),Nat.add_sub_cancel_left,gAl (gSi.1 hi).1];exact hi
theorem zB.fin {ws:List AV} (x:zB S h (qz ws) t):FinF (some ws) h t:=⟨S,x.d,x.o,x.v⟩
theorem J0 {n k j:Nat} (hj:some j∈(List.range' n k).map some):n≤j∧j<n+k:=by
 simp only [List.mem_map,oSi,exists_eq_right,List.mem_range'_1] at hj;exact hj
end
theorem c455 (x:qI) (hb:x.bd) (left:Nat) (hl:left≤1048576):Pure Gm 455 [x.enc,.int .i64 left] (.int .i64 (z6 x.sz left)):=by
 refine Pure.intro [] [] g455 (by kernel_rfl) rfl (by simp [AV.trees,AV.tree,qI.tr]) rfl ?_;simp only [Xn,qP,go_sem];refine qW rfl ?_;simp only [go_sem];unfold qI.bd at hb;refine qK (c80 _ hb.1 _ (by omega)) ?_;simp only [go_sem];refine qM ?_ ?_<;>intro hc<;>simp only [hc,go_sem]
 ·have hq:=odT hc;rw [za] at hq;exact qJ rfl (by rw [jK (by unfold qI.sz;omega)])
 have hq:=odF hc;rw [za] at hq;rw [zk (by omega)];clear hc;refine qK (c338 _ hb.2 _ (by omega)) ?_;simp only [go_sem];refine qM ?_ ?_<;>intro hc<;>simp only [hc,go_sem]
 ·have hq:=odT hc;rw [za] at hq;exact qJ rfl (by rw [jK (by unfold qI.sz;omega)])
 have hq:=odF hc;rw [za] at hq;rw [zk (by omega)];clear hc;exact qJ rfl (by rw [zk (by unfold qI.sz;omega)];unfold qI.sz;first | rfl | (congr 2;omega))
theorem c817 (x:qF) (hb:x.bd) (left:Nat) (hl:left≤1048576):Pure Gm 817 [x.enc,.int .i64 left] (.int .i64 (z6 x.sz left)):=by
 refine Pure.intro [] [] g817 (by kernel_rfl) rfl (by simp [AV.trees,AV.tree,qF.tr]) rfl ?_;simp only [Ye,qP,go_sem];refine qW rfl ?_;simp only [go_sem];unfold qF.bd at hb;refine qK (c338 _ hb.1 _ (by omega)) ?_;simp only [go_sem];refine qM ?_ ?_<;>intro hc<;>simp only [hc,go_sem]
 ·have hq:=odT hc;rw [za] at hq;exact qJ rfl (by rw [jK (by unfold qF.sz;omega)])
 have hq:=odF hc;rw [za] at hq;rw [zk (by omega)];clear hc;refine qK (c455 _ hb.2 _ (by omega)) ?_;simp only [go_sem];refine qM ?_ ?_<;>intro hc<;>simp only [hc,go_sem]
 ·have hq:=odT hc;rw [za] at hq;exact qJ rfl (by rw [jK (by unfold qF.sz;omega)])
 have hq:=odF hc;rw [za] at hq;rw [zk (by omega)];clear hc;exact qJ rfl (by rw [zk (by unfold qF.sz;omega)];unfold qF.sz;first | rfl | (congr 2;omega))
theorem c456 (xs:List qF) (hx:xs.length≤140737488355328∧(∀y∈xs,qF.bd y)) (left:Nat) (hl:left≤1048576):Pure Gm 456 [.lst 8 (xs.map qF.enc) false,.int .i64 left] (.int .i64 (z6 (xs.length+qE qF.sz xs) left)):=
 Uo qF.isSh g456 qF.sz xs (fun x hm lf hlf=>c817 x (hx.2 x hm) lf hlf) left hl hx.1
theorem c818 (x:qH) (hb:x.bd) (left:Nat) (hl:left≤1048576):Pure Gm 818 [x.enc,.int .i64 left] (.int .i64 (z6 x.sz left)):=by
 refine Pure.intro [] [] g818 (by kernel_rfl) rfl (by simp [AV.trees,AV.tree,qH.tr]) rfl ?_;simp only [Yf,qP,go_sem];refine qW rfl ?_;simp only [go_sem];unfold qH.bd at hb;refine qK (c455 _ hb _ (by omega)) ?_;simp only [go_sem];refine qM ?_ ?_<;>intro hc<;>simp only [hc,go_sem]
 ·have hq:=odT hc;rw [za] at hq;exact qJ rfl (by rw [jK (by unfold qH.sz;omega)])
 have hq:=odF hc;rw [za] at hq;rw [zk (by omega)];clear hc;exact qJ rfl (by rw [zk (by unfold qH.sz;omega)];unfold qH.sz;first | rfl | (congr 2;omega))
theorem c457 (xs:List qH) (hx:xs.length≤140737488355328∧(∀y∈xs,qH.bd y)) (left:Nat) (hl:left≤1048576):Pure Gm 457 [.lst 6 (xs.map qH.enc) false,.int .i64 left] (.int .i64 (z6 (xs.length+qE qH.sz xs) left)):=
 Uo qH.isSh g457 qH.sz xs (fun x hm lf hlf=>c818 x (hx.2 x hm) lf hlf) left hl hx.1
theorem c152 (x:qG) (hb:x.bd) (left:Nat) (hl:left≤1048576):Pure Gm 152 [x.enc,.int .i64 left] (.int .i64 (z6 x.sz left)):=by
 refine Pure.intro [] [] g152 (by kernel_rfl) rfl (by simp [AV.trees,AV.tree,qG.tr]) rfl ?_;simp only [XN,qP,go_sem];refine qW rfl ?_;simp only [go_sem];unfold qG.bd at hb;refine qK (c455 _ hb.1 _ (by omega)) ?_;simp only [go_sem];refine qM ?_ ?_<;>intro hc<;>simp only [hc,go_sem]
 ·have hq:=odT hc;rw [za] at hq;exact qJ rfl (by rw [jK (by unfold qG.sz;omega)])
 have hq:=odF hc;rw [za] at hq;rw [zk (by omega)];clear hc;refine qK (c456 _ ⟨hb.2.1,hb.2.2.1⟩ _ (by omega)) ?_;simp only [go_sem];refine qM ?_ ?_<;>intro hc<;>simp only [hc,go_sem]
 ·have hq:=odT hc;rw [za] at hq;exact qJ rfl (by rw [jK (by unfold qG.sz;omega)])
 have hq:=odF hc;rw [za] at hq;rw [zk (by omega)];clear hc;refine qK (c457 _ ⟨hb.2.2.2.1,hb.2.2.2.2⟩ _ (by omega)) ?_;simp only [go_sem];refine qM ?_ ?_<;>intro hc<;>simp only [hc,go_sem]
 ·have hq:=odT hc;rw [za] at hq;exact qJ rfl (by rw [jK (by unfold qG.sz;omega)])
 have hq:=odF hc;rw [za] at hq;rw [zk (by omega)];clear hc;exact qJ rfl (by rw [zk (by unfold qG.sz;omega)];unfold qG.sz;first | rfl | (congr 2;omega))
theorem c462 (x:qI) (hz:x.sz≤1048576):Pure Gm 462 [x.enc] x.enc:=by
 refine Pure.intro [] [] g462 (by kernel_rfl) rfl (by simp [AV.trees,qI.tr]) qI.tr ?_;simp only [Za,qP,go_sem];refine qW rfl ?_;simp only [go_sem];unfold qI.sz at hz;refine qK (c83 x.Term (by omega)) ?_;simp only [go_sem];refine wU (c':=.agg [.int .i64 x.Term.Kind,.int .i64 x.Term.Value,.lst 1 (x.Term.Data.map qD) false,.lst 4 (x.Term.Kids.map qA.enc) false,.nils]) (by simp [go_sem]) (by rw [qA.enc_eq];rfl) ?_;simp only [go_sem];refine qK (c147 x.Env (by omega)) ?_;simp only [go_sem];refine qf rfl rfl ⟨_,rfl⟩ (by decide) ?_;simp only [go_sem];exact qJ qI.tr rfl
theorem c825 (x:qF) (hz:x.sz≤1048576):Pure Gm 825 [x.enc] x.enc:=by
 refine Pure.intro [] [] g825 (by kernel_rfl) rfl (by simp [AV.trees,qF.tr]) qF.tr ?_;simp only [Zc,qP,go_sem];refine qW rfl ?_;simp only [go_sem];unfold qF.sz at hz;refine qK (c147 x.Data (by omega)) ?_;simp only [go_sem];refine qK (c462 x.Closure (by omega)) ?_;simp only [go_sem];refine wU (c':=.agg [.int .i64 x.Kind,.int .i64 x.Value,.lst 1 (x.Data.map qD) false,.int .i64 x.Closure.Term.Kind,.int .i64 x.Closure.Term.Value,.lst 1 (x.Closure.Term.Data.map qD) false,.lst 4 (x.Closure.Term.Kids.map qA.enc) false,.lst 1 (x.Closure.Env.map qD) false]) rfl rfl ?_;simp only [go_sem];refine qf rfl rfl ⟨_,rfl⟩ (by decide) ?_;simp only [go_sem];exact qJ qF.tr rfl
theorem c463 (xs:List qF) (hl:xs.length+qE qF.sz xs≤1048576):Pure Gm 463 [.lst 8 (xs.map qF.enc) false] (.lst 8 (xs.map qF.enc) false):=
 Ur qF.isSh rfl rfl (by simp) g463 xs (fun x hm=>c825 x (by have:=zP (f:=qF.sz) hm;omega)) (by omega)
theorem c826 (x:qH) (hz:x.sz≤1048576):Pure Gm 826 [x.enc] x.enc:=by
 refine Pure.intro [] [] g826 (by kernel_rfl) rfl (by simp [AV.trees,qH.tr]) qH.tr ?_;simp only [Zd,qP,go_sem];refine qW rfl ?_;simp only [go_sem];unfold qH.sz at hz;refine qK (c462 x.Closure (by omega)) ?_;simp only [go_sem];refine wU (c':=.agg [.bool x.Done,.int .i64 x.Closure.Term.Kind,.int .i64 x.Closure.Term.Value,.lst 1 (x.Closure.Term.Data.map qD) false,.lst 4 (x.Closure.Term.Kids.map qA.enc) false,.lst 1 (x.Closure.Env.map qD) false]) rfl rfl ?_;simp only [go_sem];refine qf rfl rfl ⟨_,rfl⟩ (by decide) ?_;simp only [go_sem];exact qJ qH.tr rfl
theorem c464 (xs:List qH) (hl:xs.length+qE qH.sz xs≤1048576):Pure Gm 464 [.lst 6 (xs.map qH.enc) false] (.lst 6 (xs.map qH.enc) false):=
 Ur qH.isSh rfl rfl (by simp) g464 xs (fun x hm=>c826 x (by have:=zP (f:=qH.sz) hm;omega)) (by omega)
theorem c154 (x:qG) (hz:x.sz≤1048576):Pure Gm 154 [x.enc] x.enc:=by
 refine Pure.intro [] [] g154 (by kernel_rfl) rfl (by simp [AV.trees,qG.tr]) qG.tr ?_;simp only [ZZ,qP,go_sem];refine qW rfl ?_;simp only [go_sem];unfold qG.sz at hz;refine qK (c462 x.Control (by omega)) ?_;simp only [go_sem];refine wU (c':=.agg [.int .i64 x.Control.Term.Kind,.int .i64 x.Control.Term.Value,.lst 1 (x.Control.Term.Data.map qD) false,.lst 4 (x.Control.Term.Kids.map qA.enc) false,.lst 1 (x.Control.Env.map qD) false,.nils,.nils]) rfl rfl ?_;simp only [go_sem];refine qK (c463 x.Stack (by omega)) ?_;simp only [go_sem];refine qK (c464 x.Heap (by omega)) ?_;simp only [go_sem];refine qf rfl rfl ⟨_,rfl⟩ (by decide) ?_;simp only [go_sem];exact qJ qG.tr rfl
theorem c468 (x:qI) (hz:x.sz≤2097152):Pure Gm 468 [x.enc,x.enc] (.bool true):=by
 refine Pure.intro [] [] g468 (by kernel_rfl) rfl (by simp [AV.trees,qI.tr]) rfl ?_;simp only [Xz,qP,go_sem];refine qW rfl ?_;simp only [go_sem];refine qW rfl ?_;simp only [go_sem];unfold qI.sz at hz;refine qK (c85 _ (by omega)) ?_;simp only [go_sem];refine qK (c86 _ (by omega)) ?_;simp only [go_sem];exact qJ rfl rfl
theorem c831 (x:qF) (hz:x.sz≤2097152):Pure Gm 831 [x.enc,x.enc] (.bool true):=by
 refine Pure.intro [] [] g831 (by kernel_rfl) rfl (by simp [AV.trees,qF.tr]) rfl ?_;simp only [VD,qP,go_sem];refine qW rfl ?_;simp only [go_sem];refine qW rfl ?_;simp only [go_sem];unfold qF.sz at hz;refine qK (c86 _ (by omega)) ?_;simp only [go_sem];refine qK (c468 _ (by omega)) ?_;simp only [go_sem];exact qJ rfl rfl
theorem c469 (xs:List qF) (hl:xs.length≤2097152) (hz:∀x∈xs,x.sz≤2097152):Pure Gm 469 [.lst 8 (xs.map qF.enc) false,.lst 8 (xs.map qF.enc) false] (.bool true):=
 Vo qF.isSh g469 xs (fun x hm=>c831 x (hz x hm)) (by omega)
theorem c832 (x:qH) (hz:x.sz≤2097152):Pure Gm 832 [x.enc,x.enc] (.bool true):=by
 refine Pure.intro [] [] g832 (by kernel_rfl) rfl (by simp [AV.trees,qH.tr]) rfl ?_;simp only [VE,qP,go_sem];refine qW rfl ?_;simp only [go_sem];refine qW rfl ?_;simp only [go_sem];simp only [beq_self_eq_true,Bool.not_true,go_sem];unfold qH.sz at hz;refine qK (c468 _ (by omega)) ?_;simp only [go_sem];exact qJ rfl rfl
theorem c470 (xs:List qH) (hl:xs.length≤2097152) (hz:∀x∈xs,x.sz≤2097152):Pure Gm 470 [.lst 6 (xs.map qH.enc) false,.lst 6 (xs.map qH.enc) false] (.bool true):=
 Vo qH.isSh g470 xs (fun x hm=>c832 x (hz x hm)) (by omega)
theorem c156 (x:qG) (hc:x.Control.sz≤2097152) (h1:x.Stack.length≤2097152) (h2:∀y∈x.Stack,y.sz≤2097152) (h3:x.Heap.length≤2097152) (h4:∀y∈x.Heap,y.sz≤2097152):Pure Gm 156 [x.enc,x.enc] (.bool true):=by
 refine Pure.intro [] [] g156 (by kernel_rfl) rfl (by simp [AV.trees,qG.tr]) rfl ?_;simp only [XO,qP,go_sem];refine qW rfl ?_;simp only [go_sem];refine qW rfl ?_;simp only [go_sem];refine qK (c468 _ hc) ?_;simp only [go_sem];refine qK (c469 _ h1 h2) ?_;simp only [go_sem];refine qK (c470 _ h3 h4) ?_;simp only [go_sem];exact qJ rfl rfl
theorem qA.pK {a b:Int} {c:List Int} {d:List qA}:(qA.mk a b c d).Kind=a:=rfl
theorem qA.pV {a b:Int} {c:List Int} {d:List qA}:(qA.mk a b c d).Value=b:=rfl
theorem qA.pD {a b:Int} {c:List Int} {d:List qA}:(qA.mk a b c d).Data=c:=rfl
theorem qA.pC {a b:Int} {c:List Int} {d:List qA}:(qA.mk a b c d).Kids=d:=rfl
theorem qI.plx (x:qI):x.enc.pl=true:=by simp [qI.enc,AV.pl,AV.pls,zH (enc:=qD) (fun _=>rfl),zH qA.plx]
theorem qI.cnx (x:qI):x.enc.cn=true:=by simp [qI.enc,AV.cn,AV.cns,jc (enc:=qD) (fun _=>rfl),jc qA.cnx]
theorem qI.layE (x:qI) (n:Nat):lay x.enc n=(.agg [.int .i64 x.Term.Kind,.int .i64 x.Term.Value,.slice 1 (n) 0 x.Term.Data.length false,.slice 4 (n+AV.rows (.lst 1 (x.Term.Data.map qD) false)) 0 x.Term.Kids.length false,.slice 1 (n+AV.rows (.lst 1 (x.Term.Data.map qD) false)+AV.rows (.lst 4 (x.Term.Kids.map qA.enc) false)) 0 x.Env.length false],(lay (.lst 1 (x.Term.Data.map qD) false) (n)).2++((lay (.lst 4 (x.Term.Kids.map qA.enc) false) (n+AV.rows (.lst 1 (x.Term.Data.map qD) false))).2++((lay (.lst 1 (x.Env.map qD) false) (n+AV.rows (.lst 1 (x.Term.Data.map qD) false)+AV.rows (.lst 4 (x.Term.Kids.map qA.enc) false))).2++[]))):=by
 simp [qI.enc,lay,qS,zO,AV.rows,Nat.add_assoc,Nat.add_comm,Nat.add_left_comm]
theorem qI.rowsE (x:qI):x.enc.rows=AV.rows (.lst 1 (x.Term.Data.map qD) false)+AV.rows (.lst 4 (x.Term.Kids.map qA.enc) false)+AV.rows (.lst 1 (x.Env.map qD) false):=by simp [qI.enc,AV.rows,AV.rowss,Nat.add_assoc]
def qI.mrk (x:qI) (k:Int):qI:={Term:=.mk (k) (k+1) (mkL mkI ctI x.Term.Data (k+1+1)) (mkL qA.mrk qA.ct x.Term.Kids (k+1+1+((qE ctI x.Term.Data:Nat):Int))),Env:=mkL mkI ctI x.Env (k+1+1+((qE ctI x.Term.Data:Nat):Int)+((qE qA.ct x.Term.Kids:Nat):Int))}
def qI.ct (x:qI):Nat:=1+1+qE ctI x.Term.Data+qE qA.ct x.Term.Kids+qE ctI x.Env
def qI.mkV (x:qI) (k:Int):qI:={Term:=.mk (x.Term.Kind) (x.Term.Value) (mkL mkI ctI x.Term.Data (k)) (mkL qA.mrk qA.ct x.Term.Kids (k+((qE ctI x.Term.Data:Nat):Int))),Env:=mkL mkI ctI x.Env (k+((qE ctI x.Term.Data:Nat):Int)+((qE qA.ct x.Term.Kids:Nat):Int))}
def qI.ctV (x:qI):Nat:=qE ctI x.Term.Data+qE qA.ct x.Term.Kids+qE ctI x.Env
theorem qI.rowsM (x:qI) (k:Int):(x.mrk k).enc.rows=x.enc.rows:=by simp [qI.rowsE,qI.mrk,AV.rows,qA.pK,qA.pV,qA.pD,qA.pC,qT qA.mrk qA.ct (enc:=qA.enc) qA.rowsM,qT mkI ctI (enc:=qD) (fun _ _=>rfl)]
theorem qI.rowsV (x:qI) (k:Int):(x.mkV k).enc.rows=x.enc.rows:=by simp [qI.rowsE,qI.mkV,AV.rows,qA.pK,qA.pV,qA.pD,qA.pC,qT qA.mrk qA.ct (enc:=qA.enc) qA.rowsM,qT mkI ctI (enc:=qD) (fun _ _=>rfl)]
theorem qI.ctle (x:qI):x.ct≤16+16*x.sz:=by
 have h0:=jE (c:=ctI) (fun _=>by simp [ctI]) x.Term.Data;have h1:=jT (c:=qA.ct) (z:=qA.sz) qA.ctle x.Term.Kids;have h2:=jE (c:=ctI) (fun _=>by simp [ctI]) x.Env;simp only [qI.ct,qI.sz,qA.sz_eq];omega
theorem qI.ctVle (x:qI):x.ctV≤16*x.sz:=by
 have h0:=jE (c:=ctI) (fun _=>by simp [ctI]) x.Term.Data;have h1:=jT (c:=qA.ct) (z:=qA.sz) qA.ctle x.Term.Kids;have h2:=jE (c:=ctI) (fun _=>by simp [ctI]) x.Env;simp only [qI.ctV,qI.sz,qA.sz_eq];omega
theorem qF.plx (x:qF):x.enc.pl=true:=by simp [qF.enc,AV.pl,AV.pls,zH (enc:=qD) (fun _=>rfl),zH qA.plx]
theorem qF.cnx (x:qF):x.enc.cn=true:=by simp [qF.enc,AV.cn,AV.cns,jc (enc:=qD) (fun _=>rfl),jc qA.cnx]
theorem qF.layE (x:qF) (n:Nat):lay x.enc n=(.agg [.int .i64 x.Kind,.int .i64 x.Value,.slice 1 (n) 0 x.Data.length false,.int .i64 x.Closure.Term.Kind,.int .i64 x.Closure.Term.Value,.slice 1 (n+AV.rows (.lst 1 (x.Data.map qD) false)) 0 x.Closure.Term.Data.length false,.slice 4 (n+AV.rows (.lst 1 (x.Data.map qD) false)+AV.rows (.lst 1 (x.Closure.Term.Data.map qD) false)) 0 x.Closure.Term.Kids.length false,.slice 1 (n+AV.rows (.lst 1 (x.Data.map qD) false)+AV.rows (.lst 1 (x.Closure.Term.Data.map qD) false)+AV.rows (.lst 4 (x.Closure.Term.Kids.map qA.enc) false)) 0 x.Closure.Env.length false],(lay (.lst 1 (x.Data.map qD) false) (n)).2++((lay (.lst 1 (x.Closure.Term.Data.map qD) false) (n+AV.rows (.lst 1 (x.Data.map qD) false))).2++((lay (.lst 4 (x.Closure.Term.Kids.map qA.enc) false) (n+AV.rows (.lst 1 (x.Data.map qD) false)+AV.rows (.lst 1 (x.Closure.Term.Data.map qD) false))).2++((lay (.lst 1 (x.Closure.Env.map qD) false) (n+AV.rows (.lst 1 (x.Data.map qD) false)+AV.rows (.lst 1 (x.Closure.Term.Data.map qD) false)+AV.rows (.lst 4 (x.Closure.Term.Kids.map qA.enc) false))).2++[])))):=by
 simp [qF.enc,lay,qS,zO,AV.rows,Nat.add_assoc,Nat.add_comm,Nat.add_left_comm]
theorem qF.rowsE (x:qF):x.enc.rows=AV.rows (.lst 1 (x.Data.map qD) false)+AV.rows (.lst 1 (x.Closure.Term.Data.map qD) false)+AV.rows (.lst 4 (x.Closure.Term.Kids.map qA.enc) false)+AV.rows (.lst 1 (x.Closure.Env.map qD) false):=by simp [qF.enc,AV.rows,AV.rowss,Nat.add_assoc]
def qF.mrk (x:qF) (k:Int):qF:={Kind:=k,Value:=k+1,Data:=mkL mkI ctI x.Data (k+1+1),Closure:={Term:=.mk (k+1+1+((qE ctI x.Data:Nat):Int)) (k+1+1+((qE ctI x.Data:Nat):Int)+1) (mkL mkI ctI x.Closure.Term.Data (k+1+1+((qE ctI x.Data:Nat):Int)+1+1)) (mkL qA.mrk qA.ct x.Closure.Term.Kids (k+1+1+((qE ctI x.Data:Nat):Int)+1+1+((qE ctI x.Closure.Term.Data:Nat):Int))),Env:=mkL mkI ctI x.Closure.Env (k+1+1+((qE ctI x.Data:Nat):Int)+1+1+((qE ctI x.Closure.Term.Data:Nat):Int)+((qE qA.ct x.Closure.Term.Kids:Nat):Int))}}
def qF.ct (x:qF):Nat:=1+1+qE ctI x.Data+1+1+qE ctI x.Closure.Term.Data+qE qA.ct x.Closure.Term.Kids+qE ctI x.Closure.Env
def qF.mkV (x:qF) (k:Int):qF:={Kind:=x.Kind,Value:=x.Value,Data:=mkL mkI ctI x.Data (k),Closure:={Term:=.mk (x.Closure.Term.Kind) (x.Closure.Term.Value) (mkL mkI ctI x.Closure.Term.Data (k+((qE ctI x.Data:Nat):Int))) (mkL qA.mrk qA.ct x.Closure.Term.Kids (k+((qE ctI x.Data:Nat):Int)+((qE ctI x.Closure.Term.Data:Nat):Int))),Env:=mkL mkI ctI x.Closure.Env (k+((qE ctI x.Data:Nat):Int)+((qE ctI x.Closure.Term.Data:Nat):Int)+((qE qA.ct x.Closure.Term.Kids:Nat):Int))}}
def qF.ctV (x:qF):Nat:=qE ctI x.Data+qE ctI x.Closure.Term.Data+qE qA.ct x.Closure.Term.Kids+qE ctI x.Closure.Env
theorem qF.rowsM (x:qF) (k:Int):(x.mrk k).enc.rows=x.enc.rows:=by simp [qF.rowsE,qF.mrk,AV.rows,qA.pK,qA.pV,qA.pD,qA.pC,qT qA.mrk qA.ct (enc:=qA.enc) qA.rowsM,qT mkI ctI (enc:=qD) (fun _ _=>rfl)]
theorem qF.rowsV (x:qF) (k:Int):(x.mkV k).enc.rows=x.enc.rows:=by simp [qF.rowsE,qF.mkV,AV.rows,qA.pK,qA.pV,qA.pD,qA.pC,qT qA.mrk qA.ct (enc:=qA.enc) qA.rowsM,qT mkI ctI (enc:=qD) (fun _ _=>rfl)]
theorem qF.ctle (x:qF):x.ct≤16+16*x.sz:=by
 have h0:=jE (c:=ctI) (fun _=>by simp [ctI]) x.Data;have h1:=jE (c:=ctI) (fun _=>by simp [ctI]) x.Closure.Term.Data;have h2:=jT (c:=qA.ct) (z:=qA.sz) qA.ctle x.Closure.Term.Kids;have h3:=jE (c:=ctI) (fun _=>by simp [ctI]) x.Closure.Env;simp only [qF.ct,qF.sz,qI.sz,qA.sz_eq];omega
theorem qF.ctVle (x:qF):x.ctV≤16*x.sz:=by
 have h0:=jE (c:=ctI) (fun _=>by simp [ctI]) x.Data;have h1:=jE (c:=ctI) (fun _=>by simp [ctI]) x.Closure.Term.Data;have h2:=jT (c:=qA.ct) (z:=qA.sz) qA.ctle x.Closure.Term.Kids;have h3:=jE (c:=ctI) (fun _=>by simp [ctI]) x.Closure.Env;simp only [qF.ctV,qF.sz,qI.sz,qA.sz_eq];omega
theorem qH.plx (x:qH):x.enc.pl=true:=by simp [qH.enc,AV.pl,AV.pls,zH (enc:=qD) (fun _=>rfl),zH qA.plx]
theorem qH.cnx (x:qH):x.enc.cn=true:=by simp [qH.enc,AV.cn,AV.cns,jc (enc:=qD) (fun _=>rfl),jc qA.cnx]
theorem qH.layE (x:qH) (n:Nat):lay x.enc n=(.agg [.bool x.Done,.int .i64 x.Closure.Term.Kind,.int .i64 x.Closure.Term.Value,.slice 1 (n) 0 x.Closure.Term.Data.length false,.slice 4 (n+AV.rows (.lst 1 (x.Closure.Term.Data.map qD) false)) 0 x.Closure.Term.Kids.length false,.slice 1 (n+AV.rows (.lst 1 (x.Closure.Term.Data.map qD) false)+AV.rows (.lst 4 (x.Closure.Term.Kids.map qA.enc) false)) 0 x.Closure.Env.length false],(lay (.lst 1 (x.Closure.Term.Data.map qD) false) (n)).2++((lay (.lst 4 (x.Closure.Term.Kids.map qA.enc) false) (n+AV.rows (.lst 1 (x.Closure.Term.Data.map qD) false))).2++((lay (.lst 1 (x.Closure.Env.map qD) false) (n+AV.rows (.lst 1 (x.Closure.Term.Data.map qD) false)+AV.rows (.lst 4 (x.Closure.Term.Kids.map qA.enc) false))).2++[]))):=by
 simp [qH.enc,lay,qS,zO,AV.rows,Nat.add_assoc,Nat.add_comm,Nat.add_left_comm]
theorem qH.rowsE (x:qH):x.enc.rows=AV.rows (.lst 1 (x.Closure.Term.Data.map qD) false)+AV.rows (.lst 4 (x.Closure.Term.Kids.map qA.enc) false)+AV.rows (.lst 1 (x.Closure.Env.map qD) false):=by simp [qH.enc,AV.rows,AV.rowss,Nat.add_assoc]
def qH.mrk (x:qH) (k:Int):qH:={Done:=decide ((k).tmod 3=0),Closure:={Term:=.mk (k+1) (k+1+1) (mkL mkI ctI x.Closure.Term.Data (k+1+1+1)) (mkL qA.mrk qA.ct x.Closure.Term.Kids (k+1+1+1+((qE ctI x.Closure.Term.Data:Nat):Int))),Env:=mkL mkI ctI x.Closure.Env (k+1+1+1+((qE ctI x.Closure.Term.Data:Nat):Int)+((qE qA.ct x.Closure.Term.Kids:Nat):Int))}}
def qH.ct (x:qH):Nat:=1+1+1+qE ctI x.Closure.Term.Data+qE qA.ct x.Closure.Term.Kids+qE ctI x.Closure.Env
def qH.mkV (x:qH) (k:Int):qH:={Done:=x.Done,Closure:={Term:=.mk (x.Closure.Term.Kind) (x.Closure.Term.Value) (mkL mkI ctI x.Closure.Term.Data (k)) (mkL qA.mrk qA.ct x.Closure.Term.Kids (k+((qE ctI x.Closure.Term.Data:Nat):Int))),Env:=mkL mkI ctI x.Closure.Env (k+((qE ctI x.Closure.Term.Data:Nat):Int)+((qE qA.ct x.Closure.Term.Kids:Nat):Int))}}
def qH.ctV (x:qH):Nat:=qE ctI x.Closure.Term.Data+qE qA.ct x.Closure.Term.Kids+qE ctI x.Closure.Env
theorem qH.rowsM (x:qH) (k:Int):(x.mrk k).enc.rows=x.enc.rows:=by simp [qH.rowsE,qH.mrk,AV.rows,qA.pK,qA.pV,qA.pD,qA.pC,qT qA.mrk qA.ct (enc:=qA.enc) qA.rowsM,qT mkI ctI (enc:=qD) (fun _ _=>rfl)]
theorem qH.rowsV (x:qH) (k:Int):(x.mkV k).enc.rows=x.enc.rows:=by simp [qH.rowsE,qH.mkV,AV.rows,qA.pK,qA.pV,qA.pD,qA.pC,qT qA.mrk qA.ct (enc:=qA.enc) qA.rowsM,qT mkI ctI (enc:=qD) (fun _ _=>rfl)]
theorem qH.ctle (x:qH):x.ct≤16+16*x.sz:=by
 have h0:=jE (c:=ctI) (fun _=>by simp [ctI]) x.Closure.Term.Data;have h1:=jT (c:=qA.ct) (z:=qA.sz) qA.ctle x.Closure.Term.Kids;have h2:=jE (c:=ctI) (fun _=>by simp [ctI]) x.Closure.Env;simp only [qH.ct,qH.sz,qI.sz,qA.sz_eq];omega
theorem qH.ctVle (x:qH):x.ctV≤16*x.sz:=by
 have h0:=jE (c:=ctI) (fun _=>by simp [ctI]) x.Closure.Term.Data;have h1:=jT (c:=qA.ct) (z:=qA.sz) qA.ctle x.Closure.Term.Kids;have h2:=jE (c:=ctI) (fun _=>by simp [ctI]) x.Closure.Env;simp only [qH.ctV,qH.sz,qI.sz,qA.sz_eq];omega
theorem qG.plx (x:qG):x.enc.pl=true:=by simp [qG.enc,AV.pl,AV.pls,zH (enc:=qD) (fun _=>rfl),zH qA.plx,zH qF.plx,zH qH.plx]
theorem qG.cnx (x:qG):x.enc.cn=true:=by simp [qG.enc,AV.cn,AV.cns,jc (enc:=qD) (fun _=>rfl),jc qA.cnx,jc qF.cnx,jc qH.cnx]
theorem qG.layE (x:qG) (n:Nat):lay x.enc n=(.agg [.int .i64 x.Control.Term.Kind,.int .i64 x.Control.Term.Value,.slice 1 (n) 0 x.Control.Term.Data.length false,.slice 4 (n+AV.rows (.lst 1 (x.Control.Term.Data.map qD) false)) 0 x.Control.Term.Kids.length false,.slice 1 (n+AV.rows (.lst 1 (x.Control.Term.Data.map qD) false)+AV.rows (.lst 4 (x.Control.Term.Kids.map qA.enc) false)) 0 x.Control.Env.length false,.slice 8 (n+AV.rows (.lst 1 (x.Control.Term.Data.map qD) false)+AV.rows (.lst 4 (x.Control.Term.Kids.map qA.enc) false)+AV.rows (.lst 1 (x.Control.Env.map qD) false)) 0 x.Stack.length false,.slice 6 (n+AV.rows (.lst 1 (x.Control.Term.Data.map qD) false)+AV.rows (.lst 4 (x.Control.Term.Kids.map qA.enc) false)+AV.rows (.lst 1 (x.Control.Env.map qD) false)+AV.rows (.lst 8 (x.Stack.map qF.enc) false)) 0 x.Heap.length false],(lay (.lst 1 (x.Control.Term.Data.map qD) false) (n)).2++((lay (.lst 4 (x.Control.Term.Kids.map qA.enc) false) (n+AV.rows (.lst 1 (x.Control.Term.Data.map qD) false))).2++((lay (.lst 1 (x.Control.Env.map qD) false) (n+AV.rows (.lst 1 (x.Control.Term.Data.map qD) false)+AV.rows (.lst 4 (x.Control.Term.Kids.map qA.enc) false))).2++((lay (.lst 8 (x.Stack.map qF.enc) false) (n+AV.rows (.lst 1 (x.Control.Term.Data.map qD) false)+AV.rows (.lst 4 (x.Control.Term.Kids.map qA.enc) false)+AV.rows (.lst 1 (x.Control.Env.map qD) false))).2++((lay (.lst 6 (x.Heap.map qH.enc) false) (n+AV.rows (.lst 1 (x.Control.Term.Data.map qD) false)+AV.rows (.lst 4 (x.Control.Term.Kids.map qA.enc) false)+AV.rows (.lst 1 (x.Control.Env.map qD) false)+AV.rows (.lst 8 (x.Stack.map qF.enc) false))).2++[]))))):=by
 simp [qG.enc,lay,qS,zO,AV.rows,Nat.add_assoc,Nat.add_comm,Nat.add_left_comm]
theorem qG.rowsE (x:qG):x.enc.rows=AV.rows (.lst 1 (x.Control.Term.Data.map qD) false)+AV.rows (.lst 4 (x.Control.Term.Kids.map qA.enc) false)+AV.rows (.lst 1 (x.Control.Env.map qD) false)+AV.rows (.lst 8 (x.Stack.map qF.enc) false)+AV.rows (.lst 6 (x.Heap.map qH.enc) false):=by simp [qG.enc,AV.rows,AV.rowss,Nat.add_assoc]
def qG.mrk (x:qG) (k:Int):qG:={Control:={Term:=.mk (k) (k+1) (mkL mkI ctI x.Control.Term.Data (k+1+1)) (mkL qA.mrk qA.ct x.Control.Term.Kids (k+1+1+((qE ctI x.Control.Term.Data:Nat):Int))),Env:=mkL mkI ctI x.Control.Env (k+1+1+((qE ctI x.Control.Term.Data:Nat):Int)+((qE qA.ct x.Control.Term.Kids:Nat):Int))},Stack:=mkL qF.mrk qF.ct x.Stack (k+1+1+((qE ctI x.Control.Term.Data:Nat):Int)+((qE qA.ct x.Control.Term.Kids:Nat):Int)+((qE ctI x.Control.Env:Nat):Int)),Heap:=mkL qH.mrk qH.ct x.Heap (k+1+1+((qE ctI x.Control.Term.Data:Nat):Int)+((qE qA.ct x.Control.Term.Kids:Nat):Int)+((qE ctI x.Control.Env:Nat):Int)+((qE qF.ct x.Stack:Nat):Int))}
def qG.ct (x:qG):Nat:=1+1+qE ctI x.Control.Term.Data+qE qA.ct x.Control.Term.Kids+qE ctI x.Control.Env+qE qF.ct x.Stack+qE qH.ct x.Heap
def qG.mkV (x:qG) (k:Int):qG:={Control:={Term:=.mk (x.Control.Term.Kind) (x.Control.Term.Value) (mkL mkI ctI x.Control.Term.Data (k)) (mkL qA.mrk qA.ct x.Control.Term.Kids (k+((qE ctI x.Control.Term.Data:Nat):Int))),Env:=mkL mkI ctI x.Control.Env (k+((qE ctI x.Control.Term.Data:Nat):Int)+((qE qA.ct x.Control.Term.Kids:Nat):Int))},Stack:=mkL qF.mrk qF.ct x.Stack (k+((qE ctI x.Control.Term.Data:Nat):Int)+((qE qA.ct x.Control.Term.Kids:Nat):Int)+((qE ctI x.Control.Env:Nat):Int)),Heap:=mkL qH.mrk qH.ct x.Heap (k+((qE ctI x.Control.Term.Data:Nat):Int)+((qE qA.ct x.Control.Term.Kids:Nat):Int)+((qE ctI x.Control.Env:Nat):Int)+((qE qF.ct x.Stack:Nat):Int))}
def qG.ctV (x:qG):Nat:=qE ctI x.Control.Term.Data+qE qA.ct x.Control.Term.Kids+qE ctI x.Control.Env+qE qF.ct x.Stack+qE qH.ct x.Heap
theorem qG.rowsM (x:qG) (k:Int):(x.mrk k).enc.rows=x.enc.rows:=by simp [qG.rowsE,qG.mrk,AV.rows,qA.pK,qA.pV,qA.pD,qA.pC,qT qA.mrk qA.ct (enc:=qA.enc) qA.rowsM,qT qF.mrk qF.ct (enc:=qF.enc) qF.rowsM,qT qH.mrk qH.ct (enc:=qH.enc) qH.rowsM,qT mkI ctI (enc:=qD) (fun _ _=>rfl)]
theorem qG.rowsV (x:qG) (k:Int):(x.mkV k).enc.rows=x.enc.rows:=by simp [qG.rowsE,qG.mkV,AV.rows,qA.pK,qA.pV,qA.pD,qA.pC,qT qA.mrk qA.ct (enc:=qA.enc) qA.rowsM,qT qF.mrk qF.ct (enc:=qF.enc) qF.rowsM,qT qH.mrk qH.ct (enc:=qH.enc) qH.rowsM,qT mkI ctI (enc:=qD) (fun _ _=>rfl)]
theorem qG.ctle (x:qG):x.ct≤16+16*x.sz:=by
 have h0:=jE (c:=ctI) (fun _=>by simp [ctI]) x.Control.Term.Data;have h1:=jT (c:=qA.ct) (z:=qA.sz) qA.ctle x.Control.Term.Kids;have h2:=jE (c:=ctI) (fun _=>by simp [ctI]) x.Control.Env;have h3:=jT (c:=qF.ct) (z:=qF.sz) qF.ctle x.Stack;have h4:=jT (c:=qH.ct) (z:=qH.sz) qH.ctle x.Heap;simp only [qG.ct,qG.sz,qI.sz,qA.sz_eq];omega
theorem qG.ctVle (x:qG):x.ctV≤16*x.sz:=by
 have h0:=jE (c:=ctI) (fun _=>by simp [ctI]) x.Control.Term.Data;have h1:=jT (c:=qA.ct) (z:=qA.sz) qA.ctle x.Control.Term.Kids;have h2:=jE (c:=ctI) (fun _=>by simp [ctI]) x.Control.Env;have h3:=jT (c:=qF.ct) (z:=qF.sz) qF.ctle x.Stack;have h4:=jT (c:=qH.ct) (z:=qH.sz) qH.ctle x.Heap;simp only [qG.ctV,qG.sz,qI.sz,qA.sz_eq];omega
theorem n462 (x:qI) (hz:x.sz≤1048576):Fresh Gm 462 [x.enc] x.enc:=by
 refine Fresh.intro [] [] g462 (by kernel_rfl) rfl (by simp [AV.trees,qI.tr]) (qI.plx x) ?_;simp only [Za,qP,go_sem];refine qW rfl ?_;simp only [go_sem];unfold qI.sz at hz;refine zp (n83 x.Term (by omega)) ?_;simp only [go_sem,qA.layE];refine wU rfl rfl ?_;simp only [go_sem,List.take_succ_cons,List.take_zero,List.drop_succ_cons,List.drop_zero,List.cons_append,List.nil_append];refine zp (n147 x.Env (by omega)) ?_;simp only [go_sem,zS];refine qf rfl rfl ⟨_,rfl⟩ (by decide) ?_;simp only [go_sem];exact j4 (pre:=[]) (post:=[]) (qI.plx x) (by simp [qz,qI.layE,qV,Nat.add_assoc,qA.layE,qA.rowsE]) (by simp [qI.layE,qV,Nat.add_assoc,qA.layE,qA.rowsE])
theorem n825 (x:qF) (hz:x.sz≤1048576):Fresh Gm 825 [x.enc] x.enc:=by
 refine Fresh.intro [] [] g825 (by kernel_rfl) rfl (by simp [AV.trees,qF.tr]) (qF.plx x) ?_;simp only [Zc,qP,go_sem];refine qW rfl ?_;simp only [go_sem];unfold qF.sz at hz;refine zp (n147 x.Data (by omega)) ?_;simp only [go_sem,zS];refine zp (n462 x.Closure (by omega)) ?_;simp only [go_sem,qI.layE];refine wU rfl rfl ?_;simp only [go_sem,List.take_succ_cons,List.take_zero,List.drop_succ_cons,List.drop_zero,List.cons_append,List.nil_append];refine qf rfl rfl ⟨_,rfl⟩ (by decide) ?_;simp only [go_sem];exact j4 (pre:=[]) (post:=[]) (qF.plx x) (by simp [qz,qF.layE,qV,Nat.add_assoc,qI.layE,qI.rowsE]) (by simp [qF.layE,qV,Nat.add_assoc,qI.layE,qI.rowsE])
theorem n463 (xs:List qF) (hl:xs.length+qE qF.sz xs≤1048576):Fresh Gm 463 [.lst 8 (xs.map qF.enc) false] (.lst 8 (xs.map qF.enc) false):=
 Uq qF.isSh qF.plx rfl rfl (by simp) g463 xs (fun x hm=>n825 x (by have:=zP (f:=qF.sz) hm;omega)) (by omega)
theorem n826 (x:qH) (hz:x.sz≤1048576):Fresh Gm 826 [x.enc] x.enc:=by
 refine Fresh.intro [] [] g826 (by kernel_rfl) rfl (by simp [AV.trees,qH.tr]) (qH.plx x) ?_;simp only [Zd,qP,go_sem];refine qW rfl ?_;simp only [go_sem];unfold qH.sz at hz;refine zp (n462 x.Closure (by omega)) ?_;simp only [go_sem,qI.layE];refine wU rfl rfl ?_;simp only [go_sem,List.take_succ_cons,List.take_zero,List.drop_succ_cons,List.drop_zero,List.cons_append,List.nil_append];refine qf rfl rfl ⟨_,rfl⟩ (by decide) ?_;simp only [go_sem];exact j4 (pre:=[]) (post:=[]) (qH.plx x) (by simp [qz,qH.layE,qV,Nat.add_assoc,qI.layE,qI.rowsE]) (by simp [qH.layE,qV,Nat.add_assoc,qI.layE,qI.rowsE])
theorem n464 (xs:List qH) (hl:xs.length+qE qH.sz xs≤1048576):Fresh Gm 464 [.lst 6 (xs.map qH.enc) false] (.lst 6 (xs.map qH.enc) false):=
 Uq qH.isSh qH.plx rfl rfl (by simp) g464 xs (fun x hm=>n826 x (by have:=zP (f:=qH.sz) hm;omega)) (by omega)
theorem n154 (x:qG) (hz:x.sz≤1048576):Fresh Gm 154 [x.enc] x.enc:=by
 refine Fresh.intro [] [] g154 (by kernel_rfl) rfl (by simp [AV.trees,qG.tr]) (qG.plx x) ?_;simp only [ZZ,qP,go_sem];refine qW rfl ?_;simp only [go_sem];unfold qG.sz at hz;refine zp (n462 x.Control (by omega)) ?_;simp only [go_sem,qI.layE];refine wU rfl rfl ?_;simp only [go_sem,List.take_succ_cons,List.take_zero,List.drop_succ_cons,List.drop_zero,List.cons_append,List.nil_append];refine zp (n463 x.Stack (by omega)) ?_;simp only [go_sem,zS];refine zp (n464 x.Heap (by omega)) ?_;simp only [go_sem,zS];refine qf rfl rfl ⟨_,rfl⟩ (by decide) ?_;simp only [go_sem];exact j4 (pre:=[]) (post:=[]) (qG.plx x) (by simp [qz,qG.layE,qV,Nat.add_assoc,qI.layE,qI.rowsE]) (by simp [qG.layE,qV,Nat.add_assoc,qI.layE,qI.rowsE])
def qG.le (x:qG):Prop:=x.Control.sz≤4194304∧x.Stack.length≤4194304∧(∀y∈x.Stack,y.sz≤4194304)∧x.Heap.length≤4194304∧∀y∈x.Heap,y.sz≤4194304
theorem k471 (x:qI) (k:Int) (h0:0≤k) (hk:k+(x.ctV:Nat)≤4611686018427387904) (hz:x.sz≤4194304):Mark Gm 471 x.enc (x.mkV k).enc k (k+(x.ctV:Nat)):=by
 refine Mark.intro g471 (by kernel_rfl) rfl (qI.plx x) (qI.plx _) (qI.rowsV x k) ?_;rw [qI.layE,qI.layE];simp only [X0,qP,go_sem,Nat.reduceEqDiff,reduceIte,Nat.reduceAdd,nZa];refine qW rfl ?_;simp only [go_sem,Nat.reduceEqDiff,reduceIte,Nat.reduceAdd,nZa];unfold qI.ctV at hk;simp only [qI.sz,qA.sz_eq] at hz;refine zu (n:=0) (pre:=[]) (post:=(lay (.lst 1 (x.Env.map qD) false) (AV.rows (.lst 1 (x.Term.Data.map qD) false)+AV.rows (.lst 4 (x.Term.Kids.map qA.enc) false))).2++[]) (t:=x.Term.enc) (t':=(x.Term.mkV (k)).enc) (k89 x.Term (k) (by omega) (by simp only [qA.ctV];omega) (by simp only [qA.sz_eq];omega)) ?_ ?_ ?_ ?_
 ·first | rfl | (simp only [lAp,lNi,qV,AV.rows,qT qA.mrk qA.ct (enc:=qA.enc) qA.rowsM,qT mkI ctI (enc:=qD) (fun _ _=>rfl)];done) | (simp only [lAp,lNi,qV,AV.rows,qT qA.mrk qA.ct (enc:=qA.enc) qA.rowsM,qT mkI ctI (enc:=qD) (fun _ _=>rfl)];omega)
 ·first | rfl | (simp only [qA.layE,qA.pK,qA.pV,qA.pD,qA.pC,nZa,lAa,List.nil_append,lAn];done) | (simp only [lAa,List.nil_append,lAn,AV.rows,qT qA.mrk qA.ct (enc:=qA.enc) qA.rowsM,qT mkI ctI (enc:=qD) (fun _ _=>rfl),qT qF.mrk qF.ct (enc:=qF.enc) qF.rowsM,qT qH.mrk qH.ct (enc:=qH.enc) qH.rowsM];done)
 ·simp only [qA.layE,qA.pK,qA.pV,qA.pD,qA.pC,nZa]
 simp only [qA.layE,qA.mkV,qA.ctV,qA.pK,qA.pV,qA.pD,qA.pC,Int.natCast_add,←Int.add_assoc,lAa,List.nil_append,lAn,go_sem,Nat.reduceEqDiff,reduceIte,Nat.reduceAdd,nZa];refine zu (n:=AV.rows (.lst 1 (x.Term.Data.map qD) false)+AV.rows (.lst 4 (x.Term.Kids.map qA.enc) false)) (pre:=(lay (.lst 1 ((mkL mkI ctI x.Term.Data (k)).map qD) false) (0)).2++(lay (.lst 4 ((mkL qA.mrk qA.ct x.Term.Kids (k+((qE ctI x.Term.Data:Nat):Int))).map qA.enc) false) (AV.rows (.lst 1 (x.Term.Data.map qD) false))).2) (post:=[]) (t:=(.lst 1 (x.Env.map qD) false)) (t':=(.lst 1 ((mkL mkI ctI x.Env (k+((qE ctI x.Term.Data:Nat):Int)+((qE qA.ct x.Term.Kids:Nat):Int))).map qD) false)) (k90 x.Env (k+((qE ctI x.Term.Data:Nat):Int)+((qE qA.ct x.Term.Kids:Nat):Int)) (by omega) (by omega) (by omega)) ?_ ?_ (by rw [zS,lMp]) ?_
 ·first | rfl | (simp only [lAp,lNi,qV,AV.rows,qT qA.mrk qA.ct (enc:=qA.enc) qA.rowsM,qT mkI ctI (enc:=qD) (fun _ _=>rfl)];done) | (simp only [lAp,lNi,qV,AV.rows,qT qA.mrk qA.ct (enc:=qA.enc) qA.rowsM,qT mkI ctI (enc:=qD) (fun _ _=>rfl)];omega)
 ·first | rfl | (simp only [lAa,List.nil_append,lAn];done) | (simp only [lAa,List.nil_append,lAn,AV.rows,qT qA.mrk qA.ct (enc:=qA.enc) qA.rowsM,qT mkI ctI (enc:=qD) (fun _ _=>rfl),qT qF.mrk qF.ct (enc:=qF.enc) qF.rowsM,qT qH.mrk qH.ct (enc:=qH.enc) qH.rowsM];done)
 simp only [lAa,List.nil_append,lAn,go_sem,Nat.reduceEqDiff,reduceIte,Nat.reduceAdd,nZa];refine JP (by first | rfl | (simp only [qI.ctV];done) | (simp only [qI.ctV];omega)) ?_;simp only [qI.mkV,AV.rows,qA.pK,qA.pV,qA.pD,qA.pC,nZa,lAa,List.nil_append,lAn,qT qA.mrk qA.ct (enc:=qA.enc) qA.rowsM,qT mkI ctI (enc:=qD) (fun _ _=>rfl)]
theorem k472 (xs:List qF) (k:Int) (h0:0≤k) (hk:k+(qE qF.ct xs:Nat)≤4611686018427387904) (hl:xs.length≤4194304) (hz:∀y∈xs,y.sz≤4194304):Mark Gm 472 (.lst 8 (xs.map qF.enc) false) (.lst 8 ((mkL qF.mrk qF.ct xs k).map qF.enc) false) k (k+(qE qF.ct xs:Nat)):=by
 refine Mark.intro g472 (by kernel_rfl) rfl (zH qF.plx xs) (zH qF.plx _) (by simp only [AV.rows,qT qF.mrk qF.ct (enc:=qF.enc) qF.rowsM]) ?_;simp only [X1,qP,zS,go_sem,Nat.reduceEqDiff,reduceIte,Nat.reduceAdd,nZa];refine Sem.loop (fun i:Nat=>i≤xs.length) (fun i=>(⟨[(0,.slice 8 0 0 xs.length false),(1,.int .i64 (k+((qE qF.ct (xs.take i):Nat):Int))),(5,.int .i64 (i:Nat))],[],(lay (.lst 8 ((mkL qF.mrk qF.ct (xs.take i) k++xs.drop i).map qF.enc) false) 0).2⟩:VSt)) (fun i=>xs.length-i) 0 (by kernel_rfl) (Nat.zero_le _) (by simp only [List.take_zero,mkL,List.nil_append,List.drop_zero,qE,Int.ofNat_zero,Int.natCast_zero,Int.add_zero];exact Can.sub (by simp [go_sem]) (by simp [go_sem])) ?_;intro i hi;simp only [go_sem,Nat.reduceEqDiff,reduceIte,Nat.reduceAdd,nZa];refine qM ?_ ?_<;>intro hc<;>simp only [hc,go_sem,Nat.reduceEqDiff,reduceIte,Nat.reduceAdd,nZa]
 ·have hlt:i<xs.length:=by have:=odT hc;omega
  have hct:=ZI qF.ct hlt;have hcl:=ZH qF.ct xs (i+1);have hrow:=qF.rowsM;rw [List.drop_eq_getElem_cons hlt,Qu];have hsz:=hz xs[i] (gMm hlt);obtain ⟨K,hK⟩:∃K:Int,K=k+((qE qF.ct (xs.take i):Nat):Int):=⟨_,rfl⟩;have hend:k+((qE qF.ct (xs.take (i+1)):Nat):Int)=K+((qF.ct xs[i]:Nat):Int):=by rw [hct,hK];omega
  have hKb:0≤K∧K+((qF.ct xs[i]:Nat):Int)≤4611686018427387904:=by rw [←hend];omega
  have hmk:(mkL qF.mrk qF.ct (xs.take (i+1)) k++xs.drop (i+1))=mkL qF.mrk qF.ct (xs.take i) k++qF.mrk xs[i] K::xs.drop (i+1):=by rw [UL qF.mrk qF.ct hlt,←hK,lAa];rfl
  have hrx:=hrow xs[i] K;rw [←hK];obtain ⟨y,hy⟩:∃y,y=xs[i]:=⟨_,rfl⟩;rw [←hy] at hmk hend hKb hrx hsz⊢;have hcy:qF.ct y=1+1+qE ctI y.Data+1+1+qE ctI y.Closure.Term.Data+qE qA.ct y.Closure.Term.Kids+qE ctI y.Closure.Env:=rfl;rw [hcy] at hend hKb;simp only [qF.sz,qI.sz,qA.sz_eq] at hsz;have hA:(qS ((mkL qF.mrk qF.ct (xs.take i) k).map qF.enc) 1).1.length=i:=by rw [jQ,lMp,jL];simp;omega
  have hoA:=zO ((mkL qF.mrk qF.ct (xs.take i) k).map qF.enc) 1;have e2:=Qu (enc:=qF.enc) (w:=8) (c:=false) (A:=mkL qF.mrk qF.ct (xs.take i) k) (B:=xs.drop (i+1)) (z:=qF.mrk y K);rw [hrx] at e2;rw [qF.layE] at e2⊢;obtain ⟨p,hp⟩:∃p,p=1+AV.rowss ((mkL qF.mrk qF.ct (xs.take i) k).map qF.enc):=⟨_,rfl⟩;rw [←hp] at e2⊢;generalize (qS ((xs.drop (i+1)).map qF.enc) (p+y.enc.rows)).1=vB at e2⊢;generalize (qS ((xs.drop (i+1)).map qF.enc) (p+y.enc.rows)).2=oB at e2⊢;generalize (qS ((mkL qF.mrk qF.ct (xs.take i) k).map qF.enc) 1).1=vA at e2 hA⊢;generalize (qS ((mkL qF.mrk qF.ct (xs.take i) k).map qF.enc) 1).2=oA at e2 hoA⊢;simp only [qy hA,zM hA,zF hlt,List.set_cons_zero,go_sem,Nat.reduceEqDiff,reduceIte,Nat.reduceAdd,nZa];refine qp (e':=.agg [.int .i64 (K),.int .i64 y.Value,.slice 1 (p) 0 y.Data.length false,.int .i64 y.Closure.Term.Kind,.int .i64 y.Closure.Term.Value,.slice 1 (p+AV.rows (.lst 1 (y.Data.map qD) false)) 0 y.Closure.Term.Data.length false,.slice 4 (p+AV.rows (.lst 1 (y.Data.map qD) false)+AV.rows (.lst 1 (y.Closure.Term.Data.map qD) false)) 0 y.Closure.Term.Kids.length false,.slice 1 (p+AV.rows (.lst 1 (y.Data.map qD) false)+AV.rows (.lst 1 (y.Closure.Term.Data.map qD) false)+AV.rows (.lst 4 (y.Closure.Term.Kids.map qA.enc) false)) 0 y.Closure.Env.length false]) (by rfl) (by rfl) (qy hA) (by rfl) ?_;simp only [qy hA,zM hA,zF hlt,List.set_cons_zero,go_sem,Nat.reduceEqDiff,reduceIte,Nat.reduceAdd,nZa];rw [qr (n:=K+1) (by omega) (by omega)]
  try simp only [qy hA,zM hA,zF hlt,List.set_cons_zero,go_sem,Nat.reduceEqDiff,reduceIte,Nat.reduceAdd,nZa]
  refine qp (e':=.agg [.int .i64 (K),.int .i64 (K+1),.slice 1 (p) 0 y.Data.length false,.int .i64 y.Closure.Term.Kind,.int .i64 y.Closure.Term.Value,.slice 1 (p+AV.rows (.lst 1 (y.Data.map qD) false)) 0 y.Closure.Term.Data.length false,.slice 4 (p+AV.rows (.lst 1 (y.Data.map qD) false)+AV.rows (.lst 1 (y.Closure.Term.Data.map qD) false)) 0 y.Closure.Term.Kids.length false,.slice 1 (p+AV.rows (.lst 1 (y.Data.map qD) false)+AV.rows (.lst 1 (y.Closure.Term.Data.map qD) false)+AV.rows (.lst 4 (y.Closure.Term.Kids.map qA.enc) false)) 0 y.Closure.Env.length false]) (by rfl) (by rfl) (qy hA) (by rfl) ?_;simp only [qy hA,zM hA,zF hlt,List.set_cons_zero,go_sem,Nat.reduceEqDiff,reduceIte,Nat.reduceAdd,nZa];rw [qr (n:=K+1+1) (by omega) (by omega)]
  try simp only [qy hA,zM hA,zF hlt,List.set_cons_zero,go_sem,Nat.reduceEqDiff,reduceIte,Nat.reduceAdd,nZa]
  refine zu (n:=p) (pre:=.row 8 (vA++.agg [.int .i64 (K),.int .i64 (K+1),.slice 1 (p) 0 y.Data.length false,.int .i64 y.Closure.Term.Kind,.int .i64 y.Closure.Term.Value,.slice 1 (p+AV.rows (.lst 1 (y.Data.map qD) false)) 0 y.Closure.Term.Data.length false,.slice 4 (p+AV.rows (.lst 1 (y.Data.map qD) false)+AV.rows (.lst 1 (y.Closure.Term.Data.map qD) false)) 0 y.Closure.Term.Kids.length false,.slice 1 (p+AV.rows (.lst 1 (y.Data.map qD) false)+AV.rows (.lst 1 (y.Closure.Term.Data.map qD) false)+AV.rows (.lst 4 (y.Closure.Term.Kids.map qA.enc) false)) 0 y.Closure.Env.length false]::vB) true::(oA++[])) (post:=((lay (.lst 1 (y.Closure.Term.Data.map qD) false) (p+AV.rows (.lst 1 (y.Data.map qD) false))).2++((lay (.lst 4 (y.Closure.Term.Kids.map qA.enc) false) (p+AV.rows (.lst 1 (y.Data.map qD) false)+AV.rows (.lst 1 (y.Closure.Term.Data.map qD) false))).2++((lay (.lst 1 (y.Closure.Env.map qD) false) (p+AV.rows (.lst 1 (y.Data.map qD) false)+AV.rows (.lst 1 (y.Closure.Term.Data.map qD) false)+AV.rows (.lst 4 (y.Closure.Term.Kids.map qA.enc) false))).2++[])))++oB) (t:=(.lst 1 (y.Data.map qD) false)) (t':=(.lst 1 ((mkL mkI ctI y.Data (K+1+1)).map qD) false)) (k90 y.Data (K+1+1) (by omega) (by omega) (by omega)) ?_ ?_ (by rw [zS,lMp]) ?_
  ·first | rfl | (simp only [lCo,lAp,lNi,hoA,qV,AV.rows,qT qA.mrk qA.ct (enc:=qA.enc) qA.rowsM,qT mkI ctI (enc:=qD) (fun _ _=>rfl)];done) | (simp only [lCo,lAp,lNi,hoA,qV,AV.rows,qT qA.mrk qA.ct (enc:=qA.enc) qA.rowsM,qT mkI ctI (enc:=qD) (fun _ _=>rfl)];omega)
  ·first | rfl | (simp only [lAa,List.nil_append,lAn,List.cons_append];done)
  simp only [qy hA,zM hA,zF hlt,List.set_cons_zero,List.cons_append,go_sem,Nat.reduceEqDiff,reduceIte,Nat.reduceAdd,nZa];refine qp (e':=.agg [.int .i64 (K),.int .i64 (K+1),.slice 1 (p) 0 y.Data.length false,.int .i64 (K+1+1+((qE ctI y.Data:Nat):Int)),.int .i64 y.Closure.Term.Value,.slice 1 (p+AV.rows (.lst 1 (y.Data.map qD) false)) 0 y.Closure.Term.Data.length false,.slice 4 (p+AV.rows (.lst 1 (y.Data.map qD) false)+AV.rows (.lst 1 (y.Closure.Term.Data.map qD) false)) 0 y.Closure.Term.Kids.length false,.slice 1 (p+AV.rows (.lst 1 (y.Data.map qD) false)+AV.rows (.lst 1 (y.Closure.Term.Data.map qD) false)+AV.rows (.lst 4 (y.Closure.Term.Kids.map qA.enc) false)) 0 y.Closure.Env.length false]) (by rfl) (by rfl) (qy hA) (by rfl) ?_;simp only [qy hA,zM hA,zF hlt,List.set_cons_zero,go_sem,Nat.reduceEqDiff,reduceIte,Nat.reduceAdd,nZa];rw [qr (n:=K+1+1+((qE ctI y.Data:Nat):Int)+1) (by omega) (by omega)]
  try simp only [qy hA,zM hA,zF hlt,List.set_cons_zero,go_sem,Nat.reduceEqDiff,reduceIte,Nat.reduceAdd,nZa]
  refine qp (e':=.agg [.int .i64 (K),.int .i64 (K+1),.slice 1 (p) 0 y.Data.length false,.int .i64 (K+1+1+((qE ctI y.Data:Nat):Int)),.int .i64 (K+1+1+((qE ctI y.Data:Nat):Int)+1),.slice 1 (p+AV.rows (.lst 1 (y.Data.map qD) false)) 0 y.Closure.Term.Data.length false,.slice 4 (p+AV.rows (.lst 1 (y.Data.map qD) false)+AV.rows (.lst 1 (y.Closure.Term.Data.map qD) false)) 0 y.Closure.Term.Kids.length false,.slice 1 (p+AV.rows (.lst 1 (y.Data.map qD) false)+AV.rows (.lst 1 (y.Closure.Term.Data.map qD) false)+AV.rows (.lst 4 (y.Closure.Term.Kids.map qA.enc) false)) 0 y.Closure.Env.length false]) (by rfl) (by rfl) (qy hA) (by rfl) ?_;simp only [qy hA,zM hA,zF hlt,List.set_cons_zero,go_sem,Nat.reduceEqDiff,reduceIte,Nat.reduceAdd,nZa];rw [qr (n:=K+1+1+((qE ctI y.Data:Nat):Int)+1+1) (by omega) (by omega)]
  try simp only [qy hA,zM hA,zF hlt,List.set_cons_zero,go_sem,Nat.reduceEqDiff,reduceIte,Nat.reduceAdd,nZa]
  refine zu (n:=p+AV.rows (.lst 1 (y.Data.map qD) false)) (pre:=.row 8 (vA++.agg [.int .i64 (K),.int .i64 (K+1),.slice 1 (p) 0 y.Data.length false,.int .i64 (K+1+1+((qE ctI y.Data:Nat):Int)),.int .i64 (K+1+1+((qE ctI y.Data:Nat):Int)+1),.slice 1 (p+AV.rows (.lst 1 (y.Data.map qD) false)) 0 y.Closure.Term.Data.length false,.slice 4 (p+AV.rows (.lst 1 (y.Data.map qD) false)+AV.rows (.lst 1 (y.Closure.Term.Data.map qD) false)) 0 y.Closure.Term.Kids.length false,.slice 1 (p+AV.rows (.lst 1 (y.Data.map qD) false)+AV.rows (.lst 1 (y.Closure.Term.Data.map qD) false)+AV.rows (.lst 4 (y.Closure.Term.Kids.map qA.enc) false)) 0 y.Closure.Env.length false]::vB) true::(oA++((lay (.lst 1 ((mkL mkI ctI y.Data (K+1+1)).map qD) false) (p)).2))) (post:=((lay (.lst 4 (y.Closure.Term.Kids.map qA.enc) false) (p+AV.rows (.lst 1 (y.Data.map qD) false)+AV.rows (.lst 1 (y.Closure.Term.Data.map qD) false))).2++((lay (.lst 1 (y.Closure.Env.map qD) false) (p+AV.rows (.lst 1 (y.Data.map qD) false)+AV.rows (.lst 1 (y.Closure.Term.Data.map qD) false)+AV.rows (.lst 4 (y.Closure.Term.Kids.map qA.enc) false))).2++[]))++oB) (t:=(.lst 1 (y.Closure.Term.Data.map qD) false)) (t':=(.lst 1 ((mkL mkI ctI y.Closure.Term.Data (K+1+1+((qE ctI y.Data:Nat):Int)+1+1)).map qD) false)) (k90 y.Closure.Term.Data (K+1+1+((qE ctI y.Data:Nat):Int)+1+1) (by omega) (by omega) (by omega)) ?_ ?_ (by rw [zS,lMp]) ?_
  ·first | rfl | (simp only [lCo,lAp,lNi,hoA,qV,AV.rows,qT qA.mrk qA.ct (enc:=qA.enc) qA.rowsM,qT mkI ctI (enc:=qD) (fun _ _=>rfl)];done) | (simp only [lCo,lAp,lNi,hoA,qV,AV.rows,qT qA.mrk qA.ct (enc:=qA.enc) qA.rowsM,qT mkI ctI (enc:=qD) (fun _ _=>rfl)];omega)
  ·first | rfl | (simp only [lAa,List.nil_append,lAn,List.cons_append];done)
  simp only [qy hA,zM hA,zF hlt,List.set_cons_zero,List.cons_append,go_sem,Nat.reduceEqDiff,reduceIte,Nat.reduceAdd,nZa];refine zu (n:=p+AV.rows (.lst 1 (y.Data.map qD) false)+AV.rows (.lst 1 (y.Closure.Term.Data.map qD) false)) (pre:=.row 8 (vA++.agg [.int .i64 (K),.int .i64 (K+1),.slice 1 (p) 0 y.Data.length false,.int .i64 (K+1+1+((qE ctI y.Data:Nat):Int)),.int .i64 (K+1+1+((qE ctI y.Data:Nat):Int)+1),.slice 1 (p+AV.rows (.lst 1 (y.Data.map qD) false)) 0 y.Closure.Term.Data.length false,.slice 4 (p+AV.rows (.lst 1 (y.Data.map qD) false)+AV.rows (.lst 1 (y.Closure.Term.Data.map qD) false)) 0 y.Closure.Term.Kids.length false,.slice 1 (p+AV.rows (.lst 1 (y.Data.map qD) false)+AV.rows (.lst 1 (y.Closure.Term.Data.map qD) false)+AV.rows (.lst 4 (y.Closure.Term.Kids.map qA.enc) false)) 0 y.Closure.Env.length false]::vB) true::(oA++((lay (.lst 1 ((mkL mkI ctI y.Data (K+1+1)).map qD) false) (p)).2++(lay (.lst 1 ((mkL mkI ctI y.Closure.Term.Data (K+1+1+((qE ctI y.Data:Nat):Int)+1+1)).map qD) false) (p+AV.rows (.lst 1 (y.Data.map qD) false))).2))) (post:=((lay (.lst 1 (y.Closure.Env.map qD) false) (p+AV.rows (.lst 1 (y.Data.map qD) false)+AV.rows (.lst 1 (y.Closure.Term.Data.map qD) false)+AV.rows (.lst 4 (y.Closure.Term.Kids.map qA.enc) false))).2++[])++oB) (t:=(.lst 4 (y.Closure.Term.Kids.map qA.enc) false)) (t':=(.lst 4 ((mkL qA.mrk qA.ct y.Closure.Term.Kids (K+1+1+((qE ctI y.Data:Nat):Int)+1+1+((qE ctI y.Closure.Term.Data:Nat):Int))).map qA.enc) false)) (V0 y.Closure.Term.Kids (K+1+1+((qE ctI y.Data:Nat):Int)+1+1+((qE ctI y.Closure.Term.Data:Nat):Int)) (by omega) (by omega) (by omega)) ?_ ?_ (by rw [zS,lMp]) ?_
  ·first | rfl | (simp only [lCo,lAp,lNi,hoA,qV,AV.rows,qT qA.mrk qA.ct (enc:=qA.enc) qA.rowsM,qT mkI ctI (enc:=qD) (fun _ _=>rfl)];done) | (simp only [lCo,lAp,lNi,hoA,qV,AV.rows,qT qA.mrk qA.ct (enc:=qA.enc) qA.rowsM,qT mkI ctI (enc:=qD) (fun _ _=>rfl)];omega)
  ·first | rfl | (simp only [lAa,List.nil_append,lAn,List.cons_append];done)
  simp only [qy hA,zM hA,zF hlt,List.set_cons_zero,List.cons_append,go_sem,Nat.reduceEqDiff,reduceIte,Nat.reduceAdd,nZa];refine zu (n:=p+AV.rows (.lst 1 (y.Data.map qD) false)+AV.rows (.lst 1 (y.Closure.Term.Data.map qD) false)+AV.rows (.lst 4 (y.Closure.Term.Kids.map qA.enc) false)) (pre:=.row 8 (vA++.agg [.int .i64 (K),.int .i64 (K+1),.slice 1 (p) 0 y.Data.length false,.int .i64 (K+1+1+((qE ctI y.Data:Nat):Int)),.int .i64 (K+1+1+((qE ctI y.Data:Nat):Int)+1),.slice 1 (p+AV.rows (.lst 1 (y.Data.map qD) false)) 0 y.Closure.Term.Data.length false,.slice 4 (p+AV.rows (.lst 1 (y.Data.map qD) false)+AV.rows (.lst 1 (y.Closure.Term.Data.map qD) false)) 0 y.Closure.Term.Kids.length false,.slice 1 (p+AV.rows (.lst 1 (y.Data.map qD) false)+AV.rows (.lst 1 (y.Closure.Term.Data.map qD) false)+AV.rows (.lst 4 (y.Closure.Term.Kids.map qA.enc) false)) 0 y.Closure.Env.length false]::vB) true::(oA++((lay (.lst 1 ((mkL mkI ctI y.Data (K+1+1)).map qD) false) (p)).2++(lay (.lst 1 ((mkL mkI ctI y.Closure.Term.Data (K+1+1+((qE ctI y.Data:Nat):Int)+1+1)).map qD) false) (p+AV.rows (.lst 1 (y.Data.map qD) false))).2++(lay (.lst 4 ((mkL qA.mrk qA.ct y.Closure.Term.Kids (K+1+1+((qE ctI y.Data:Nat):Int)+1+1+((qE ctI y.Closure.Term.Data:Nat):Int))).map qA.enc) false) (p+AV.rows (.lst 1 (y.Data.map qD) false)+AV.rows (.lst 1 (y.Closure.Term.Data.map qD) false))).2))) (post:=([])++oB) (t:=(.lst 1 (y.Closure.Env.map qD) false)) (t':=(.lst 1 ((mkL mkI ctI y.Closure.Env (K+1+1+((qE ctI y.Data:Nat):Int)+1+1+((qE ctI y.Closure.Term.Data:Nat):Int)+((qE qA.ct y.Closure.Term.Kids:Nat):Int))).map qD) false)) (k90 y.Closure.Env (K+1+1+((qE ctI y.Data:Nat):Int)+1+1+((qE ctI y.Closure.Term.Data:Nat):Int)+((qE qA.ct y.Closure.Term.Kids:Nat):Int)) (by omega) (by omega) (by omega)) ?_ ?_ (by rw [zS,lMp]) ?_
  ·first | rfl | (simp only [lCo,lAp,lNi,hoA,qV,AV.rows,qT qA.mrk qA.ct (enc:=qA.enc) qA.rowsM,qT mkI ctI (enc:=qD) (fun _ _=>rfl)];done) | (simp only [lCo,lAp,lNi,hoA,qV,AV.rows,qT qA.mrk qA.ct (enc:=qA.enc) qA.rowsM,qT mkI ctI (enc:=qD) (fun _ _=>rfl)];omega)
  ·first | rfl | (simp only [lAa,List.nil_append,lAn,List.cons_append];done)
  simp only [qy hA,zM hA,zF hlt,List.set_cons_zero,List.cons_append,go_sem,Nat.reduceEqDiff,reduceIte,Nat.reduceAdd,nZa];simp only [qq (show i<4611686018427387904 by omega)];refine qo (i+1) (by omega) (by omega) ?_;have e3:K+1+1+((qE ctI y.Data:Nat):Int)+1+1+((qE ctI y.Closure.Term.Data:Nat):Int)+((qE qA.ct y.Closure.Term.Kids:Nat):Int)+((qE ctI y.Closure.Env:Nat):Int)=k+((qE qF.ct (xs.take (i+1)):Nat):Int):=by first | (rw [hend];done) | (rw [hend];omega)
  rw [e3];rw [hmk,e2];simp only [qF.mrk,qA.pK,qA.pV,qA.pD,qA.pC,jL,AV.rows,lAa,List.nil_append,lAn,List.cons_append,qT qA.mrk qA.ct (enc:=qA.enc) qA.rowsM,qT mkI ctI (enc:=qD) (fun _ _=>rfl)];exact Can.sub (by simp [go_sem]) (by simp [go_sem])
 ·have hge:i=xs.length:=by have:=odF hc;omega
  subst hge;refine JP (by rw [List.take_length]) ?_;rw [List.take_length,List.drop_length,lAn]
theorem k473 (xs:List qH) (k:Int) (h0:0≤k) (hk:k+(qE qH.ct xs:Nat)≤4611686018427387904) (hl:xs.length≤4194304) (hz:∀y∈xs,y.sz≤4194304):Mark Gm 473 (.lst 6 (xs.map qH.enc) false) (.lst 6 ((mkL qH.mrk qH.ct xs k).map qH.enc) false) k (k+(qE qH.ct xs:Nat)):=by
 refine Mark.intro g473 (by kernel_rfl) rfl (zH qH.plx xs) (zH qH.plx _) (by simp only [AV.rows,qT qH.mrk qH.ct (enc:=qH.enc) qH.rowsM]) ?_;simp only [X2,qP,zS,go_sem,Nat.reduceEqDiff,reduceIte,Nat.reduceAdd,nZa];refine Sem.loop (fun i:Nat=>i≤xs.length) (fun i=>(⟨[(0,.slice 6 0 0 xs.length false),(1,.int .i64 (k+((qE qH.ct (xs.take i):Nat):Int))),(5,.int .i64 (i:Nat))],[],(lay (.lst 6 ((mkL qH.mrk qH.ct (xs.take i) k++xs.drop i).map qH.enc) false) 0).2⟩:VSt)) (fun i=>xs.length-i) 0 (by kernel_rfl) (Nat.zero_le _) (by simp only [List.take_zero,mkL,List.nil_append,List.drop_zero,qE,Int.ofNat_zero,Int.natCast_zero,Int.add_zero];exact Can.sub (by simp [go_sem]) (by simp [go_sem])) ?_;intro i hi;simp only [go_sem,Nat.reduceEqDiff,reduceIte,Nat.reduceAdd,nZa];refine qM ?_ ?_<;>intro hc<;>simp only [hc,go_sem,Nat.reduceEqDiff,reduceIte,Nat.reduceAdd,nZa]
 ·have hlt:i<xs.length:=by have:=odT hc;omega
  have hct:=ZI qH.ct hlt;have hcl:=ZH qH.ct xs (i+1);have hrow:=qH.rowsM;rw [List.drop_eq_getElem_cons hlt,Qu];have hsz:=hz xs[i] (gMm hlt);obtain ⟨K,hK⟩:∃K:Int,K=k+((qE qH.ct (xs.take i):Nat):Int):=⟨_,rfl⟩;have hend:k+((qE qH.ct (xs.take (i+1)):Nat):Int)=K+((qH.ct xs[i]:Nat):Int):=by rw [hct,hK];omega
  have hKb:0≤K∧K+((qH.ct xs[i]:Nat):Int)≤4611686018427387904:=by rw [←hend];omega
  have hmk:(mkL qH.mrk qH.ct (xs.take (i+1)) k++xs.drop (i+1))=mkL qH.mrk qH.ct (xs.take i) k++qH.mrk xs[i] K::xs.drop (i+1):=by rw [UL qH.mrk qH.ct hlt,←hK,lAa];rfl
  have hrx:=hrow xs[i] K;rw [←hK];obtain ⟨y,hy⟩:∃y,y=xs[i]:=⟨_,rfl⟩;rw [←hy] at hmk hend hKb hrx hsz⊢;have hcy:qH.ct y=1+1+1+qE ctI y.Closure.Term.Data+qE qA.ct y.Closure.Term.Kids+qE ctI y.Closure.Env:=rfl;rw [hcy] at hend hKb;simp only [qH.sz,qI.sz,qA.sz_eq] at hsz;have hA:(qS ((mkL qH.mrk qH.ct (xs.take i) k).map qH.enc) 1).1.length=i:=by rw [jQ,lMp,jL];simp;omega
  have hoA:=zO ((mkL qH.mrk qH.ct (xs.take i) k).map qH.enc) 1;have e2:=Qu (enc:=qH.enc) (w:=6) (c:=false) (A:=mkL qH.mrk qH.ct (xs.take i) k) (B:=xs.drop (i+1)) (z:=qH.mrk y K);rw [hrx] at e2;rw [qH.layE] at e2⊢;obtain ⟨p,hp⟩:∃p,p=1+AV.rowss ((mkL qH.mrk qH.ct (xs.take i) k).map qH.enc):=⟨_,rfl⟩;rw [←hp] at e2⊢;generalize (qS ((xs.drop (i+1)).map qH.enc) (p+y.enc.rows)).1=vB at e2⊢;generalize (qS ((xs.drop (i+1)).map qH.enc) (p+y.enc.rows)).2=oB at e2⊢;generalize (qS ((mkL qH.mrk qH.ct (xs.take i) k).map qH.enc) 1).1=vA at e2 hA⊢;generalize (qS ((mkL qH.mrk qH.ct (xs.take i) k).map qH.enc) 1).2=oA at e2 hoA⊢;simp only [qy hA,zM hA,zF hlt,List.set_cons_zero,show ((3:Int)=0)=False from eq_false (by decide),go_sem,Nat.reduceEqDiff,reduceIte,Nat.reduceAdd,nZa];refine qp (e':=.agg [.bool (decide ((K).tmod 3=0)),.int .i64 y.Closure.Term.Kind,.int .i64 y.Closure.Term.Value,.slice 1 (p) 0 y.Closure.Term.Data.length false,.slice 4 (p+AV.rows (.lst 1 (y.Closure.Term.Data.map qD) false)) 0 y.Closure.Term.Kids.length false,.slice 1 (p+AV.rows (.lst 1 (y.Closure.Term.Data.map qD) false)+AV.rows (.lst 4 (y.Closure.Term.Kids.map qA.enc) false)) 0 y.Closure.Env.length false]) (by rfl) (by rfl) (qy hA) (by rfl) ?_;simp only [qy hA,zM hA,zF hlt,List.set_cons_zero,go_sem,Nat.reduceEqDiff,reduceIte,Nat.reduceAdd,nZa];rw [qr (n:=K+1) (by omega) (by omega)]
  try simp only [qy hA,zM hA,zF hlt,List.set_cons_zero,go_sem,Nat.reduceEqDiff,reduceIte,Nat.reduceAdd,nZa]
  refine qp (e':=.agg [.bool (decide ((K).tmod 3=0)),.int .i64 (K+1),.int .i64 y.Closure.Term.Value,.slice 1 (p) 0 y.Closure.Term.Data.length false,.slice 4 (p+AV.rows (.lst 1 (y.Closure.Term.Data.map qD) false)) 0 y.Closure.Term.Kids.length false,.slice 1 (p+AV.rows (.lst 1 (y.Closure.Term.Data.map qD) false)+AV.rows (.lst 4 (y.Closure.Term.Kids.map qA.enc) false)) 0 y.Closure.Env.length false]) (by rfl) (by rfl) (qy hA) (by rfl) ?_;simp only [qy hA,zM hA,zF hlt,List.set_cons_zero,go_sem,Nat.reduceEqDiff,reduceIte,Nat.reduceAdd,nZa];rw [qr (n:=K+1+1) (by omega) (by omega)]
  try simp only [qy hA,zM hA,zF hlt,List.set_cons_zero,go_sem,Nat.reduceEqDiff,reduceIte,Nat.reduceAdd,nZa]
  refine qp (e':=.agg [.bool (decide ((K).tmod 3=0)),.int .i64 (K+1),.int .i64 (K+1+1),.slice 1 (p) 0 y.Closure.Term.Data.length false,.slice 4 (p+AV.rows (.lst 1 (y.Closure.Term.Data.map qD) false)) 0 y.Closure.Term.Kids.length false,.slice 1 (p+AV.rows (.lst 1 (y.Closure.Term.Data.map qD) false)+AV.rows (.lst 4 (y.Closure.Term.Kids.map qA.enc) false)) 0 y.Closure.Env.length false]) (by rfl) (by rfl) (qy hA) (by rfl) ?_;simp only [qy hA,zM hA,zF hlt,List.set_cons_zero,go_sem,Nat.reduceEqDiff,reduceIte,Nat.reduceAdd,nZa];rw [qr (n:=K+1+1+1) (by omega) (by omega)]
  try simp only [qy hA,zM hA,zF hlt,List.set_cons_zero,go_sem,Nat.reduceEqDiff,reduceIte,Nat.reduceAdd,nZa]
  refine zu (n:=p) (pre:=.row 6 (vA++.agg [.bool (decide ((K).tmod 3=0)),.int .i64 (K+1),.int .i64 (K+1+1),.slice 1 (p) 0 y.Closure.Term.Data.length false,.slice 4 (p+AV.rows (.lst 1 (y.Closure.Term.Data.map qD) false)) 0 y.Closure.Term.Kids.length false,.slice 1 (p+AV.rows (.lst 1 (y.Closure.Term.Data.map qD) false)+AV.rows (.lst 4 (y.Closure.Term.Kids.map qA.enc) false)) 0 y.Closure.Env.length false]::vB) true::(oA++[])) (post:=((lay (.lst 4 (y.Closure.Term.Kids.map qA.enc) false) (p+AV.rows (.lst 1 (y.Closure.Term.Data.map qD) false))).2++((lay (.lst 1 (y.Closure.Env.map qD) false) (p+AV.rows (.lst 1 (y.Closure.Term.Data.map qD) false)+AV.rows (.lst 4 (y.Closure.Term.Kids.map qA.enc) false))).2++[]))++oB) (t:=(.lst 1 (y.Closure.Term.Data.map qD) false)) (t':=(.lst 1 ((mkL mkI ctI y.Closure.Term.Data (K+1+1+1)).map qD) false)) (k90 y.Closure.Term.Data (K+1+1+1) (by omega) (by omega) (by omega)) ?_ ?_ (by rw [zS,lMp]) ?_
  ·first | rfl | (simp only [lCo,lAp,lNi,hoA,qV,AV.rows,qT qA.mrk qA.ct (enc:=qA.enc) qA.rowsM,qT mkI ctI (enc:=qD) (fun _ _=>rfl)];done) | (simp only [lCo,lAp,lNi,hoA,qV,AV.rows,qT qA.mrk qA.ct (enc:=qA.enc) qA.rowsM,qT mkI ctI (enc:=qD) (fun _ _=>rfl)];omega)
  ·first | rfl | (simp only [lAa,List.nil_append,lAn,List.cons_append];done)
  simp only [qy hA,zM hA,zF hlt,List.set_cons_zero,List.cons_append,go_sem,Nat.reduceEqDiff,reduceIte,Nat.reduceAdd,nZa];refine zu (n:=p+AV.rows (.lst 1 (y.Closure.Term.Data.map qD) false)) (pre:=.row 6 (vA++.agg [.bool (decide ((K).tmod 3=0)),.int .i64 (K+1),.int .i64 (K+1+1),.slice 1 (p) 0 y.Closure.Term.Data.length false,.slice 4 (p+AV.rows (.lst 1 (y.Closure.Term.Data.map qD) false)) 0 y.Closure.Term.Kids.length false,.slice 1 (p+AV.rows (.lst 1 (y.Closure.Term.Data.map qD) false)+AV.rows (.lst 4 (y.Closure.Term.Kids.map qA.enc) false)) 0 y.Closure.Env.length false]::vB) true::(oA++((lay (.lst 1 ((mkL mkI ctI y.Closure.Term.Data (K+1+1+1)).map qD) false) (p)).2))) (post:=((lay (.lst 1 (y.Closure.Env.map qD) false) (p+AV.rows (.lst 1 (y.Closure.Term.Data.map qD) false)+AV.rows (.lst 4 (y.Closure.Term.Kids.map qA.enc) false))).2++[])++oB) (t:=(.lst 4 (y.Closure.Term.Kids.map qA.enc) false)) (t':=(.lst 4 ((mkL qA.mrk qA.ct y.Closure.Term.Kids (K+1+1+1+((qE ctI y.Closure.Term.Data:Nat):Int))).map qA.enc) false)) (V0 y.Closure.Term.Kids (K+1+1+1+((qE ctI y.Closure.Term.Data:Nat):Int)) (by omega) (by omega) (by omega)) ?_ ?_ (by rw [zS,lMp]) ?_
  ·first | rfl | (simp only [lCo,lAp,lNi,hoA,qV,AV.rows,qT qA.mrk qA.ct (enc:=qA.enc) qA.rowsM,qT mkI ctI (enc:=qD) (fun _ _=>rfl)];done) | (simp only [lCo,lAp,lNi,hoA,qV,AV.rows,qT qA.mrk qA.ct (enc:=qA.enc) qA.rowsM,qT mkI ctI (enc:=qD) (fun _ _=>rfl)];omega)
  ·first | rfl | (simp only [lAa,List.nil_append,lAn,List.cons_append];done)
  simp only [qy hA,zM hA,zF hlt,List.set_cons_zero,List.cons_append,go_sem,Nat.reduceEqDiff,reduceIte,Nat.reduceAdd,nZa];refine zu (n:=p+AV.rows (.lst 1 (y.Closure.Term.Data.map qD) false)+AV.rows (.lst 4 (y.Closure.Term.Kids.map qA.enc) false)) (pre:=.row 6 (vA++.agg [.bool (decide ((K).tmod 3=0)),.int .i64 (K+1),.int .i64 (K+1+1),.slice 1 (p) 0 y.Closure.Term.Data.length false,.slice 4 (p+AV.rows (.lst 1 (y.Closure.Term.Data.map qD) false)) 0 y.Closure.Term.Kids.length false,.slice 1 (p+AV.rows (.lst 1 (y.Closure.Term.Data.map qD) false)+AV.rows (.lst 4 (y.Closure.Term.Kids.map qA.enc) false)) 0 y.Closure.Env.length false]::vB) true::(oA++((lay (.lst 1 ((mkL mkI ctI y.Closure.Term.Data (K+1+1+1)).map qD) false) (p)).2++(lay (.lst 4 ((mkL qA.mrk qA.ct y.Closure.Term.Kids (K+1+1+1+((qE ctI y.Closure.Term.Data:Nat):Int))).map qA.enc) false) (p+AV.rows (.lst 1 (y.Closure.Term.Data.map qD) false))).2))) (post:=([])++oB) (t:=(.lst 1 (y.Closure.Env.map qD) false)) (t':=(.lst 1 ((mkL mkI ctI y.Closure.Env (K+1+1+1+((qE ctI y.Closure.Term.Data:Nat):Int)+((qE qA.ct y.Closure.Term.Kids:Nat):Int))).map qD) false)) (k90 y.Closure.Env (K+1+1+1+((qE ctI y.Closure.Term.Data:Nat):Int)+((qE qA.ct y.Closure.Term.Kids:Nat):Int)) (by omega) (by omega) (by omega)) ?_ ?_ (by rw [zS,lMp]) ?_
  ·first | rfl | (simp only [lCo,lAp,lNi,hoA,qV,AV.rows,qT qA.mrk qA.ct (enc:=qA.enc) qA.rowsM,qT mkI ctI (enc:=qD) (fun _ _=>rfl)];done) | (simp only [lCo,lAp,lNi,hoA,qV,AV.rows,qT qA.mrk qA.ct (enc:=qA.enc) qA.rowsM,qT mkI ctI (enc:=qD) (fun _ _=>rfl)];omega)
  ·first | rfl | (simp only [lAa,List.nil_append,lAn,List.cons_append];done)
  simp only [qy hA,zM hA,zF hlt,List.set_cons_zero,List.cons_append,go_sem,Nat.reduceEqDiff,reduceIte,Nat.reduceAdd,nZa];simp only [qq (show i<4611686018427387904 by omega)];refine qo (i+1) (by omega) (by omega) ?_;have e3:K+1+1+1+((qE ctI y.Closure.Term.Data:Nat):Int)+((qE qA.ct y.Closure.Term.Kids:Nat):Int)+((qE ctI y.Closure.Env:Nat):Int)=k+((qE qH.ct (xs.take (i+1)):Nat):Int):=by first | (rw [hend];done) | (rw [hend];omega)
  rw [e3];rw [hmk,e2];simp only [qH.mrk,qA.pK,qA.pV,qA.pD,qA.pC,jL,AV.rows,lAa,List.nil_append,lAn,List.cons_append,qT qA.mrk qA.ct (enc:=qA.enc) qA.rowsM,qT mkI ctI (enc:=qD) (fun _ _=>rfl)];exact Can.sub (by simp [go_sem]) (by simp [go_sem])
 ·have hge:i=xs.length:=by have:=odF hc;omega
  subst hge;refine JP (by rw [List.take_length]) ?_;rw [List.take_length,List.drop_length,lAn]
theorem k157 (x:qG) (k:Int) (h0:0≤k) (hk:k+(x.ctV:Nat)≤4611686018427387904) (hz:x.le):Mark Gm 157 x.enc (x.mkV k).enc k (k+(x.ctV:Nat)):=by
 refine Mark.intro g157 (by kernel_rfl) rfl (qG.plx x) (qG.plx _) (qG.rowsV x k) ?_;rw [qG.layE,qG.layE];simp only [XP,qP,go_sem,Nat.reduceEqDiff,reduceIte,Nat.reduceAdd,nZa];refine qW rfl ?_;simp only [go_sem,Nat.reduceEqDiff,reduceIte,Nat.reduceAdd,nZa];unfold qG.ctV at hk;obtain ⟨hz,z1,z2,z3,z4⟩:=hz;simp only [qI.sz,qA.sz_eq] at hz;refine zu (n:=0) (pre:=[]) (post:=(lay (.lst 8 (x.Stack.map qF.enc) false) (AV.rows (.lst 1 (x.Control.Term.Data.map qD) false)+AV.rows (.lst 4 (x.Control.Term.Kids.map qA.enc) false)+AV.rows (.lst 1 (x.Control.Env.map qD) false))).2++((lay (.lst 6 (x.Heap.map qH.enc) false) (AV.rows (.lst 1 (x.Control.Term.Data.map qD) false)+AV.rows (.lst 4 (x.Control.Term.Kids.map qA.enc) false)+AV.rows (.lst 1 (x.Control.Env.map qD) false)+AV.rows (.lst 8 (x.Stack.map qF.enc) false))).2++[])) (t:=x.Control.enc) (t':=(x.Control.mkV (k)).enc) (k471 x.Control (k) (by omega) (by simp only [qI.ctV];omega) (by simp only [qI.sz,qA.sz_eq];omega)) ?_ ?_ ?_ ?_
 ·first | rfl | (simp only [lAp,lNi,qV,AV.rows,qT qA.mrk qA.ct (enc:=qA.enc) qA.rowsM,qT qF.mrk qF.ct (enc:=qF.enc) qF.rowsM,qT qH.mrk qH.ct (enc:=qH.enc) qH.rowsM,qT mkI ctI (enc:=qD) (fun _ _=>rfl)];done) | (simp only [lAp,lNi,qV,AV.rows,qT qA.mrk qA.ct (enc:=qA.enc) qA.rowsM,qT qF.mrk qF.ct (enc:=qF.enc) qF.rowsM,qT qH.mrk qH.ct (enc:=qH.enc) qH.rowsM,qT mkI ctI (enc:=qD) (fun _ _=>rfl)];omega)
 ·first | rfl | (simp only [qI.layE,qA.pK,qA.pV,qA.pD,qA.pC,nZa,lAa,List.nil_append,lAn];done) | (simp only [lAa,List.nil_append,lAn,AV.rows,qT qA.mrk qA.ct (enc:=qA.enc) qA.rowsM,qT mkI ctI (enc:=qD) (fun _ _=>rfl),qT qF.mrk qF.ct (enc:=qF.enc) qF.rowsM,qT qH.mrk qH.ct (enc:=qH.enc) qH.rowsM];done)
 ·simp only [qI.layE,qA.pK,qA.pV,qA.pD,qA.pC,nZa]
 simp only [qI.layE,qI.mkV,qI.ctV,qA.pK,qA.pV,qA.pD,qA.pC,Int.natCast_add,←Int.add_assoc,lAa,List.nil_append,lAn,go_sem,Nat.reduceEqDiff,reduceIte,Nat.reduceAdd,nZa];refine zu (n:=AV.rows (.lst 1 (x.Control.Term.Data.map qD) false)+AV.rows (.lst 4 (x.Control.Term.Kids.map qA.enc) false)+AV.rows (.lst 1 (x.Control.Env.map qD) false)) (pre:=(lay (.lst 1 ((mkL mkI ctI x.Control.Term.Data (k)).map qD) false) (0)).2++(lay (.lst 4 ((mkL qA.mrk qA.ct x.Control.Term.Kids (k+((qE ctI x.Control.Term.Data:Nat):Int))).map qA.enc) false) (AV.rows (.lst 1 (x.Control.Term.Data.map qD) false))).2++(lay (.lst 1 ((mkL mkI ctI x.Control.Env (k+((qE ctI x.Control.Term.Data:Nat):Int)+((qE qA.ct x.Control.Term.Kids:Nat):Int))).map qD) false) (AV.rows (.lst 1 (x.Control.Term.Data.map qD) false)+AV.rows (.lst 4 (x.Control.Term.Kids.map qA.enc) false))).2) (post:=(lay (.lst 6 (x.Heap.map qH.enc) false) (AV.rows (.lst 1 (x.Control.Term.Data.map qD) false)+AV.rows (.lst 4 (x.Control.Term.Kids.map qA.enc) false)+AV.rows (.lst 1 (x.Control.Env.map qD) false)+AV.rows (.lst 8 (x.Stack.map qF.enc) false))).2++[]) (t:=(.lst 8 (x.Stack.map qF.enc) false)) (t':=(.lst 8 ((mkL qF.mrk qF.ct x.Stack (k+((qE ctI x.Control.Term.Data:Nat):Int)+((qE qA.ct x.Control.Term.Kids:Nat):Int)+((qE ctI x.Control.Env:Nat):Int))).map qF.enc) false)) (k472 x.Stack (k+((qE ctI x.Control.Term.Data:Nat):Int)+((qE qA.ct x.Control.Term.Kids:Nat):Int)+((qE ctI x.Control.Env:Nat):Int)) (by omega) (by omega) (z1) (z2)) ?_ ?_ (by rw [zS,lMp]) ?_
 ·first | rfl | (simp only [lAp,lNi,qV,AV.rows,qT qA.mrk qA.ct (enc:=qA.enc) qA.rowsM,qT qF.mrk qF.ct (enc:=qF.enc) qF.rowsM,qT qH.mrk qH.ct (enc:=qH.enc) qH.rowsM,qT mkI ctI (enc:=qD) (fun _ _=>rfl)];done) | (simp only [lAp,lNi,qV,AV.rows,qT qA.mrk qA.ct (enc:=qA.enc) qA.rowsM,qT qF.mrk qF.ct (enc:=qF.enc) qF.rowsM,qT qH.mrk qH.ct (enc:=qH.enc) qH.rowsM,qT mkI ctI (enc:=qD) (fun _ _=>rfl)];omega)
 ·first | rfl | (simp only [lAa,List.nil_append,lAn];done) | (simp only [lAa,List.nil_append,lAn,AV.rows,qT qA.mrk qA.ct (enc:=qA.enc) qA.rowsM,qT mkI ctI (enc:=qD) (fun _ _=>rfl),qT qF.mrk qF.ct (enc:=qF.enc) qF.rowsM,qT qH.mrk qH.ct (enc:=qH.enc) qH.rowsM];done)
 simp only [lAa,List.nil_append,lAn,go_sem,Nat.reduceEqDiff,reduceIte,Nat.reduceAdd,nZa];refine zu (n:=AV.rows (.lst 1 (x.Control.Term.Data.map qD) false)+AV.rows (.lst 4 (x.Control.Term.Kids.map qA.enc) false)+AV.rows (.lst 1 (x.Control.Env.map qD) false)+AV.rows (.lst 8 (x.Stack.map qF.enc) false)) (pre:=(lay (.lst 1 ((mkL mkI ctI x.Control.Term.Data (k)).map qD) false) (0)).2++(lay (.lst 4 ((mkL qA.mrk qA.ct x.Control.Term.Kids (k+((qE ctI x.Control.Term.Data:Nat):Int))).map qA.enc) false) (AV.rows (.lst 1 (x.Control.Term.Data.map qD) false))).2++(lay (.lst 1 ((mkL mkI ctI x.Control.Env (k+((qE ctI x.Control.Term.Data:Nat):Int)+((qE qA.ct x.Control.Term.Kids:Nat):Int))).map qD) false) (AV.rows (.lst 1 (x.Control.Term.Data.map qD) false)+AV.rows (.lst 4 (x.Control.Term.Kids.map qA.enc) false))).2++(lay (.lst 8 ((mkL qF.mrk qF.ct x.Stack (k+((qE ctI x.Control.Term.Data:Nat):Int)+((qE qA.ct x.Control.Term.Kids:Nat):Int)+((qE ctI x.Control.Env:Nat):Int))).map qF.enc) false) (AV.rows (.lst 1 (x.Control.Term.Data.map qD) false)+AV.rows (.lst 4 (x.Control.Term.Kids.map qA.enc) false)+AV.rows (.lst 1 (x.Control.Env.map qD) false))).2) (post:=[]) (t:=(.lst 6 (x.Heap.map qH.enc) false)) (t':=(.lst 6 ((mkL qH.mrk qH.ct x.Heap (k+((qE ctI x.Control.Term.Data:Nat):Int)+((qE qA.ct x.Control.Term.Kids:Nat):Int)+((qE ctI x.Control.Env:Nat):Int)+((qE qF.ct x.Stack:Nat):Int))).map qH.enc) false)) (k473 x.Heap (k+((qE ctI x.Control.Term.Data:Nat):Int)+((qE qA.ct x.Control.Term.Kids:Nat):Int)+((qE ctI x.Control.Env:Nat):Int)+((qE qF.ct x.Stack:Nat):Int)) (by omega) (by omega) (z3) (z4)) ?_ ?_ (by rw [zS,lMp]) ?_
 ·first | rfl | (simp only [lAp,lNi,qV,AV.rows,qT qA.mrk qA.ct (enc:=qA.enc) qA.rowsM,qT qF.mrk qF.ct (enc:=qF.enc) qF.rowsM,qT qH.mrk qH.ct (enc:=qH.enc) qH.rowsM,qT mkI ctI (enc:=qD) (fun _ _=>rfl)];done) | (simp only [lAp,lNi,qV,AV.rows,qT qA.mrk qA.ct (enc:=qA.enc) qA.rowsM,qT qF.mrk qF.ct (enc:=qF.enc) qF.rowsM,qT qH.mrk qH.ct (enc:=qH.enc) qH.rowsM,qT mkI ctI (enc:=qD) (fun _ _=>rfl)];omega)
 ·first | rfl | (simp only [lAa,List.nil_append,lAn];done) | (simp only [lAa,List.nil_append,lAn,AV.rows,qT qA.mrk qA.ct (enc:=qA.enc) qA.rowsM,qT mkI ctI (enc:=qD) (fun _ _=>rfl),qT qF.mrk qF.ct (enc:=qF.enc) qF.rowsM,qT qH.mrk qH.ct (enc:=qH.enc) qH.rowsM];done)
 simp only [lAa,List.nil_append,lAn,go_sem,Nat.reduceEqDiff,reduceIte,Nat.reduceAdd,nZa];refine JP (by first | rfl | (simp only [qG.ctV];done) | (simp only [qG.ctV];omega)) ?_;simp only [qG.mkV,AV.rows,qA.pK,qA.pV,qA.pD,qA.pC,nZa,lAa,List.nil_append,lAn,qT qA.mrk qA.ct (enc:=qA.enc) qA.rowsM,qT qF.mrk qF.ct (enc:=qF.enc) qF.rowsM,qT qH.mrk qH.ct (enc:=qH.enc) qH.rowsM,qT mkI ctI (enc:=qD) (fun _ _=>rfl)]
theorem q474 (x:qI) (k:Int) (h0:0≤k) (hk:k+(x.ctV:Nat)≤4611686018427387904) (hz:x.sz≤4194304):Pure Gm 474 [(x.mkV k).enc,.int .i64 k] (.int .i64 (k+(x.ctV:Nat))):=by
 refine Pure.intro [] [] g474 (by kernel_rfl) rfl (by simp [AV.trees,AV.tree,qI.tr]) rfl ?_;simp only [X3,qP,go_sem,Nat.reduceEqDiff,reduceIte,Nat.reduceAdd,nZa];refine qW rfl ?_;simp only [go_sem,Nat.reduceEqDiff,reduceIte,Nat.reduceAdd,nZa];unfold qI.ctV at hk;simp only [qI.sz,qA.sz_eq] at hz;refine qK (q91 x.Term (k) (by omega) (by simp only [qA.ctV];omega) (by simp only [qA.sz_eq];omega)) ?_;simp only [qA.ctV,Int.natCast_add,←Int.add_assoc,go_sem,Nat.reduceEqDiff,reduceIte,Nat.reduceAdd,nZa]
 try (rw [show decide (k+((qE ctI x.Term.Data:Nat):Int)+((qE qA.ct x.Term.Kids:Nat):Int)<0)=false from decide_eq_false (by omega)];simp only [go_sem,Nat.reduceEqDiff,reduceIte,Nat.reduceAdd,nZa])
 refine qK (q92 x.Env (k+((qE ctI x.Term.Data:Nat):Int)+((qE qA.ct x.Term.Kids:Nat):Int)) (by omega) (by omega) (by omega)) ?_;simp only [go_sem,Nat.reduceEqDiff,reduceIte,Nat.reduceAdd,nZa]
 try (rw [show decide (k+((qE ctI x.Term.Data:Nat):Int)+((qE qA.ct x.Term.Kids:Nat):Int)+((qE ctI x.Env:Nat):Int)<0)=false from decide_eq_false (by omega)];simp only [go_sem,Nat.reduceEqDiff,reduceIte,Nat.reduceAdd,nZa])
 refine qJ rfl ?_
 first | rfl | (simp only [qI.ctV,AV.int.injEq,true_and];done) | (simp only [qI.ctV,AV.int.injEq,true_and];omega)
theorem q475 (xs:List qF) (k:Int) (h0:0≤k) (hk:k+(qE qF.ct xs:Nat)≤4611686018427387904) (hl:xs.length≤4194304) (hz:∀y∈xs,y.sz≤4194304):Pure Gm 475 [(.lst 8 ((mkL qF.mrk qF.ct xs k).map qF.enc) false),.int .i64 k] (.int .i64 (k+(qE qF.ct xs:Nat))):=by
 refine Pure.intro [] [] g475 (by kernel_rfl) rfl (by simp [AV.trees,AV.tree,zA qF.isSh.tree]) rfl ?_;simp only [X4,qP,go_sem,Nat.reduceEqDiff,reduceIte,Nat.reduceAdd,nZa];refine Sem.loop (fun i:Nat=>i≤xs.length) (fun i=>(⟨[(0,(.lst 8 ((mkL qF.mrk qF.ct xs k).map qF.enc) false)),(1,.int .i64 (k+((qE qF.ct (xs.take i):Nat):Int))),(5,.int .i64 (i:Nat))],[],[]⟩:VSt)) (fun i=>xs.length-i) 0 (by kernel_rfl) (Nat.zero_le _) (by simp only [List.take_zero,qE,Int.ofNat_zero,Int.natCast_zero,Int.add_zero];exact Can.sub (by simp [go_sem]) (by simp [go_sem])) ?_;intro i hi;simp only [jL,go_sem,Nat.reduceEqDiff,reduceIte,Nat.reduceAdd,nZa];refine qM ?_ ?_<;>intro hc<;>simp only [hc,go_sem,Nat.reduceEqDiff,reduceIte,Nat.reduceAdd,nZa]
 ·have hlt:i<xs.length:=by have:=odT hc;omega
  have hct:=ZI qF.ct hlt;have hcl:=ZH qF.ct xs (i+1);have hget:=UK qF.mrk qF.ct hlt k;have hsz:=hz xs[i] (gMm hlt);obtain ⟨K,hK⟩:∃K:Int,K=k+((qE qF.ct (xs.take i):Nat):Int):=⟨_,rfl⟩;have hend:k+((qE qF.ct (xs.take (i+1)):Nat):Int)=K+((qF.ct xs[i]:Nat):Int):=by rw [hct,hK];omega
  have hKb:0≤K∧K+((qF.ct xs[i]:Nat):Int)≤4611686018427387904:=by rw [←hend];omega
  rw [←hK] at hget⊢;obtain ⟨y,hy⟩:∃y,y=xs[i]:=⟨_,rfl⟩;rw [←hy] at hget hend hKb hsz;have hcy:qF.ct y=1+1+qE ctI y.Data+1+1+qE ctI y.Closure.Term.Data+qE qA.ct y.Closure.Term.Kids+qE ctI y.Closure.Env:=rfl;rw [hcy] at hend hKb;simp only [qF.sz,qI.sz,qA.sz_eq] at hsz;simp only [gMp,hget,oMs,go_sem,Nat.reduceEqDiff,reduceIte,Nat.reduceAdd,nZa]
  try simp only [gMp,hget,oMs,qF.mrk,qA.pK,qA.pV,qA.pD,qA.pC,show ((3:Int)=0)=False from eq_false (by decide),beq_self_eq_true,Bool.not_true,go_sem,Nat.reduceEqDiff,reduceIte,Nat.reduceAdd,nZa]
  rw [qr (n:=K+1) (by omega) (by omega)]
  try simp only [gMp,hget,oMs,qF.mrk,qA.pK,qA.pV,qA.pD,qA.pC,show ((3:Int)=0)=False from eq_false (by decide),beq_self_eq_true,Bool.not_true,go_sem,Nat.reduceEqDiff,reduceIte,Nat.reduceAdd,nZa]
  try simp only [gMp,hget,oMs,qF.mrk,qA.pK,qA.pV,qA.pD,qA.pC,show ((3:Int)=0)=False from eq_false (by decide),beq_self_eq_true,Bool.not_true,go_sem,Nat.reduceEqDiff,reduceIte,Nat.reduceAdd,nZa]
  rw [qr (n:=K+1+1) (by omega) (by omega)]
  try simp only [gMp,hget,oMs,qF.mrk,qA.pK,qA.pV,qA.pD,qA.pC,show ((3:Int)=0)=False from eq_false (by decide),beq_self_eq_true,Bool.not_true,go_sem,Nat.reduceEqDiff,reduceIte,Nat.reduceAdd,nZa]
  try simp only [gMp,hget,oMs,qF.mrk,qA.pK,qA.pV,qA.pD,qA.pC,show ((3:Int)=0)=False from eq_false (by decide),beq_self_eq_true,Bool.not_true,go_sem,Nat.reduceEqDiff,reduceIte,Nat.reduceAdd,nZa]
  refine qK (q92 y.Data (K+1+1) (by omega) (by omega) (by omega)) ?_;simp only [gMp,hget,oMs,qF.mrk,qA.pK,qA.pV,qA.pD,qA.pC,show ((3:Int)=0)=False from eq_false (by decide),beq_self_eq_true,Bool.not_true,go_sem,Nat.reduceEqDiff,reduceIte,Nat.reduceAdd,nZa];rw [show decide (K+1+1+((qE ctI y.Data:Nat):Int)<0)=false from decide_eq_false (by omega)];simp only [gMp,hget,oMs,qF.mrk,qA.pK,qA.pV,qA.pD,qA.pC,show ((3:Int)=0)=False from eq_false (by decide),beq_self_eq_true,Bool.not_true,go_sem,Nat.reduceEqDiff,reduceIte,Nat.reduceAdd,nZa]
  try simp only [gMp,hget,oMs,qF.mrk,qA.pK,qA.pV,qA.pD,qA.pC,show ((3:Int)=0)=False from eq_false (by decide),beq_self_eq_true,Bool.not_true,go_sem,Nat.reduceEqDiff,reduceIte,Nat.reduceAdd,nZa]
  rw [qr (n:=K+1+1+((qE ctI y.Data:Nat):Int)+1) (by omega) (by omega)]
  try simp only [gMp,hget,oMs,qF.mrk,qA.pK,qA.pV,qA.pD,qA.pC,show ((3:Int)=0)=False from eq_false (by decide),beq_self_eq_true,Bool.not_true,go_sem,Nat.reduceEqDiff,reduceIte,Nat.reduceAdd,nZa]
  try simp only [gMp,hget,oMs,qF.mrk,qA.pK,qA.pV,qA.pD,qA.pC,show ((3:Int)=0)=False from eq_false (by decide),beq_self_eq_true,Bool.not_true,go_sem,Nat.reduceEqDiff,reduceIte,Nat.reduceAdd,nZa]
  rw [qr (n:=K+1+1+((qE ctI y.Data:Nat):Int)+1+1) (by omega) (by omega)]
  try simp only [gMp,hget,oMs,qF.mrk,qA.pK,qA.pV,qA.pD,qA.pC,show ((3:Int)=0)=False from eq_false (by decide),beq_self_eq_true,Bool.not_true,go_sem,Nat.reduceEqDiff,reduceIte,Nat.reduceAdd,nZa]
  try simp only [gMp,hget,oMs,qF.mrk,qA.pK,qA.pV,qA.pD,qA.pC,show ((3:Int)=0)=False from eq_false (by decide),beq_self_eq_true,Bool.not_true,go_sem,Nat.reduceEqDiff,reduceIte,Nat.reduceAdd,nZa]
  refine qK (q92 y.Closure.Term.Data (K+1+1+((qE ctI y.Data:Nat):Int)+1+1) (by omega) (by omega) (by omega)) ?_;simp only [gMp,hget,oMs,qF.mrk,qA.pK,qA.pV,qA.pD,qA.pC,show ((3:Int)=0)=False from eq_false (by decide),beq_self_eq_true,Bool.not_true,go_sem,Nat.reduceEqDiff,reduceIte,Nat.reduceAdd,nZa];rw [show decide (K+1+1+((qE ctI y.Data:Nat):Int)+1+1+((qE ctI y.Closure.Term.Data:Nat):Int)<0)=false from decide_eq_false (by omega)];simp only [gMp,hget,oMs,qF.mrk,qA.pK,qA.pV,qA.pD,qA.pC,show ((3:Int)=0)=False from eq_false (by decide),beq_self_eq_true,Bool.not_true,go_sem,Nat.reduceEqDiff,reduceIte,Nat.reduceAdd,nZa]
  try simp only [gMp,hget,oMs,qF.mrk,qA.pK,qA.pV,qA.pD,qA.pC,show ((3:Int)=0)=False from eq_false (by decide),beq_self_eq_true,Bool.not_true,go_sem,Nat.reduceEqDiff,reduceIte,Nat.reduceAdd,nZa]
  refine qK (q348 y.Closure.Term.Kids (K+1+1+((qE ctI y.Data:Nat):Int)+1+1+((qE ctI y.Closure.Term.Data:Nat):Int)) (by omega) (by omega) (by omega)) ?_;simp only [gMp,hget,oMs,qF.mrk,qA.pK,qA.pV,qA.pD,qA.pC,show ((3:Int)=0)=False from eq_false (by decide),beq_self_eq_true,Bool.not_true,go_sem,Nat.reduceEqDiff,reduceIte,Nat.reduceAdd,nZa];rw [show decide (K+1+1+((qE ctI y.Data:Nat):Int)+1+1+((qE ctI y.Closure.Term.Data:Nat):Int)+((qE qA.ct y.Closure.Term.Kids:Nat):Int)<0)=false from decide_eq_false (by omega)];simp only [gMp,hget,oMs,qF.mrk,qA.pK,qA.pV,qA.pD,qA.pC,show ((3:Int)=0)=False from eq_false (by decide),beq_self_eq_true,Bool.not_true,go_sem,Nat.reduceEqDiff,reduceIte,Nat.reduceAdd,nZa]
  try simp only [gMp,hget,oMs,qF.mrk,qA.pK,qA.pV,qA.pD,qA.pC,show ((3:Int)=0)=False from eq_false (by decide),beq_self_eq_true,Bool.not_true,go_sem,Nat.reduceEqDiff,reduceIte,Nat.reduceAdd,nZa]
  refine qK (q92 y.Closure.Env (K+1+1+((qE ctI y.Data:Nat):Int)+1+1+((qE ctI y.Closure.Term.Data:Nat):Int)+((qE qA.ct y.Closure.Term.Kids:Nat):Int)) (by omega) (by omega) (by omega)) ?_;simp only [gMp,hget,oMs,qF.mrk,qA.pK,qA.pV,qA.pD,qA.pC,show ((3:Int)=0)=False from eq_false (by decide),beq_self_eq_true,Bool.not_true,go_sem,Nat.reduceEqDiff,reduceIte,Nat.reduceAdd,nZa];rw [show decide (K+1+1+((qE ctI y.Data:Nat):Int)+1+1+((qE ctI y.Closure.Term.Data:Nat):Int)+((qE qA.ct y.Closure.Term.Kids:Nat):Int)+((qE ctI y.Closure.Env:Nat):Int)<0)=false from decide_eq_false (by omega)];simp only [gMp,hget,oMs,qF.mrk,qA.pK,qA.pV,qA.pD,qA.pC,show ((3:Int)=0)=False from eq_false (by decide),beq_self_eq_true,Bool.not_true,go_sem,Nat.reduceEqDiff,reduceIte,Nat.reduceAdd,nZa];simp only [qq (show i<4611686018427387904 by omega)];refine qo (i+1) (by omega) (by omega) ?_;have e3:K+1+1+((qE ctI y.Data:Nat):Int)+1+1+((qE ctI y.Closure.Term.Data:Nat):Int)+((qE qA.ct y.Closure.Term.Kids:Nat):Int)+((qE ctI y.Closure.Env:Nat):Int)=k+((qE qF.ct (xs.take (i+1)):Nat):Int):=by first | (rw [hend];done) | (rw [hend];omega)
  rw [e3];exact Can.sub (by simp [go_sem]) (by simp [go_sem])
 ·have hge:i=xs.length:=by have:=odF hc;omega
  subst hge;refine qJ rfl ?_;rw [List.take_length]
theorem q476 (xs:List qH) (k:Int) (h0:0≤k) (hk:k+(qE qH.ct xs:Nat)≤4611686018427387904) (hl:xs.length≤4194304) (hz:∀y∈xs,y.sz≤4194304):Pure Gm 476 [(.lst 6 ((mkL qH.mrk qH.ct xs k).map qH.enc) false),.int .i64 k] (.int .i64 (k+(qE qH.ct xs:Nat))):=by
 refine Pure.intro [] [] g476 (by kernel_rfl) rfl (by simp [AV.trees,AV.tree,zA qH.isSh.tree]) rfl ?_;simp only [X5,qP,go_sem,Nat.reduceEqDiff,reduceIte,Nat.reduceAdd,nZa];refine Sem.loop (fun i:Nat=>i≤xs.length) (fun i=>(⟨[(0,(.lst 6 ((mkL qH.mrk qH.ct xs k).map qH.enc) false)),(1,.int .i64 (k+((qE qH.ct (xs.take i):Nat):Int))),(5,.int .i64 (i:Nat))],[],[]⟩:VSt)) (fun i=>xs.length-i) 0 (by kernel_rfl) (Nat.zero_le _) (by simp only [List.take_zero,qE,Int.ofNat_zero,Int.natCast_zero,Int.add_zero];exact Can.sub (by simp [go_sem]) (by simp [go_sem])) ?_;intro i hi;simp only [jL,go_sem,Nat.reduceEqDiff,reduceIte,Nat.reduceAdd,nZa];refine qM ?_ ?_<;>intro hc<;>simp only [hc,go_sem,Nat.reduceEqDiff,reduceIte,Nat.reduceAdd,nZa]
 ·have hlt:i<xs.length:=by have:=odT hc;omega
  have hct:=ZI qH.ct hlt;have hcl:=ZH qH.ct xs (i+1);have hget:=UK qH.mrk qH.ct hlt k;have hsz:=hz xs[i] (gMm hlt);obtain ⟨K,hK⟩:∃K:Int,K=k+((qE qH.ct (xs.take i):Nat):Int):=⟨_,rfl⟩;have hend:k+((qE qH.ct (xs.take (i+1)):Nat):Int)=K+((qH.ct xs[i]:Nat):Int):=by rw [hct,hK];omega
  have hKb:0≤K∧K+((qH.ct xs[i]:Nat):Int)≤4611686018427387904:=by rw [←hend];omega
  rw [←hK] at hget⊢;obtain ⟨y,hy⟩:∃y,y=xs[i]:=⟨_,rfl⟩;rw [←hy] at hget hend hKb hsz;have hcy:qH.ct y=1+1+1+qE ctI y.Closure.Term.Data+qE qA.ct y.Closure.Term.Kids+qE ctI y.Closure.Env:=rfl;rw [hcy] at hend hKb;simp only [qH.sz,qI.sz,qA.sz_eq] at hsz;simp only [gMp,hget,oMs,go_sem,Nat.reduceEqDiff,reduceIte,Nat.reduceAdd,nZa]
  try simp only [gMp,hget,oMs,qH.mrk,qA.pK,qA.pV,qA.pD,qA.pC,show ((3:Int)=0)=False from eq_false (by decide),beq_self_eq_true,Bool.not_true,go_sem,Nat.reduceEqDiff,reduceIte,Nat.reduceAdd,nZa]
  rw [qr (n:=K+1) (by omega) (by omega)]
  try simp only [gMp,hget,oMs,qH.mrk,qA.pK,qA.pV,qA.pD,qA.pC,show ((3:Int)=0)=False from eq_false (by decide),beq_self_eq_true,Bool.not_true,go_sem,Nat.reduceEqDiff,reduceIte,Nat.reduceAdd,nZa]
  try simp only [gMp,hget,oMs,qH.mrk,qA.pK,qA.pV,qA.pD,qA.pC,show ((3:Int)=0)=False from eq_false (by decide),beq_self_eq_true,Bool.not_true,go_sem,Nat.reduceEqDiff,reduceIte,Nat.reduceAdd,nZa]
  rw [qr (n:=K+1+1) (by omega) (by omega)]
  try simp only [gMp,hget,oMs,qH.mrk,qA.pK,qA.pV,qA.pD,qA.pC,show ((3:Int)=0)=False from eq_false (by decide),beq_self_eq_true,Bool.not_true,go_sem,Nat.reduceEqDiff,reduceIte,Nat.reduceAdd,nZa]
  try simp only [gMp,hget,oMs,qH.mrk,qA.pK,qA.pV,qA.pD,qA.pC,show ((3:Int)=0)=False from eq_false (by decide),beq_self_eq_true,Bool.not_true,go_sem,Nat.reduceEqDiff,reduceIte,Nat.reduceAdd,nZa]
  rw [qr (n:=K+1+1+1) (by omega) (by omega)]
  try simp only [gMp,hget,oMs,qH.mrk,qA.pK,qA.pV,qA.pD,qA.pC,show ((3:Int)=0)=False from eq_false (by decide),beq_self_eq_true,Bool.not_true,go_sem,Nat.reduceEqDiff,reduceIte,Nat.reduceAdd,nZa]
  try simp only [gMp,hget,oMs,qH.mrk,qA.pK,qA.pV,qA.pD,qA.pC,show ((3:Int)=0)=False from eq_false (by decide),beq_self_eq_true,Bool.not_true,go_sem,Nat.reduceEqDiff,reduceIte,Nat.reduceAdd,nZa]
  refine qK (q92 y.Closure.Term.Data (K+1+1+1) (by omega) (by omega) (by omega)) ?_;simp only [gMp,hget,oMs,qH.mrk,qA.pK,qA.pV,qA.pD,qA.pC,show ((3:Int)=0)=False from eq_false (by decide),beq_self_eq_true,Bool.not_true,go_sem,Nat.reduceEqDiff,reduceIte,Nat.reduceAdd,nZa];rw [show decide (K+1+1+1+((qE ctI y.Closure.Term.Data:Nat):Int)<0)=false from decide_eq_false (by omega)];simp only [gMp,hget,oMs,qH.mrk,qA.pK,qA.pV,qA.pD,qA.pC,show ((3:Int)=0)=False from eq_false (by decide),beq_self_eq_true,Bool.not_true,go_sem,Nat.reduceEqDiff,reduceIte,Nat.reduceAdd,nZa]
  try simp only [gMp,hget,oMs,qH.mrk,qA.pK,qA.pV,qA.pD,qA.pC,show ((3:Int)=0)=False from eq_false (by decide),beq_self_eq_true,Bool.not_true,go_sem,Nat.reduceEqDiff,reduceIte,Nat.reduceAdd,nZa]
  refine qK (q348 y.Closure.Term.Kids (K+1+1+1+((qE ctI y.Closure.Term.Data:Nat):Int)) (by omega) (by omega) (by omega)) ?_;simp only [gMp,hget,oMs,qH.mrk,qA.pK,qA.pV,qA.pD,qA.pC,show ((3:Int)=0)=False from eq_false (by decide),beq_self_eq_true,Bool.not_true,go_sem,Nat.reduceEqDiff,reduceIte,Nat.reduceAdd,nZa];rw [show decide (K+1+1+1+((qE ctI y.Closure.Term.Data:Nat):Int)+((qE qA.ct y.Closure.Term.Kids:Nat):Int)<0)=false from decide_eq_false (by omega)];simp only [gMp,hget,oMs,qH.mrk,qA.pK,qA.pV,qA.pD,qA.pC,show ((3:Int)=0)=False from eq_false (by decide),beq_self_eq_true,Bool.not_true,go_sem,Nat.reduceEqDiff,reduceIte,Nat.reduceAdd,nZa]
  try simp only [gMp,hget,oMs,qH.mrk,qA.pK,qA.pV,qA.pD,qA.pC,show ((3:Int)=0)=False from eq_false (by decide),beq_self_eq_true,Bool.not_true,go_sem,Nat.reduceEqDiff,reduceIte,Nat.reduceAdd,nZa]
  refine qK (q92 y.Closure.Env (K+1+1+1+((qE ctI y.Closure.Term.Data:Nat):Int)+((qE qA.ct y.Closure.Term.Kids:Nat):Int)) (by omega) (by omega) (by omega)) ?_;simp only [gMp,hget,oMs,qH.mrk,qA.pK,qA.pV,qA.pD,qA.pC,show ((3:Int)=0)=False from eq_false (by decide),beq_self_eq_true,Bool.not_true,go_sem,Nat.reduceEqDiff,reduceIte,Nat.reduceAdd,nZa];rw [show decide (K+1+1+1+((qE ctI y.Closure.Term.Data:Nat):Int)+((qE qA.ct y.Closure.Term.Kids:Nat):Int)+((qE ctI y.Closure.Env:Nat):Int)<0)=false from decide_eq_false (by omega)];simp only [gMp,hget,oMs,qH.mrk,qA.pK,qA.pV,qA.pD,qA.pC,show ((3:Int)=0)=False from eq_false (by decide),beq_self_eq_true,Bool.not_true,go_sem,Nat.reduceEqDiff,reduceIte,Nat.reduceAdd,nZa];simp only [qq (show i<4611686018427387904 by omega)];refine qo (i+1) (by omega) (by omega) ?_;have e3:K+1+1+1+((qE ctI y.Closure.Term.Data:Nat):Int)+((qE qA.ct y.Closure.Term.Kids:Nat):Int)+((qE ctI y.Closure.Env:Nat):Int)=k+((qE qH.ct (xs.take (i+1)):Nat):Int):=by first | (rw [hend];done) | (rw [hend];omega)
  rw [e3];exact Can.sub (by simp [go_sem]) (by simp [go_sem])
 ·have hge:i=xs.length:=by have:=odF hc;omega
  subst hge;refine qJ rfl ?_;rw [List.take_length]
theorem q158 (x:qG) (k:Int) (h0:0≤k) (hk:k+(x.ctV:Nat)≤4611686018427387904) (hz:x.le):Pure Gm 158 [(x.mkV k).enc,.int .i64 k] (.int .i64 (k+(x.ctV:Nat))):=by
 refine Pure.intro [] [] g158 (by kernel_rfl) rfl (by simp [AV.trees,AV.tree,qG.tr]) rfl ?_;simp only [XQ,qP,go_sem,Nat.reduceEqDiff,reduceIte,Nat.reduceAdd,nZa];refine qW rfl ?_;simp only [go_sem,Nat.reduceEqDiff,reduceIte,Nat.reduceAdd,nZa];unfold qG.ctV at hk;obtain ⟨hz,z1,z2,z3,z4⟩:=hz;simp only [qI.sz,qA.sz_eq] at hz;refine qK (q474 x.Control (k) (by omega) (by simp only [qI.ctV];omega) (by simp only [qI.sz,qA.sz_eq];omega)) ?_;simp only [qI.ctV,Int.natCast_add,←Int.add_assoc,go_sem,Nat.reduceEqDiff,reduceIte,Nat.reduceAdd,nZa]
 try (rw [show decide (k+((qE ctI x.Control.Term.Data:Nat):Int)+((qE qA.ct x.Control.Term.Kids:Nat):Int)+((qE ctI x.Control.Env:Nat):Int)<0)=false from decide_eq_false (by omega)];simp only [go_sem,Nat.reduceEqDiff,reduceIte,Nat.reduceAdd,nZa])
 refine qK (q475 x.Stack (k+((qE ctI x.Control.Term.Data:Nat):Int)+((qE qA.ct x.Control.Term.Kids:Nat):Int)+((qE ctI x.Control.Env:Nat):Int)) (by omega) (by omega) (z1) (z2)) ?_;simp only [go_sem,Nat.reduceEqDiff,reduceIte,Nat.reduceAdd,nZa]
 try (rw [show decide (k+((qE ctI x.Control.Term.Data:Nat):Int)+((qE qA.ct x.Control.Term.Kids:Nat):Int)+((qE ctI x.Control.Env:Nat):Int)+((qE qF.ct x.Stack:Nat):Int)<0)=false from decide_eq_false (by omega)];simp only [go_sem,Nat.reduceEqDiff,reduceIte,Nat.reduceAdd,nZa])
 refine qK (q476 x.Heap (k+((qE ctI x.Control.Term.Data:Nat):Int)+((qE qA.ct x.Control.Term.Kids:Nat):Int)+((qE ctI x.Control.Env:Nat):Int)+((qE qF.ct x.Stack:Nat):Int)) (by omega) (by omega) (z3) (z4)) ?_;simp only [go_sem,Nat.reduceEqDiff,reduceIte,Nat.reduceAdd,nZa]
 try (rw [show decide (k+((qE ctI x.Control.Term.Data:Nat):Int)+((qE qA.ct x.Control.Term.Kids:Nat):Int)+((qE ctI x.Control.Env:Nat):Int)+((qE qF.ct x.Stack:Nat):Int)+((qE qH.ct x.Heap:Nat):Int)<0)=false from decide_eq_false (by omega)];simp only [go_sem,Nat.reduceEqDiff,reduceIte,Nat.reduceAdd,nZa])
 refine qJ rfl ?_
 first | rfl | (simp only [qG.ctV,AV.int.injEq,true_and];done) | (simp only [qG.ctV,AV.int.injEq,true_and];omega)
attribute [local simp] jA zU
theorem qY6 {S S1:List (Option Nat)} {g mid:List qC} {k w:Nat} {vs ts:List AV} {X t:AV} (hO:qw S g vs ts) (hS:∀j,some j∈S→j<g.length) (hk:g[k]?=some (.row w vs true)) (hn:some k∉S)
  (hX:zB S1 (g++mid) X t) (hS1:∀j,some j∈S1→g.length≤j∧j<g.length+mid.length):
  ∃G,G=(((g++mid)++[qC.row w [X] true]).set k .dead)++[qC.row w (vs++[X]) true]∧qw (S++S1) G (vs++[X]) (ts++[t])∧(∀j,some j∈S++S1→j<G.length)∧G[g.length+mid.length+1]?=some (.row w (vs++[X]) true)∧some (g.length+mid.length+1)∉S++S1∧
   (∀j,j<g.length→j≠k→G[j]?=g[j]?)∧g.length≤G.length∧∀j,some j∈S++S1→some j∈S∨g.length≤j:=by
 have lk:=qc hk;have a1:∀j,j<g.length+mid.length→j≠k→((((g++mid)++[qC.row w [X] true]).set k .dead)++[qC.row w (vs++[X]) true])[j]?=(g++mid)[j]?:=fun j hj hne=>by
  rw [gAl (by simp;omega),gSn (Ne.symm hne),gAl (by simp;omega)]
 refine ⟨_,rfl, ?_,fun j hj=> ?_, ?_,fun q=> ?_,fun j hj hne=> ?_,by simp;omega,fun j hj=> ?_⟩
 ·refine (hO.heap fun j hj=> ?_).snoc (hX.heap fun j hj=> ?_) fun j hj hj2=> ?_
  ·have:=hS j hj;rw [a1 j (by omega) (by rintro rfl;exact hn hj),gAl this]
  ·have:=hS1 j hj;exact a1 j (by omega) (by omega)
  ·have:=hS j hj;have:=hS1 j hj2;omega
 ·rcases List.mem_append.1 hj with q | q
  ·have:=hS j q;simp;omega
  ·have:=hS1 j q;simp;omega
 ·rw [gAr (by simp;omega)];simp only [List.length_set,lAp,lCo,lNi];rw [show g.length+mid.length+1-(g.length+mid.length+(0+1))=0 by omega];rfl
 ·rcases List.mem_append.1 q with q | q
  ·have:=hS _ q;omega
  ·have:=hS1 _ q;omega
 ·rw [a1 j (by omega) hne,gAl hj]
 ·rcases List.mem_append.1 hj with q | q
  ·exact .inl q
  ·exact .inr (hS1 j q).1
structure IFs (S0:List (Option Nat)) (cs0 ts0:List AV) (w:Nat) (g:List qC) (si:Nat) (S:List (Option Nat)) (vs ts:List AV):Prop where
 c:qw S0 g cs0 ts0
 c0:∀j,some j∈S0→j<g.length
 o:qw S g vs ts
 o0:∀j,some j∈S→j<g.length
 r:g[si]?=some (.row w vs true)
 n1:some si∉S
 n2:some si∉S0
 n3:∀j,some j∈S0→some j∉S
section
variable {S0 S S1:List (Option Nat)} {cs0 ts0 vs ts:List AV} {w si:Nat} {g mid:List qC} {X t:AV}
theorem IFs.start (hc:qw S0 g cs0 ts0) (h0:∀j,some j∈S0→j<g.length):IFs S0 cs0 ts0 w (g++[.row w [] true]) g.length [] [] []:=
 ⟨hc.heap fun j hj=>gAl (h0 j hj),fun j hj=>by have:=h0 j hj;simp;omega,qw.nil,fun j hj=>by simp at hj,by simp,by simp,fun q=>by have:=h0 _ q;omega,fun j _ hj=>by simp at hj⟩
theorem IFs.push (h:IFs S0 cs0 ts0 w g si S vs ts) (hX:zB S1 (g++mid) X t) (hS1:∀j,some j∈S1→g.length≤j∧j<g.length+mid.length):
  IFs S0 cs0 ts0 w ((((g++mid)++[qC.row w [X] true]).set si .dead)++[qC.row w (vs++[X]) true]) (g.length+mid.length+1) (S++S1) (vs++[X]) (ts++[t]):=by
 obtain ⟨G,hG,q1,q2,q3,q4,q5,q6,q7⟩:=qY6 h.o h.o0 h.r h.n1 hX hS1;rw [←hG];refine ⟨h.c.heap fun j hj=>q5 j (h.c0 j hj) (by rintro rfl;exact h.n2 hj),fun j hj=>by have:=h.c0 j hj;omega,q1,q2,q3,q4,fun q=>by have:=h.c0 _ q;omega,fun j hj hj2=> ?_⟩;rcases q7 j hj2 with q | q
 ·exact h.n3 j hj q
 ·have:=h.c0 j hj;omega
theorem IFs.done {n:Nat} (h:IFs S0 cs0 ts0 w g si S vs ts) (hn:ts.length=n):qw (S0++some si::S) g (cs0++[.slice w si 0 n false]) (ts0++[.lst w ts false])∧∀j,some j∈S0++some si::S→j<g.length:=by
 subst hn;refine ⟨h.c.snoc (h.o.row h.r h.n1) fun j hj hj2=> ?_,fun j hj=> ?_⟩
 ·rcases List.mem_cons.1 hj2 with q | q
  ·cases q;exact h.n2 hj
  ·exact h.n3 j hj q
 ·rcases List.mem_append.1 hj with q | q
  ·exact h.c0 j q
  ·rcases List.mem_cons.1 q with q | q
   ·cases q;exact qc h.r
   ·exact h.o0 j q
end
structure QF where
 i:Nat
 g:List qC
 si:Nat
 S:List (Option Nat)
 vs:List AV
theorem n696 (x:qI) (hz:x.sz≤1048576):Fresh Gm 696 [x.enc] x.enc:=by
 refine Fresh.intro [] [] g696 (by kernel_rfl) rfl (by simp [AV.trees,qI.tr]) (qI.plx x) ?_;simp only [YS,qP,go_sem];refine qW rfl ?_;simp only [go_sem];unfold qI.sz at hz;refine zp (n385 x.Term (by omega)) ?_;simp only [go_sem,qA.layE];refine zp (n401 x.Env (by omega)) ?_;simp only [go_sem,zS];refine qf rfl rfl ⟨_,rfl⟩ (by decide) ?_;simp only [go_sem];exact j4 (pre:=[]) (post:=[]) (qI.plx x) (by simp [qz,qI.layE,qV,Nat.add_assoc,qA.layE,qA.rowsE]) (by simp [qI.layE,qV,Nat.add_assoc,qA.layE,qA.rowsE])
theorem qLZ (x:qI) (n:Nat):∃a b c,(lay x.enc n).1=.agg [.int .i64 x.Term.Kind,.int .i64 x.Term.Value,a,b,c]:=by rw [qI.layE];exact ⟨_,_,_,rfl⟩
theorem qY4 {g:List qC} {f:qF} {a1 b1 c1:AV} (hl:(lay f.Closure.enc (g++(lay (.lst 1 (f.Data.map qD) false) g.length).2).length).1=.agg [.int .i64 f.Closure.Term.Kind,.int .i64 f.Closure.Term.Value,a1,b1,c1]):
  ∃S1,zB S1 (g++((lay (.lst 1 (f.Data.map qD) false) g.length).2++(lay f.Closure.enc (g++(lay (.lst 1 (f.Data.map qD) false) g.length).2).length).2)) (.agg [.int .i64 f.Kind,.int .i64 f.Value,.slice 1 g.length 0 f.Data.length false,.int .i64 f.Closure.Term.Kind,.int .i64 f.Closure.Term.Value,a1,b1,c1]) f.enc∧
   ∀j,some j∈S1→g.length≤j∧j<g.length+((lay (.lst 1 (f.Data.map qD) false) g.length).2++(lay f.Closure.enc (g++(lay (.lst 1 (f.Data.map qD) false) g.length).2).length).2).length:=by
 have oD:=zB.new (t:=.lst 1 (f.Data.map qD) false) (pre:=g) (post:=(lay f.Closure.enc (g++(lay (.lst 1 (f.Data.map qD) false) g.length).2).length).2) (by simp [AV.pl,zH (enc:=qD) (fun _=>rfl)]) rfl rfl;have oC:=zB.new (t:=f.Closure.enc) (pre:=g++(lay (.lst 1 (f.Data.map qD) false) g.length).2) (post:=[]) (qI.plx _) rfl rfl;rw [hl,lAn,lAa] at oC;rw [zS,lMp] at oD;obtain ⟨vs,hv,oC⟩:=zB.aggs (ts:=[AV.int .i64 f.Closure.Term.Kind,.int .i64 f.Closure.Term.Value,.lst 1 (f.Closure.Term.Data.map qD) false,.lst 4 (f.Closure.Term.Kids.map qA.enc) false,.lst 1 (f.Closure.Env.map qD) false]) oC;cases hv;have o2:=((qw.nil.scal (a:=.int .i64 f.Kind) (fun _=>rfl) rfl rfl).scal (a:=.int .i64 f.Value) (fun _=>rfl) rfl rfl).snoc oD fun j hj=>by simp at hj
 have o3:=(o2.app oC fun j hj hj2=>by
  have h1:=J0 (by simpa using hj);have h2:=J0 hj2;rw [lAp,qV] at h2;omega).agg
 refine ⟨_,o3,fun j hj=> ?_⟩;rw [lAp,qV,qV];rcases List.mem_append.1 hj with q | q
 ·have:=J0 (by simpa using q);omega
 ·have:=J0 q;rw [lAp,qV] at this;omega
theorem qY7 {g:List qC} {t:qH} {a1 b1 c1:AV} (hl:(lay t.Closure.enc g.length).1=.agg [.int .i64 t.Closure.Term.Kind,.int .i64 t.Closure.Term.Value,a1,b1,c1]):
  ∃S1,zB S1 (g++(lay t.Closure.enc g.length).2) (.agg [.bool t.Done,.int .i64 t.Closure.Term.Kind,.int .i64 t.Closure.Term.Value,a1,b1,c1]) t.enc∧∀j,some j∈S1→g.length≤j∧j<g.length+(lay t.Closure.enc g.length).2.length:=by
 have oC:=zB.new (t:=t.Closure.enc) (pre:=g) (post:=[]) (qI.plx _) rfl rfl;rw [hl,lAn] at oC;obtain ⟨vs,hv,oC⟩:=zB.aggs (ts:=[AV.int .i64 t.Closure.Term.Kind,.int .i64 t.Closure.Term.Value,.lst 1 (t.Closure.Term.Data.map qD) false,.lst 4 (t.Closure.Term.Kids.map qA.enc) false,.lst 1 (t.Closure.Env.map qD) false]) oC;cases hv;have o3:=((qw.nil.scal (a:=.bool t.Done) (fun _=>rfl) rfl rfl).app oC fun j hj=>by simp at hj).agg;refine ⟨_,o3,fun j hj=> ?_⟩;rw [qV];exact J0 (by simpa using hj)
theorem n467 (M:qG) (hc:M.Control.sz≤1048576) (hs:∀f∈M.Stack,f.sz≤1048576) (ht:∀t∈M.Heap,t.sz≤1048576) (l1:M.Stack.length≤100000) (l2:M.Heap.length≤100000):Fresh Gm 467 [M.enc] M.enc:=by
 refine Fresh.intro [] [] g467 (by kernel_rfl) rfl (by simp [AV.trees,qG.tr]) (qG.plx M) ?_;simp only [Xv,qP,go_sem];refine qW rfl ?_;simp only [go_sem];refine zp (n696 M.Control hc) ?_;simp only [List.nil_append,lNi];have o0:zB ((List.range' 0 M.Control.enc.rows).map some) ((lay M.Control.enc 0).2++[]) (lay M.Control.enc 0).1 M.Control.enc:=zB.new (pre:=[]) (post:=[]) (qI.plx _) rfl (by simp);obtain ⟨a,b,c,hl⟩:=qLZ M.Control 0;rw [lAn,hl] at o0;rw [hl];have s0:∀j,some j∈(List.range' 0 M.Control.enc.rows).map some→j<(lay M.Control.enc 0).2.length:=fun j hj=>by have:=J0 hj;rw [qV];omega
 generalize (List.range' 0 M.Control.enc.rows).map some=S0 at o0 s0;generalize (lay M.Control.enc 0).2=g0 at o0 s0;simp only [go_sem];refine qf (k:=7) rfl rfl ⟨_,rfl⟩ (by decide) ?_;simp only [go_sem]
 try simp only [Xx,Xw,go_sem]
 obtain ⟨ks,hks⟩:∃ks,ks=[AV.int .i64 M.Control.Term.Kind,.int .i64 M.Control.Term.Value,.lst 1 (M.Control.Term.Data.map qD) false,.lst 4 (M.Control.Term.Kids.map qA.enc) false,.lst 1 (M.Control.Env.map qD) false]:=⟨_,rfl⟩;obtain ⟨vs0,hv0,o1⟩:=zB.aggs (ts:=ks) (by rw [hks];exact o0);cases hv0;clear o0;refine UF (fun q:QF=>q.i≤M.Stack.length∧IFs S0 [.int .i64 M.Control.Term.Kind,.int .i64 M.Control.Term.Value,a,b,c] ks 8 q.g q.si q.S q.vs ((M.Stack.take q.i).map qF.enc))
  (fun q=>(⟨[(13,.lst 8 (M.Stack.map qF.enc) false),(14,.int .i64 (M.Stack.length:Nat)),(15,.int .i64 (q.i:Nat))],[(1,M.enc),(2,.agg [.int .i64 0,.int .i64 0,.nils,.nils,.nils,.nils,.nils]),
   (3,.agg [.int .i64 M.Control.Term.Kind,.int .i64 M.Control.Term.Value,a,b,c,.slice 8 q.si 0 q.i false,.nils])],q.g⟩:VSt)) (fun q=>M.Stack.length-q.i) ⟨0,g0++[.row 8 [] true],g0.length,[],[]⟩
  (fun q:QF=>IFs S0 [.int .i64 M.Control.Term.Kind,.int .i64 M.Control.Term.Value,a,b,c] ks 8 q.g q.si q.S q.vs (M.Stack.map qF.enc))
  (fun q=>(⟨[],[(1,M.enc),(2,.agg [.int .i64 0,.int .i64 0,.nils,.nils,.nils,.nils,.nils]),(3,.agg [.int .i64 M.Control.Term.Kind,.int .i64 M.Control.Term.Value,a,b,c,.slice 8 q.si 0 M.Stack.length false,.nils])],q.g⟩:VSt)) (by kernel_rfl) ?_ ?_ ?_ ?_
 ·exact ⟨Nat.zero_le _,IFs.start o1 s0⟩
 ·refine Can.ph (w:=8) ?_ ?_
  ·exact WkN.same (by simp [go_sem]) (WkN.same (by simp [go_sem]) (WkN.same (by simp [go_sem]) .nil))
  ·exact WkN.same (by simp [go_sem]) (WkN.same (by simp [go_sem]) (WkN.cons (v:=.agg [.int .i64 M.Control.Term.Kind,.int .i64 M.Control.Term.Value,a,b,c,.nils,.nils]) (by simp [go_sem]) (.agg (.same (.same (.same (.same (.same (.cons (.ph (by simp)) (.same .nil)))))))) .nil))
 ·rintro ⟨i,g,si,S,vs⟩ ⟨h1,h2⟩;simp only at h1 h2⊢;simp only [go_sem];refine qM ?_ ?_<;>intro hc<;>simp only [hc,go_sem]
  ·have hlt:i<M.Stack.length:=by have:=odT hc;omega
   clear hc;simp only [gMp,gEg hlt,oMs,go_sem];have hfz:=hs _ (gMm hlt);generalize hfe:M.Stack[i]=f at hfz;refine qf (k:=8) rfl rfl ⟨_,rfl⟩ (by decide) ?_;simp only [go_sem];have hfz':f.Data.length+f.Closure.sz≤1048576:=hfz;refine zp (n401 f.Data (by omega)) ?_;simp only [go_sem,zS];refine zp (n696 f.Closure (by omega)) ?_;obtain ⟨a1,b1,c1,hl1⟩:=qLZ f.Closure (g++(lay (.lst 1 (f.Data.map qD) false) g.length).2).length;rw [hl1];simp only [go_sem];obtain ⟨S1,oF,oF1⟩:=qY4 hl1;have l4:=qc h2.r;have hcnt:=h2.o.cnt;rw [lMp,List.length_take] at hcnt;refine ja (x:=.agg [.int .i64 f.Kind,.int .i64 f.Value,.slice 1 g.length 0 f.Data.length false,.int .i64 f.Closure.Term.Kind,.int .i64 f.Closure.Term.Value,a1,b1,c1]) (xs:=vs) (js:=[]) List.getElem?_concat_length (by rw [lAn,gAl (by simp;omega),gAl (by simp;omega),gAl l4];exact h2.r) (by omega) (by omega) ?_;simp only [lAa g,go_sem];have h5:=h2.push oF oF1;rw [show (M.Stack.take i).map qF.enc++[f.enc]=(M.Stack.take (i+1)).map qF.enc by rw [ZJ hlt,hfe];simp] at h5;clear oF oF1;generalize (AV.agg [.int .i64 f.Kind,.int .i64 f.Value,.slice 1 g.length 0 f.Data.length false,.int .i64 f.Closure.Term.Kind,.int .i64 f.Closure.Term.Value,a1,b1,c1])=X at h5⊢;clear hl1;generalize ((lay (AV.lst 1 (f.Data.map qD) false) g.length).2++(lay f.Closure.enc (g++(lay (.lst 1 (f.Data.map qD) false) g.length).2).length).2)=mid at h5⊢;rw [show (g++(mid++[qC.row 8 [X] true])).length=g.length+mid.length+1 by simp;omega,qq (show i<4611686018427387904 by omega)];rw [lAa g] at h5;exact UE ⟨i+1,_,_,_,_⟩ ⟨by simp only;omega,h5⟩ (by simp only;omega) (Can.sub (by simp [go_sem]) (by simp [go_sem]))
  ·obtain rfl:i=M.Stack.length:=by have:=odF hc;omega
   rw [List.take_length] at h2;exact UV ⟨0,g,si,S,vs⟩ h2 (Can.sub (by simp [go_sem]) (by simp [go_sem]))
 ·rintro ⟨i,g,si,S,vs⟩ h2;simp only at h2⊢;simp only [go_sem];have hd:=h2.done (n:=M.Stack.length) (by simp);clear h2 o1 s0;obtain ⟨hd,hd0⟩:=hd;generalize S0++some si::S=S0 at hd hd0;simp only [List.cons_append,List.nil_append] at hd;generalize hks2:ks++[AV.lst 8 (M.Stack.map qF.enc) false]=ks2 at hd;generalize AV.slice 8 si 0 M.Stack.length false=d at hd⊢;refine Sem.loop (fun q:QF=>q.i≤M.Heap.length∧IFs S0 [.int .i64 M.Control.Term.Kind,.int .i64 M.Control.Term.Value,a,b,c,d] ks2 6 q.g q.si q.S q.vs ((M.Heap.take q.i).map qH.enc))
   (fun q=>(⟨[(37,.lst 6 (M.Heap.map qH.enc) false),(38,.int .i64 (M.Heap.length:Nat)),(39,.int .i64 (q.i:Nat))],[(1,M.enc),(2,.agg [.int .i64 0,.int .i64 0,.nils,.nils,.nils,.nils,.nils]),
    (3,.agg [.int .i64 M.Control.Term.Kind,.int .i64 M.Control.Term.Value,a,b,c,d,.slice 6 q.si 0 q.i false])],q.g⟩:VSt)) (fun q=>M.Heap.length-q.i) ⟨0,g++[.row 6 [] true],g.length,[],[]⟩ (by kernel_rfl) ?_ ?_ ?_
  ·exact ⟨Nat.zero_le _,IFs.start hd hd0⟩
  ·refine Can.ph (w:=6) ?_ ?_
   ·exact WkN.same (by simp [go_sem]) (WkN.same (by simp [go_sem]) (WkN.same (by simp [go_sem]) .nil))
   ·exact WkN.same (by simp [go_sem]) (WkN.same (by simp [go_sem]) (WkN.cons (v:=.agg [.int .i64 M.Control.Term.Kind,.int .i64 M.Control.Term.Value,a,b,c,d,.nils]) (by simp [go_sem]) (.agg (.same (.same (.same (.same (.same (.same (.cons (.ph (by simp)) .nil)))))))) .nil))
  ·rintro ⟨i,g,si,S,vs⟩ ⟨h1,h2⟩;simp only at h1 h2⊢;simp only [go_sem];refine qM ?_ ?_<;>intro hc<;>simp only [hc,go_sem]
   ·have hlt:i<M.Heap.length:=by have:=odT hc;omega
    clear hc;simp only [gMp,gEg hlt,oMs,go_sem];have hfz:=ht _ (gMm hlt);generalize hfe:M.Heap[i]=t at hfz;refine qf (k:=6) rfl rfl ⟨_,rfl⟩ (by decide) ?_;simp only [Xy,go_sem];have hfz':t.Closure.sz≤1048576:=hfz;refine zp (n696 t.Closure hfz') ?_;obtain ⟨a1,b1,c1,hl1⟩:=qLZ t.Closure g.length;rw [hl1];simp only [go_sem];obtain ⟨S1,oF,oF1⟩:=qY7 hl1;have l4:=qc h2.r;have hcnt:=h2.o.cnt;rw [lMp,List.length_take] at hcnt;refine ja (x:=.agg [.bool t.Done,.int .i64 t.Closure.Term.Kind,.int .i64 t.Closure.Term.Value,a1,b1,c1]) (xs:=vs) (js:=[]) List.getElem?_concat_length (by rw [lAn,gAl (by simp;omega),gAl l4];exact h2.r) (by omega) (by omega) ?_;simp only [go_sem];have h5:=h2.push oF oF1;rw [show (M.Heap.take i).map qH.enc++[t.enc]=(M.Heap.take (i+1)).map qH.enc by rw [ZJ hlt,hfe];simp] at h5;clear oF oF1;generalize (AV.agg [.bool t.Done,.int .i64 t.Closure.Term.Kind,.int .i64 t.Closure.Term.Value,a1,b1,c1])=X at h5⊢;clear hl1;generalize (lay t.Closure.enc g.length).2=mid at h5⊢;rw [show (g++mid++[qC.row 6 [X] true]).length=g.length+mid.length+1 by simp;omega,qq (show i<4611686018427387904 by omega)];exact qo ⟨i+1,_,_,_,_⟩ ⟨by simp only;omega,h5⟩ (by simp only;omega) (Can.sub (by simp [go_sem]) (by simp [go_sem]))
   ·obtain rfl:i=M.Heap.length:=by have:=odF hc;omega
    rw [List.take_length] at h2;refine qf (k:=7) rfl rfl ⟨_,rfl⟩ (by decide) ?_;simp only [go_sem];have hf:=(h2.done (n:=M.Heap.length) (by simp)).1.agg;subst hks2 hks;exact zB.fin hf
section
variable {P:Nat→Prop} {w:Nat} {pre post:List AV} {id j:Nat} {h:List qC} {M:qG} {b:qO} {K:AV→List qC→Prop}
end
theorem qPO {f:qF} (h:FV f):f.sz≤4000:=by have:=Zm h.1;have:=h.2;unfold qF.sz;omega
attribute [local simp] JE
structure qG.le2 (x:qG):Prop where
 c:x.Control.sz≤2097152
 s1:x.Stack.length≤2097152
 s2:∀y∈x.Stack,y.sz≤2097152
 h1:x.Heap.length≤2097152
 h2:∀y∈x.Heap,y.sz≤2097152
theorem qG.le2.le {x:qG} (h:x.le2):x.le:=⟨by have:=h.c;omega,by have:=h.s1;omega,fun y hy=>by have:=h.s2 y hy;omega,by have:=h.h1;omega,fun y hy=>by have:=h.h2 y hy;omega⟩
theorem Vb {x:qG} (h:x.le2):Pure Gm 156 [x.enc,x.enc] (.bool true):=c156 x h.c h.s1 h.s2 h.h1 h.h2
theorem qW4 {M:qG} (h:M.sz≤1048576):M.le2:=by
 have hz':M.Control.sz+(M.Stack.length+qE qF.sz M.Stack)+(M.Heap.length+qE qH.sz M.Heap)≤1048576:=h;exact ⟨by omega,by omega,fun y hy=>by have:=zP (f:=qF.sz) hy;omega,by omega,fun y hy=>by have:=zP (f:=qH.sz) hy;omega⟩
theorem qNW {α:Type} {f:α→Nat} {k:Nat}:∀{xs:List α},(∀x∈xs,f x≤k)→qE f xs≤xs.length*k
 |[],_=>by simp [qE]
 | x::xs,h=>by
  have h1:=h x (by simp);have h2:=qNW (xs:=xs) fun y hy=>h y (by simp [hy]);simp only [qE,lCo,Nat.add_mul,Nat.one_mul];omega
theorem qSS {b:qO} {M:qG} (hM:MI b M) (hF:∀f∈M.Stack,FV f):M.le2∧M.sz≤100000000:=by
 have q0:=hM.c.t.sz;have q1:=hM.c.l;have q2:=hM.sl;have q3:=hM.hl;have f1:∀y∈M.Stack,y.sz≤4000:=fun y hy=>qPO (hF y hy);have f2:∀y∈M.Heap,y.sz≤4000:=fun y hy=>by have:=Zm (.inl ⟨(hM.h y hy).t.v,(hM.h y hy).l⟩);show y.Closure.sz≤_;omega
 have s1:=qNW f1;have s2:=qNW f2;have hc:M.Control.sz≤4000:=by unfold qI.sz;omega
 refine ⟨⟨by omega,by omega,fun y hy=>by have:=f1 y hy;omega,by omega,fun y hy=>by have:=f2 y hy;omega⟩, ?_⟩;show M.Control.sz+(M.Stack.length+qE qF.sz M.Stack)+(M.Heap.length+qE qH.sz M.Heap)≤_;omega
theorem ZO:wO.le2∧wO.sz≤100000000:=⟨⟨by decide,by decide,fun y hy=>by simp [wO] at hy,by decide,fun y hy=>by simp [wO] at hy⟩,by decide⟩
theorem zZ (x:qG) (n:Nat):(lay x.enc n).1.part 0 (some 7)=some (lay x.enc n).1:=qP6 (qG.plx x) ⟨_,rfl⟩ rfl
theorem qP4 (x:qG) (k:Int) (n:Nat):(lay (x.mkV k).enc n).1=(lay x.enc n).1:=by
 have h1:=qG.layE x n;have h2:=qG.layE (x.mkV k) n;rw [h1,h2];simp [qG.mkV,qA.pK,qA.pV,qA.pD,qA.pC,jL,AV.rows,qT qA.mrk qA.ct (enc:=qA.enc) qA.rowsM,qT mkI ctI (enc:=qD) (fun _ _=>rfl),qT qF.mrk qF.ct (enc:=qF.enc) qF.rowsM,qT qH.mrk qH.ct (enc:=qH.enc) qH.rowsM]
theorem qMV {E:Ev} {l:List qB} {ks:List Fr1} {s m:qb} {h:List qC} {Q:qX→VSt→Prop} {t:Nat} {x:qG} {n:Nat} {cs:List AV} (h1:cs.length=7) (hr:R E (.ops l::ks) ⟨s,(t,(lay x.enc n).1)::m,h⟩ Q):Lst E t 0 7 (some (.agg cs)) (some (lay x.enc n).1) l ks ⟨s,m,h⟩ Q:=
 qf h1 (by rw [Z0 (qG.plx x)];rfl) (by rw [qG.layE];exact ⟨_,rfl⟩) (by decide) hr
end Go.Ab
namespace Go.Ab
open Go
set_option maxRecDepth 10000
set_option maxHeartbeats 2000000
attribute [local simp] jA zU
structure IR (O:Nat→qC) (P:Nat→Prop) (ci cid id:Nat) (h:List qC) (M:qG) (cs:List Int) (l:Nat):Prop where
 m:NSx (fun i=>P i∨i=ci∨i=cid) 7 [] [] id h M
 c:h[ci]?=some (.row 1 (cs.map qD) true)
 o:h[cid]?=some (O l)
 d1:ci≠cid
 p1:¬P ci
 p2:¬P cid
 k:cs.length=4
section
variable {O:Nat→qC} {P Q:Nat→Prop} {b:qO} {ci cid id:Nat} {h h':List qC} {M M':qG} {cs cs':List Int} {l l':Nat} {K:AV→List qC→Prop}
theorem IR.pl (hF:IR O P ci cid id h M cs l) {i:Nat} (hi:P i):i<h.length:=hF.m.pl (.inl hi)
theorem IR.go (hF:IR O P ci cid id h M cs l) (hN:NSx (fun i=>P i∨i=ci∨i=cid) 7 [] [] id h' M') (hk:Keep (fun i=>P i∨i=ci∨i=cid) h h'):IR O P ci cid id h' M' cs l∧Keep P h h':=
 ⟨⟨hN,(hk.2 ci (.inr (.inl rfl))).trans hF.c,(hk.2 cid (.inr (.inr rfl))).trans hF.o,hF.d1,hF.p1,hF.p2,hF.k⟩,hk.sub fun _=>.inl⟩
theorem IR.out (hF:IR O P ci cid id h M cs l) (ho:Outs P h h') (hq:∀j,Q j→(P j∨h.length≤j)∧j<h'.length):IR O Q ci cid id h' M cs l:=by
 have c1:=qc hF.c;have c2:=qc hF.o;have hn:∀i,i<h.length→¬P i→¬Q i:=fun i hi hp q=>by
  rcases (hq _ q).1 with q | q
  ·exact hp q
  ·omega
 refine ⟨hF.m.out (P:=fun i=>P i∨i=ci∨i=cid) ⟨ho.1,fun j hj hnj=>ho.2 j hj fun q=>hnj (.inl q)⟩ fun j hj=> ?_,(ho.2 ci c1 hF.p1).trans hF.c,(ho.2 cid c2 hF.p2).trans hF.o,hF.d1,hn _ c1 hF.p1,hn _ c2 hF.p2,hF.k⟩;have:=ho.1;rcases hj with hj | rfl | rfl
 ·obtain ⟨q1,q2⟩:=hq j hj;exact ⟨q1.elim (fun q=>.inl (.inl q)) .inr,q2⟩
 ·exact ⟨.inl (.inr (.inl rfl)),by omega⟩
 ·exact ⟨.inl (.inr (.inr rfl)),by omega⟩
theorem IR.mset (hF:IR O P ci cid id h M cs l) {x:Nat} {o:qC} (hx:x=ci∨x=cid):NSx (fun i=>P i∨i=ci∨i=cid) 7 [] [] id (h.set x o) M∧Keep P h (h.set x o):=by
 refine ⟨hF.m.out (P:=fun i=>P i∨i=ci∨i=cid) ⟨by simp,fun j hj hnj=>by rw [gSn];rintro rfl;exact hnj (.inr hx)⟩ fun j hj=>⟨.inl hj,by rw [List.length_set];exact hF.m.pl hj⟩,by simp,fun j hj=> ?_⟩;rw [gSn];rintro rfl;rcases hx with rfl | rfl
 ·exact hF.p1 hj
 ·exact hF.p2 hj
theorem IR.left (hF:IR O P ci cid id h M cs l) (l':Nat):IR O P ci cid id (h.set cid (O l')) M cs l'∧Keep P h (h.set cid (O l')):=by
 obtain ⟨n1,n2⟩:=hF.mset (x:=cid) (o:=O l') (.inr rfl);exact ⟨⟨n1,by rw [gSn (Ne.symm hF.d1)];exact hF.c,by rw [List.getElem?_set,if_pos rfl,if_pos (qc hF.o)],hF.d1,hF.p1,hF.p2,hF.k⟩,n2⟩
theorem IR.cnts (hF:IR O P ci cid id h M cs l) (hl:cs'.length=4):IR O P ci cid id (h.set ci (.row 1 (cs'.map qD) true)) M cs' l∧Keep P h (h.set ci (.row 1 (cs'.map qD) true)):=by
 obtain ⟨n1,n2⟩:=hF.mset (x:=ci) (o:=.row 1 (cs'.map qD) true) (.inl rfl);exact ⟨⟨n1,by rw [List.getElem?_set,if_pos rfl,if_pos (qc hF.c)],by rw [gSn hF.d1];exact hF.o,hF.d1,hF.p1,hF.p2,hl⟩,n2⟩
theorem IR.junk (hF:IR O P ci cid id h M cs l) {o:qC}:IR O P ci cid id (h++[o]) M cs l∧Keep P h (h++[o]):=
 ⟨hF.out ⟨by simp,fun j hj _=>gAl hj⟩ fun j hj=>⟨.inl hj,by have:=hF.pl hj;simp;omega⟩,by simp,fun j hj=>gAl (hF.pl hj)⟩
def OI (ci:Nat) (l:Nat):qC:=.row 2 [.agg [.slice 1 ci 0 4 false,.int .i64 (l:Nat)]] true
def OS (l:Nat):qC:=.row 1 [.int .i64 (l:Nat)] true
theorem qaH (hb:BI b) (hF:IR (OI ci) P ci cid id h M cs l) (hM:MI b M) (hl:l≤20000)
  (hK0:∀h',IR (OI ci) P ci cid id h' (qn b l M cs).2.1 (qn b l M cs).2.2.1 (qn b l M cs).2.2.2→Keep P h h'→(qn b l M cs).1=0→K (.int .i64 0) h')
  (hK1:∀h',Keep P h h'→(qn b l M cs).1≠0→K (.int .i64 (qn b l M cs).1) h'):SCall Gm 478 [.ptr cid 0 0,b.enc,.ptr id 0 0] h K:=by
 refine SCall.run [] [] g478 (by kernel_rfl) rfl ?_;simp only [X7,qP,go_sem];refine qW rfl ?_;simp only [go_sem];refine Sem.loop (fun q:List qC×qG×List Int×Nat=>IR (OI ci) P ci cid id q.1 q.2.1 q.2.2.1 q.2.2.2∧MI b q.2.1∧q.2.2.2≤20000∧Keep P h q.1∧qn b l M cs=qn b q.2.2.2 q.2.1 q.2.2.1)
  (fun q=>(⟨[(0,.ptr cid 0 0),(2,.ptr id 0 0)],[(4,b.enc)],q.1⟩:VSt)) (fun q=>q.2.2.2) (h,M,cs,l) (by kernel_rfl) ⟨hF,hM,hl,.refl,rfl⟩ (Can.sub (by simp [go_sem]) (by simp [go_sem])) ?_
 rintro ⟨g,M1,cs1,l1⟩ ⟨gF,gM,gl,gK,gr⟩;simp only at gF gM gl gK gr⊢;rw [gr] at hK0 hK1;have hz:M1.Control.sz≤1048576:=by have:=gM.c.t.sz;have:=gM.c.l;unfold qI.sz;omega
 simp only [go_sem];refine qe (s670 rfl gF.m hz ?_);simp only [go_sem];refine qM ?_ ?_<;>intro hc<;>simp only [hc,go_sem]
 ·have hd:M1.done=false:=by simpa using hc
  clear hc;have hp1:jk none 1 0 g[cid]?=some (.int .i64 (l1:Nat)):=by rw [gF.o];rfl
  try simp only [bitvec_to_nat,Nat.reduceBEq,go_sem]
  rw [hp1]
  try simp only [bitvec_to_nat,Nat.reduceBEq,go_sem]
  refine qM ?_ ?_<;>intro hc<;>simp only [hc,go_sem]
  ·have h0:l1=0:=by have:=odT hc;omega
   subst h0;have e:qn b 0 M1 cs1=(12,M1,cs1,0):=by unfold qn;rw [hd];rfl
   rw [e] at hK1;exact hK1 _ gK (show ¬(12:Int)=0 by decide)
  have h0:l1≠0:=by have:=odF hc;omega
  clear hc hp1;obtain ⟨l2,rfl⟩:∃l2,l1=l2+1:=⟨l1-1,by omega⟩;have e:qn b (l2+1) M1 cs1=if (M1.step b).2.1≠0 then ((M1.step b).2.1,(M1.step b).2.2,cs1,l2+1) else qn b l2 (M1.step b).2.2 (cnt cs1 (M1.step b).1):=by
   conv=>lhs;unfold qn
   rw [hd];rfl
  simp only [X8]
  try simp only [bitvec_to_nat,Nat.reduceBEq,go_sem]
  refine qe (s466 rfl gF.m hb gM hd fun g2 hN2 k2=> ?_)
  try simp only [bitvec_to_nat,Nat.reduceBEq,go_sem]
  obtain ⟨gF2,gK2⟩:=gF.go hN2 k2;refine qM ?_ ?_<;>intro hc<;>simp only [hc,go_sem]
  ·have h1:(M1.step b).2.1≠0:=by simpa using hc
   rw [e,if_pos h1] at hK1;exact hK1 _ (gK.trans gK2) h1
  have h1:(M1.step b).2.1=0:=by simpa using hc
  clear hc;rw [e,if_neg (by simpa using h1)] at hK0 hK1 gr;have gM2:=gM.step hb hd h1;have hkd:=qQQ (M:=M1) (b:=b);generalize hst:M1.step b=st at*;obtain ⟨kd,c0,M2⟩:=st;simp only at hN2 gF2 gM2 hK0 hK1 gr hkd⊢;have hp1:jk none 1 0 g2[cid]?=some (.int .i64 ((l2+1:Nat):Int)):=by rw [gF2.o];rfl
  try simp only [bitvec_to_nat,Nat.reduceBEq,go_sem]
  rw [hp1]
  try simp only [bitvec_to_nat,Nat.reduceBEq,go_sem]
  rw [qr (n:=((l2+1:Nat):Int)-1) (by omega) (by omega),show ((l2+1:Nat):Int)-1=(l2:Nat) by omega];refine qp rfl gF2.o rfl (show (AV.agg [.slice 1 ci 0 4 false,.int .i64 ((l2+1:Nat):Int)]).put 1 (.int .i64 (l2:Nat))=some (.agg [.slice 1 ci 0 4 false,.int .i64 (l2:Nat)]) from rfl) ?_;simp only [List.set_cons_zero];obtain ⟨gF3,gK3⟩:=gF2.left l2;rw [show OI ci l2=.row 2 [.agg [.slice 1 ci 0 4 false,.int .i64 (l2:Nat)]] true from rfl] at gF3 gK3;generalize List.set g2 cid _=g3 at*
  try simp only [bitvec_to_nat,Nat.reduceBEq,go_sem]
  rw [fil4]
  try simp only [bitvec_to_nat,Nat.reduceBEq,go_sem]
  obtain ⟨gF4,gK4⟩:=gF3.junk (o:=.row 1 [.int .i64 4,.int .i64 5,.int .i64 6,.int .i64 7] true);refine jn (vs':=[.lst 1 (([4,5,6,7]:List Int).map qD) false,.int .i64 kd]) (Cvs.cons (Cv.row (List.getElem?_concat_length (l:=g3) (a:=qC.row 1 [.int .i64 4,.int .i64 5,.int .i64 6,.int .i64 7] true)) rfl rfl (by decide)) (Cvs.cons (.refl rfl) Cvs.nil)) (c834 (n:=kd) (xs:=[4,5,6,7]) (by simp)) rfl ?_;rw [qWK hkd];generalize g3++[qC.row 1 [.int .i64 4,.int .i64 5,.int .i64 6,.int .i64 7] true]=g4 at*;by_cases hk:4≤kd∧kd≤7
  ·rw [if_pos hk];have hi:(kd-4).toNat<cs1.length:=by have:=gF4.k;omega
   have e1:cnt cs1 kd=cs1.set (kd-4).toNat (IntKind.i64.wrap (cs1[(kd-4).toNat]+1)):=by unfold cnt;rw [if_pos hk,zj hi]
   obtain ⟨gF5,gK5⟩:=gF4.cnts (cs':=cnt cs1 kd) (by rw [qL1];exact gF4.k);rw [e1,List.map_set] at gF5 gK5
   try simp only [bitvec_to_nat,Nat.reduceBEq,go_sem]
   simp only [decide_eq_true (show (0:Int)≤kd-4 by omega)]
   try simp only [bitvec_to_nat,Nat.reduceBEq,go_sem]
   have hp0:jk none 0 0 g4[cid]?=some (.slice 1 ci 0 4 false):=by rw [gF4.o];rfl
   rw [hp0]
   try simp only [bitvec_to_nat,Nat.reduceBEq,go_sem]
   rw [ji (by omega) (by omega)];have hpc:jk none 0 (kd-4).toNat g4[ci]?=some (.int .i64 cs1[(kd-4).toNat]):=by
    rw [gF4.c];simp [jk,gEg hi,qD,AV.part,AV.cells];rfl
   try simp only [bitvec_to_nat,Nat.reduceBEq,go_sem]
   rw [hpc]
   try simp only [bitvec_to_nat,Nat.reduceBEq,go_sem]
   rw [ji (by omega) (by omega)]
   try simp only [bitvec_to_nat,Nat.reduceBEq,go_sem]
   refine qp rfl gF4.c (by rw [gMp,gEg hi];rfl) (show (qD cs1[(kd-4).toNat]).put 0 (.int .i64 (IntKind.i64.wrap (cs1[(kd-4).toNat]+1)))=some (qD (IntKind.i64.wrap (cs1[(kd-4).toNat]+1))) from rfl) ?_
   try simp only [bitvec_to_nat,Nat.reduceBEq,go_sem]
   rw [e1] at gr;exact qo (_,M2,cs1.set (kd-4).toNat (IntKind.i64.wrap (cs1[(kd-4).toNat]+1)),l2) ⟨gF5,gM2,by simp only;omega,gK.trans (gK2.trans (gK3.trans (gK4.trans gK5))),gr⟩ (by simp only;omega) (Can.sub (by simp [go_sem]) (by simp [go_sem]))
  ·rw [if_neg hk];rw [qO4 hk] at gr
   try simp only [bitvec_to_nat,Nat.reduceBEq,go_sem]
   simp only [show decide ((0:Int)≤-1)=false from rfl]
   try simp only [bitvec_to_nat,Nat.reduceBEq,go_sem]
   exact qo (g4,M2,cs1,l2) ⟨gF4,gM2,by simp only;omega,gK.trans (gK2.trans (gK3.trans gK4)),gr⟩ (by simp only;omega) (Can.sub (by simp [go_sem]) (by simp [go_sem]))
 ·have hd:M1.done=true:=by simpa using hc
  have e:qn b l1 M1 cs1=(0,M1,cs1,l1):=by cases l1<;>(unfold qn;rw [hd];rfl)
  rw [e] at hK0;exact hK0 _ gF gK rfl
theorem qaG (hb:BI b) (hF:IR OS P ci cid id h M cs l) (hM:MI b M) (hl:l≤20000)
  (hK0:∀h',IR OS P ci cid id h' (qn b l M cs).2.1 (qn b l M cs).2.2.1 (qn b l M cs).2.2.2→Keep P h h'→(qn b l M cs).1=0→K (.int .i64 0) h')
  (hK1:∀h',Keep P h h'→(qn b l M cs).1≠0→K (.int .i64 (qn b l M cs).1) h'):SCall Gm 477 [.ept b.enc 0,.ptr id 0 0,.slice 1 ci 0 4 false,.ptr cid 0 0] h K:=by
 refine SCall.run [] [] g477 (by kernel_rfl) rfl ?_;simp only [X6,qP,go_sem];refine Sem.loop (fun q:List qC×qG×List Int×Nat=>IR OS P ci cid id q.1 q.2.1 q.2.2.1 q.2.2.2∧MI b q.2.1∧q.2.2.2≤20000∧Keep P h q.1∧qn b l M cs=qn b q.2.2.2 q.2.1 q.2.2.1)
  (fun q=>(⟨[(0,.ept b.enc 0),(1,.ptr id 0 0),(2,.slice 1 ci 0 4 false),(3,.ptr cid 0 0)],[],q.1⟩:VSt)) (fun q=>q.2.2.2) (h,M,cs,l) (by kernel_rfl) ⟨hF,hM,hl,.refl,rfl⟩ (Can.sub (by simp [go_sem]) (by simp [go_sem])) ?_
 rintro ⟨g,M1,cs1,l1⟩ ⟨gF,gM,gl,gK,gr⟩;simp only at gF gM gl gK gr⊢;rw [gr] at hK0 hK1;have hz:M1.Control.sz≤1048576:=by have:=gM.c.t.sz;have:=gM.c.l;unfold qI.sz;omega
 simp only [go_sem];refine qe (s459 rfl gF.m hz ?_);simp only [go_sem];refine qM ?_ ?_<;>intro hc<;>simp only [hc,go_sem]
 ·have hd:M1.done=false:=by simpa using hc
  clear hc;have hp9:jk none 0 0 g[cid]?=some (.int .i64 (l1:Nat)):=by rw [gF.o];rfl
  rw [hp9];simp only [go_sem];refine qM ?_ ?_<;>intro hc<;>simp only [hc,go_sem]
  ·have h0:l1=0:=by have:=odT hc;omega
   subst h0;have e:qn b 0 M1 cs1=(12,M1,cs1,0):=by unfold qn;rw [hd];rfl
   rw [e] at hK1;exact hK1 _ gK (show ¬(12:Int)=0 by decide)
  have h0:l1≠0:=by have:=odF hc;omega
  clear hc hp9;obtain ⟨l2,rfl⟩:∃l2,l1=l2+1:=⟨l1-1,by omega⟩;have e:qn b (l2+1) M1 cs1=if (M1.step b).2.1≠0 then ((M1.step b).2.1,(M1.step b).2.2,cs1,l2+1) else qn b l2 (M1.step b).2.2 (cnt cs1 (M1.step b).1):=by
   conv=>lhs;unfold qn
   rw [hd];rfl
  refine qe (s461 rfl gF.m hb gM hd fun g2 hN2 k2=> ?_);simp only [go_sem];obtain ⟨gF2,gK2⟩:=gF.go hN2 k2;refine qM ?_ ?_<;>intro hc<;>simp only [hc,go_sem]
  ·have h1:(M1.step b).2.1≠0:=by simpa using hc
   rw [e,if_pos h1] at hK1;exact hK1 _ (gK.trans gK2) h1
  have h1:(M1.step b).2.1=0:=by simpa using hc
  clear hc;rw [e,if_neg (by simpa using h1)] at hK0 hK1 gr;have gM2:=gM.step hb hd h1;have hkd:=qQQ (M:=M1) (b:=b);generalize hst:M1.step b=st at*;obtain ⟨kd,c0,M2⟩:=st;simp only at hN2 gF2 gM2 hK0 hK1 gr hkd⊢;obtain ⟨gF3,gK3⟩:=gF2.left l2;have hp9:jk none 0 0 g2[cid]?=some (.int .i64 ((l2+1:Nat):Int)):=by rw [gF2.o];rfl
  rw [hp9];simp only [go_sem];rw [qr (n:=((l2+1:Nat):Int)-1) (by omega) (by omega),show ((l2+1:Nat):Int)-1=(l2:Nat) by omega];refine qp rfl gF2.o rfl (show (AV.int .i64 ((l2+1:Nat):Int)).put 0 (.int .i64 (l2:Nat))=some (.int .i64 (l2:Nat)) from rfl) ?_;simp only [List.set_cons_zero];rw [show OS l2=.row 1 [.int .i64 (l2:Nat)] true from rfl] at gF3 gK3;generalize List.set g2 cid _=g3 at*;simp only [go_sem];by_cases hk:4≤kd∧kd≤7
  ·obtain ⟨gF4,gK4⟩:=gF3.cnts (cs':=cnt cs1 kd) (by rw [qL1];exact gF3.k);refine qe (s833 gF3.c gF3.k (by omega) ?_);rw [if_pos hk];simp only [go_sem];exact qo (_,M2,cnt cs1 kd,l2) ⟨gF4,gM2,by simp only;omega,gK.trans (gK2.trans (gK3.trans gK4)),gr⟩ (by simp only;omega) (Can.sub (by simp [go_sem]) (by simp [go_sem]))
  ·refine qe (s833 gF3.c gF3.k (by omega) ?_);rw [if_neg hk];simp only [go_sem];rw [qO4 hk] at gr;exact qo (g3,M2,cs1,l2) ⟨gF3,gM2,by simp only;omega,gK.trans (gK2.trans gK3),gr⟩ (by simp only;omega) (Can.sub (by simp [go_sem]) (by simp [go_sem]))
 ·have hd:M1.done=true:=by simpa using hc
  have e:qn b l1 M1 cs1=(0,M1,cs1,l1):=by cases l1<;>(unfold qn;rw [hd];rfl)
  rw [e] at hK0;exact hK0 _ gF gK rfl
end
def jY (b:qO) (M:qG) (budget:Int):qG×List Int×Int:=
 if M.ok b=false then (wO,[],1) else if inI budget 0 20000=false then (wO,[],2)
 else if ¬(qn b budget.toNat M [0,0,0,0]).1=0 then (wO,[],(qn b budget.toNat M [0,0,0,0]).1)
 else ((qn b budget.toNat M [0,0,0,0]).2.1,(qn b budget.toNat M [0,0,0,0]).2.2.1,0)
def wJ (y:qG×List Int×Int):AV:=.tup [y.1.enc,.lst 1 (y.2.1.map qD) false,.int .i64 y.2.2]
theorem qY3 (y:qG×List Int×Int):(wJ y).tree=true:=by simp [wJ,AV.tree,AV.trees,go_sem]
theorem Ug {b:qO} (hb:BI b):∀(n:Nat) {M:qG} {cs:List Int},MI b M→(∀f∈M.Stack,FV f)→cs.length=4→(qn b n M cs).1=0→MI b (qn b n M cs).2.1∧(∀f∈(qn b n M cs).2.1.Stack,FV f)∧(qn b n M cs).2.2.1.length=4
 | 0,M,cs,hM,hF,hl,h0=>by
  unfold qn at h0⊢;cases hd:M.done with
  | true=>rw [hd] at h0;exact ⟨hM,hF,hl⟩
  | false=>rw [hd] at h0;exact absurd (show (12:Int)=0 from h0) (by decide)
 | n+1,M,cs,hM,hF,hl,h0=>by
  unfold qn at h0⊢;cases hd:M.done with
  | true=>exact ⟨hM,hF,hl⟩
  | false=>
   rw [hd] at h0;simp only [bFt,if_false] at h0⊢;by_cases h1:(M.step b).2.1=0
   ·rw [if_neg (by simpa using h1)] at h0⊢;exact Ug hb n (hM.step hb hd h1) (qaW hM hF) (by rw [qL1];exact hl) h0
   ·rw [if_pos h1] at h0;exact absurd h0 h1
theorem WX {h:List qC} {v c:AV} {M:qG} {k:List Int} {e:Int} {y:qG×List Int×Int} (he:y=(M,k,e)) (hv:Cv h v M.enc) (hc:Cv h c (.lst 1 (k.map qD) false)):Fin (some [v,c,.int .i64 e]) h (wJ y):=by
 subst he;unfold Fin;refine .tup rfl ?_;simp only [List.zip_cons_cons,List.zip_nil_left,List.mem_cons,List.not_mem_nil,or_false];rintro p (rfl | rfl | rfl)
 ·exact hv
 ·exact hc
 ·exact .refl rfl
theorem c159 {b:qO} {m:qG} {budget:Int} (hb:b.sz≤1048576) (hz:m.sz≤1048576):Pure Gm 159 [b.enc,m.enc,.int .i64 budget] (wJ (jY b m budget)):=by
 refine Pure.intro [3,4] [] g159 (by kernel_rfl) rfl (by simp [AV.trees,AV.tree,go_sem]) (by exact qY3 _) ?_;simp only [XR,qP,go_sem];have hz':m.Control.sz+(m.Stack.length+qE qF.sz m.Stack)+(m.Heap.length+qE qH.sz m.Heap)≤1048576:=hz;refine jh rfl ?_;simp only [go_sem];simp only [go_sem,List.nil_append,List.cons_append,List.set_cons_zero,List.set_cons_succ];refine jh rfl ?_;simp only [go_sem];simp only [go_sem,List.nil_append,List.cons_append,List.set_cons_zero,List.set_cons_succ];refine jh rfl ?_;simp only [go_sem];simp only [go_sem,List.nil_append,List.cons_append,List.set_cons_zero,List.set_cons_succ];refine qK (c458 hb hz) ?_;simp only [go_sem];refine qM ?_ ?_<;>intro hc<;>simp only [hc,go_sem]
 ·refine qf (k:=7) rfl rfl ⟨_,rfl⟩ (by decide) ?_;simp only [go_sem];exact WX (k:=[]) (by unfold jY;rw [if_pos (nt hc)]) U1 .nils
 have hok:=nf hc;clear hc;obtain ⟨hBI,hMI,hFV⟩:=qM2 hok;refine qK jb ?_;simp only [go_sem];refine qM ?_ ?_<;>intro hc<;>simp only [hc,go_sem]
 ·refine qf (k:=7) rfl rfl ⟨_,rfl⟩ (by decide) ?_;simp only [go_sem];exact WX (k:=[]) (by unfold jY;rw [if_neg (by rw [hok];decide),if_pos (nt hc)]) U1 .nils
 have hin:=nf hc;clear hc;obtain ⟨h0,h1⟩:0≤budget∧budget≤20000:=by simpa [inI] using hin
 obtain ⟨l,rfl⟩:∃l:Nat,budget=l:=⟨budget.toNat,by omega⟩;have hv:jY b m (l:Nat)=if ¬(qn b l m [0,0,0,0]).1=0 then (wO,[],(qn b l m [0,0,0,0]).1) else ((qn b l m [0,0,0,0]).2.1,(qn b l m [0,0,0,0]).2.2.1,0):=by
  unfold jY;rw [if_neg (by rw [hok];decide),if_neg (by rw [hin];decide),Int.toNat_natCast]
 refine qe (s460 ⟨hMI.c.t.v,by have:=hMI.c.l;omega⟩ hFV (fun t ht=>⟨(hMI.h t ht).t.v,(hMI.h t ht).l⟩) (by have:=hMI.sl;omega) (by have:=hMI.hl;omega) fun g si hi q1 q2 q3 q4 q5 q6=> ?_);simp only [go_sem];have l2:=qc q2;have l3:=qc q3;refine qp rfl List.getElem?_concat_length rfl (wK (k:=7) rfl rfl ⟨fun _=>⟨_,rfl⟩,fun _=>⟨_,rfl⟩⟩ (by decide)) ?_;simp only [qNO,List.set_cons_zero,fil4,go_sem];have hg3:3≤g.length:=q1.1;have hg2:g[2]?=some (.row 1 [.int .i64 (l:Nat)] true):=q1.2 2 (by simp);have hsi:3≤si:=q4;have hhi:3≤hi:=q5;simp only [lAp,lCo,lNi,nZa,go_sem];have hF:IR OS (fun _=>False) (g.length+1) 2 g.length (g++[qC.row 7 [.agg (Nec m si hi)] true]++[qC.row 1 [.int .i64 0,.int .i64 0,.int .i64 0,.int .i64 0] true]) m [0,0,0,0] l:=by
  refine ⟨⟨si,hi,[], ?_, ?_, ?_,by omega,by omega,q6,by rintro (q | q | q)<;>first | exact q | omega,by rintro (q | q | q)<;>first | exact q | omega,by rintro (q | q | q)<;>first | exact q | omega,fun j hj=> ?_⟩, ?_, ?_,by omega,id,id,rfl⟩
  ·rw [gAl (by simp)];simp
  ·rw [gAl (by simp;omega),gAl l2,lAn];exact q2
  ·rw [gAl (by simp;omega),gAl l3];exact q3
  ·rcases hj with hj | rfl | rfl
   ·exact hj.elim
   ·simp
   ·simp;omega
  ·rw [gAr (by simp)];simp [qD]
  ·rw [gAl (by simp;omega),gAl (by omega)];exact hg2
 refine qe (qaG hBI hF hMI (by omega) (fun h' hF' _ h0=> ?_) fun h' _ h0=> ?_)
 ·obtain ⟨hMI2,hFV2,hk⟩:=Ug hBI l hMI hFV (cs:=[0,0,0,0]) rfl h0;rw [if_neg (by rw [h0];decide)] at hv;generalize qn b l m [0,0,0,0]=r at*;obtain ⟨e,M2,cs2,l2'⟩:=r;simp only at hF' hMI2 hFV2 hk hv h0⊢;simp only [go_sem]
  try simp only [XT,go_sem]
  obtain ⟨si2,hi2,js,hN2⟩:=hF'.m;have hck:=hF'.c;have p1:=hN2.p1;have p2:=hN2.p2;have p3:=hN2.p3;have hcn:g.length+1∉[g.length,si2,hi2]:=by
   simp only [List.mem_cons,List.not_mem_nil,or_false];rintro (q | rfl | rfl)
   ·omega
   ·exact p2 (.inr (.inl rfl))
   ·exact p3 (.inr (.inl rfl))
  refine qe (SCall.giveH (vs':=[.ept M2.enc 0]) [g.length,si2,hi2] ⟨rfl, ?_⟩ (s460 ⟨hMI2.c.t.v,by have:=hMI2.c.l;omega⟩ hFV2 (fun t ht=>⟨(hMI2.h t ht).t.v,(hMI2.h t ht).l⟩) (by have:=hMI2.sl;omega) (by have:=hMI2.hl;omega) fun g3 si3 hi3 r1 r2 r3 r4 r5 r6=> ?_))
  ·intro p hp;simp only [List.zip_cons_cons,List.zip_nil_left,List.mem_cons,List.not_mem_nil,or_false] at hp;subst hp;refine .cv (.ptr (by rw [Ja (by simp)];exact hN2.o) (by decide) rfl ?_) (by simp [AV.tree,go_sem]);simp only [List.nil_append,lAn];exact U0 (by rw [Ja (by simp)];exact hN2.s) (by rw [Ja (by simp)];exact hN2.t)
  simp only [go_sem];refine qf (k:=7) rfl rfl ⟨_,rfl⟩ (by decide) ?_;simp only [go_sem];have hc3:g3[g.length+1]?=some (.row 1 (cs2.map qD) true):=by
   rw [r1.2 _ (by rw [jO];exact qc hck),wA hcn];exact hck
  exact WX hv (U0 (js:=[]) (by rw [lAn];exact r2) r3) (Cv.row hc3 (by rw [lMp,hk]) (zU _) (by decide))
 ·rw [if_pos h0] at hv;generalize qn b l m [0,0,0,0]=r at*;obtain ⟨e,M2,cs2,l2'⟩:=r;simp only at h0 hv⊢;simp only [go_sem];refine qM ?_ ?_<;>intro hc<;>simp only [hc,go_sem]
  ·try simp only [XS,go_sem]
   refine qf (k:=7) rfl rfl ⟨_,rfl⟩ (by decide) ?_;simp only [go_sem];exact WX (k:=[]) hv U1 .nils
  ·exact absurd (by simpa using hc) h0
theorem qY2 (y:qG×List Int×Int):(wJ y).pl=true:=by simp [wJ,AV.pl,AV.pls,qG.plx,plsI]
theorem qQY {h:List qC}:∀(xs:List Int),qw [] h (xs.map qD) (xs.map qD)
 |[]=>qw.nil
 | x::xs=>by
  have y:qw [] h [qD x] [qD x]:=⟨by simp [AV.pls,AV.pl,qD],rfl,by simp only [qD,qS,lay];trivial,by simp only [qD,qS,lay];exact VR2s.cons (.tree rfl) VR2s.nil⟩;have:=y.app (qQY xs) fun j hj=>by simp at hj
  simpa using this
theorem qMC {h:List qC} {e:Int} {y:qG×List Int×Int} (he:y=(wO,[],e)):FinF (some [qQO,.nils,.int .i64 e]) h (wJ y):=by
 subst he;have n5:∀{S:List (Option Nat)} {vs ts:List AV} {w:Nat},qw S h vs ts→qw (S++[none]) h (vs++[.nils]) (ts++[.lst w [] false]):=fun {S vs ts w} x=>x.snoc (zB.nils (c:=false)) fun j _ hj=>by simp at hj
 have o:=(n5 (w:=6) (n5 (w:=8) (n5 (w:=1) (n5 (w:=4) (n5 (w:=1) ((qw.nil (h:=h).scal (a:=.int .i64 0) (fun _=>rfl) rfl rfl).scal (a:=.int .i64 0) (fun _=>rfl) rfl rfl)))))).agg;exact ((n5 (w:=1) o.one).scal (a:=.int .i64 e) (fun _=>rfl) rfl rfl).tup.fin
theorem n160 {b:qO} {m:qG} {budget:Int} (hb:b.sz≤1048576) (hz:m.sz≤1048576):Fresh Gm 160 [b.enc,m.enc,.int .i64 budget] (wJ (jY b m budget)):=by
 have hz':m.Control.sz+(m.Stack.length+qE qF.sz m.Stack)+(m.Heap.length+qE qH.sz m.Heap)≤1048576:=hz;refine Fresh.intro [] [] g160 (by kernel_rfl) rfl (by simp [AV.trees,AV.tree,go_sem]) (qY2 _) ?_;simp only [XU,qP,go_sem];refine qW rfl ?_;simp only [go_sem];refine qW rfl ?_;simp only [go_sem];refine qK (c293 hb hz) ?_;simp only [go_sem];refine qM ?_ ?_<;>intro hc<;>simp only [hc,go_sem]
 ·refine qf (k:=7) rfl rfl ⟨_,rfl⟩ (by decide) ?_;simp only [go_sem];exact qMC (by unfold jY;rw [if_pos (nt hc)])
 have hok:=nf hc;clear hc;obtain ⟨hBI,hMI,hFV⟩:=qM2 hok;refine qK c344 ?_;simp only [go_sem];refine qM ?_ ?_<;>intro hc<;>simp only [hc,go_sem]
 ·refine qf (k:=7) rfl rfl ⟨_,rfl⟩ (by decide) ?_;simp only [go_sem];exact qMC (by unfold jY;rw [if_neg (by rw [hok];decide),if_pos (nt hc)])
 have hin:=nf hc;clear hc;obtain ⟨h0,h1⟩:0≤budget∧budget≤20000:=by simpa [inI] using hin
 obtain ⟨l,rfl⟩:∃l:Nat,budget=l:=⟨budget.toNat,by omega⟩;have hv:jY b m (l:Nat)=if ¬(qn b l m [0,0,0,0]).1=0 then (wO,[],(qn b l m [0,0,0,0]).1) else ((qn b l m [0,0,0,0]).2.1,(qn b l m [0,0,0,0]).2.2.1,0):=by
  unfold jY;rw [if_neg (by rw [hok];decide),if_neg (by rw [hin];decide),Int.toNat_natCast]
 refine qe (s465 (by have:=hMI.sl;omega) (by have:=hMI.hl;omega) ?_);simp only [List.nil_append,lNi,List.cons_append,nZa];simp only [go_sem];refine Z9 (n:=4) (by decide) ?_;simp only [go_sem];refine jh rfl ?_;simp only [go_sem]
 try simp only [XV,go_sem]
 simp only [lCo,lNi,nZa,Nat.reduceAdd,List.cons_append,List.nil_append,List.replicate_succ,List.replicate_zero];have hF:IR (OI 3) (fun _=>False) 3 4 2 [.row 8 (m.Stack.map qF.enc) true,.row 6 (m.Heap.map qH.enc) true,.row 7 [.agg (Nec m 0 1)] true,.row 1 [.int .i64 0,.int .i64 0,.int .i64 0,.int .i64 0] true,.row 2 [.agg [.slice 1 3 0 4 false,.int .i64 (l:Nat)]] true] m [0,0,0,0] l:=
  ⟨⟨0,1,[],by simp,by simp,by simp,by omega,by omega,by omega,by simp,by simp,by simp,fun j hj=>by rcases hj with hj | rfl | rfl;exact hj.elim;simp;simp⟩,rfl,rfl,by omega,id,id,rfl⟩
 refine qe (qaH hBI hF hMI (by omega) (fun h' hF' _ h0=> ?_) fun h' _ h0=> ?_)
 ·obtain ⟨hMI2,hFV2,hk⟩:=Ug hBI l hMI hFV (cs:=[0,0,0,0]) rfl h0;rw [if_neg (by rw [h0];decide)] at hv;generalize qn b l m [0,0,0,0]=r at*;obtain ⟨e,M2,cs2,l2'⟩:=r;simp only at hF' hMI2 hFV2 hk hv h0⊢;simp only [go_sem]
  try simp only [XX,go_sem]
  obtain ⟨si2,hi2,js,hN2⟩:=hF'.m;have hck:=hF'.c;have ho:=hN2.o;simp only [List.nil_append,lAn] at ho;have hp0:jk none 0 0 h'[4]?=some (.slice 1 3 0 4 false):=by rw [hF'.o];rfl
  simp only [ho,hp0,go_sem]
  try rw [show Zi (Je (Nec M2 si2 hi2) 7)=some (.agg (Nec M2 si2 hi2)) from rfl]
  simp only [go_sem];rw [hp0];simp only [go_sem];have hcz:M2.Control.sz≤1048576:=by have:=hMI2.c.t.sz;have:=hMI2.c.l;unfold qI.sz;omega
  refine qLT (Cvs.cons (U0 hN2.s hN2.t) Cvs.nil) (n467 M2 hcz (fun f hf=>by have:=qPO (hFV2 f hf);omega) (fun t ht=>by have:=Zm (.inl ⟨(hMI2.h t ht).t.v,(hMI2.h t ht).l⟩);show t.Closure.sz≤_;omega) (by have:=hMI2.sl;omega) (by have:=hMI2.hl;omega)) ?_;have l3:=qc hck;have oR:=zB.new (t:=M2.enc) (pre:=h') (post:=[]) (qG.plx M2) rfl (by rw [lAn]);have oC:zB [some 3] (h'++(lay M2.enc h'.length).2) (.slice 1 3 0 (cs2.map qD).length false) (.lst 1 (cs2.map qD) false):=(qQY cs2).row (by rw [gAl l3];exact hck) (by simp);rw [lMp,hk] at oC;have oT:=((oR.one.snoc oC fun j hj hj2=>by have:=J0 hj;simp at hj2;omega).scal (a:=.int .i64 0) (fun _=>rfl) rfl rfl).tup;obtain ⟨a1,a2,a3,a4,a5,a6,a7,hcs⟩:∃a1 a2 a3 a4 a5 a6 a7,(lay M2.enc h'.length).1=.agg [a1,a2,a3,a4,a5,a6,a7]:=by rw [qG.layE];exact ⟨_,_,_,_,_,_,_,rfl⟩
  rw [hcs] at oT⊢;simp only [go_sem];refine qf (k:=7) rfl rfl ⟨_,rfl⟩ (by decide) ?_;simp only [go_sem];rw [hv];exact zB.fin (ws:=[.agg [a1,a2,a3,a4,a5,a6,a7],.slice 1 3 0 4 false,.int .i64 0]) oT
 ·rw [if_pos h0] at hv;generalize qn b l m [0,0,0,0]=r at*;obtain ⟨e,M2,cs2,l2'⟩:=r;simp only at h0 hv⊢;simp only [go_sem];refine qM ?_ ?_<;>intro hc<;>simp only [hc,go_sem]
  ·try simp only [XW,go_sem]
   refine qf (k:=7) rfl rfl ⟨_,rfl⟩ (by decide) ?_;simp only [go_sem];rw [hv];exact qMC rfl
  ·exact absurd (by simpa using hc) h0
attribute [local simp] JE
theorem qZ2 (b:qO) (M:qG) (budget:Int):(jY b M budget).1.le2∧(jY b M budget).1.sz≤100000000∧(jY b M budget).2.1.length≤5:=by
 unfold jY;split
 ·exact ⟨ZO.1,ZO.2,by simp⟩
 split
 ·exact ⟨ZO.1,ZO.2,by simp⟩
 split
 ·exact ⟨ZO.1,ZO.2,by simp⟩
 ·rename_i h1 h2 h3;obtain ⟨hB,hM,hF⟩:=qM2 (b:=b) (M:=M) (by simpa using h1);obtain ⟨q1,q2,q3⟩:=Ug hB budget.toNat hM hF (cs:=[0,0,0,0]) rfl (by simpa using h3);obtain ⟨r1,r2⟩:=qSS q1 q2;exact ⟨r1,r2,by simp only;rw [q3];decide⟩
theorem layR {c:qG} {k:List Int} {e:Int} (n:Nat):lay (wJ (c,k,e)) n=(.tup [(lay c.enc n).1,(lay (KL k) (n+c.enc.rows)).1,.int .i64 e],(lay c.enc n).2++(lay (KL k) (n+c.enc.rows)).2):=by
 simp [wJ,KL,lay,qS,qV,qW3]
theorem c19 {b:qO} {c:qG} {budget:Int} (hb:b.bd) (hx:c.bd):Pure Gm 19 [b.enc,c.enc,.int .i64 budget] (.bool true):=by
 refine Pure.intro [] [] g19 (by kernel_rfl) rfl (by simp [AV.trees,AV.tree,go_sem]) rfl ?_;simp only [F19,qP,go_sem];refine qW rfl ?_;simp only [go_sem];refine qW rfl ?_;simp only [go_sem];refine qK (c79 b hb 1048576 (by omega)) ?_;simp only [go_sem];refine qM ?_ ?_<;>intro hc<;>simp only [hc,go_sem]
 ·exact qJ rfl rfl
 have hbz:b.sz≤1048576:=by
  have:=odF hc;rw [za] at this;omega
 rw [zk hbz];refine qK (c152 c hx (1048576-b.sz) (by omega)) ?_;simp only [go_sem];refine qM ?_ ?_<;>intro hc<;>simp only [hc,go_sem]
 ·exact qJ rfl rfl
 have hcz:c.sz≤1048576-b.sz:=by
  have:=odF hc;rw [za] at this;omega
 have hAz:=qZ2 b c budget;have hcz2:=qW4 (M:=c) (by omega);have k0:=c159 (budget:=budget) hbz (m:=c) (by omega);have k1:=n160 (budget:=budget) hbz (m:=c) (by omega);generalize jY b c budget=A at hAz k0 k1;obtain ⟨G,k,e⟩:=A;simp only at hAz;obtain ⟨hG2,hGz,hAz2⟩:=hAz;have hAz:True∧k.length≤5:=⟨trivial,hAz2⟩;refine qK (c82 b hbz) ?_;simp only [go_sem];refine qK (c154 c (by omega)) ?_;simp only [go_sem];refine qK k0 ?_;simp only [wJ,go_sem];refine qf (k:=7) rfl rfl ⟨_,rfl⟩ (by decide) ?_;simp only [go_sem];refine zp (n82 b hbz) ?_;simp only [go_sem];refine qf (k:=1) rfl (qWX b 0) (qWW b 0) (by decide) ?_;simp only [zY,go_sem];refine zp (n154 c (by omega)) ?_;simp only [go_sem];refine qMV rfl ?_;obtain ⟨B,hB⟩:∃B,B=b.enc.rows:=⟨_,rfl⟩;obtain ⟨C,hC⟩:∃C,C=c.enc.rows:=⟨_,rfl⟩;obtain ⟨D,hD⟩:∃D,D=G.enc.rows:=⟨_,rfl⟩;simp only [zZ,zY,go_sem,List.nil_append,qV,←hB];have atB:∀{h post:List qC},h=(lay b.enc 0).2++post→Cv h (lay b.enc 0).1 b.enc:=fun {h post} hh=>qMO (pre:=[]) (qO.plx b) (qO.cnx b) hh;have atC:∀{b':qO} {h post:List qC},b'.enc.rows=B→h=(lay b'.enc 0).2++((lay c.enc B).2++post)→Cv h (lay c.enc B).1 c.enc:=fun {b' h post} hr hh=>V4 (qG.plx c) (qG.cnx c) ((qV _ _).trans hr) hh;have atG:∀{b':qO} {c' G':qG} {h post:List qC},b'.enc.rows=B→c'.enc.rows=C→h=(lay b'.enc 0).2++((lay c'.enc B).2++((lay G'.enc (B+C)).2++post))→Cv h (lay G'.enc (B+C)).1 G'.enc:=fun {b' c' G' h post} hr hr2 hh=>
  V4 (pre:=(lay b'.enc 0).2++(lay c'.enc B).2) (post:=post) (qG.plx G') (qG.cnx G') (by rw [lAp,qV,qV,hr,hr2]) (by rw [lAa];exact hh)
 have atK:∀{b':qO} {c' G':qG} {k':List Int} {h post:List qC},b'.enc.rows=B→c'.enc.rows=C→G'.enc.rows=D→h=(lay b'.enc 0).2++((lay c'.enc B).2++((lay G'.enc (B+C)).2++((lay (KL k') (B+C+D)).2++post)))→Cv h (lay (KL k') (B+C+D)).1 (KL k'):=fun {b' c' G' k' h post} hr hr2 hr3 hh=>
  V4 (pre:=(lay b'.enc 0).2++((lay c'.enc B).2++(lay G'.enc (B+C)).2)) (post:=post) qN6 qN5 (by simp only [lAp,qV,hr,hr2,hr3];omega) (by simp only [lAa];exact hh)
 refine qLT (Cvs.cons (atB (post:=(lay c.enc B).2) rfl) (Cvs.cons (atC (b':=b) (post:=[]) hB.symm (by simp)) (Cvs.cons (.refl rfl) Cvs.nil))) k1 ?_;have hlBC:((lay b.enc 0).2++(lay c.enc B).2).length=B+C:=by rw [lAp,qV,qV,hB,hC]
 simp only [hlBC,layR,←hD,zZ,zY,go_sem,lAa];refine qMV rfl ?_;simp only [zZ,zY,go_sem];refine jn (Cvs.cons (atG (b':=b) (c':=c) (post:=(lay (KL k) (B+C+D)).2) hB.symm hC.symm rfl) (Cvs.cons (.refl (by simp [go_sem])) Cvs.nil)) (Vb hG2) rfl ?_;simp only [zZ,zY,go_sem];refine jn (Cvs.cons (atK (b':=b) (c':=c) (G':=G) (post:=[]) hB.symm hC.symm hD.symm (by simp)) (Cvs.cons (.refl (by simp [AV.tree])) Cvs.nil)) (c86K hAz.2) rfl ?_;simp only [zZ,zY,go_sem];refine qK (c82 b hbz) ?_;simp only [zZ,zY,go_sem];refine jn (Cvs.cons (atB rfl) (Cvs.cons (.refl (by simp [go_sem])) Cvs.nil)) (c87 b (by omega)) rfl ?_;simp only [zZ,zY,go_sem];refine qK (c154 c (by omega)) ?_;simp only [zZ,zY,go_sem];refine jn (Cvs.cons (atC (b':=b) hB.symm rfl) (Cvs.cons (.refl (by simp [go_sem])) Cvs.nil)) (Vb hcz2) rfl ?_;simp only [zZ,zY,go_sem];have ctB:=b.ctVle;have ctC:=c.ctVle;have ctG:=G.ctVle;refine zu (k88 b 1 (by omega) (by omega) (by omega)) (pre:=[]) rfl rfl rfl ?_;simp only [zZ,zY,go_sem,List.nil_append];have hlB:(lay (b.mkV 1).enc 0).2.length=B:=by rw [qV,qO.rowsV,hB]
 refine zu (k157 c (1+((b.ctV:Nat):Int)) (by omega) (by omega) hcz2.le) hlB rfl rfl ?_;simp only [zZ,zY,go_sem];have hneg:decide ((1:Int)+((b.ctV:Nat):Int)+((c.ctV:Nat):Int)<0)=false:=decide_eq_false (by omega);simp only [hneg,zZ,zY,go_sem];have hrB:(b.mkV 1).enc.rows=B:=by rw [qO.rowsV,hB]
 have hrC:(c.mkV (1+((b.ctV:Nat):Int))).enc.rows=C:=by rw [qG.rowsV,hC]
 have hrG:(G.mkV 1).enc.rows=D:=by rw [qG.rowsV,hD]
 refine jn (Cvs.cons (atG (b':=b.mkV 1) (c':=c.mkV (1+((b.ctV:Nat):Int))) hrB hrC rfl) (Cvs.cons (.refl (by simp [go_sem])) Cvs.nil)) (Vb hG2) rfl ?_;simp only [zZ,zY,go_sem];refine jn (Cvs.cons (atK (b':=b.mkV 1) (c':=c.mkV (1+((b.ctV:Nat):Int))) (G':=G) (post:=[]) hrB hrC hD.symm (by simp)) (Cvs.cons (.refl (by simp [AV.tree])) Cvs.nil)) (c86K hAz.2) rfl ?_;simp only [zZ,zY,go_sem];have hlG:((lay (b.mkV 1).enc 0).2++(lay (c.mkV (1+((b.ctV:Nat):Int))).enc B).2).length=B+C:=by rw [lAp,qV,qV,hrB,hrC]
 refine zu (k157 G 1 (by omega) (by omega) hG2.le) (post:=(lay (KL k) (B+C+D)).2) hlG (by simp only [lAa]) rfl ?_;simp only [zZ,zY,go_sem,lAa];have hlK:((lay (b.mkV 1).enc 0).2++((lay (c.mkV (1+((b.ctV:Nat):Int))).enc B).2++(lay (G.mkV 1).enc (B+C)).2)).length=B+C+D:=by simp only [lAp,qV,hrB,hrC,hrG];omega
 refine zu (k90K (k:=k) (m:=1+((G.ctV:Nat):Int)) (by omega) (by omega) hAz.2) (post:=[]) hlK (by simp only [lAa,lAn]) rfl ?_;simp only [zZ,zY,go_sem,lAa,lAn];obtain ⟨M,hM⟩:∃M,M=mkL mkI ctI k (1+((G.ctV:Nat):Int)):=⟨_,rfl⟩;have hMK:∀n,(lay (KL k) n).1=(lay (KL M) n).1:=fun n=>by rw [hM,qW0]
 rw [←hM];refine jn (Cvs.cons (by rw [←qP4 G 1];exact atG (post:=(lay (KL M) (B+C+D)).2) hrB hrC rfl) (Cvs.cons (.refl rfl) Cvs.nil)) (q158 G 1 (by omega) (by omega) hG2.le) rfl ?_;have hneg2:decide ((1:Int)+((G.ctV:Nat):Int)<0)=false:=decide_eq_false (by omega);have hneg3:decide ((1:Int)+((G.ctV:Nat):Int)+((qE ctI k:Nat):Int)<0)=false:=decide_eq_false (by omega);simp only [hneg2,zZ,zY,go_sem];have q92M:=q92K (k:=k) (m:=1+((G.ctV:Nat):Int)) (by omega) (by omega) hAz.2;rw [←hM] at q92M;refine jn (Cvs.cons (by rw [hMK];exact atK (post:=[]) hrB hrC hrG (by simp)) (Cvs.cons (.refl rfl) Cvs.nil)) q92M rfl ?_;simp only [hneg3,zZ,zY,go_sem];refine qK (c82 b hbz) ?_;simp only [zZ,zY,go_sem];refine qK (c154 c (by omega)) ?_;simp only [zZ,zY,go_sem];obtain ⟨P,hP⟩:∃P,P=(lay (b.mkV 1).enc 0).2++((lay (c.mkV (1+((b.ctV:Nat):Int))).enc B).2++((lay (G.mkV 1).enc (B+C)).2++(lay (KL M) (B+C+D)).2)):=⟨_,rfl⟩;rw [←hP];refine zp k1 ?_;simp only [layR,zZ,zY,go_sem];refine qMV rfl ?_;simp only [zZ,zY,go_sem];refine jn (Cvs.cons (qMO (pre:=P) (post:=(lay (KL k) (P.length+G.enc.rows)).2) (qG.plx G) (qG.cnx G) rfl) (Cvs.cons (.refl (by simp [go_sem])) Cvs.nil)) (Vb hG2) rfl ?_;simp only [zZ,zY,go_sem];refine jn (Cvs.cons (V4 (pre:=P++(lay G.enc P.length).2) (post:=[]) qN6 qN5 (by rw [lAp,qV]) (by simp)) (Cvs.cons (.refl (by simp [AV.tree])) Cvs.nil)) (c86K hAz.2) rfl ?_;simp only [zZ,zY,go_sem];refine jn (Cvs.cons (by rw [←qP4 G 1];exact atG (post:=(lay (KL M) (B+C+D)).2++((lay G.enc P.length).2++(lay (KL k) (P.length+G.enc.rows)).2)) hrB hrC (by have e:=congrArg (· ++((lay G.enc P.length).2++(lay (KL k) (P.length+G.enc.rows)).2)) hP;simpa only [lAa] using e)) (Cvs.cons (.refl rfl) Cvs.nil)) (q158 G 1 (by omega) (by omega) hG2.le) rfl ?_;simp only [hneg2,zZ,zY,go_sem];refine jn (Cvs.cons (by rw [hMK];exact atK (post:=(lay G.enc P.length).2++(lay (KL k) (P.length+G.enc.rows)).2) hrB hrC hrG (by have e:=congrArg (· ++((lay G.enc P.length).2++(lay (KL k) (P.length+G.enc.rows)).2)) hP;simpa only [lAa] using e)) (Cvs.cons (.refl rfl) Cvs.nil)) q92M rfl ?_;simp only [hneg3,zZ,zY,go_sem];exact qJ rfl rfl
end Go.Ab
