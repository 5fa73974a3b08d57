/- Texts Nee24 .. Nee34: the abstract machine, its laws and contracts of functions: lemmas for the statement. No condition. -/
import Derived.Test.YtoajhcbnlebbeaaGreatP8
set_option linter.unusedSimpArgs false
set_option linter.unusedVariables false
namespace Go.Ab
open Go
set_option maxRecDepth 10000
set_option maxHeartbeats 2000000
theorem qI.part0 {c:qI}:c.enc.part 0 (some 4)=some c.Term.enc:=by rw [qA.enc_eq];rfl
theorem qF.part3 {f:qF}:f.enc.part 3 (some 5)=some f.Closure.enc:=rfl
theorem qH.part1 {t:qH}:t.enc.part 1 (some 5)=some t.Closure.enc:=rfl
theorem qG.part0 {m:qG}:m.enc.part 0 (some 5)=some m.Control.enc:=rfl
theorem lkT {g:Nat} {bs:List AV} {c:qI} {v:AV} (h:Pure Gm g (.ept c.Term.enc 0::bs) v):Pure Gm g (.ept c.enc 0::bs) v:=
  Pure.lk0 qI.tr qI.part0 (by rw [qA.ln];decide) h
def zg (b:qO) (hl:Int) (c:qI):Bool:=c.Term.valid&&c.Term.er&&c.Term.refs b.Defs.length&& !c.Term.above c.Env.length&&decide (c.Env.length≤256)&&c.Env.all fun a=>inI a 0 (hl-1)
def JH (b:qO):Bool:=b.ok&&b.Defs.all qA.er
def JV (c:qI):Bool:=decide (c.Term.Kind=0)&&decide (c.Term.Value=0)&&decide (c.Term.Data.length=0)&&decide (c.Term.Kids.length=0)&&decide (c.Env.length=0)
def jh (b:qO) (ds:List Int):Bool:=ds.all fun d=>inI d 0 (b.Defs.length-1)
def z5 (b:qO) (hl:Int) (f:qF):Bool:=
  if f.Kind=3 then inI f.Value 1 6&&decide (f.Data.length=0)&&zg b hl f.Closure
  else JV f.Closure&&(
    if f.Kind=1∨f.Kind=2 then inI f.Value 0 (hl-1)&&decide (f.Data.length=0)
    else if f.Kind=4 then inI f.Value 1 6&&decide (f.Data.length=1)&&inI (f.Data.getD 0 0) (-2147483648) 2147483647
    else if f.Kind=5 then decide (f.Value=0)&&inI f.Data.length 1 4&&jh b f.Data
    else if f.Kind=6 then decide (f.Value=0)&&decide (f.Data.length=2)&&jh b f.Data
    else false)
def jo (b:qO) (hl:Int) (t:qH):Bool:=zg b hl t.Closure&&(!t.Done || t.Closure.val)
def qG.ok (b:qO) (m:qG):Bool:=
  JH b&&decide (m.Heap.length≤2000)&&decide (m.Stack.length≤400)&&zg b m.Heap.length m.Control&&m.Stack.all (z5 b m.Heap.length)&&m.Heap.all (jo b m.Heap.length)
theorem c819 {b:qO} (hb:b.sz≤1048576):Pure Gm 819 [.ept b.enc 0] (.bool (JH b)):=by
  refine Pure.intro [] [] g819 (by kernel_rfl) rfl (by simp [AV.trees,AV.tree,go_sem]) rfl ?_;simp only [YY,qP,go_sem];have hb':b.Defs.length+qE qA.sz b.Defs≤1048576:=hb;refine qK (c579 hb) ?_;simp only [go_sem];refine qN ?_ ?_<;>intro hc<;>simp only [hc,go_sem]
  · exact qJ rfl (by unfold JH;rw [nt hc];rfl)
  have g1:=nf hc;refine Sem.loop (fun i:Nat=>i≤b.Defs.length∧JH b=(b.Defs.drop i).all qA.er) (fun i=>(⟨[(0,.ept b.enc 0),(3,.int .i64 (i:Nat))],[],[]⟩:VSt)) (fun i=>b.Defs.length-i) 0 (by kernel_rfl) ⟨Nat.zero_le _,by simp [JH,g1]⟩ (Can.sub (by simp [go_sem]) (by simp [go_sem])) ?_;rintro i ⟨hi,hI⟩;simp only [go_sem];refine qN ?_ ?_<;>intro hc<;>simp only [hc,go_sem]
  · have hlt:i<b.Defs.length:=by have:=odT hc;omega
    simp only [gMp,gEg hlt,oMs,go_sem];have hm:=gMm hlt;have hk:=zQ (f:=qA.sz) hm;refine qK (c724 _ (by omega)) ?_;simp only [go_sem];rw [jI hlt,List.all_cons] at hI;refine qN ?_ ?_<;>intro hc<;>simp only [hc,go_sem]
    · exact qJ rfl (by rw [hI,nt hc];rfl)
    · simp only [qp (show i<4611686018427387904 by omega)];refine qt (i+1) ⟨by omega, ?_⟩ (by omega) (Can.sub (by simp [go_sem]) (by simp [go_sem]));rw [hI,nf hc];rfl
  · obtain rfl:i=b.Defs.length:=by have:=odF hc;omega
    exact qJ rfl (by rw [hI];simp)
theorem c820 {b:qO} {c:qI} {hl:Int} (hz:c.sz≤1048576) (h0:0≤hl∧hl≤1048576):Pure Gm 820 [.ept b.enc 0,.ept c.enc 0,.int .i64 hl] (.bool (zg b hl c)):=by
  refine Pure.intro [] [] g820 (by kernel_rfl) rfl (by simp [AV.trees,AV.tree,go_sem]) rfl ?_;simp only [YZ,qP,go_sem];have hz':c.Term.sz+c.Env.length≤1048576:=hz;have bad:∀{h:List qC},zg b hl c=false→Fin (some [.bool false]) h (.bool (zg b hl c)):=fun h=>qJ rfl (by rw [h]);refine qK (lkT (c642 (x:=c.Term) (by omega))) ?_;simp only [go_sem];rw [qPP];refine qY ?_ ?_<;>intro hc<;>simp only [hc,go_sem]
  · have g1:=nf hc;have hd:c.Term.dep≤80:=by have:=g1;unfold qA.valid at this;simp only [bAt,decide_eq_true_eq] at this;omega
    refine qK (lkT (c724 c.Term (by omega))) ?_;simp only [go_sem];refine qY ?_ ?_<;>intro hc<;>simp only [hc,go_sem]
    · have g2:=nf hc;refine qK (lkT (c725 c.Term _ (by omega))) ?_;simp only [go_sem];refine qY ?_ ?_<;>intro hc<;>simp only [hc,go_sem]
      · have g3:=nf hc;refine qK (lkT (c878 c.Term _ (by omega) (by omega))) ?_;simp only [go_sem];refine qY ?_ ?_<;>intro hc<;>simp only [hc,go_sem]
        · have g4:=hc;refine qN ?_ ?_<;>intro hc<;>simp only [hc,go_sem]
          · exact bad (by unfold zg;rw [show decide (c.Env.length≤256)=false from decide_eq_false (by have:=odT hc;omega)];simp)
          have g5:decide (c.Env.length≤256)=true:=decide_eq_true (by have:=odF hc;omega);refine Sem.loop (fun i:Nat=>i≤c.Env.length∧zg b hl c=(c.Env.drop i).all (fun a=>inI a 0 (hl-1))) (fun i=>(⟨[(0,.ept b.enc 0),(1,.ept c.enc 0),(2,.int .i64 hl),(7,.int .i64 (i:Nat))],[],[]⟩:VSt)) (fun i=>c.Env.length-i) 0 (by kernel_rfl) ⟨Nat.zero_le _,by simp [zg,g1,g2,g3,g4,g5]⟩ (Can.sub (by simp [go_sem]) (by simp [go_sem])) ?_;rintro i ⟨hi,hI⟩;simp only [go_sem];refine qN ?_ ?_<;>intro hc<;>simp only [hc,go_sem]
          · have hlt:i<c.Env.length:=by have:=odT hc;omega
            simp only [gMp,gEg hlt,oMs,go_sem];simp only [qD,go_sem];rw [qv (by omega) (by omega)];refine qK jv ?_;simp only [go_sem];rw [jI hlt,List.all_cons] at hI;refine qN ?_ ?_<;>intro hc<;>simp only [hc,go_sem]
            · exact bad (by rw [hI,nt hc];rfl)
            · simp only [qp (show i<4611686018427387904 by omega)];refine qt (i+1) ⟨by omega, ?_⟩ (by omega) (Can.sub (by simp [go_sem]) (by simp [go_sem]));rw [hI,nf hc];rfl
          · obtain rfl:i=c.Env.length:=by have:=odF hc;omega
            exact qJ rfl (by rw [hI];simp)
        · exact bad (by unfold zg;simp [hc])
      · exact bad (by unfold zg;rw [nt hc];simp)
    · exact bad (by unfold zg;rw [nt hc];simp)
  · exact bad (by unfold zg;rw [nt hc];simp)
theorem qSL {c:qI} (hz:c.sz≤1048576):Pure Gm 1147 [.ept c.enc 0] (.bool (JV c)):=by
  refine Pure.intro [] [] qUP (by kernel_rfl) rfl (by simp [AV.trees,AV.tree,go_sem]) rfl ?_;simp only [Wo,qP,go_sem];have hz':c.Term.sz+c.Env.length≤1048576:=hz
  repeat' (first | (first | (refine qY ?_ ?_<;>intro hc<;>simp only [hc,go_sem]) | (refine qN ?_ ?_<;>intro hc<;>simp only [hc,go_sem])) | refine qJ rfl ?_)
  all_goals (simp_all [JV])
theorem qNY {b:qO} {ds:List Int} (hb:b.sz≤1048576) (hl:ds.length≤1048576):Pure Gm 1148 [.ept b.enc 0,.lst 1 (ds.map qD) false] (.bool (jh b ds)):=by
  refine Pure.intro [] [] qUQ (by kernel_rfl) rfl (by simp [AV.trees,AV.tree,go_sem,qd]) rfl ?_;simp only [Wp,qP,go_sem];have hb':b.Defs.length+qE qA.sz b.Defs≤1048576:=hb;refine Sem.loop (fun i:Nat=>i≤ds.length∧jh b ds=(ds.drop i).all (fun d=>inI d 0 (b.Defs.length-1))) (fun i=>(⟨[(0,.ept b.enc 0),(1,.lst 1 (ds.map qD) false),(5,.int .i64 (i:Nat))],[],[]⟩:VSt)) (fun i=>ds.length-i) 0 (by kernel_rfl) ⟨Nat.zero_le _,by simp [jh]⟩ (Can.sub (by simp [go_sem]) (by simp [go_sem])) ?_;rintro i ⟨hi,hI⟩;simp only [go_sem];refine qN ?_ ?_<;>intro hc<;>simp only [hc,go_sem]
  · have hlt:i<ds.length:=by have:=odT hc;omega
    simp only [gMp,gEg hlt,oMs,go_sem];simp only [qD,go_sem];rw [qv (by omega) (by omega)];refine qK jv ?_;simp only [go_sem];rw [jI hlt,List.all_cons] at hI;refine qN ?_ ?_<;>intro hc<;>simp only [hc,go_sem]
    · exact qJ rfl (by rw [hI,nt hc];rfl)
    · simp only [qp (show i<4611686018427387904 by omega)];refine qt (i+1) ⟨by omega, ?_⟩ (by omega) (Can.sub (by simp [go_sem]) (by simp [go_sem]));rw [hI,nf hc];rfl
  · obtain rfl:i=ds.length:=by have:=odF hc;omega
    exact qJ rfl (by rw [hI];simp)
theorem qSM {x:qI} (hz:x.sz≤1048576):Pure Gm 1149 [.ept x.enc 0] (.bool x.fields):=by
  refine Pure.intro [] [] qOS (by kernel_rfl) rfl (by simp [AV.trees,AV.tree,go_sem]) rfl ?_;simp only [ZO,qP,go_sem];have hz':=hz;unfold qI.sz at hz';have hk:=x.Term.sz_eq;refine qN ?_ ?_<;>intro hc<;>simp only [hc,go_sem]
  · exact qJ rfl (by unfold qI.fields;rw [show decide (x.Term.Kids.length=x.Env.length)=false from decide_eq_false (by have:=odF (nt hc);omega)];rfl)
  have hv:x.fields=jM x.Term.Kids 0:=by unfold qI.fields;rw [decide_eq_true (by have:=odT (nf hc);omega)];rfl
  rw [hv];refine Sem.loop (fun i:Nat=>i≤x.Term.Kids.length∧jM x.Term.Kids 0=jM (x.Term.Kids.drop i) i) (fun i=>(⟨[(0,.ept x.enc 0),(3,.int .i64 (i:Nat))],[],[]⟩:VSt)) (fun i=>x.Term.Kids.length-i) 0 (by kernel_rfl) ⟨Nat.zero_le _,by simp⟩ (Can.sub (by simp [go_sem]) (by simp [go_sem])) ?_;rintro i ⟨hi,hI⟩;simp only [go_sem];refine qN ?_ ?_<;>intro hc<;>simp only [hc,go_sem]
  · have hlt:i<x.Term.Kids.length:=by have:=odT hc;omega
    rw [qM3 hlt] at hI;clear hc;simp only [gMp,gEg hlt,oMs,go_sem];refine qY ?_ ?_<;>intro hc<;>simp only [hc,go_sem]
    · have hc1:=hc;simp only [gMp,gEg hlt,oMs,go_sem];refine qN ?_ ?_<;>intro hc<;>simp only [hc,go_sem]
      · exact qJ rfl (by simp at hc hc1;simp [hI,hc,hc1])
      · simp only [qp (show i<4611686018427387904 by omega)];refine qt (i+1) ⟨by omega, ?_⟩ (by omega) (Can.sub (by simp [go_sem]) (by simp [go_sem]));simp at hc hc1;rw [hI];simp [hc,hc1]
    · exact qJ rfl (by simp at hc;simp [hI,hc])
  · obtain rfl:i=x.Term.Kids.length:=by have:=odF hc;omega
    exact qJ rfl (by rw [hI,List.drop_length];rfl)
theorem c822 {x:qI} (hz:x.sz≤1048576):Pure Gm 822 [.ept x.enc 0] (.bool x.val):=by
  refine Pure.intro [] [] g822 (by kernel_rfl) rfl (by simp [AV.trees,AV.tree,go_sem]) rfl ?_;simp only [Yb,qP,go_sem];refine qN ?_ ?_<;>intro hc<;>simp only [hc,go_sem]
  · exact qJ rfl (by unfold qI.val;simp at hc;simp [hc])
  have h4:=hc;refine qN ?_ ?_<;>intro hc<;>simp only [hc,go_sem]
  · exact qJ rfl (by unfold qI.val;simp at hc;simp [hc])
  have h2:=hc;clear hc;refine qN ?_ ?_<;>intro hc<;>simp only [hc,go_sem];rotate_left
  · exact qJ rfl (by unfold qI.val;simp at hc h4 h2;simp [hc,h4,h2])
  refine qK (qSM hz) ?_;simp only [go_sem];exact qJ rfl (by unfold qI.val;simp at hc h4 h2;simp [hc])
theorem c821 {b:qO} {f:qF} {hl:Int} (hb:b.sz≤1048576) (hz:f.sz≤1048576) (h0:0≤hl∧hl≤1048576):Pure Gm 821 [.ept b.enc 0,.ept f.enc 0,.int .i64 hl] (.bool (z5 b hl f)):=by
  refine Pure.intro [] [] g821 (by kernel_rfl) rfl (by simp [AV.trees,AV.tree,go_sem]) rfl ?_;simp only [Ya,qP,go_sem];have hz':f.Data.length+f.Closure.sz≤1048576:=hz;have lk:∀{g:Nat} {a v:AV} {bs:List AV},Pure Gm g (a::.ept f.Closure.enc 0::bs) v→Pure Gm g (a::.ept f.enc 3::bs) v:=fun h=>Pure.lk1 qF.tr qF.part3 (by rw [qI.ln];decide) h;have lk0:∀{g:Nat} {v:AV} {bs:List AV},Pure Gm g (.ept f.Closure.enc 0::bs) v→Pure Gm g (.ept f.enc 3::bs) v:=fun h=>Pure.lk0 qF.tr qF.part3 (by rw [qI.ln];decide) h;refine qN ?_ ?_<;>intro hc<;>simp only [hc,go_sem]
  · have hk:=odT hc;clear hc;refine qK jv ?_;simp only [go_sem];refine qY ?_ ?_<;>intro hc<;>simp only [hc,go_sem]
    · have g1:=hc;refine qY ?_ ?_<;>intro hc<;>simp only [hc,go_sem]
      · have g2:=hc;refine qK (lk (c820 (by omega) h0)) ?_;simp only [go_sem];exact qJ rfl (by unfold z5;rw [if_pos hk,g1];simp at g2;simp [g2])
      · exact qJ rfl (by unfold z5;rw [if_pos hk,g1];simp at hc;simp [hc])
    · exact qJ rfl (by unfold z5;rw [if_pos hk,hc];simp)
  have hk:=odF hc;clear hc;refine qK (lk0 (qSL (by omega))) ?_;simp only [go_sem];refine qN ?_ ?_<;>intro hc<;>simp only [hc,go_sem]
  · exact qJ rfl (by unfold z5;rw [if_neg hk,nt hc];simp)
  have g0:=nf hc;clear hc;have eF:z5 b hl f=(if f.Kind=1∨f.Kind=2 then inI f.Value 0 (hl-1)&&decide (f.Data.length=0)
    else if f.Kind=4 then inI f.Value 1 6&&decide (f.Data.length=1)&&inI (f.Data.getD 0 0) (-2147483648) 2147483647
    else if f.Kind=5 then decide (f.Value=0)&&inI f.Data.length 1 4&&jh b f.Data
    else if f.Kind=6 then decide (f.Value=0)&&decide (f.Data.length=2)&&jh b f.Data
    else false):=by unfold z5;rw [if_neg hk,g0,Bool.true_and]
  rw [eF];clear eF;refine qN ?_ ?_<;>intro hc<;>simp only [hc,go_sem]
  · have h12:f.Kind=1∨f.Kind=2:=by have:=odT hc;omega
    rw [if_pos h12];clear hc;rw [qv (by omega) (by omega)];refine qK jv ?_;simp only [go_sem];refine qY ?_ ?_<;>intro hc<;>simp only [hc,go_sem]
    · exact qJ rfl (by first | (simp;done) | (simp_all;done) | (simp_all;omega))
    · exact qJ rfl (by first | (simp;done) | (simp_all;done) | (simp_all;omega))
  have k1:=odF hc;clear hc;refine qN ?_ ?_<;>intro hc<;>simp only [hc,go_sem]
  · have h12:f.Kind=1∨f.Kind=2:=by have:=odT hc;omega
    rw [if_pos h12];clear hc;rw [qv (by omega) (by omega)];refine qK jv ?_;simp only [go_sem];refine qY ?_ ?_<;>intro hc<;>simp only [hc,go_sem]
    · exact qJ rfl (by first | (simp;done) | (simp_all;done) | (simp_all;omega))
    · exact qJ rfl (by first | (simp;done) | (simp_all;done) | (simp_all;omega))
  have k2:=odF hc;clear hc;rw [if_neg (by omega)];refine qN ?_ ?_<;>intro hc<;>simp only [hc,go_sem]
  · rw [if_pos (odT hc)];clear hc;refine qK jv ?_;simp only [go_sem];refine qY ?_ ?_<;>intro hc<;>simp only [hc,go_sem]
    · have g1:=hc;refine qY ?_ ?_<;>intro hc<;>simp only [hc,go_sem]
      · have hd:f.Data.length=1:=by have:=odT hc;omega
        obtain ⟨d,hd'⟩:=List.length_eq_one_iff.1 hd;simp only [hd',List.map_cons,List.map_nil,qD,List.getElem?_cons_zero,oMs,go_sem];refine qK jv ?_;simp only [go_sem];exact qJ rfl (by first | (simp;done) | (simp_all;done) | (simp_all;omega))
      · exact qJ rfl (by first | (simp;done) | (simp_all;done) | (simp_all;omega))
    · exact qJ rfl (by first | (simp;done) | (simp_all;done) | (simp_all;omega))
  have k4:=odF hc;clear hc;rw [if_neg k4];refine qN ?_ ?_<;>intro hc<;>simp only [hc,go_sem]
  · rw [if_pos (odT hc)];clear hc;refine qY ?_ ?_<;>intro hc<;>simp only [hc,go_sem]
    · have g1:=hc;refine qK jv ?_;simp only [go_sem];refine qY ?_ ?_<;>intro hc<;>simp only [hc,go_sem]
      · have g2:=hc;refine qK (qNY hb (by omega)) ?_;simp only [go_sem];exact qJ rfl (by first | (simp;done) | (simp_all;done) | (simp_all;omega))
      · exact qJ rfl (by first | (simp;done) | (simp_all;done) | (simp_all;omega))
    · exact qJ rfl (by first | (simp;done) | (simp_all;done) | (simp_all;omega))
  have k5:=odF hc;clear hc;rw [if_neg k5];refine qN ?_ ?_<;>intro hc<;>simp only [hc,go_sem]
  · rw [if_pos (odT hc)];clear hc;refine qY ?_ ?_<;>intro hc<;>simp only [hc,go_sem]
    · have g1:=hc;refine qY ?_ ?_<;>intro hc<;>simp only [hc,go_sem]
      · have g2:=hc;refine qK (qNY hb (by omega)) ?_;simp only [go_sem];exact qJ rfl (by simp at g1;have h2:f.Data.length=2:=(by have:=odT g2;omega);simp [g1,h2])
      · exact qJ rfl (by have h2:¬f.Data.length=2:=(by have:=odF hc;omega);simp [h2])
    · exact qJ rfl (by first | (simp;done) | (simp_all;done) | (simp_all;omega))
  · rw [if_neg (odF hc)];exact qJ rfl rfl
theorem c458 {b:qO} {m:qG} (hb:b.sz≤1048576) (hz:m.sz≤1048576):Pure Gm 458 [.ept b.enc 0,.ept m.enc 0] (.bool (m.ok b)):=by
  refine Pure.intro [] [] g458 (by kernel_rfl) rfl (by simp [AV.trees,AV.tree,go_sem]) rfl ?_;simp only [Xk,qP,go_sem];have hz':m.Control.sz+(m.Stack.length+qE qF.sz m.Stack)+(m.Heap.length+qE qH.sz m.Heap)≤1048576:=hz;have bad:∀{h:List qC},m.ok b=false→Fin (some [.bool false]) h (.bool (m.ok b)):=fun h=>qJ rfl (by rw [h]);refine qK (c819 hb) ?_;simp only [go_sem];refine qY ?_ ?_<;>intro hc<;>simp only [hc,go_sem]
  · have g1:=nf hc;refine qY ?_ ?_<;>intro hc<;>simp only [hc,go_sem]
    · have g2:decide (m.Heap.length≤2000)=true:=decide_eq_true (by have:=odF hc;omega);have q2:=odT g2;refine qY ?_ ?_<;>intro hc<;>simp only [hc,go_sem]
      · have g3:decide (m.Stack.length≤400)=true:=decide_eq_true (by have:=odF hc;omega);have q3:=odT g3;refine qK (Pure.lk1 qG.tr qG.part0 (by rw [qI.ln];decide) (c820 (c:=m.Control) (by omega) (by omega))) ?_;simp only [go_sem];refine qN ?_ ?_<;>intro hc<;>simp only [hc,go_sem]
        · exact bad (by unfold qG.ok;rw [nt hc];simp)
        have g4:=nf hc;clear hc;refine Sem.loop (fun i:Nat=>i≤m.Stack.length∧m.ok b=((m.Stack.drop i).all (z5 b m.Heap.length)&&m.Heap.all (jo b m.Heap.length))) (fun i=>(⟨[(0,.ept b.enc 0),(1,.ept m.enc 0),(5,.int .i64 (m.Heap.length:Nat)),(6,.int .i64 (i:Nat))],[],[]⟩:VSt)) (fun i=>m.Stack.length-i) 0 (by kernel_rfl) ⟨Nat.zero_le _,by simp [qG.ok,g1,g2,g3,g4]⟩ (Can.sub (by simp [go_sem]) (by simp [go_sem])) ?_;rintro i ⟨hi,hI⟩;simp only [go_sem];refine qN ?_ ?_<;>intro hc<;>simp only [hc,go_sem]
        · have hlt:i<m.Stack.length:=by have:=odT hc;omega
          simp only [gMp,gEg hlt,oMs,go_sem];have hm:=zQ (f:=qF.sz) (gMm hlt);refine qK (c821 hb (by omega) (by omega)) ?_;simp only [go_sem];rw [jI hlt,List.all_cons] at hI;refine qN ?_ ?_<;>intro hc<;>simp only [hc,go_sem]
          · exact bad (by rw [hI,nt hc];rfl)
          · simp only [qp (show i<4611686018427387904 by omega)];refine qt (i+1) ⟨by omega, ?_⟩ (by omega) (Can.sub (by simp [go_sem]) (by simp [go_sem]));rw [hI,nf hc];rfl
        · obtain rfl:i=m.Stack.length:=by have:=odF hc;omega
          rw [List.drop_length,List.all_nil,Bool.true_and] at hI;have hJ:=hI;clear hc hI;refine Sem.loop (fun i:Nat=>i≤m.Heap.length∧m.ok b=(m.Heap.drop i).all (jo b m.Heap.length)) (fun i=>(⟨[(0,.ept b.enc 0),(1,.ept m.enc 0),(5,.int .i64 (m.Heap.length:Nat)),(7,.int .i64 (i:Nat))],[],[]⟩:VSt)) (fun i=>m.Heap.length-i) 0 (by kernel_rfl) ⟨Nat.zero_le _,by simp [hJ]⟩ (Can.sub (by simp [go_sem]) (by simp [go_sem])) ?_;rintro i ⟨hi,hI⟩;simp only [go_sem];refine qN ?_ ?_<;>intro hc<;>simp only [hc,go_sem]
          · have hlt:i<m.Heap.length:=by have:=odT hc;omega
            simp only [gMp,gEg hlt,oMs,go_sem];have hm:=zQ (f:=qH.sz) (gMm hlt);rw [jI hlt,List.all_cons] at hI;generalize ht:m.Heap[i]=t at hm hI;have hm':t.Closure.sz≤1048576:=by have:t.sz=t.Closure.sz:=rfl;omega
            refine qK (Pure.lk1 qH.tr qH.part1 (by rw [qI.ln];decide) (c820 (c:=t.Closure) hm' (by omega))) ?_;simp only [go_sem];refine qY ?_ ?_<;>intro hc<;>simp only [hc,go_sem]
            · have c1:=nf hc;refine qY ?_ ?_<;>intro hc<;>simp only [hc,go_sem]
              · have c2:=hc;refine qK (Pure.lk0 qH.tr qH.part1 (by rw [qI.ln];decide) (c822 (x:=t.Closure) hm')) ?_;simp only [go_sem];refine qN ?_ ?_<;>intro hc<;>simp only [hc,go_sem]
                · exact bad (by rw [hI];unfold jo;rw [c1,c2,nt hc];rfl)
                · simp only [qp (show i<4611686018427387904 by omega)];refine qt (i+1) ⟨by omega, ?_⟩ (by omega) (Can.sub (by simp [go_sem]) (by simp [go_sem]));rw [hI];unfold jo;rw [c1,c2,nf hc];rfl
              · have c2:t.Done=false:=by simpa using hc
                simp only [qp (show i<4611686018427387904 by omega)];refine qt (i+1) ⟨by omega, ?_⟩ (by omega) (Can.sub (by simp [go_sem]) (by simp [go_sem]));rw [hI];unfold jo;rw [c1,c2];rfl
            · exact bad (by rw [hI];unfold jo;rw [nt hc];rfl)
          · obtain rfl:i=m.Heap.length:=by have:=odF hc;omega
            exact qJ rfl (by rw [hI];simp)
      · exact bad (by unfold qG.ok;rw [show decide (m.Stack.length≤400)=false from decide_eq_false (by have:=odT (hc.trans rfl);omega)];simp)
    · exact bad (by unfold qG.ok;rw [show decide (m.Heap.length≤2000)=false from decide_eq_false (by have:=odT (hc.trans rfl);omega)];simp)
  · exact bad (by unfold qG.ok;rw [nt hc];simp)
end Go.Ab
namespace Go.Ab
open Go
set_option maxRecDepth 10000
set_option maxHeartbeats 2000000
theorem qKV {m:qG} {a:Int} (hz:m.Heap.length≤1048576):Pure Gm 1047 [.ept m.enc 0,.int .i64 a] (.bool (inI a 0 (m.Heap.length-1))):=by
  refine Pure.intro [] [] qUB (by kernel_rfl) rfl (by simp [AV.trees,AV.tree,go_sem]) rfl ?_;simp only [Wa,qP,go_sem]
  repeat' (first | (refine qX rfl ?_;simp only [go_sem]) | (first | (refine qY ?_ ?_<;>intro hc<;>simp only [hc,go_sem]) | (refine qN ?_ ?_<;>intro hc<;>simp only [hc,go_sem])) | refine qJ rfl ?_ | refine jj (by rfl) ?_)
  all_goals (simp_all [inI]<;>omega)
theorem qSG {m:qG} {a:Int} (hz:m.Heap.length≤1048576):Pure Gm 1046 [.int .i64 a,.ept (.ept m.enc 0) 0] (.bool (!inI a 0 (m.Heap.length-1))):=by
  refine Pure.intro [] [] qUA (by kernel_rfl) rfl (by simp [AV.trees,AV.tree,go_sem]) rfl ?_;simp only [WZ,qP,go_sem];refine qK (qKV hz) ?_;simp only [go_sem];exact qJ rfl rfl
theorem c672 {b:qO} {m:qG} {c:qI} (hz:c.sz≤1048576) (hm:m.Heap.length≤1048576):Pure Gm 672 [.ept m.enc 0,b.enc,c.enc] (.bool (zg b m.Heap.length c)):=by
  refine Pure.intro [3] [] g672 (by kernel_rfl) rfl (by simp [AV.trees,AV.tree,go_sem]) rfl ?_;simp only [YF,qP,go_sem];have hz':c.Term.sz+c.Env.length≤1048576:=hz;have hdl:=qK9 (x:=c.Term) (by omega);refine jz rfl ?_;simp only [go_sem]
  repeat' (first | (refine qX rfl ?_;simp only [go_sem]))
  simp only [go_sem,List.nil_append,List.cons_append,List.set_cons_zero,List.set_cons_succ];have bad:∀{h:List qC},zg b m.Heap.length c=false→Fin (some [.bool false]) h (.bool (zg b m.Heap.length c)):=fun h=>qJ rfl (by rw [h]);refine qK (c259 (x:=c.Term) (by omega) hdl.1 hdl.2) ?_;simp only [go_sem];refine qY ?_ ?_<;>intro hc<;>simp only [hc,go_sem]
  · have g0:=nf hc;have g1:c.Term.valid=true:=by simp only [bAt] at g0;exact g0.1
    have g2:c.Term.er=true:=by simp only [bAt] at g0;exact g0.2
    have hv:=JA g1;refine qK (c847 (x:=c.Term) (by omega)) ?_;simp only [go_sem];refine qY ?_ ?_<;>intro hc<;>simp only [hc,go_sem]
    · have g3:=nf hc;refine qK (c880 c.Term _ hv.1 (by omega) (by omega)) ?_;simp only [go_sem];refine qY ?_ ?_<;>intro hc<;>simp only [hc,go_sem]
      · have g4:c.Term.above c.Env.length=false:=by simpa using hc
        refine qN ?_ ?_<;>intro hc<;>simp only [hc,go_sem]
        · exact bad (by unfold zg;rw [show decide (c.Env.length≤256)=false from decide_eq_false (by have:=odT hc;omega)];simp)
        have g5:decide (c.Env.length≤256)=true:=decide_eq_true (by have:=odF hc;omega);refine qK (Zj (f:=.fn 1046 [.ept (.ept m.enc 0) 0]) (fun a=> !inI a 0 (m.Heap.length-1)) (by simp [AV.tree,AV.trees,go_sem]) c.Env (fun y _=>⟨1046,_,rfl,qSG hm⟩) (by omega)) ?_;simp only [go_sem];exact qJ rfl (by unfold zg;rw [QV,g1,g2,g3,g4,g5];simp)
      · exact bad (by unfold zg;simp at hc;simp [hc])
    · exact bad (by unfold zg;rw [nt hc];simp)
  · exact bad (by unfold zg;simp at hc;cases h:c.Term.valid<;>simp_all)
theorem c788 {xs:List Int} (hl:xs.length≤1048576):Pure Gm 788 [.lst 1 (xs.map qD) false,.nils] (.bool (decide (xs.length=0))):=by
  refine Pure.intro [] [] g788 (by kernel_rfl) rfl (by simp [AV.trees,AV.tree,go_sem,qd]) rfl ?_;simp only [YU,qP,go_sem];refine qN ?_ ?_<;>intro hc<;>simp only [hc,go_sem]
  · exact qJ rfl (by simp at hc;simp [hc])
  have h0:xs=[]:=by simpa using hc
  subst h0;clear hc;refine Sem.loop (fun i:Nat=>i≤0∧True) (fun i=>(⟨[(13,.int .i64 (i:Nat)),(12,.int .i64 0),(0,.lst 1 [] false),(1,.nils)],[],[]⟩:VSt)) (fun i=>0-i) 0 (by kernel_rfl) ⟨Nat.zero_le _,trivial⟩ (Can.sub (by simp [go_sem]) (by simp [go_sem])) ?_;rintro i ⟨hi,hI⟩;simp only [go_sem];refine qN ?_ ?_<;>intro hc<;>simp only [hc,go_sem]
  · exact absurd (odT hc) (by omega)
  · exact qJ rfl rfl
theorem qSR {xs:List qA} (hl:xs.length≤1048576):Pure Gm 1475 [.lst 4 (xs.map qA.enc) false,.nils,.fn 1337 []] (.bool (decide (xs.length=0))):=by
  refine Pure.intro [] [] qU9 (by kernel_rfl) rfl (by simp [AV.trees,AV.tree,go_sem,qo]) rfl ?_;simp only [XJ,qP,go_sem];refine qN ?_ ?_<;>intro hc<;>simp only [hc,go_sem]
  · exact qJ rfl (by simp at hc;simp [hc])
  have h0:xs=[]:=by simpa using hc
  subst h0;clear hc;simp only [XK];refine Sem.loop (fun i:Nat=>i≤0∧True) (fun i=>(⟨[(17,.int .i64 (i:Nat)),(16,.int .i64 0),(15,.lst 4 [] false),(0,.lst 4 [] false),(1,.nils),(2,.fn 1337 [])],[],[]⟩:VSt)) (fun i=>0-i) 0 (by kernel_rfl) ⟨Nat.zero_le _,trivial⟩ (Can.sub (by simp [go_sem]) (by simp [go_sem])) ?_;rintro i ⟨hi,hI⟩;simp only [go_sem];refine qN ?_ ?_<;>intro hc<;>simp only [hc,go_sem]
  · exact absurd (odT hc) (by omega)
  · exact qJ rfl rfl
theorem qSO {x:qA} (hz:x.sz≤1048576):Pure Gm 1337 [x.enc,.agg [.int .i64 0,.int .i64 0,.nils,.nils]] (.bool (decide (x.Kind=0)&&decide (x.Value=0)&&decide (x.Data.length=0)&&decide (x.Kids.length=0))):=by
  refine Pure.intro [] [] qU4 (by kernel_rfl) rfl (by simp [AV.trees,AV.tree,go_sem]) rfl ?_;simp only [XE,qP,go_sem];have hL:=x.len_sz;refine qX qA.ln ?_;simp only [go_sem];refine qX rfl ?_;simp only [go_sem];refine qY ?_ ?_<;>intro hc<;>simp only [hc,go_sem]
  · have g1:=hc;refine qY ?_ ?_<;>intro hc<;>simp only [hc,go_sem]
    · have g2:=hc;refine qK (c788 (by omega)) ?_;simp only [go_sem];refine qY ?_ ?_<;>intro hc<;>simp only [hc,go_sem]
      · refine qK (qSR (by omega)) ?_;simp only [go_sem];exact qJ rfl (by simp_all)
      · exact qJ rfl (by simp_all)
    · exact qJ rfl (by simp_all)
  · exact qJ rfl (by simp_all)
theorem qSH {x:qI} (hz:x.sz≤1048576):Pure Gm 1049 [x.enc] (.bool (JV x)):=by
  refine Pure.intro [] [] qUD (by kernel_rfl) rfl (by simp [AV.trees,AV.tree,go_sem]) rfl ?_;simp only [Wb,qP,go_sem];have hz':x.Term.sz+x.Env.length≤1048576:=hz;refine qX rfl ?_;simp only [go_sem];refine qK (qSO (x:=x.Term) (by omega)) ?_;simp only [go_sem];refine qY ?_ ?_<;>intro hc<;>simp only [hc,go_sem]
  · exact qJ rfl (by unfold JV;rw [hc];simp)
  · exact qJ rfl (by unfold JV;rw [hc];simp)
theorem qSP {d:Int} {b:qO} (hb:b.Defs.length≤1048576):Pure Gm 1338 [.int .i64 d,.ept b.enc 0] (.bool (!inI d 0 (b.Defs.length-1))):=by
  refine Pure.intro [] [] qU5 (by kernel_rfl) rfl (by simp [AV.trees,AV.tree,go_sem]) rfl ?_;simp only [XF,qP,go_sem];refine qY ?_ ?_<;>intro hc<;>simp only [hc,go_sem]
  · have h1:=odF hc;exact qJ rfl (by simp only [inI,AV.bool.injEq];rw [Bool.eq_iff_iff];simp;omega)
  · have h1:=odT (hc.trans rfl);exact qJ rfl (by simp only [inI,AV.bool.injEq];rw [Bool.eq_iff_iff];simp;omega)
theorem qNV {b:qO} {ds:List Int} (hb:b.Defs.length≤1048576) (hl:ds.length≤1048576):Pure Gm 1052 [b.enc,.lst 1 (ds.map qD) false] (.bool (jh b ds)):=by
  refine Pure.intro [2] [] qUG (by kernel_rfl) rfl (by simp [AV.trees,AV.tree,go_sem,qd]) rfl ?_;simp only [We,qP,go_sem];refine jz rfl ?_;simp only [go_sem];simp only [go_sem,List.nil_append,List.cons_append,List.set_cons_zero,List.set_cons_succ];refine qK (Zj (f:=.fn 1338 [.ept b.enc 0]) (fun d=> !inI d 0 (b.Defs.length-1)) (by simp [AV.tree,AV.trees,go_sem]) ds (fun y _=>⟨1338,_,rfl,qSP hb⟩) hl) ?_;simp only [go_sem];exact qJ rfl (by rw [QV];simp [jh])
theorem c676 {b:qO} {m:qG} {f:qF} (hz:f.sz≤1048576) (hm:m.Heap.length≤1048576) (hb:b.Defs.length≤1048576):Pure Gm 676 [.ept m.enc 0,b.enc,f.enc] (.bool (z5 b m.Heap.length f)):=by
  refine Pure.intro [] [] g676 (by kernel_rfl) rfl (by simp [AV.trees,AV.tree,go_sem]) rfl ?_;simp only [YI,qP,go_sem];have hz':f.Data.length+f.Closure.sz≤1048576:=hz;refine qX rfl ?_;simp only [go_sem];refine qX rfl ?_;simp only [go_sem];by_cases hk:f.Kind=3
  · simp only [hk,decide_true,Bool.not_true,Int.reduceEq,decide_false,go_sem];refine qK qKW ?_;simp only [go_sem];have eF:z5 b m.Heap.length f=(inI f.Value 1 6&&decide (f.Data.length=0)&&zg b m.Heap.length f.Closure):=by unfold z5;rw [if_pos hk]
    rw [eF];refine qY ?_ ?_<;>intro hc<;>simp only [hc,go_sem]
    · have g1:=hc;refine qY ?_ ?_<;>intro hc<;>simp only [hc,go_sem]
      · have g2:=hc;refine qK (c672 (by omega) hm) ?_;simp only [go_sem];exact qJ rfl (by first | (simp;done) | (simp_all;done) | (simp_all;omega))
      · exact qJ rfl (by first | (simp;done) | (simp_all;done) | (simp_all;omega))
    · exact qJ rfl (by first | (simp;done) | (simp_all;done) | (simp_all;omega))
  rw [show decide (f.Kind=3)=false from decide_eq_false hk];simp only [Bool.not_false,go_sem];refine qK (qSH (by omega)) ?_;simp only [go_sem];refine qN ?_ ?_<;>intro hc<;>simp only [hc,go_sem]
  · exact qJ rfl (by unfold z5;rw [if_neg hk,nt hc];simp)
  have g0:=nf hc;clear hc;have eF:z5 b m.Heap.length f=(if f.Kind=1∨f.Kind=2 then inI f.Value 0 ((m.Heap.length:Int)-1)&&decide (f.Data.length=0)
    else if f.Kind=4 then inI f.Value 1 6&&decide (f.Data.length=1)&&inI (f.Data.getD 0 0) (-2147483648) 2147483647
    else if f.Kind=5 then decide (f.Value=0)&&inI f.Data.length 1 4&&jh b f.Data
    else if f.Kind=6 then decide (f.Value=0)&&decide (f.Data.length=2)&&jh b f.Data
    else false):=by unfold z5;rw [if_neg hk,g0,Bool.true_and]
  rw [eF];clear eF;refine qN ?_ ?_<;>intro hc<;>simp only [hc,go_sem]
  · have h12:f.Kind=1∨f.Kind=2:=by have:=odT hc;omega
    rw [if_pos h12];clear hc;refine qK (qKV hm) ?_;simp only [go_sem];refine qY ?_ ?_<;>intro hc<;>simp only [hc,go_sem]
    · exact qJ rfl (by first | (simp;done) | (simp_all;done) | (simp_all;omega))
    · exact qJ rfl (by first | (simp;done) | (simp_all;done) | (simp_all;omega))
  have k1:=odF hc;clear hc;refine qN ?_ ?_<;>intro hc<;>simp only [hc,go_sem]
  · have h12:f.Kind=1∨f.Kind=2:=by have:=odT hc;omega
    rw [if_pos h12];clear hc;refine qK (qKV hm) ?_;simp only [go_sem];refine qY ?_ ?_<;>intro hc<;>simp only [hc,go_sem]
    · exact qJ rfl (by first | (simp;done) | (simp_all;done) | (simp_all;omega))
    · exact qJ rfl (by first | (simp;done) | (simp_all;done) | (simp_all;omega))
  have k2:=odF hc;clear hc;rw [if_neg (by omega)];rw [show decide (f.Kind=3)=false from decide_eq_false hk];simp only [go_sem];refine qN ?_ ?_<;>intro hc<;>simp only [hc,go_sem]
  · rw [if_pos (odT hc)];clear hc;refine qK qKW ?_;simp only [go_sem];refine qY ?_ ?_<;>intro hc<;>simp only [hc,go_sem]
    · have g1:=hc;refine qY ?_ ?_<;>intro hc<;>simp only [hc,go_sem]
      · have hd:f.Data.length=1:=by have:=odT hc;omega
        obtain ⟨d,hd'⟩:=List.length_eq_one_iff.1 hd;simp only [hd',List.map_cons,List.map_nil,qD,List.getElem?_cons_zero,oMs,go_sem];refine qK qNU ?_;simp only [go_sem];exact qJ rfl (by first | (simp;done) | (simp_all;done) | (simp_all;omega))
      · exact qJ rfl (by first | (simp;done) | (simp_all;done) | (simp_all;omega))
    · exact qJ rfl (by first | (simp;done) | (simp_all;done) | (simp_all;omega))
  have k4:=odF hc;clear hc;rw [if_neg k4]
  try simp only [YJ,go_sem]
  refine qN ?_ ?_<;>intro hc<;>simp only [hc,go_sem]
  · rw [if_pos (odT hc)];clear hc;refine qY ?_ ?_<;>intro hc<;>simp only [hc,go_sem]
    · have g1:=hc;refine qY ?_ ?_<;>intro hc<;>simp only [hc,go_sem]
      · have g2:=odT hc;refine qY ?_ ?_<;>intro hc<;>simp only [hc,go_sem]
        · have g3:=odT hc;have h4:inI f.Data.length 1 4=true:=by simp only [inI];simp;omega
          refine qK (qNV hb (by omega)) ?_;simp only [go_sem];exact qJ rfl (by simp at g1;rw [h4];simp [g1])
        · have h4:inI f.Data.length 1 4=false:=by have:=odF (hc.trans rfl);simp only [inI];simp;omega
          exact qJ rfl (by rw [h4];simp)
      · have h4:inI f.Data.length 1 4=false:=by have:=odF (hc.trans rfl);simp only [inI];simp;omega
        exact qJ rfl (by rw [h4];simp)
    · exact qJ rfl (by simp at hc;simp [hc])
  have k5:=odF hc;clear hc;rw [if_neg k5];refine qN ?_ ?_<;>intro hc<;>simp only [hc,go_sem]
  · rw [if_pos (odT hc)];clear hc;refine qY ?_ ?_<;>intro hc<;>simp only [hc,go_sem]
    · have g1:=hc;refine qY ?_ ?_<;>intro hc<;>simp only [hc,go_sem]
      · have g2:=hc;refine qK (qNV hb (by omega)) ?_;simp only [go_sem];exact qJ rfl (by simp at g1;have h2:f.Data.length=2:=(by have:=odT g2;omega);simp [g1,h2])
      · exact qJ rfl (by have h2:¬f.Data.length=2:=(by have:=odF (hc.trans rfl);omega);simp [h2])
    · exact qJ rfl (by simp at hc;simp [hc])
  · rw [if_neg (odF hc)];exact qJ rfl rfl
theorem c675 {b:qO} {m:qG} {f:qF} (hz:f.sz≤1048576) (hm:m.Heap.length≤1048576) (hb:b.Defs.length≤1048576):Pure Gm 675 [f.enc,.ept m.enc 0,.ept b.enc 0] (.bool (!z5 b m.Heap.length f)):=by
  refine Pure.intro [] [] g675 (by kernel_rfl) rfl (by simp [AV.trees,AV.tree,go_sem]) rfl ?_;simp only [YH,qP,go_sem];refine qX rfl ?_;simp only [go_sem];refine qK (c676 hz hm hb) ?_;simp only [go_sem];exact qJ rfl rfl
theorem qR9 {b:qO}:JH b=(b.ok&&b.Defs.all fun c=>c.valid&&c.er):=by
  unfold JH;cases h:b.ok
  · rfl
  · simp only [Bool.true_and];unfold qO.ok at h;simp only [bAt,List.all_eq_true] at h;rw [Bool.eq_iff_iff];simp only [List.all_eq_true,bAt];constructor
    · intro q x hx;have:=(h.2 x hx).1;unfold qA.closed at this;simp only [bAt] at this;exact ⟨this.1,q x hx⟩
    · exact fun q x hx=>(q x hx).2
theorem c674 {f:AV} (p:qF→Bool) (hft:f.tree=true) (xs:List qF) (hf:∀x∈xs,Ze Gm f [x.enc] (.bool (p x))) (hl:xs.length≤1048576):Pure Gm 674 [.lst 8 (xs.map qF.enc) false,f] (.bool (xs.any p)):=
  qK8 qF.isSh (gc:=1048) g674 qUC f p hft xs hf hl
theorem c293 {b:qO} {m:qG} (hb:b.sz≤1048576) (hz:m.sz≤1048576):Pure Gm 293 [b.enc,m.enc] (.bool (m.ok b)):=by
  refine Pure.intro [2,3] [] g293 (by kernel_rfl) rfl (by simp [AV.trees,AV.tree,go_sem]) rfl ?_;simp only [XW,qP,go_sem];have hz':m.Control.sz+(m.Stack.length+qE qF.sz m.Stack)+(m.Heap.length+qE qH.sz m.Heap)≤1048576:=hz;have hb':b.Defs.length+qE qA.sz b.Defs≤1048576:=hb;have bad:∀{h:List qC},m.ok b=false→Fin (some [.bool false]) h (.bool (m.ok b)):=fun h=>qJ rfl (by rw [h]);refine jz rfl ?_;simp only [go_sem];simp only [go_sem,List.nil_append,List.cons_append,List.set_cons_zero,List.set_cons_succ];refine jz rfl ?_;simp only [go_sem];simp only [go_sem,List.nil_append,List.cons_append,List.set_cons_zero,List.set_cons_succ];refine qK (c671 hb) ?_;simp only [go_sem];rw [←qR9];refine qY ?_ ?_<;>intro hc<;>simp only [hc,go_sem]
  · have g1:=nf hc;refine qY ?_ ?_<;>intro hc<;>simp only [hc,go_sem]
    · have g2:decide (m.Heap.length≤2000)=true:=decide_eq_true (by have:=odF hc;omega);have q2:=odT g2;refine qY ?_ ?_<;>intro hc<;>simp only [hc,go_sem]
      · have g3:decide (m.Stack.length≤400)=true:=decide_eq_true (by have:=odF hc;omega);have q3:=odT g3;refine qK (c672 (c:=m.Control) (by omega) (by omega)) ?_;simp only [go_sem];refine qN ?_ ?_<;>intro hc<;>simp only [hc,go_sem]
        · exact bad (by unfold qG.ok;rw [nt hc];simp)
        have g4:=nf hc;clear hc
        try simp only [XY,XX,go_sem]
        refine Sem.loop (fun i:Nat=>i≤m.Heap.length∧m.ok b=(m.Stack.all (z5 b m.Heap.length)&&(m.Heap.drop i).all (jo b m.Heap.length))) (fun i=>(⟨[(3,.ept m.enc 0),(2,.ept b.enc 0),(30,.lst 6 (m.Heap.map qH.enc) false),(31,.int .i64 (m.Heap.length:Nat)),(32,.int .i64 (i:Nat))],[],[.dead,.dead]⟩:VSt)) (fun i=>m.Heap.length-i) 0 (by kernel_rfl) ⟨Nat.zero_le _,by simp [qG.ok,g1,g2,g3,g4]⟩ (Can.sub (by simp [go_sem]) (by simp [go_sem])) ?_;rintro i ⟨hi,hI⟩;simp only [go_sem];refine qN ?_ ?_<;>intro hc<;>simp only [hc,go_sem]
        · have hlt:i<m.Heap.length:=by have:=odT hc;omega
          simp only [gMp,gEg hlt,oMs,go_sem];have hm:=zQ (f:=qH.sz) (gMm hlt);rw [jI hlt,List.all_cons] at hI;generalize ht:m.Heap[i]=t at hm hI;have hm':t.Closure.sz≤1048576:=by have:t.sz=t.Closure.sz:=rfl;omega
          refine qe (k:=6) rfl rfl ⟨_,rfl⟩ (by decide) ?_;simp only [XZ,go_sem];refine qK (c672 (c:=t.Closure) hm' (by omega)) ?_;simp only [go_sem];refine qY ?_ ?_<;>intro hc<;>simp only [hc,go_sem]
          · have c1:=nf hc;refine qY ?_ ?_<;>intro hc<;>simp only [hc,go_sem]
            · have c2:=hc;refine qK (c673 (x:=t.Closure) hm') ?_;simp only [go_sem];refine qN ?_ ?_<;>intro hc<;>simp only [hc,go_sem]
              · exact bad (by rw [hI];unfold jo;rw [c1,c2,nt hc];simp)
              · simp only [qp (show i<4611686018427387904 by omega)];refine qt (i+1) ⟨by omega, ?_⟩ (by omega) (Can.sub (by simp [go_sem]) (by simp [go_sem]));rw [hI];unfold jo;rw [c1,c2,nf hc];simp
            · have c2:t.Done=false:=by simpa using hc
              simp only [qp (show i<4611686018427387904 by omega)];refine qt (i+1) ⟨by omega, ?_⟩ (by omega) (Can.sub (by simp [go_sem]) (by simp [go_sem]));rw [hI];unfold jo;simp [c1,c2]
          · exact bad (by rw [hI];unfold jo;simp at hc;simp [hc])
        · obtain rfl:i=m.Heap.length:=by have:=odF hc;omega
          rw [List.drop_length,List.all_nil,Bool.and_true] at hI;refine qK (c674 (f:=.fn 675 [.ept m.enc 0,.ept b.enc 0]) (fun f=> !z5 b m.Heap.length f) (by simp [AV.tree,AV.trees,go_sem]) m.Stack (fun y hy=>⟨675,_,rfl,c675 (by have:=zQ (f:=qF.sz) hy;omega) (by omega) (by omega)⟩) (by omega)) ?_;simp only [go_sem];exact qJ rfl (by rw [hI,QV])
      · exact bad (by unfold qG.ok;rw [show decide (m.Stack.length≤400)=false from decide_eq_false (by have:=odT (hc.trans rfl);omega)];simp)
    · exact bad (by unfold qG.ok;rw [show decide (m.Heap.length≤2000)=false from decide_eq_false (by have:=odT (hc.trans rfl);omega)];simp)
  · exact bad (by unfold qG.ok;rw [nt hc];simp)
end Go.Ab
namespace Go.Ab
open Go
set_option maxRecDepth 10000
set_option maxHeartbeats 2000000
attribute [local simp] qo qd
theorem qXI {c:qI} (h:JV c=true):c=noC:=by
  unfold JV at h;simp only [bAt,decide_eq_true_eq,List.length_eq_zero_iff] at h;obtain ⟨⟨⟨⟨h1,h2⟩,h3⟩,h4⟩,h5⟩:=h;obtain ⟨t,e⟩:=c;obtain ⟨k,v,d,ks⟩:=t;simp only [qA.Kind,qA.Value,qA.Data,qA.Kids] at h1 h2 h3 h4 h5;subst h1 h2 h3 h4 h5;rfl
theorem c459 {m:qG} (hz:m.Control.sz≤1048576) (hl:m.Stack.length≤1048576):Pure Gm 459 [.ept m.enc 0] (.bool m.done):=by
  refine Pure.intro [] [] g459 (by kernel_rfl) rfl (by simp [AV.trees,AV.tree,go_sem]) rfl ?_;simp only [Xl,qP,go_sem];refine qY ?_ ?_<;>intro hc<;>simp only [hc,go_sem]
  · refine qK (Pure.lk0 qG.tr qG.part0 (by rw [qI.ln];decide) (c822 (x:=m.Control) hz)) ?_;simp only [go_sem];exact qJ rfl (by unfold qG.done;rw [decide_eq_true (by have:=odT hc;omega)];rfl)
  · exact qJ rfl (by unfold qG.done;rw [decide_eq_false (by have:=odF (hc.trans rfl);omega)];rfl)
theorem c823 {c:qI} (hz:c.sz≤1048576) (hv:c.Term.valid=true∨c=noC):Pure Gm 823 [.ept c.enc 0] (c.enc):=by
  refine Pure.intro [] [] g823 (by kernel_rfl) rfl (by simp [AV.trees,AV.tree,go_sem]) (by simp [go_sem]) ?_;simp only [Yc,qP,go_sem];have hz':c.Term.sz+c.Env.length≤1048576:=hz;refine qK (c402 c.Env (by omega)) ?_;simp only [go_sem];refine qe (k:=5) rfl rfl ⟨_,rfl⟩ (by decide) ?_;simp only [go_sem];refine qN ?_ ?_<;>intro hc<;>simp only [hc,go_sem]
  · have h1:c.Term.valid=true:=hv.resolve_right (fun q=>by subst q;exact absurd (nt hc) (by decide));have hw:=JA h1;refine qK (lkT (c387 (x:=c.Term) (by omega) (by omega) hw.2.2.2.2)) ?_;rw [qZI];simp only [go_sem];refine wR (c':=.agg [.int .i64 c.Term.Kind,.int .i64 c.Term.Value,.lst 1 (c.Term.Data.map qD) false,.lst 4 (c.Term.Kids.map qA.enc) false,.lst 1 (c.Env.map qD) false]) (by simp [go_sem]) (by rw [qA.enc_eq];rfl) ?_;simp only [go_sem];refine qe (k:=5) rfl rfl ⟨_,rfl⟩ (by decide) ?_;simp only [go_sem];exact qJ (by simp [go_sem]) rfl
  · have h2:c=noC:=by
      refine hv.resolve_left fun q=> ?_;have hk:c.Term.Kind=0:=by simpa using hc
      have hn:=Jr (JA q).1;simp [zO,inI,shp,hk] at hn;omega
    subst h2;refine qe (k:=5) rfl rfl ⟨_,rfl⟩ (by decide) ?_;simp only [go_sem];refine jy (.agg rfl ?_);simp only [List.zip_cons_cons,List.zip_nil_left,List.mem_cons,List.not_mem_nil,or_false];rintro p (rfl | rfl | rfl | rfl | rfl)
    · exact .refl rfl
    · exact .refl rfl
    · exact .nils
    · exact .nils
    · exact .refl rfl
end Go.Ab
namespace Go.Ab
open Go
set_option maxRecDepth 10000
set_option maxHeartbeats 2000000
attribute [local simp] qo qd
def Old (h g:List qC):Prop:=h.length≤g.length∧∀j,j<h.length→g[j]?=h[j]?
theorem Old.refl (h:List qC):Old h h:=⟨Nat.le_refl _,fun _ _=>rfl⟩
theorem Old.trans {a b c:List qC} (x:Old a b) (y:Old b c):Old a c:=⟨Nat.le_trans x.1 y.1,fun j hj=>(y.2 j (Nat.lt_of_lt_of_le hj x.1)).trans (x.2 j hj)⟩
theorem Old.push {h g:List qC} {o:qC} (x:Old h g):Old h (g++[o]):=⟨by simp;have:=x.1;omega,fun j hj=>by rw [gAl (Nat.lt_of_lt_of_le hj x.1)];exact x.2 j hj⟩
theorem Old.set {h g:List qC} {o:qC} {i:Nat} (x:Old h g) (hi:h.length≤i):Old h (g.set i o):=⟨by simp;exact x.1,fun j hj=>by rw [gSn (by omega)];exact x.2 j hj⟩
def FV (f:qF):Prop:=(f.Closure.Term.valid=true∧f.Closure.Env.length≤256∨f.Closure=noC)∧f.Data.length≤4
theorem Zl {c:qI} (h:c.Term.valid=true∧c.Env.length≤256∨c=noC):c.sz≤3000:=by
  rcases h with ⟨h1,h2⟩ | rfl
  · have:=(JA h1).2.2.2.1;unfold qI.sz;omega
  · decide
theorem s460 {h:List qC} {M:qG} {K:AV→List qC→Prop} (hc:M.Control.Term.valid=true∧M.Control.Env.length≤3000) (hs:∀f∈M.Stack,FV f) (ht:∀t∈M.Heap,t.Closure.Term.valid=true∧t.Closure.Env.length≤256)
    (l1:M.Stack.length≤100000) (l2:M.Heap.length≤100000)
    (hK:∀g si hi,Old h g→g[si]?=some (.row 8 (M.Stack.map qF.enc) true)→g[hi]?=some (.row 6 (M.Heap.map qH.enc) true)→h.length≤si→h.length≤hi→si≠hi→K (.agg (Nec M si hi)) g):SCall Gm 460 [.ept M.enc 0] h K:=by
  refine SCall.run [] [] g460 (by kernel_rfl) rfl ?_;simp only [Xm,qP,go_sem];have hcz:M.Control.sz≤1048576:=by have:=(JA hc.1).2.2.2.1;unfold qI.sz;omega
  refine qK (Pure.lk0 qG.tr qG.part0 (by rw [qI.ln];decide) (c823 (c:=M.Control) hcz (.inl hc.1))) ?_;simp only [go_sem];refine qe (k:=7) rfl rfl ⟨_,rfl⟩ (by decide) ?_;simp only [go_sem]
  try simp only [Xn,go_sem]
  have hlt1:∀{i:Nat} {si:Nat} {g:List qC},g[si]?=some (.row 8 ((M.Stack.take i).map qF.enc) true)→si<g.length:=fun h=>qf h;refine V6 (fun q:Nat×List qC×Nat=>q.1≤M.Stack.length∧Old h q.2.1∧h.length≤q.2.2∧q.2.1[q.2.2]?=some (.row 8 ((M.Stack.take q.1).map qF.enc) true))
    (fun q=>(⟨[(0,.ept M.enc 0),(4,.int .i64 (q.1:Nat))],[(3,.agg [.int .i64 M.Control.Term.Kind,.int .i64 M.Control.Term.Value,.lst 1 (M.Control.Term.Data.map qD) false,.lst 4 (M.Control.Term.Kids.map qA.enc) false,.lst 1 (M.Control.Env.map qD) false,.slice 8 q.2.2 0 q.1 false,.nils]),
      (2,.agg [.int .i64 0,.int .i64 0,.nils,.nils,.nils,.nils,.nils])],q.2.1⟩:VSt)) (fun q=>M.Stack.length-q.1) (0,h++[.row 8 [] true],h.length)
    (fun q:List qC×Nat=>Old h q.1∧h.length≤q.2∧q.1[q.2]?=some (.row 8 (M.Stack.map qF.enc) true))
    (fun q=>(⟨[(0,.ept M.enc 0)],[(3,.agg [.int .i64 M.Control.Term.Kind,.int .i64 M.Control.Term.Value,.lst 1 (M.Control.Term.Data.map qD) false,.lst 4 (M.Control.Term.Kids.map qA.enc) false,.lst 1 (M.Control.Env.map qD) false,.slice 8 q.2 0 M.Stack.length false,.nils]),
      (2,.agg [.int .i64 0,.int .i64 0,.nils,.nils,.nils,.nils,.nils])],q.1⟩:VSt)) (by kernel_rfl) ?_ ?_ ?_ ?_
  · exact ⟨Nat.zero_le _,(Old.refl h).push,Nat.le_refl _,by simp⟩
  · refine Can.ph (w:=8) ?_ ?_
    · exact WkN.same (by simp [go_sem]) (WkN.same (by simp [go_sem]) .nil)
    · refine WkN.cons (v:=.agg [.int .i64 M.Control.Term.Kind,.int .i64 M.Control.Term.Value,.lst 1 (M.Control.Term.Data.map qD) false,.lst 4 (M.Control.Term.Kids.map qA.enc) false,.lst 1 (M.Control.Env.map qD) false,.nils,.nils]) (by simp [go_sem]) (.agg (.same (.same (.same (.same (.same (.cons (.ph (by simp)) (.same .nil)))))))) (WkN.same (by simp [go_sem]) .nil)
  · rintro ⟨i,g,si⟩ ⟨h1,h2,h3,h4⟩;simp only at h1 h2 h3 h4⊢;simp only [go_sem];refine qN ?_ ?_<;>intro hc<;>simp only [hc,go_sem]
    · have hlt:i<M.Stack.length:=by have:=odT hc;omega
      clear hc;simp only [gMp,gEg hlt,oMs,go_sem];have hm:=gMm hlt;have hf:=hs _ hm;generalize hfe:M.Stack[i]=f at hm hf;have hfz:=Zl hf.1;refine qK (c402 f.Data (by have:=hf.2;omega)) ?_;simp only [go_sem];refine qK (Pure.lk0 qF.tr qF.part3 (by rw [qI.ln];decide) (c823 (c:=f.Closure) (by omega) (hf.1.imp And.left id))) ?_;simp only [go_sem];have l4:=qf h4;refine jZ (x:=f.enc) (xs:=(M.Stack.take i).map qF.enc) (js:=[]) List.getElem?_concat_length (by rw [gAl l4,lAn];exact h4) (by rw [lMp,List.length_take];omega) (by omega) ?_;simp only [go_sem];simp only [lAp,lCo,lNi,nZa,qp (show i<4611686018427387904 by omega)];refine V5 (i+1,_,g.length+1) ⟨by simp only;omega, ?_, ?_, ?_⟩ (by simp only;omega) (Can.sub (by simp [go_sem]) (by simp [go_sem]))
      · exact (h2.push.set h3).push
      · have:=h2.1;simp only;omega
      · simp only;rw [gAr (by simp),ZI hlt,hfe];simp
    · obtain rfl:i=M.Stack.length:=by have:=odF hc;omega
      rw [List.take_length] at h4;exact UN (g,si) ⟨h2,h3,h4⟩ (Can.sub (by simp [go_sem]) (by simp [go_sem]))
  · rintro ⟨g0,si⟩ ⟨h1,hsi,h3⟩;simp only at h1 hsi h3⊢;simp only [go_sem];refine Sem.loop (fun q:Nat×List qC×Nat=>q.1≤M.Heap.length∧Old h q.2.1∧h.length≤q.2.2∧q.2.1[q.2.2]?=some (.row 6 ((M.Heap.take q.1).map qH.enc) true)∧q.2.1[si]?=some (.row 8 (M.Stack.map qF.enc) true))
      (fun q=>(⟨[(0,.ept M.enc 0),(6,.int .i64 (q.1:Nat))],[(3,.agg [.int .i64 M.Control.Term.Kind,.int .i64 M.Control.Term.Value,.lst 1 (M.Control.Term.Data.map qD) false,.lst 4 (M.Control.Term.Kids.map qA.enc) false,.lst 1 (M.Control.Env.map qD) false,.slice 8 si 0 M.Stack.length false,.slice 6 q.2.2 0 q.1 false]),
        (2,.agg [.int .i64 0,.int .i64 0,.nils,.nils,.nils,.nils,.nils])],q.2.1⟩:VSt)) (fun q=>M.Heap.length-q.1) (0,g0++[.row 6 [] true],g0.length) (by kernel_rfl) ?_ ?_ ?_
    · exact ⟨Nat.zero_le _,h1.push,h1.1,by simp,by simp only;rw [gAl (qf h3)];exact h3⟩
    · refine Can.ph (w:=6) ?_ ?_
      · exact WkN.same (by simp [go_sem]) (WkN.same (by simp [go_sem]) .nil)
      · refine WkN.cons (v:=.agg [.int .i64 M.Control.Term.Kind,.int .i64 M.Control.Term.Value,.lst 1 (M.Control.Term.Data.map qD) false,.lst 4 (M.Control.Term.Kids.map qA.enc) false,.lst 1 (M.Control.Env.map qD) false,.slice 8 si 0 M.Stack.length false,.nils]) (by simp [go_sem]) (.agg (.same (.same (.same (.same (.same (.same (.cons (.ph (by simp)) .nil)))))))) (WkN.same (by simp [go_sem]) .nil)
    · rintro ⟨i,g,hi⟩ ⟨h1,h2,h3,h4,h5⟩;simp only at h1 h2 h3 h4 h5⊢;simp only [go_sem];refine qN ?_ ?_<;>intro hc<;>simp only [hc,go_sem]
      · have hlt:i<M.Heap.length:=by have:=odT hc;omega
        clear hc;simp only [gMp,gEg hlt,oMs,go_sem];have hm:=gMm hlt;have hf:=ht _ hm;generalize hfe:M.Heap[i]=t at hm hf;have hfz:=Zl (.inl hf);refine qK (Pure.lk0 qH.tr qH.part1 (by rw [qI.ln];decide) (c823 (c:=t.Closure) (by omega) (.inl hf.1))) ?_;simp only [go_sem];have l4:=qf h4;have hne:hi≠si:=by rintro rfl;rw [h4] at h5;cases h5
        refine jZ (x:=t.enc) (xs:=(M.Heap.take i).map qH.enc) (js:=[]) List.getElem?_concat_length (by rw [gAl l4,lAn];exact h4) (by rw [lMp,List.length_take];omega) (by omega) ?_;simp only [go_sem];simp only [lAp,lCo,lNi,nZa,qp (show i<4611686018427387904 by omega)];refine qt (i+1,_,g.length+1) ⟨by simp only;omega, ?_, ?_, ?_, ?_⟩ (by simp only;omega) (Can.sub (by simp [go_sem]) (by simp [go_sem]))
        · exact (h2.push.set h3).push
        · have:=h2.1;simp only;omega
        · simp only;rw [gAr (by simp),ZI hlt,hfe];simp
        · simp only;have l5:=qf h5;rw [gAl (by simp;omega),gSn hne,gAl l5];exact h5
      · obtain rfl:i=M.Heap.length:=by have:=odF hc;omega
        rw [List.take_length] at h4;refine qe (k:=7) rfl rfl ⟨_,rfl⟩ (by decide) ?_;simp only [go_sem];exact hK g si hi h2 h5 h4 hsi h3 (by rintro rfl;rw [h4] at h5;cases h5)
end Go.Ab
namespace Go.Ab
open Go
set_option maxRecDepth 10000
set_option maxHeartbeats 2000000
attribute [local simp] qo qd
theorem qZZ (xs:List qH):AV.trees (xs.map qH.enc)=true:=zB qH.isSh.tree xs
theorem s827 {h:List qC} {xs:List qF} {K:AV→List qC→Prop} (hl:xs.length≤4194304) (hK:K (.slice 8 h.length 0 xs.length false) (h++[.row 8 (xs.map qF.enc) true])):SCall Gm 827 [.lst 8 (xs.map qF.enc) false] h K:=by
  cases xs with
  | nil=>exact SCall.fresh (qK5 (w:=8) (xs:=[]) g827 (fun n=>rfl) rfl rfl (by simp)) hK
  | cons x xs=>
    refine SCall.run [] [] g827 (by kernel_rfl) rfl ?_;simp only [Yq,Qb,qP,List.map_cons,go_sem];refine VK Els.lst (by simp only [lCo,lMp] at hl⊢;omega) ?_;simp only [go_sem];simpa using hK
theorem s828 {h:List qC} {xs:List qH} {K:AV→List qC→Prop} (hl:xs.length≤4194304) (hK:K (.slice 6 h.length 0 xs.length false) (h++[.row 6 (xs.map qH.enc) true])):SCall Gm 828 [.lst 6 (xs.map qH.enc) false] h K:=by
  cases xs with
  | nil=>exact SCall.fresh (qK5 (w:=6) (xs:=[]) g828 (fun n=>rfl) rfl rfl (by simp)) hK
  | cons x xs=>
    refine SCall.run [] [] g828 (by kernel_rfl) rfl ?_;simp only [Yr,Qb,qP,List.map_cons,go_sem];refine VK Els.lst (by simp only [lCo,lMp] at hl⊢;omega) ?_;simp only [go_sem];simpa using hK
theorem s465 {h:List qC} {M:qG} {K:AV→List qC→Prop} (l1:M.Stack.length≤100000) (l2:M.Heap.length≤100000)
    (hK:K (.ptr (h.length+2) 0 0) ((h++[.row 8 (M.Stack.map qF.enc) true]++[.row 6 (M.Heap.map qH.enc) true])++[.row 7 [.agg (Nec M h.length (h.length+1))] true])):SCall Gm 465 [M.enc] h K:=by
  refine SCall.run [] [] g465 (by kernel_rfl) rfl ?_;simp only [Xp,qP,go_sem];refine qX rfl ?_;simp only [go_sem];refine qn (s827 (by omega) ?_);simp only [go_sem];refine qn (s828 (by omega) ?_);simp only [go_sem];refine jz rfl ?_;simp only [go_sem];simpa [Nec,Ji,QS,q9] using hK
def JE:qG:=⟨noC,[],[]⟩
def jS (b:qO) (M:qG):qG×Int×Int:=
  if M.ok b=false then (JE,0,1) else if M.done=true then (JE,0,3) else if ¬(M.step b).2.1=0 then (JE,0,(M.step b).2.1) else ((M.step b).2.2,(M.step b).1,0)
def wE (y:qG×Int×Int):AV:=.tup [y.1.enc,.int .i64 y.2.1,.int .i64 y.2.2]
theorem qXY (y:qG×Int×Int):(wE y).tree=true:=by simp [wE,AV.tree,AV.trees,go_sem]
theorem Ur {g:List qC} {si hi:Nat} {M:qG} {js:List AV} (h1:g[si]?=some (.row 8 (M.Stack.map qF.enc++js) true)) (h2:g[hi]?=some (.row 6 (M.Heap.map qH.enc) true)):Cv g (.agg (Nec M si hi)) M.enc:=by
  unfold Nec qG.enc;refine .agg rfl ?_;simp only [List.zip_cons_cons,List.zip_nil_left,List.mem_cons,List.not_mem_nil,or_false];rintro p (rfl | rfl | rfl | rfl | rfl | rfl | rfl)
  · exact .refl rfl
  · exact .refl rfl
  · exact .refl (by simp [AV.tree])
  · exact .refl (by simp [AV.tree])
  · exact .refl (by simp [AV.tree])
  · have e:((M.Stack.map qF.enc++js).drop 0).take M.Stack.length=M.Stack.map qF.enc:=by rw [List.drop_zero];exact List.take_left' (by simp)
    refine .slc h1 (by simp) (by decide) (by rw [e]) ?_;rw [e];intro p hp;obtain ⟨i,hi,rfl⟩:=List.getElem_of_mem hp;simp only [List.getElem_zip,List.getElem_map];exact .refl qF.tr
  · exact Cv.row h2 (by simp) (qZZ _) (by decide)
theorem qK3 {b:qO} {hl:Nat} {c:qI} (h:zg b hl c=true):CI b.Defs.length hl 256 c:=by
  unfold zg at h;simp only [bAt,Bool.not_eq_true',decide_eq_true_eq,List.all_eq_true,inI] at h;obtain ⟨⟨⟨⟨⟨h1,h2⟩,h3⟩,h4⟩,h5⟩,h6⟩:=h;exact ⟨⟨h1,h2,h3,h4⟩,h5,fun a ha=>by have:=h6 a ha;omega⟩
theorem qOP {b:qO} {hl:Nat} {f:qF} (h:z5 b hl f=true):FI b.Defs.length hl f∧FV f:=by
  unfold z5 at h;by_cases h3:f.Kind=3
  · rw [if_pos h3] at h;simp only [bAt,decide_eq_true_eq] at h;have hc:=qK3 h.2;exact ⟨⟨fun k=>by omega,fun _=>hc,fun k=>by omega,fun k=>by omega,fun k=>by omega⟩,.inl ⟨hc.t.v,hc.l⟩,by omega⟩
  rw [if_neg h3,bAt] at h;have hn:=qXI h.1;replace h:=h.2;have dfs:∀{ds:List Int},jh b ds=true→∀d∈ds,0≤d∧d<(b.Defs.length:Int):=fun {ds} q d hd=>by
    unfold jh at q;simp only [List.all_eq_true,inI,decide_eq_true_eq,bAt] at q;have:=q d hd;omega
  by_cases h12:f.Kind=1∨f.Kind=2
  · rw [if_pos h12] at h;simp only [bAt,decide_eq_true_eq,inI] at h;exact ⟨⟨fun _=>by omega,fun k=>by omega,fun k=>by omega,fun k=>by omega,fun k=>by omega⟩,.inr hn,by omega⟩
  rw [if_neg h12] at h;by_cases h4:f.Kind=4
  · rw [if_pos h4] at h;simp only [bAt,decide_eq_true_eq,inI] at h;exact ⟨⟨fun k=>by omega,fun k=>by omega,fun k=>by omega,fun k=>by omega,fun k=>by omega⟩,.inr hn,by omega⟩
  rw [if_neg h4] at h;by_cases h5:f.Kind=5
  · rw [if_pos h5] at h;simp only [bAt,decide_eq_true_eq,inI] at h;exact ⟨⟨fun k=>by omega,fun k=>by omega,fun k=>by omega,fun _=>dfs h.2,fun k=>by omega⟩,.inr hn,by omega⟩
  rw [if_neg h5] at h;by_cases h6:f.Kind=6
  · rw [if_pos h6] at h;simp only [bAt,decide_eq_true_eq,inI] at h;exact ⟨⟨fun k=>by omega,fun k=>by omega,fun k=>by omega,fun _=>dfs h.2,fun k=>h.1.2⟩,.inr hn,by omega⟩
  · rw [if_neg h6] at h;cases h
theorem qL5 {b:qO} {M:qG} (h:M.ok b=true):BI b∧MI b M∧∀f∈M.Stack,FV f:=by
  unfold qG.ok JH at h;simp only [bAt,decide_eq_true_eq,List.all_eq_true] at h;obtain ⟨⟨⟨⟨⟨⟨h1,h0⟩,h2⟩,h3⟩,h4⟩,h5⟩,h6⟩:=h;have cl:∀{x:qA},x.closed=true→x.er=true→x.refs b.Defs.length=true→TI b.Defs.length 0 x:=fun {x} q1 q2 q3=>by
    unfold qA.closed at q1;simp only [bAt,Bool.not_eq_true'] at q1;exact ⟨q1.1,q2,q3,q1.2⟩
  unfold qO.ok at h1;simp only [bAt,List.all_eq_true,inI,decide_eq_true_eq] at h1;refine ⟨⟨by omega,fun d hd=>cl (h1.2 d hd).1 (h0 d hd) (h1.2 d hd).2⟩,⟨⟨qK3 h4,fun f hf=>(qOP (h5 f hf)).1,fun t ht=> ?_⟩,h3,h2⟩,fun f hf=>(qOP (h5 f hf)).2⟩;have:=h6 t ht;unfold jo at this;simp only [bAt] at this;exact qK3 this.1
end Go.Ab
namespace Go.Ab
open Go
set_option maxRecDepth 10000
set_option maxHeartbeats 2000000
attribute [local simp] qo qd
namespace qG
variable {b:qO} {M:qG}
theorem addr_stack {t:qA}:(M.addr t).2.Stack=M.Stack:=by unfold addr;split<;>rfl
theorem addrs_stack:∀(ks:List qA) (M:qG),(addrs ks M).2.Stack=M.Stack
  |[],M=>rfl
  | a::ks,M=>by simp only [addrs];rw [addrs_stack ks,addr_stack]
theorem push_mem {f g:qF} (hf:f∈(M.push g).Stack):f∈M.Stack∨f=g:=by unfold push at hf;simpa using hf
theorem pop_mem {f:qF} (hf:f∈M.pop.Stack):f∈M.Stack:=List.dropLast_subset _ hf
end qG
theorem QR {k v:Int} {d:List Int} (h:d.length≤4):FV ⟨k,v,d,noC⟩:=⟨.inr rfl,h⟩
theorem qXE {b:qO} {M:qG} (hM:MI b M) (hF:∀f∈M.Stack,FV f):∀f∈(M.move b).2.Stack,FV f:=by
  have hT:=hM.c.t;have hl:=hT.lens;have le:∀{f:qF} {N:qG},N.Stack=M.Stack→f∈N.Stack→FV f:=fun {f N} e hf=>hF f (e▸hf);intro f hf;unfold qG.move at hf;split at hf
  · unfold qG.meet at hf
    repeat' split at hf
    · exact hF f (List.dropLast_subset _ hf)
    · exact hF f (qG.pop_mem hf)
    · rcases qG.push_mem (M:=M.pop) hf with q | rfl
      · exact hF f (qG.pop_mem q)
      · exact QR (by simp)
    · exact hF f (qG.pop_mem hf)
    · exact hF f (qG.pop_mem hf)
    · exact hF f (qG.pop_mem hf)
    · simp only [qG.toRef,qG.ctl,List.mem_append,List.mem_map] at hf;rcases hf with q | ⟨a,_,rfl⟩
      · exact hF f (qG.pop_mem q)
      · exact QR (by simp)
    · exact hF f hf
  · unfold qG.eval at hf
    repeat' split at hf
    · unfold qG.enter at hf;simp only [qG.ctl] at hf;split at hf
      · exact hF f hf
      · rcases qG.push_mem hf with q | rfl
        · exact hF f q
        · exact QR (by simp)
    · rcases qG.push_mem (M:=(M.addr (M.Control.Term.kid 1)).2) hf with q | rfl
      · exact le qG.addr_stack q
      · exact QR (by simp)
    · rename_i h1 h5 h3;rcases qG.push_mem (M:=M) hf with q | rfl
      · exact hF f q
      · refine ⟨.inl ⟨?_,hM.c.l⟩,by simp⟩;have hl2:=(WC hT.ok).1 (.inl h3);have hl1:1<M.Control.Term.Kids.length:=by omega
        show (M.Control.Term.kid 1).valid=true;rw [jC hl1];exact (hT.kid0 (by omega) hl1).v
    · rcases qG.push_mem (M:=M) hf with q | rfl
      · exact hF f q
      · exact QR hl.2
    · rcases qG.push_mem (M:=M) hf with q | rfl
      · exact hF f q
      · exact QR hl.2
    · exact hF f hf
    · exact le (qG.addrs_stack _ _) hf
theorem qMY {b:qO} {M:qG} (hM:MI b M) (hF:∀f∈M.Stack,FV f):∀f∈(M.step b).2.2.Stack,FV f:=by
  have e:(M.step b).2.2=(M.move b).2:=by unfold qG.step;split;rfl;split<;>rfl
  rw [e];exact qXE hM hF
end Go.Ab
namespace Go.Ab
open Go
set_option maxRecDepth 10000
set_option maxHeartbeats 2000000
attribute [local simp] qo qd
theorem Us {h:List qC}:Cv h qPQ JE.enc:=by
  refine .agg rfl ?_;simp only [List.zip_cons_cons,List.zip_nil_left,List.mem_cons,List.not_mem_nil,or_false];rintro p (rfl | rfl | rfl | rfl | rfl | rfl | rfl)
  · exact .refl rfl
  · exact .refl rfl
  · exact .nils
  · exact .nils
  · exact .nils
  · exact .nils
  · exact .nils
theorem WV {h:List qC} {v:AV} {M:qG} {k e:Int} {y:qG×Int×Int} (he:y=(M,k,e)) (hv:Cv h v M.enc):Fin (some [v,.int .i64 k,.int .i64 e]) h (wE y):=by
  subst he;unfold Fin;refine .tup rfl ?_;simp only [List.zip_cons_cons,List.zip_nil_left,List.mem_cons,List.not_mem_nil,or_false];rintro p (rfl | rfl | rfl)
  · exact hv
  · exact .refl rfl
  · exact .refl rfl
theorem c153 {b:qO} {m:qG} (hb:b.sz≤1048576) (hz:m.sz≤1048576):Pure Gm 153 [b.enc,m.enc] (wE (jS b m)):=by
  refine Pure.intro [2,3] [] g153 (by kernel_rfl) rfl (by simp [AV.trees,AV.tree,go_sem]) (by exact qXY _) ?_;simp only [XM,qP,go_sem];have hz':m.Control.sz+(m.Stack.length+qE qF.sz m.Stack)+(m.Heap.length+qE qH.sz m.Heap)≤1048576:=hz;refine jz rfl ?_;simp only [go_sem];simp only [go_sem,List.nil_append,List.cons_append,List.set_cons_zero,List.set_cons_succ];refine jz rfl ?_;simp only [go_sem];simp only [go_sem,List.nil_append,List.cons_append,List.set_cons_zero,List.set_cons_succ];refine qK (c458 hb hz) ?_;simp only [go_sem];refine qN ?_ ?_<;>intro hc<;>simp only [hc,go_sem]
  · refine qe (k:=7) rfl rfl ⟨_,rfl⟩ (by decide) ?_;simp only [go_sem];exact WV (by unfold jS;rw [if_pos (nt hc)]) Us
  have hok:=nf hc;clear hc;obtain ⟨hBI,hMI,hFV⟩:=qL5 hok;refine qK (c459 (by omega) (by omega)) ?_;simp only [go_sem];refine qN ?_ ?_<;>intro hc<;>simp only [hc,go_sem]
  · refine qe (k:=7) rfl rfl ⟨_,rfl⟩ (by decide) ?_;simp only [go_sem];exact WV (by unfold jS;rw [if_neg (by rw [hok];decide),if_pos hc]) Us
  have hd:m.done=false:=hc;clear hc;refine qn (s460 ⟨hMI.c.t.v,by have:=hMI.c.l;omega⟩ hFV (fun t ht=>⟨(hMI.h t ht).t.v,(hMI.h t ht).l⟩) (by have:=hMI.sl;omega) (by have:=hMI.hl;omega) fun g si hi h1 h2 h3 h4 h5 h6=> ?_);simp only [go_sem];have l2:=qf h2;have l3:=qf h3;refine qq rfl List.getElem?_concat_length rfl (wF (k:=7) rfl rfl ⟨fun _=>⟨_,rfl⟩,fun _=>⟨_,rfl⟩⟩ (by decide)) ?_;simp only [qMS,List.set_cons_zero,XN,go_sem];have hN:NSx (fun _=>False) 7 [] [] g.length (g++[.row 7 [.agg (Nec m si hi)] true]) m:=
    ⟨si,hi,[],by simp,by rw [gAl l2,lAn];exact h2,by rw [gAl l3];exact h3,by omega,by omega,h6,id,id,id,fun j hj=>hj.elim⟩
  refine qn (s461 (pre:=[]) (post:=[]) (j:=0) rfl hN hBI hMI hd fun g2 hN2 _=> ?_);simp only [go_sem];refine qN ?_ ?_<;>intro hc<;>simp only [hc,go_sem]
  · have hne:¬(m.step b).2.1=0:=by simpa using hc
    try simp only [XO,go_sem]
    refine qe (k:=7) rfl rfl ⟨_,rfl⟩ (by decide) ?_;simp only [go_sem];exact WV (by unfold jS;rw [if_neg (by rw [hok];decide),if_neg (by rw [hd];decide),if_pos hne]) Us
  have h0:(m.step b).2.1=0:=by simpa using hc
  clear hc;have hMI2:=hMI.step hBI hd h0;have hFV2:=qMY hMI hFV;have hv:jS b m=((m.step b).2.2,(m.step b).1,0):=by unfold jS;rw [if_neg (by rw [hok];decide),if_neg (by rw [hd];decide),if_neg (fun q=>q h0)]
  generalize (m.step b).2.2=M2 at hN2 hMI2 hFV2 hv;obtain ⟨si2,hi2,js,hN2⟩:=hN2
  try simp only [XP,go_sem]
  refine qn (SCall.giveH (vs':=[.ept M2.enc 0]) [g.length,si2,hi2] ⟨rfl, ?_⟩ (s460 ⟨hMI2.c.t.v,by have:=hMI2.c.l;omega⟩ hFV2 (fun t ht=>⟨(hMI2.h t ht).t.v,(hMI2.h t ht).l⟩) (by have:=hMI2.sl;omega) (by have:=hMI2.hl;omega) fun g3 si3 hi3 q1 q2 q3 q4 q5 q6=> ?_))
  · intro p hp;simp only [List.zip_cons_cons,List.zip_nil_left,List.mem_cons,List.not_mem_nil,or_false] at hp;subst hp;refine .cv (.ptr (by rw [JX (by simp)];exact hN2.o) (by decide) rfl ?_) (by simp [AV.tree,go_sem]);simp only [List.nil_append,lAn];exact Ur (by rw [JX (by simp)];exact hN2.s) (by rw [JX (by simp)];exact hN2.t)
  simp only [go_sem];refine qe (k:=7) rfl rfl ⟨_,rfl⟩ (by decide) ?_;simp only [go_sem];exact WV hv (Ur (js:=[]) (by rw [lAn];exact q2) q3)
end Go.Ab
namespace Go.Ab
open Go
structure zF (S:List (Option Nat)) (h:List qC) (v t:AV):Prop where
  p:t.pl=true
  d:zX S=true
  o:zx S h S (lay t 0).2
  v:VR2 S v (lay t 0).1
structure qy (S:List (Option Nat)) (h:List qC) (vs ts:List AV):Prop where
  p:AV.pls ts=true
  d:zX S=true
  o:zx S h S (qS ts 0).2
  v:VR2s S vs (qS ts 0).1
theorem qP3:∀{as bs:List AV},AV.pls (as++bs)=(AV.pls as&&AV.pls bs)
  |[],_=>by simp [AV.pls]
  | a::as,bs=>by simp [AV.pls,qP3 (as:=as),Bool.and_assoc]
section
variable {S S':List (Option Nat)} {h h':List qC} {v t:AV} {vs ts vs' ts':List AV}
theorem zF.len (x:zF S h v t):S.length=t.rows:=by rw [JW x.o,qV]
theorem qy.len (x:qy S h vs ts):S.length=AV.rowss ts:=by rw [JW x.o,zP]
theorem qy.cnt (x:qy S h vs ts):vs.length=ts.length:=by rw [x.v.1,jO]
theorem zF.heap (x:zF S h v t) (hh:∀j,some j∈S→h'[j]?=h[j]?):zF S h' v t:=⟨x.p,x.d,WA hh x.o,x.v⟩
theorem qy.heap (x:qy S h vs ts) (hh:∀j,some j∈S→h'[j]?=h[j]?):qy S h' vs ts:=⟨x.p,x.d,WA hh x.o,x.v⟩
theorem qy.nil:qy [] h [] []:=⟨rfl,rfl,trivial,VR2s.nil⟩
theorem qy.app (x:qy S h vs ts) (y:qy S' h vs' ts') (hn:∀j,some j∈S→some j∉S'):qy (S++S') h (vs++vs') (ts++ts'):=by
  have l1:=x.len;have l2:=y.len;have m1:∀i,i<AV.rowss ts→(S++S')[0+i]?=S[0+i]?:=fun i hi=>gAl (by omega);have m2:∀i,i<AV.rowss ts'→(S++S')[0+AV.rowss ts+i]?=S'[0+i]?:=fun i hi=>by
    rw [gAr (by omega)];congr 1;omega
  refine ⟨by rw [qP3,x.p,y.p];rfl,Zq x.d y.d hn, ?_, ?_⟩
  · rw [w4];exact Jq (UK x.p m1 x.o) (UK y.p m2 y.o)
  · rw [w4];exact VR2s.app (VR2.moves _ _ _ _ x.p m1 x.v) (VR2.moves _ _ _ _ y.p m2 y.v)
theorem zF.one (x:zF S h v t):qy S h [v] [t]:=by
  refine ⟨by simp [AV.pls,x.p],x.d, ?_, ?_⟩
  · simp only [qS,lAn];exact x.o
  · simp only [qS];exact VR2s.cons x.v VR2s.nil
theorem qy.snoc (x:qy S h vs ts) (y:zF S' h v t) (hn:∀j,some j∈S→some j∉S'):qy (S++S') h (vs++[v]) (ts++[t]):=x.app y.one hn
theorem qy.scal (x:qy S h vs ts) {a:AV} (ha:∀n,lay a n=(a,[])) (hp:a.pl=true) (ht:a.tree=true):qy S h (vs++[a]) (ts++[a]):=by
  have y:qy [] h [a] [a]:=⟨by simp [AV.pls,hp],rfl,by simp only [qS,ha];trivial,by simp only [qS,ha];exact VR2s.cons (.tree ht) VR2s.nil⟩;have:=x.app y (fun j hj=>by simp);rwa [lAn] at this
theorem qy.agg (x:qy S h vs ts):zF S h (.agg vs) (.agg ts):=⟨by simp only [AV.pl];exact x.p,x.d,by simp only [lay];exact x.o,by simp only [lay];exact .agg x.v.1 x.v.2⟩
theorem qy.tup (x:qy S h vs ts):zF S h (.tup vs) (.tup ts):=⟨by simp only [AV.pl];exact x.p,x.d,by simp only [lay];exact x.o,by simp only [lay];exact .tup x.v.1 x.v.2⟩
theorem zF.aggs {w:AV} (x:zF S h w (.agg ts)):∃vs,w=.agg vs∧qy S h vs ts:=by
  have hv:=x.v;simp only [lay] at hv;obtain ⟨cs,rfl,hc⟩:=hv.aggs;exact ⟨cs,rfl,by have:=x.p;simp only [AV.pl] at this;exact this,x.d,by have:=x.o;simp only [lay] at this;exact this,hc⟩
theorem qy.row {k w:Nat} (x:qy S h vs ts) (hr:h[k]?=some (.row w vs true)) (hn:some k∉S):zF (some k::S) h (.slice w k 0 ts.length false) (.lst w ts false):=by
  have m:∀i,i<AV.rowss ts→(some k::S)[0+1+i]?=S[0+i]?:=fun i hi=>by
    rw [show 0+1+i=i+1 by omega,List.getElem?_cons_succ,nZa]
  refine ⟨by simp only [AV.pl];exact x.p,qTQ x.d hn, ?_, ?_⟩
  · simp only [lay];exact ⟨.row hr (VR2.moves _ _ _ _ x.p m x.v),UK x.p m x.o⟩
  · simp only [lay];exact .slice (by simp)
theorem zF.nils {w:Nat} {c:Bool}:zF [none] h .nils (.lst w [] false):=by
  refine ⟨rfl,rfl, ?_, ?_⟩
  · simp only [lay,qS];exact ⟨.ph,trivial⟩
  · simp only [lay,qS,lNi];exact .ph rfl
theorem zF.new {pre post:List qC} {n:Nat} (hp:t.pl=true) (hn:pre.length=n) (hh:h=pre++((lay t n).2++post)):zF ((List.range' n t.rows).map some) h (lay t n).1 t:=by
  subst hn;have hm:∀i,i<t.rows→((List.range' pre.length t.rows).map some)[0+i]?=some (some (pre.length+i)):=fun i hi=>by
    rw [gMp,List.getElem?_range' (by omega)];simp
  refine ⟨hp,Qf (List.nodup_range'),Q5 (by simp [qV]) fun i j o h1 h2=> ?_,qLR t _ _ hp hm⟩;have hi:i<t.rows:=by have:=(gSi.1 h2).1;rw [qV] at this;exact this
  have:=hm i hi;rw [nZa] at this;rw [this] at h1;cases h1;refine qLQ t pre.length 0 hp hm (fun i o hi=> ?_) i o h2;rw [hh,gAr (by omega),Nat.add_sub_cancel_left,gAl (gSi.1 hi).1];exact hi
theorem zF.fin {ws:List AV} (x:zF S h (q9 ws) t):FinF (some ws) h t:=⟨S,x.d,x.o,x.v⟩
theorem Q9 {n k j:Nat} (hj:some j∈(List.range' n k).map some):n≤j∧j<n+k:=by
  simp only [List.mem_map,oSi,exists_eq_right,List.mem_range'_1] at hj;exact hj
end
end Go.Ab
namespace Go.Ab
open Go
set_option maxRecDepth 10000
theorem c455 (x:qI) (hb:x.bd) (left:Nat) (hl:left≤1048576):Pure Gm 455 [x.enc,.int .i64 left] (.int .i64 (z7 x.sz left)):=by
  refine Pure.intro [] [] g455 (by kernel_rfl) rfl (by simp [AV.trees,AV.tree,qI.tr]) rfl ?_;simp only [Xj,qP,go_sem];refine qX rfl ?_;simp only [go_sem];unfold qI.bd at hb;refine qK (c80 _ hb.1 _ (by omega)) ?_;simp only [go_sem];refine qN ?_ ?_<;>intro hc<;>simp only [hc,go_sem]
  · have hq:=odT hc;rw [zZ] at hq;exact qJ rfl (by rw [jK (by unfold qI.sz;omega)])
  have hq:=odF hc;rw [zZ] at hq;rw [zi (by omega)];clear hc;refine qK (c338 _ hb.2 _ (by omega)) ?_;simp only [go_sem];refine qN ?_ ?_<;>intro hc<;>simp only [hc,go_sem]
  · have hq:=odT hc;rw [zZ] at hq;exact qJ rfl (by rw [jK (by unfold qI.sz;omega)])
  have hq:=odF hc;rw [zZ] at hq;rw [zi (by omega)];clear hc;exact qJ rfl (by rw [zi (by unfold qI.sz;omega)];unfold qI.sz;first | rfl | (congr 2;omega))
theorem c817 (x:qF) (hb:x.bd) (left:Nat) (hl:left≤1048576):Pure Gm 817 [x.enc,.int .i64 left] (.int .i64 (z7 x.sz left)):=by
  refine Pure.intro [] [] g817 (by kernel_rfl) rfl (by simp [AV.trees,AV.tree,qF.tr]) rfl ?_;simp only [YW,qP,go_sem];refine qX rfl ?_;simp only [go_sem];unfold qF.bd at hb;refine qK (c338 _ hb.1 _ (by omega)) ?_;simp only [go_sem];refine qN ?_ ?_<;>intro hc<;>simp only [hc,go_sem]
  · have hq:=odT hc;rw [zZ] at hq;exact qJ rfl (by rw [jK (by unfold qF.sz;omega)])
  have hq:=odF hc;rw [zZ] at hq;rw [zi (by omega)];clear hc;refine qK (c455 _ hb.2 _ (by omega)) ?_;simp only [go_sem];refine qN ?_ ?_<;>intro hc<;>simp only [hc,go_sem]
  · have hq:=odT hc;rw [zZ] at hq;exact qJ rfl (by rw [jK (by unfold qF.sz;omega)])
  have hq:=odF hc;rw [zZ] at hq;rw [zi (by omega)];clear hc;exact qJ rfl (by rw [zi (by unfold qF.sz;omega)];unfold qF.sz;first | rfl | (congr 2;omega))
theorem c456 (xs:List qF) (hx:xs.length≤140737488355328∧(∀y∈xs,qF.bd y)) (left:Nat) (hl:left≤1048576):Pure Gm 456 [.lst 8 (xs.map qF.enc) false,.int .i64 left] (.int .i64 (z7 (xs.length+qE qF.sz xs) left)):=
  Uf qF.isSh g456 qF.sz xs (fun x hm lf hlf=>c817 x (hx.2 x hm) lf hlf) left hl hx.1
theorem c818 (x:qH) (hb:x.bd) (left:Nat) (hl:left≤1048576):Pure Gm 818 [x.enc,.int .i64 left] (.int .i64 (z7 x.sz left)):=by
  refine Pure.intro [] [] g818 (by kernel_rfl) rfl (by simp [AV.trees,AV.tree,qH.tr]) rfl ?_;simp only [YX,qP,go_sem];refine qX rfl ?_;simp only [go_sem];unfold qH.bd at hb;refine qK (c455 _ hb _ (by omega)) ?_;simp only [go_sem];refine qN ?_ ?_<;>intro hc<;>simp only [hc,go_sem]
  · have hq:=odT hc;rw [zZ] at hq;exact qJ rfl (by rw [jK (by unfold qH.sz;omega)])
  have hq:=odF hc;rw [zZ] at hq;rw [zi (by omega)];clear hc;exact qJ rfl (by rw [zi (by unfold qH.sz;omega)];unfold qH.sz;first | rfl | (congr 2;omega))
theorem c457 (xs:List qH) (hx:xs.length≤140737488355328∧(∀y∈xs,qH.bd y)) (left:Nat) (hl:left≤1048576):Pure Gm 457 [.lst 6 (xs.map qH.enc) false,.int .i64 left] (.int .i64 (z7 (xs.length+qE qH.sz xs) left)):=
  Uf qH.isSh g457 qH.sz xs (fun x hm lf hlf=>c818 x (hx.2 x hm) lf hlf) left hl hx.1
theorem c152 (x:qG) (hb:x.bd) (left:Nat) (hl:left≤1048576):Pure Gm 152 [x.enc,.int .i64 left] (.int .i64 (z7 x.sz left)):=by
  refine Pure.intro [] [] g152 (by kernel_rfl) rfl (by simp [AV.trees,AV.tree,qG.tr]) rfl ?_;simp only [XL,qP,go_sem];refine qX rfl ?_;simp only [go_sem];unfold qG.bd at hb;refine qK (c455 _ hb.1 _ (by omega)) ?_;simp only [go_sem];refine qN ?_ ?_<;>intro hc<;>simp only [hc,go_sem]
  · have hq:=odT hc;rw [zZ] at hq;exact qJ rfl (by rw [jK (by unfold qG.sz;omega)])
  have hq:=odF hc;rw [zZ] at hq;rw [zi (by omega)];clear hc;refine qK (c456 _ ⟨hb.2.1,hb.2.2.1⟩ _ (by omega)) ?_;simp only [go_sem];refine qN ?_ ?_<;>intro hc<;>simp only [hc,go_sem]
  · have hq:=odT hc;rw [zZ] at hq;exact qJ rfl (by rw [jK (by unfold qG.sz;omega)])
  have hq:=odF hc;rw [zZ] at hq;rw [zi (by omega)];clear hc;refine qK (c457 _ ⟨hb.2.2.2.1,hb.2.2.2.2⟩ _ (by omega)) ?_;simp only [go_sem];refine qN ?_ ?_<;>intro hc<;>simp only [hc,go_sem]
  · have hq:=odT hc;rw [zZ] at hq;exact qJ rfl (by rw [jK (by unfold qG.sz;omega)])
  have hq:=odF hc;rw [zZ] at hq;rw [zi (by omega)];clear hc;exact qJ rfl (by rw [zi (by unfold qG.sz;omega)];unfold qG.sz;first | rfl | (congr 2;omega))
theorem c462 (x:qI) (hz:x.sz≤1048576):Pure Gm 462 [x.enc] x.enc:=by
  refine Pure.intro [] [] g462 (by kernel_rfl) rfl (by simp [AV.trees,qI.tr]) qI.tr ?_;simp only [ZZ,qP,go_sem];refine qX rfl ?_;simp only [go_sem];unfold qI.sz at hz;refine qK (c83 x.Term (by omega)) ?_;simp only [go_sem];refine wR (c':=.agg [.int .i64 x.Term.Kind,.int .i64 x.Term.Value,.lst 1 (x.Term.Data.map qD) false,.lst 4 (x.Term.Kids.map qA.enc) false,.nils]) (by simp [go_sem]) (by rw [qA.enc_eq];rfl) ?_;simp only [go_sem];refine qK (c147 x.Env (by omega)) ?_;simp only [go_sem];refine qe rfl rfl ⟨_,rfl⟩ (by decide) ?_;simp only [go_sem];exact qJ qI.tr rfl
theorem c825 (x:qF) (hz:x.sz≤1048576):Pure Gm 825 [x.enc] x.enc:=by
  refine Pure.intro [] [] g825 (by kernel_rfl) rfl (by simp [AV.trees,qF.tr]) qF.tr ?_;simp only [Zb,qP,go_sem];refine qX rfl ?_;simp only [go_sem];unfold qF.sz at hz;refine qK (c147 x.Data (by omega)) ?_;simp only [go_sem];refine qK (c462 x.Closure (by omega)) ?_;simp only [go_sem];refine wR (c':=.agg [.int .i64 x.Kind,.int .i64 x.Value,.lst 1 (x.Data.map qD) false,.int .i64 x.Closure.Term.Kind,.int .i64 x.Closure.Term.Value,.lst 1 (x.Closure.Term.Data.map qD) false,.lst 4 (x.Closure.Term.Kids.map qA.enc) false,.lst 1 (x.Closure.Env.map qD) false]) rfl rfl ?_;simp only [go_sem];refine qe rfl rfl ⟨_,rfl⟩ (by decide) ?_;simp only [go_sem];exact qJ qF.tr rfl
theorem c463 (xs:List qF) (hl:xs.length+qE qF.sz xs≤1048576):Pure Gm 463 [.lst 8 (xs.map qF.enc) false] (.lst 8 (xs.map qF.enc) false):=
  Ui qF.isSh rfl rfl (by simp) g463 xs (fun x hm=>c825 x (by have:=zQ (f:=qF.sz) hm;omega)) (by omega)
theorem c826 (x:qH) (hz:x.sz≤1048576):Pure Gm 826 [x.enc] x.enc:=by
  refine Pure.intro [] [] g826 (by kernel_rfl) rfl (by simp [AV.trees,qH.tr]) qH.tr ?_;simp only [Zc,qP,go_sem];refine qX rfl ?_;simp only [go_sem];unfold qH.sz at hz;refine qK (c462 x.Closure (by omega)) ?_;simp only [go_sem];refine wR (c':=.agg [.bool x.Done,.int .i64 x.Closure.Term.Kind,.int .i64 x.Closure.Term.Value,.lst 1 (x.Closure.Term.Data.map qD) false,.lst 4 (x.Closure.Term.Kids.map qA.enc) false,.lst 1 (x.Closure.Env.map qD) false]) rfl rfl ?_;simp only [go_sem];refine qe rfl rfl ⟨_,rfl⟩ (by decide) ?_;simp only [go_sem];exact qJ qH.tr rfl
theorem c464 (xs:List qH) (hl:xs.length+qE qH.sz xs≤1048576):Pure Gm 464 [.lst 6 (xs.map qH.enc) false] (.lst 6 (xs.map qH.enc) false):=
  Ui qH.isSh rfl rfl (by simp) g464 xs (fun x hm=>c826 x (by have:=zQ (f:=qH.sz) hm;omega)) (by omega)
theorem c154 (x:qG) (hz:x.sz≤1048576):Pure Gm 154 [x.enc] x.enc:=by
  refine Pure.intro [] [] g154 (by kernel_rfl) rfl (by simp [AV.trees,qG.tr]) qG.tr ?_;simp only [ZX,qP,go_sem];refine qX rfl ?_;simp only [go_sem];unfold qG.sz at hz;refine qK (c462 x.Control (by omega)) ?_;simp only [go_sem];refine wR (c':=.agg [.int .i64 x.Control.Term.Kind,.int .i64 x.Control.Term.Value,.lst 1 (x.Control.Term.Data.map qD) false,.lst 4 (x.Control.Term.Kids.map qA.enc) false,.lst 1 (x.Control.Env.map qD) false,.nils,.nils]) rfl rfl ?_;simp only [go_sem];refine qK (c463 x.Stack (by omega)) ?_;simp only [go_sem];refine qK (c464 x.Heap (by omega)) ?_;simp only [go_sem];refine qe rfl rfl ⟨_,rfl⟩ (by decide) ?_;simp only [go_sem];exact qJ qG.tr rfl
theorem c468 (x:qI) (hz:x.sz≤2097152):Pure Gm 468 [x.enc,x.enc] (.bool true):=by
  refine Pure.intro [] [] g468 (by kernel_rfl) rfl (by simp [AV.trees,qI.tr]) rfl ?_;simp only [Xu,qP,go_sem];refine qX rfl ?_;simp only [go_sem];refine qX rfl ?_;simp only [go_sem];unfold qI.sz at hz;refine qK (c85 _ (by omega)) ?_;simp only [go_sem];refine qK (c86 _ (by omega)) ?_;simp only [go_sem];exact qJ rfl rfl
theorem c831 (x:qF) (hz:x.sz≤2097152):Pure Gm 831 [x.enc,x.enc] (.bool true):=by
  refine Pure.intro [] [] g831 (by kernel_rfl) rfl (by simp [AV.trees,qF.tr]) rfl ?_;simp only [Y6,qP,go_sem];refine qX rfl ?_;simp only [go_sem];refine qX rfl ?_;simp only [go_sem];unfold qF.sz at hz;refine qK (c86 _ (by omega)) ?_;simp only [go_sem];refine qK (c468 _ (by omega)) ?_;simp only [go_sem];exact qJ rfl rfl
theorem c469 (xs:List qF) (hl:xs.length≤2097152) (hz:∀x∈xs,x.sz≤2097152):Pure Gm 469 [.lst 8 (xs.map qF.enc) false,.lst 8 (xs.map qF.enc) false] (.bool true):=
  Vf qF.isSh g469 xs (fun x hm=>c831 x (hz x hm)) (by omega)
theorem c832 (x:qH) (hz:x.sz≤2097152):Pure Gm 832 [x.enc,x.enc] (.bool true):=by
  refine Pure.intro [] [] g832 (by kernel_rfl) rfl (by simp [AV.trees,qH.tr]) rfl ?_;simp only [Y7,qP,go_sem];refine qX rfl ?_;simp only [go_sem];refine qX rfl ?_;simp only [go_sem];simp only [beq_self_eq_true,Bool.not_true,go_sem];unfold qH.sz at hz;refine qK (c468 _ (by omega)) ?_;simp only [go_sem];exact qJ rfl rfl
theorem c470 (xs:List qH) (hl:xs.length≤2097152) (hz:∀x∈xs,x.sz≤2097152):Pure Gm 470 [.lst 6 (xs.map qH.enc) false,.lst 6 (xs.map qH.enc) false] (.bool true):=
  Vf qH.isSh g470 xs (fun x hm=>c832 x (hz x hm)) (by omega)
theorem c156 (x:qG) (hc:x.Control.sz≤2097152) (h1:x.Stack.length≤2097152) (h2:∀y∈x.Stack,y.sz≤2097152) (h3:x.Heap.length≤2097152) (h4:∀y∈x.Heap,y.sz≤2097152):Pure Gm 156 [x.enc,x.enc] (.bool true):=by
  refine Pure.intro [] [] g156 (by kernel_rfl) rfl (by simp [AV.trees,qG.tr]) rfl ?_;simp only [XS,qP,go_sem];refine qX rfl ?_;simp only [go_sem];refine qX rfl ?_;simp only [go_sem];refine qK (c468 _ hc) ?_;simp only [go_sem];refine qK (c469 _ h1 h2) ?_;simp only [go_sem];refine qK (c470 _ h3 h4) ?_;simp only [go_sem];exact qJ rfl rfl
end Go.Ab
namespace Go.Ab
open Go
set_option maxRecDepth 10000
set_option maxHeartbeats 2000000
theorem qA.pK {a b:Int} {c:List Int} {d:List qA}:(qA.mk a b c d).Kind=a:=rfl
theorem qA.pV {a b:Int} {c:List Int} {d:List qA}:(qA.mk a b c d).Value=b:=rfl
theorem qA.pD {a b:Int} {c:List Int} {d:List qA}:(qA.mk a b c d).Data=c:=rfl
theorem qA.pC {a b:Int} {c:List Int} {d:List qA}:(qA.mk a b c d).Kids=d:=rfl
theorem qI.plx (x:qI):x.enc.pl=true:=by simp [qI.enc,AV.pl,AV.pls,zJ (enc:=qD) (fun _=>rfl),zJ qA.plx]
theorem qI.cnx (x:qI):x.enc.cn=true:=by simp [qI.enc,AV.cn,AV.cns,jg (enc:=qD) (fun _=>rfl),jg qA.cnx]
theorem qI.layE (x:qI) (n:Nat):lay x.enc n=(.agg [.int .i64 x.Term.Kind,.int .i64 x.Term.Value,.slice 1 (n) 0 x.Term.Data.length false,.slice 4 (n+AV.rows (.lst 1 (x.Term.Data.map qD) false)) 0 x.Term.Kids.length false,.slice 1 (n+AV.rows (.lst 1 (x.Term.Data.map qD) false)+AV.rows (.lst 4 (x.Term.Kids.map qA.enc) false)) 0 x.Env.length false],(lay (.lst 1 (x.Term.Data.map qD) false) (n)).2++((lay (.lst 4 (x.Term.Kids.map qA.enc) false) (n+AV.rows (.lst 1 (x.Term.Data.map qD) false))).2++((lay (.lst 1 (x.Env.map qD) false) (n+AV.rows (.lst 1 (x.Term.Data.map qD) false)+AV.rows (.lst 4 (x.Term.Kids.map qA.enc) false))).2++[]))):=by
  simp [qI.enc,lay,qS,zP,AV.rows,Nat.add_assoc,Nat.add_comm,Nat.add_left_comm]
theorem qI.rowsE (x:qI):x.enc.rows=AV.rows (.lst 1 (x.Term.Data.map qD) false)+AV.rows (.lst 4 (x.Term.Kids.map qA.enc) false)+AV.rows (.lst 1 (x.Env.map qD) false):=by simp [qI.enc,AV.rows,AV.rowss,Nat.add_assoc]
def qI.mrk (x:qI) (k:Int):qI:={Term:=.mk (k) (k+1) (mkL mkI ctI x.Term.Data (k+1+1)) (mkL qA.mrk qA.ct x.Term.Kids (k+1+1+((qE ctI x.Term.Data:Nat):Int))),Env:=mkL mkI ctI x.Env (k+1+1+((qE ctI x.Term.Data:Nat):Int)+((qE qA.ct x.Term.Kids:Nat):Int))}
def qI.ct (x:qI):Nat:=1+1+qE ctI x.Term.Data+qE qA.ct x.Term.Kids+qE ctI x.Env
def qI.mkV (x:qI) (k:Int):qI:={Term:=.mk (x.Term.Kind) (x.Term.Value) (mkL mkI ctI x.Term.Data (k)) (mkL qA.mrk qA.ct x.Term.Kids (k+((qE ctI x.Term.Data:Nat):Int))),Env:=mkL mkI ctI x.Env (k+((qE ctI x.Term.Data:Nat):Int)+((qE qA.ct x.Term.Kids:Nat):Int))}
def qI.ctV (x:qI):Nat:=qE ctI x.Term.Data+qE qA.ct x.Term.Kids+qE ctI x.Env
theorem qI.rowsM (x:qI) (k:Int):(x.mrk k).enc.rows=x.enc.rows:=by simp [qI.rowsE,qI.mrk,AV.rows,qA.pK,qA.pV,qA.pD,qA.pC,qT qA.mrk qA.ct (enc:=qA.enc) qA.rowsM,qT mkI ctI (enc:=qD) (fun _ _=>rfl)]
theorem qI.rowsV (x:qI) (k:Int):(x.mkV k).enc.rows=x.enc.rows:=by simp [qI.rowsE,qI.mkV,AV.rows,qA.pK,qA.pV,qA.pD,qA.pC,qT qA.mrk qA.ct (enc:=qA.enc) qA.rowsM,qT mkI ctI (enc:=qD) (fun _ _=>rfl)]
theorem qI.ctle (x:qI):x.ct≤16+16*x.sz:=by
  have h0:=jE (c:=ctI) (fun _=>by simp [ctI]) x.Term.Data;have h1:=jT (c:=qA.ct) (z:=qA.sz) qA.ctle x.Term.Kids;have h2:=jE (c:=ctI) (fun _=>by simp [ctI]) x.Env;simp only [qI.ct,qI.sz,qA.sz_eq];omega
theorem qI.ctVle (x:qI):x.ctV≤16*x.sz:=by
  have h0:=jE (c:=ctI) (fun _=>by simp [ctI]) x.Term.Data;have h1:=jT (c:=qA.ct) (z:=qA.sz) qA.ctle x.Term.Kids;have h2:=jE (c:=ctI) (fun _=>by simp [ctI]) x.Env;simp only [qI.ctV,qI.sz,qA.sz_eq];omega
theorem qF.plx (x:qF):x.enc.pl=true:=by simp [qF.enc,AV.pl,AV.pls,zJ (enc:=qD) (fun _=>rfl),zJ qA.plx]
theorem qF.cnx (x:qF):x.enc.cn=true:=by simp [qF.enc,AV.cn,AV.cns,jg (enc:=qD) (fun _=>rfl),jg qA.cnx]
theorem qF.layE (x:qF) (n:Nat):lay x.enc n=(.agg [.int .i64 x.Kind,.int .i64 x.Value,.slice 1 (n) 0 x.Data.length false,.int .i64 x.Closure.Term.Kind,.int .i64 x.Closure.Term.Value,.slice 1 (n+AV.rows (.lst 1 (x.Data.map qD) false)) 0 x.Closure.Term.Data.length false,.slice 4 (n+AV.rows (.lst 1 (x.Data.map qD) false)+AV.rows (.lst 1 (x.Closure.Term.Data.map qD) false)) 0 x.Closure.Term.Kids.length false,.slice 1 (n+AV.rows (.lst 1 (x.Data.map qD) false)+AV.rows (.lst 1 (x.Closure.Term.Data.map qD) false)+AV.rows (.lst 4 (x.Closure.Term.Kids.map qA.enc) false)) 0 x.Closure.Env.length false],(lay (.lst 1 (x.Data.map qD) false) (n)).2++((lay (.lst 1 (x.Closure.Term.Data.map qD) false) (n+AV.rows (.lst 1 (x.Data.map qD) false))).2++((lay (.lst 4 (x.Closure.Term.Kids.map qA.enc) false) (n+AV.rows (.lst 1 (x.Data.map qD) false)+AV.rows (.lst 1 (x.Closure.Term.Data.map qD) false))).2++((lay (.lst 1 (x.Closure.Env.map qD) false) (n+AV.rows (.lst 1 (x.Data.map qD) false)+AV.rows (.lst 1 (x.Closure.Term.Data.map qD) false)+AV.rows (.lst 4 (x.Closure.Term.Kids.map qA.enc) false))).2++[])))):=by
  simp [qF.enc,lay,qS,zP,AV.rows,Nat.add_assoc,Nat.add_comm,Nat.add_left_comm]
theorem qF.rowsE (x:qF):x.enc.rows=AV.rows (.lst 1 (x.Data.map qD) false)+AV.rows (.lst 1 (x.Closure.Term.Data.map qD) false)+AV.rows (.lst 4 (x.Closure.Term.Kids.map qA.enc) false)+AV.rows (.lst 1 (x.Closure.Env.map qD) false):=by simp [qF.enc,AV.rows,AV.rowss,Nat.add_assoc]
def qF.mrk (x:qF) (k:Int):qF:={Kind:=k,Value:=k+1,Data:=mkL mkI ctI x.Data (k+1+1),Closure:={Term:=.mk (k+1+1+((qE ctI x.Data:Nat):Int)) (k+1+1+((qE ctI x.Data:Nat):Int)+1) (mkL mkI ctI x.Closure.Term.Data (k+1+1+((qE ctI x.Data:Nat):Int)+1+1)) (mkL qA.mrk qA.ct x.Closure.Term.Kids (k+1+1+((qE ctI x.Data:Nat):Int)+1+1+((qE ctI x.Closure.Term.Data:Nat):Int))),Env:=mkL mkI ctI x.Closure.Env (k+1+1+((qE ctI x.Data:Nat):Int)+1+1+((qE ctI x.Closure.Term.Data:Nat):Int)+((qE qA.ct x.Closure.Term.Kids:Nat):Int))}}
def qF.ct (x:qF):Nat:=1+1+qE ctI x.Data+1+1+qE ctI x.Closure.Term.Data+qE qA.ct x.Closure.Term.Kids+qE ctI x.Closure.Env
def qF.mkV (x:qF) (k:Int):qF:={Kind:=x.Kind,Value:=x.Value,Data:=mkL mkI ctI x.Data (k),Closure:={Term:=.mk (x.Closure.Term.Kind) (x.Closure.Term.Value) (mkL mkI ctI x.Closure.Term.Data (k+((qE ctI x.Data:Nat):Int))) (mkL qA.mrk qA.ct x.Closure.Term.Kids (k+((qE ctI x.Data:Nat):Int)+((qE ctI x.Closure.Term.Data:Nat):Int))),Env:=mkL mkI ctI x.Closure.Env (k+((qE ctI x.Data:Nat):Int)+((qE ctI x.Closure.Term.Data:Nat):Int)+((qE qA.ct x.Closure.Term.Kids:Nat):Int))}}
def qF.ctV (x:qF):Nat:=qE ctI x.Data+qE ctI x.Closure.Term.Data+qE qA.ct x.Closure.Term.Kids+qE ctI x.Closure.Env
theorem qF.rowsM (x:qF) (k:Int):(x.mrk k).enc.rows=x.enc.rows:=by simp [qF.rowsE,qF.mrk,AV.rows,qA.pK,qA.pV,qA.pD,qA.pC,qT qA.mrk qA.ct (enc:=qA.enc) qA.rowsM,qT mkI ctI (enc:=qD) (fun _ _=>rfl)]
theorem qF.rowsV (x:qF) (k:Int):(x.mkV k).enc.rows=x.enc.rows:=by simp [qF.rowsE,qF.mkV,AV.rows,qA.pK,qA.pV,qA.pD,qA.pC,qT qA.mrk qA.ct (enc:=qA.enc) qA.rowsM,qT mkI ctI (enc:=qD) (fun _ _=>rfl)]
theorem qF.ctle (x:qF):x.ct≤16+16*x.sz:=by
  have h0:=jE (c:=ctI) (fun _=>by simp [ctI]) x.Data;have h1:=jE (c:=ctI) (fun _=>by simp [ctI]) x.Closure.Term.Data;have h2:=jT (c:=qA.ct) (z:=qA.sz) qA.ctle x.Closure.Term.Kids;have h3:=jE (c:=ctI) (fun _=>by simp [ctI]) x.Closure.Env;simp only [qF.ct,qF.sz,qI.sz,qA.sz_eq];omega
theorem qF.ctVle (x:qF):x.ctV≤16*x.sz:=by
  have h0:=jE (c:=ctI) (fun _=>by simp [ctI]) x.Data;have h1:=jE (c:=ctI) (fun _=>by simp [ctI]) x.Closure.Term.Data;have h2:=jT (c:=qA.ct) (z:=qA.sz) qA.ctle x.Closure.Term.Kids;have h3:=jE (c:=ctI) (fun _=>by simp [ctI]) x.Closure.Env;simp only [qF.ctV,qF.sz,qI.sz,qA.sz_eq];omega
theorem qH.plx (x:qH):x.enc.pl=true:=by simp [qH.enc,AV.pl,AV.pls,zJ (enc:=qD) (fun _=>rfl),zJ qA.plx]
theorem qH.cnx (x:qH):x.enc.cn=true:=by simp [qH.enc,AV.cn,AV.cns,jg (enc:=qD) (fun _=>rfl),jg qA.cnx]
theorem qH.layE (x:qH) (n:Nat):lay x.enc n=(.agg [.bool x.Done,.int .i64 x.Closure.Term.Kind,.int .i64 x.Closure.Term.Value,.slice 1 (n) 0 x.Closure.Term.Data.length false,.slice 4 (n+AV.rows (.lst 1 (x.Closure.Term.Data.map qD) false)) 0 x.Closure.Term.Kids.length false,.slice 1 (n+AV.rows (.lst 1 (x.Closure.Term.Data.map qD) false)+AV.rows (.lst 4 (x.Closure.Term.Kids.map qA.enc) false)) 0 x.Closure.Env.length false],(lay (.lst 1 (x.Closure.Term.Data.map qD) false) (n)).2++((lay (.lst 4 (x.Closure.Term.Kids.map qA.enc) false) (n+AV.rows (.lst 1 (x.Closure.Term.Data.map qD) false))).2++((lay (.lst 1 (x.Closure.Env.map qD) false) (n+AV.rows (.lst 1 (x.Closure.Term.Data.map qD) false)+AV.rows (.lst 4 (x.Closure.Term.Kids.map qA.enc) false))).2++[]))):=by
  simp [qH.enc,lay,qS,zP,AV.rows,Nat.add_assoc,Nat.add_comm,Nat.add_left_comm]
theorem qH.rowsE (x:qH):x.enc.rows=AV.rows (.lst 1 (x.Closure.Term.Data.map qD) false)+AV.rows (.lst 4 (x.Closure.Term.Kids.map qA.enc) false)+AV.rows (.lst 1 (x.Closure.Env.map qD) false):=by simp [qH.enc,AV.rows,AV.rowss,Nat.add_assoc]
def qH.mrk (x:qH) (k:Int):qH:={Done:=decide ((k).tmod 3=0),Closure:={Term:=.mk (k+1) (k+1+1) (mkL mkI ctI x.Closure.Term.Data (k+1+1+1)) (mkL qA.mrk qA.ct x.Closure.Term.Kids (k+1+1+1+((qE ctI x.Closure.Term.Data:Nat):Int))),Env:=mkL mkI ctI x.Closure.Env (k+1+1+1+((qE ctI x.Closure.Term.Data:Nat):Int)+((qE qA.ct x.Closure.Term.Kids:Nat):Int))}}
def qH.ct (x:qH):Nat:=1+1+1+qE ctI x.Closure.Term.Data+qE qA.ct x.Closure.Term.Kids+qE ctI x.Closure.Env
def qH.mkV (x:qH) (k:Int):qH:={Done:=x.Done,Closure:={Term:=.mk (x.Closure.Term.Kind) (x.Closure.Term.Value) (mkL mkI ctI x.Closure.Term.Data (k)) (mkL qA.mrk qA.ct x.Closure.Term.Kids (k+((qE ctI x.Closure.Term.Data:Nat):Int))),Env:=mkL mkI ctI x.Closure.Env (k+((qE ctI x.Closure.Term.Data:Nat):Int)+((qE qA.ct x.Closure.Term.Kids:Nat):Int))}}
def qH.ctV (x:qH):Nat:=qE ctI x.Closure.Term.Data+qE qA.ct x.Closure.Term.Kids+qE ctI x.Closure.Env
theorem qH.rowsM (x:qH) (k:Int):(x.mrk k).enc.rows=x.enc.rows:=by simp [qH.rowsE,qH.mrk,AV.rows,qA.pK,qA.pV,qA.pD,qA.pC,qT qA.mrk qA.ct (enc:=qA.enc) qA.rowsM,qT mkI ctI (enc:=qD) (fun _ _=>rfl)]
theorem qH.rowsV (x:qH) (k:Int):(x.mkV k).enc.rows=x.enc.rows:=by simp [qH.rowsE,qH.mkV,AV.rows,qA.pK,qA.pV,qA.pD,qA.pC,qT qA.mrk qA.ct (enc:=qA.enc) qA.rowsM,qT mkI ctI (enc:=qD) (fun _ _=>rfl)]
theorem qH.ctle (x:qH):x.ct≤16+16*x.sz:=by
  have h0:=jE (c:=ctI) (fun _=>by simp [ctI]) x.Closure.Term.Data;have h1:=jT (c:=qA.ct) (z:=qA.sz) qA.ctle x.Closure.Term.Kids;have h2:=jE (c:=ctI) (fun _=>by simp [ctI]) x.Closure.Env;simp only [qH.ct,qH.sz,qI.sz,qA.sz_eq];omega
theorem qH.ctVle (x:qH):x.ctV≤16*x.sz:=by
  have h0:=jE (c:=ctI) (fun _=>by simp [ctI]) x.Closure.Term.Data;have h1:=jT (c:=qA.ct) (z:=qA.sz) qA.ctle x.Closure.Term.Kids;have h2:=jE (c:=ctI) (fun _=>by simp [ctI]) x.Closure.Env;simp only [qH.ctV,qH.sz,qI.sz,qA.sz_eq];omega
theorem qG.plx (x:qG):x.enc.pl=true:=by simp [qG.enc,AV.pl,AV.pls,zJ (enc:=qD) (fun _=>rfl),zJ qA.plx,zJ qF.plx,zJ qH.plx]
theorem qG.cnx (x:qG):x.enc.cn=true:=by simp [qG.enc,AV.cn,AV.cns,jg (enc:=qD) (fun _=>rfl),jg qA.cnx,jg qF.cnx,jg qH.cnx]
theorem qG.layE (x:qG) (n:Nat):lay x.enc n=(.agg [.int .i64 x.Control.Term.Kind,.int .i64 x.Control.Term.Value,.slice 1 (n) 0 x.Control.Term.Data.length false,.slice 4 (n+AV.rows (.lst 1 (x.Control.Term.Data.map qD) false)) 0 x.Control.Term.Kids.length false,.slice 1 (n+AV.rows (.lst 1 (x.Control.Term.Data.map qD) false)+AV.rows (.lst 4 (x.Control.Term.Kids.map qA.enc) false)) 0 x.Control.Env.length false,.slice 8 (n+AV.rows (.lst 1 (x.Control.Term.Data.map qD) false)+AV.rows (.lst 4 (x.Control.Term.Kids.map qA.enc) false)+AV.rows (.lst 1 (x.Control.Env.map qD) false)) 0 x.Stack.length false,.slice 6 (n+AV.rows (.lst 1 (x.Control.Term.Data.map qD) false)+AV.rows (.lst 4 (x.Control.Term.Kids.map qA.enc) false)+AV.rows (.lst 1 (x.Control.Env.map qD) false)+AV.rows (.lst 8 (x.Stack.map qF.enc) false)) 0 x.Heap.length false],(lay (.lst 1 (x.Control.Term.Data.map qD) false) (n)).2++((lay (.lst 4 (x.Control.Term.Kids.map qA.enc) false) (n+AV.rows (.lst 1 (x.Control.Term.Data.map qD) false))).2++((lay (.lst 1 (x.Control.Env.map qD) false) (n+AV.rows (.lst 1 (x.Control.Term.Data.map qD) false)+AV.rows (.lst 4 (x.Control.Term.Kids.map qA.enc) false))).2++((lay (.lst 8 (x.Stack.map qF.enc) false) (n+AV.rows (.lst 1 (x.Control.Term.Data.map qD) false)+AV.rows (.lst 4 (x.Control.Term.Kids.map qA.enc) false)+AV.rows (.lst 1 (x.Control.Env.map qD) false))).2++((lay (.lst 6 (x.Heap.map qH.enc) false) (n+AV.rows (.lst 1 (x.Control.Term.Data.map qD) false)+AV.rows (.lst 4 (x.Control.Term.Kids.map qA.enc) false)+AV.rows (.lst 1 (x.Control.Env.map qD) false)+AV.rows (.lst 8 (x.Stack.map qF.enc) false))).2++[]))))):=by
  simp [qG.enc,lay,qS,zP,AV.rows,Nat.add_assoc,Nat.add_comm,Nat.add_left_comm]
theorem qG.rowsE (x:qG):x.enc.rows=AV.rows (.lst 1 (x.Control.Term.Data.map qD) false)+AV.rows (.lst 4 (x.Control.Term.Kids.map qA.enc) false)+AV.rows (.lst 1 (x.Control.Env.map qD) false)+AV.rows (.lst 8 (x.Stack.map qF.enc) false)+AV.rows (.lst 6 (x.Heap.map qH.enc) false):=by simp [qG.enc,AV.rows,AV.rowss,Nat.add_assoc]
def qG.mrk (x:qG) (k:Int):qG:={Control:={Term:=.mk (k) (k+1) (mkL mkI ctI x.Control.Term.Data (k+1+1)) (mkL qA.mrk qA.ct x.Control.Term.Kids (k+1+1+((qE ctI x.Control.Term.Data:Nat):Int))),Env:=mkL mkI ctI x.Control.Env (k+1+1+((qE ctI x.Control.Term.Data:Nat):Int)+((qE qA.ct x.Control.Term.Kids:Nat):Int))},Stack:=mkL qF.mrk qF.ct x.Stack (k+1+1+((qE ctI x.Control.Term.Data:Nat):Int)+((qE qA.ct x.Control.Term.Kids:Nat):Int)+((qE ctI x.Control.Env:Nat):Int)),Heap:=mkL qH.mrk qH.ct x.Heap (k+1+1+((qE ctI x.Control.Term.Data:Nat):Int)+((qE qA.ct x.Control.Term.Kids:Nat):Int)+((qE ctI x.Control.Env:Nat):Int)+((qE qF.ct x.Stack:Nat):Int))}
def qG.ct (x:qG):Nat:=1+1+qE ctI x.Control.Term.Data+qE qA.ct x.Control.Term.Kids+qE ctI x.Control.Env+qE qF.ct x.Stack+qE qH.ct x.Heap
def qG.mkV (x:qG) (k:Int):qG:={Control:={Term:=.mk (x.Control.Term.Kind) (x.Control.Term.Value) (mkL mkI ctI x.Control.Term.Data (k)) (mkL qA.mrk qA.ct x.Control.Term.Kids (k+((qE ctI x.Control.Term.Data:Nat):Int))),Env:=mkL mkI ctI x.Control.Env (k+((qE ctI x.Control.Term.Data:Nat):Int)+((qE qA.ct x.Control.Term.Kids:Nat):Int))},Stack:=mkL qF.mrk qF.ct x.Stack (k+((qE ctI x.Control.Term.Data:Nat):Int)+((qE qA.ct x.Control.Term.Kids:Nat):Int)+((qE ctI x.Control.Env:Nat):Int)),Heap:=mkL qH.mrk qH.ct x.Heap (k+((qE ctI x.Control.Term.Data:Nat):Int)+((qE qA.ct x.Control.Term.Kids:Nat):Int)+((qE ctI x.Control.Env:Nat):Int)+((qE qF.ct x.Stack:Nat):Int))}
def qG.ctV (x:qG):Nat:=qE ctI x.Control.Term.Data+qE qA.ct x.Control.Term.Kids+qE ctI x.Control.Env+qE qF.ct x.Stack+qE qH.ct x.Heap
theorem qG.rowsM (x:qG) (k:Int):(x.mrk k).enc.rows=x.enc.rows:=by simp [qG.rowsE,qG.mrk,AV.rows,qA.pK,qA.pV,qA.pD,qA.pC,qT qA.mrk qA.ct (enc:=qA.enc) qA.rowsM,qT qF.mrk qF.ct (enc:=qF.enc) qF.rowsM,qT qH.mrk qH.ct (enc:=qH.enc) qH.rowsM,qT mkI ctI (enc:=qD) (fun _ _=>rfl)]
theorem qG.rowsV (x:qG) (k:Int):(x.mkV k).enc.rows=x.enc.rows:=by simp [qG.rowsE,qG.mkV,AV.rows,qA.pK,qA.pV,qA.pD,qA.pC,qT qA.mrk qA.ct (enc:=qA.enc) qA.rowsM,qT qF.mrk qF.ct (enc:=qF.enc) qF.rowsM,qT qH.mrk qH.ct (enc:=qH.enc) qH.rowsM,qT mkI ctI (enc:=qD) (fun _ _=>rfl)]
theorem qG.ctle (x:qG):x.ct≤16+16*x.sz:=by
  have h0:=jE (c:=ctI) (fun _=>by simp [ctI]) x.Control.Term.Data;have h1:=jT (c:=qA.ct) (z:=qA.sz) qA.ctle x.Control.Term.Kids;have h2:=jE (c:=ctI) (fun _=>by simp [ctI]) x.Control.Env;have h3:=jT (c:=qF.ct) (z:=qF.sz) qF.ctle x.Stack;have h4:=jT (c:=qH.ct) (z:=qH.sz) qH.ctle x.Heap;simp only [qG.ct,qG.sz,qI.sz,qA.sz_eq];omega
theorem qG.ctVle (x:qG):x.ctV≤16*x.sz:=by
  have h0:=jE (c:=ctI) (fun _=>by simp [ctI]) x.Control.Term.Data;have h1:=jT (c:=qA.ct) (z:=qA.sz) qA.ctle x.Control.Term.Kids;have h2:=jE (c:=ctI) (fun _=>by simp [ctI]) x.Control.Env;have h3:=jT (c:=qF.ct) (z:=qF.sz) qF.ctle x.Stack;have h4:=jT (c:=qH.ct) (z:=qH.sz) qH.ctle x.Heap;simp only [qG.ctV,qG.sz,qI.sz,qA.sz_eq];omega
theorem n462 (x:qI) (hz:x.sz≤1048576):Fresh Gm 462 [x.enc] x.enc:=by
  refine Fresh.intro [] [] g462 (by kernel_rfl) rfl (by simp [AV.trees,qI.tr]) (qI.plx x) ?_;simp only [ZZ,qP,go_sem];refine qX rfl ?_;simp only [go_sem];unfold qI.sz at hz;refine zn (n83 x.Term (by omega)) ?_;simp only [go_sem,qA.layE];refine wR rfl rfl ?_;simp only [go_sem,List.take_succ_cons,List.take_zero,List.drop_succ_cons,List.drop_zero,List.cons_append,List.nil_append];refine zn (n147 x.Env (by omega)) ?_;simp only [go_sem,zU];refine qe rfl rfl ⟨_,rfl⟩ (by decide) ?_;simp only [go_sem];exact jx (pre:=[]) (post:=[]) (qI.plx x) (by simp [q9,qI.layE,qV,Nat.add_assoc,qA.layE,qA.rowsE]) (by simp [qI.layE,qV,Nat.add_assoc,qA.layE,qA.rowsE])
theorem n825 (x:qF) (hz:x.sz≤1048576):Fresh Gm 825 [x.enc] x.enc:=by
  refine Fresh.intro [] [] g825 (by kernel_rfl) rfl (by simp [AV.trees,qF.tr]) (qF.plx x) ?_;simp only [Zb,qP,go_sem];refine qX rfl ?_;simp only [go_sem];unfold qF.sz at hz;refine zn (n147 x.Data (by omega)) ?_;simp only [go_sem,zU];refine zn (n462 x.Closure (by omega)) ?_;simp only [go_sem,qI.layE];refine wR rfl rfl ?_;simp only [go_sem,List.take_succ_cons,List.take_zero,List.drop_succ_cons,List.drop_zero,List.cons_append,List.nil_append];refine qe rfl rfl ⟨_,rfl⟩ (by decide) ?_;simp only [go_sem];exact jx (pre:=[]) (post:=[]) (qF.plx x) (by simp [q9,qF.layE,qV,Nat.add_assoc,qI.layE,qI.rowsE]) (by simp [qF.layE,qV,Nat.add_assoc,qI.layE,qI.rowsE])
theorem n463 (xs:List qF) (hl:xs.length+qE qF.sz xs≤1048576):Fresh Gm 463 [.lst 8 (xs.map qF.enc) false] (.lst 8 (xs.map qF.enc) false):=
  Uh qF.isSh qF.plx rfl rfl (by simp) g463 xs (fun x hm=>n825 x (by have:=zQ (f:=qF.sz) hm;omega)) (by omega)
theorem n826 (x:qH) (hz:x.sz≤1048576):Fresh Gm 826 [x.enc] x.enc:=by
  refine Fresh.intro [] [] g826 (by kernel_rfl) rfl (by simp [AV.trees,qH.tr]) (qH.plx x) ?_;simp only [Zc,qP,go_sem];refine qX rfl ?_;simp only [go_sem];unfold qH.sz at hz;refine zn (n462 x.Closure (by omega)) ?_;simp only [go_sem,qI.layE];refine wR rfl rfl ?_;simp only [go_sem,List.take_succ_cons,List.take_zero,List.drop_succ_cons,List.drop_zero,List.cons_append,List.nil_append];refine qe rfl rfl ⟨_,rfl⟩ (by decide) ?_;simp only [go_sem];exact jx (pre:=[]) (post:=[]) (qH.plx x) (by simp [q9,qH.layE,qV,Nat.add_assoc,qI.layE,qI.rowsE]) (by simp [qH.layE,qV,Nat.add_assoc,qI.layE,qI.rowsE])
theorem n464 (xs:List qH) (hl:xs.length+qE qH.sz xs≤1048576):Fresh Gm 464 [.lst 6 (xs.map qH.enc) false] (.lst 6 (xs.map qH.enc) false):=
  Uh qH.isSh qH.plx rfl rfl (by simp) g464 xs (fun x hm=>n826 x (by have:=zQ (f:=qH.sz) hm;omega)) (by omega)
theorem n154 (x:qG) (hz:x.sz≤1048576):Fresh Gm 154 [x.enc] x.enc:=by
  refine Fresh.intro [] [] g154 (by kernel_rfl) rfl (by simp [AV.trees,qG.tr]) (qG.plx x) ?_;simp only [ZX,qP,go_sem];refine qX rfl ?_;simp only [go_sem];unfold qG.sz at hz;refine zn (n462 x.Control (by omega)) ?_;simp only [go_sem,qI.layE];refine wR rfl rfl ?_;simp only [go_sem,List.take_succ_cons,List.take_zero,List.drop_succ_cons,List.drop_zero,List.cons_append,List.nil_append];refine zn (n463 x.Stack (by omega)) ?_;simp only [go_sem,zU];refine zn (n464 x.Heap (by omega)) ?_;simp only [go_sem,zU];refine qe rfl rfl ⟨_,rfl⟩ (by decide) ?_;simp only [go_sem];exact jx (pre:=[]) (post:=[]) (qG.plx x) (by simp [q9,qG.layE,qV,Nat.add_assoc,qI.layE,qI.rowsE]) (by simp [qG.layE,qV,Nat.add_assoc,qI.layE,qI.rowsE])
def qG.le (x:qG):Prop:=x.Control.sz≤4194304∧x.Stack.length≤4194304∧(∀y∈x.Stack,y.sz≤4194304)∧x.Heap.length≤4194304∧∀y∈x.Heap,y.sz≤4194304
theorem k471 (x:qI) (k:Int) (h0:0≤k) (hk:k+(x.ctV:Nat)≤4611686018427387904) (hz:x.sz≤4194304):Mark Gm 471 x.enc (x.mkV k).enc k (k+(x.ctV:Nat)):=by
  refine Mark.intro g471 (by kernel_rfl) rfl (qI.plx x) (qI.plx _) (qI.rowsV x k) ?_;rw [qI.layE,qI.layE];simp only [Xv,qP,go_sem,Nat.reduceEqDiff,reduceIte,Nat.reduceAdd,nZa];refine qX rfl ?_;simp only [go_sem,Nat.reduceEqDiff,reduceIte,Nat.reduceAdd,nZa];unfold qI.ctV at hk;simp only [qI.sz,qA.sz_eq] at hz;refine z0 (n:=0) (pre:=[]) (post:=(lay (.lst 1 (x.Env.map qD) false) (AV.rows (.lst 1 (x.Term.Data.map qD) false)+AV.rows (.lst 4 (x.Term.Kids.map qA.enc) false))).2++[]) (t:=x.Term.enc) (t':=(x.Term.mkV (k)).enc) (k89 x.Term (k) (by omega) (by simp only [qA.ctV];omega) (by simp only [qA.sz_eq];omega)) ?_ ?_ ?_ ?_
  · first | rfl | (simp only [lAp,lNi,qV,AV.rows,qT qA.mrk qA.ct (enc:=qA.enc) qA.rowsM,qT mkI ctI (enc:=qD) (fun _ _=>rfl)];done) | (simp only [lAp,lNi,qV,AV.rows,qT qA.mrk qA.ct (enc:=qA.enc) qA.rowsM,qT mkI ctI (enc:=qD) (fun _ _=>rfl)];omega)
  · first | rfl | (simp only [qA.layE,qA.pK,qA.pV,qA.pD,qA.pC,nZa,lAa,List.nil_append,lAn];done) | (simp only [lAa,List.nil_append,lAn,AV.rows,qT qA.mrk qA.ct (enc:=qA.enc) qA.rowsM,qT mkI ctI (enc:=qD) (fun _ _=>rfl),qT qF.mrk qF.ct (enc:=qF.enc) qF.rowsM,qT qH.mrk qH.ct (enc:=qH.enc) qH.rowsM];done)
  · simp only [qA.layE,qA.pK,qA.pV,qA.pD,qA.pC,nZa]
  simp only [qA.layE,qA.mkV,qA.ctV,qA.pK,qA.pV,qA.pD,qA.pC,Int.natCast_add,←Int.add_assoc,lAa,List.nil_append,lAn,go_sem,Nat.reduceEqDiff,reduceIte,Nat.reduceAdd,nZa];refine z0 (n:=AV.rows (.lst 1 (x.Term.Data.map qD) false)+AV.rows (.lst 4 (x.Term.Kids.map qA.enc) false)) (pre:=(lay (.lst 1 ((mkL mkI ctI x.Term.Data (k)).map qD) false) (0)).2++(lay (.lst 4 ((mkL qA.mrk qA.ct x.Term.Kids (k+((qE ctI x.Term.Data:Nat):Int))).map qA.enc) false) (AV.rows (.lst 1 (x.Term.Data.map qD) false))).2) (post:=[]) (t:=(.lst 1 (x.Env.map qD) false)) (t':=(.lst 1 ((mkL mkI ctI x.Env (k+((qE ctI x.Term.Data:Nat):Int)+((qE qA.ct x.Term.Kids:Nat):Int))).map qD) false)) (k90 x.Env (k+((qE ctI x.Term.Data:Nat):Int)+((qE qA.ct x.Term.Kids:Nat):Int)) (by omega) (by omega) (by omega)) ?_ ?_ (by rw [zU,lMp]) ?_
  · first | rfl | (simp only [lAp,lNi,qV,AV.rows,qT qA.mrk qA.ct (enc:=qA.enc) qA.rowsM,qT mkI ctI (enc:=qD) (fun _ _=>rfl)];done) | (simp only [lAp,lNi,qV,AV.rows,qT qA.mrk qA.ct (enc:=qA.enc) qA.rowsM,qT mkI ctI (enc:=qD) (fun _ _=>rfl)];omega)
  · first | rfl | (simp only [lAa,List.nil_append,lAn];done) | (simp only [lAa,List.nil_append,lAn,AV.rows,qT qA.mrk qA.ct (enc:=qA.enc) qA.rowsM,qT mkI ctI (enc:=qD) (fun _ _=>rfl),qT qF.mrk qF.ct (enc:=qF.enc) qF.rowsM,qT qH.mrk qH.ct (enc:=qH.enc) qH.rowsM];done)
  simp only [lAa,List.nil_append,lAn,go_sem,Nat.reduceEqDiff,reduceIte,Nat.reduceAdd,nZa];refine JM (by first | rfl | (simp only [qI.ctV];done) | (simp only [qI.ctV];omega)) ?_;simp only [qI.mkV,AV.rows,qA.pK,qA.pV,qA.pD,qA.pC,nZa,lAa,List.nil_append,lAn,qT qA.mrk qA.ct (enc:=qA.enc) qA.rowsM,qT mkI ctI (enc:=qD) (fun _ _=>rfl)]
theorem k472 (xs:List qF) (k:Int) (h0:0≤k) (hk:k+(qE qF.ct xs:Nat)≤4611686018427387904) (hl:xs.length≤4194304) (hz:∀y∈xs,y.sz≤4194304):Mark Gm 472 (.lst 8 (xs.map qF.enc) false) (.lst 8 ((mkL qF.mrk qF.ct xs k).map qF.enc) false) k (k+(qE qF.ct xs:Nat)):=by
  refine Mark.intro g472 (by kernel_rfl) rfl (zJ qF.plx xs) (zJ qF.plx _) (by simp only [AV.rows,qT qF.mrk qF.ct (enc:=qF.enc) qF.rowsM]) ?_;simp only [Xw,qP,zU,go_sem,Nat.reduceEqDiff,reduceIte,Nat.reduceAdd,nZa];refine Sem.loop (fun i:Nat=>i≤xs.length) (fun i=>(⟨[(0,.slice 8 0 0 xs.length false),(1,.int .i64 (k+((qE qF.ct (xs.take i):Nat):Int))),(5,.int .i64 (i:Nat))],[],(lay (.lst 8 ((mkL qF.mrk qF.ct (xs.take i) k++xs.drop i).map qF.enc) false) 0).2⟩:VSt)) (fun i=>xs.length-i) 0 (by kernel_rfl) (Nat.zero_le _) (by simp only [List.take_zero,mkL,List.nil_append,List.drop_zero,qE,Int.ofNat_zero,Int.natCast_zero,Int.add_zero];exact Can.sub (by simp [go_sem]) (by simp [go_sem])) ?_;intro i hi;simp only [go_sem,Nat.reduceEqDiff,reduceIte,Nat.reduceAdd,nZa];refine qN ?_ ?_<;>intro hc<;>simp only [hc,go_sem,Nat.reduceEqDiff,reduceIte,Nat.reduceAdd,nZa]
  · have hlt:i<xs.length:=by have:=odT hc;omega
    have hct:=ZH qF.ct hlt;have hcl:=ZG qF.ct xs (i+1);have hrow:=qF.rowsM;rw [List.drop_eq_getElem_cons hlt,Qr];have hsz:=hz xs[i] (gMm hlt);obtain ⟨K,hK⟩:∃K:Int,K=k+((qE qF.ct (xs.take i):Nat):Int):=⟨_,rfl⟩;have hend:k+((qE qF.ct (xs.take (i+1)):Nat):Int)=K+((qF.ct xs[i]:Nat):Int):=by rw [hct,hK];omega
    have hKb:0≤K∧K+((qF.ct xs[i]:Nat):Int)≤4611686018427387904:=by rw [←hend];omega
    have hmk:(mkL qF.mrk qF.ct (xs.take (i+1)) k++xs.drop (i+1))=mkL qF.mrk qF.ct (xs.take i) k++qF.mrk xs[i] K::xs.drop (i+1):=by rw [UC qF.mrk qF.ct hlt,←hK,lAa];rfl
    have hrx:=hrow xs[i] K;rw [←hK];obtain ⟨y,hy⟩:∃y,y=xs[i]:=⟨_,rfl⟩;rw [←hy] at hmk hend hKb hrx hsz⊢;have hcy:qF.ct y=1+1+qE ctI y.Data+1+1+qE ctI y.Closure.Term.Data+qE qA.ct y.Closure.Term.Kids+qE ctI y.Closure.Env:=rfl;rw [hcy] at hend hKb;simp only [qF.sz,qI.sz,qA.sz_eq] at hsz;have hA:(qS ((mkL qF.mrk qF.ct (xs.take i) k).map qF.enc) 1).1.length=i:=by rw [jO,lMp,jP];simp;omega
    have hoA:=zP ((mkL qF.mrk qF.ct (xs.take i) k).map qF.enc) 1;have e2:=Qr (enc:=qF.enc) (w:=8) (c:=false) (A:=mkL qF.mrk qF.ct (xs.take i) k) (B:=xs.drop (i+1)) (z:=qF.mrk y K);rw [hrx] at e2;rw [qF.layE] at e2⊢;obtain ⟨p,hp⟩:∃p,p=1+AV.rowss ((mkL qF.mrk qF.ct (xs.take i) k).map qF.enc):=⟨_,rfl⟩;rw [←hp] at e2⊢;generalize (qS ((xs.drop (i+1)).map qF.enc) (p+y.enc.rows)).1=vB at e2⊢;generalize (qS ((xs.drop (i+1)).map qF.enc) (p+y.enc.rows)).2=oB at e2⊢;generalize (qS ((mkL qF.mrk qF.ct (xs.take i) k).map qF.enc) 1).1=vA at e2 hA⊢;generalize (qS ((mkL qF.mrk qF.ct (xs.take i) k).map qF.enc) 1).2=oA at e2 hoA⊢;simp only [qz hA,zN hA,zG hlt,List.set_cons_zero,go_sem,Nat.reduceEqDiff,reduceIte,Nat.reduceAdd,nZa];refine qq (e':=.agg [.int .i64 (K),.int .i64 y.Value,.slice 1 (p) 0 y.Data.length false,.int .i64 y.Closure.Term.Kind,.int .i64 y.Closure.Term.Value,.slice 1 (p+AV.rows (.lst 1 (y.Data.map qD) false)) 0 y.Closure.Term.Data.length false,.slice 4 (p+AV.rows (.lst 1 (y.Data.map qD) false)+AV.rows (.lst 1 (y.Closure.Term.Data.map qD) false)) 0 y.Closure.Term.Kids.length false,.slice 1 (p+AV.rows (.lst 1 (y.Data.map qD) false)+AV.rows (.lst 1 (y.Closure.Term.Data.map qD) false)+AV.rows (.lst 4 (y.Closure.Term.Kids.map qA.enc) false)) 0 y.Closure.Env.length false]) (by rfl) (by rfl) (qz hA) (by rfl) ?_;simp only [qz hA,zN hA,zG hlt,List.set_cons_zero,go_sem,Nat.reduceEqDiff,reduceIte,Nat.reduceAdd,nZa];rw [qv (n:=K+1) (by omega) (by omega)]
    try simp only [qz hA,zN hA,zG hlt,List.set_cons_zero,go_sem,Nat.reduceEqDiff,reduceIte,Nat.reduceAdd,nZa]
    refine qq (e':=.agg [.int .i64 (K),.int .i64 (K+1),.slice 1 (p) 0 y.Data.length false,.int .i64 y.Closure.Term.Kind,.int .i64 y.Closure.Term.Value,.slice 1 (p+AV.rows (.lst 1 (y.Data.map qD) false)) 0 y.Closure.Term.Data.length false,.slice 4 (p+AV.rows (.lst 1 (y.Data.map qD) false)+AV.rows (.lst 1 (y.Closure.Term.Data.map qD) false)) 0 y.Closure.Term.Kids.length false,.slice 1 (p+AV.rows (.lst 1 (y.Data.map qD) false)+AV.rows (.lst 1 (y.Closure.Term.Data.map qD) false)+AV.rows (.lst 4 (y.Closure.Term.Kids.map qA.enc) false)) 0 y.Closure.Env.length false]) (by rfl) (by rfl) (qz hA) (by rfl) ?_;simp only [qz hA,zN hA,zG hlt,List.set_cons_zero,go_sem,Nat.reduceEqDiff,reduceIte,Nat.reduceAdd,nZa];rw [qv (n:=K+1+1) (by omega) (by omega)]
    try simp only [qz hA,zN hA,zG hlt,List.set_cons_zero,go_sem,Nat.reduceEqDiff,reduceIte,Nat.reduceAdd,nZa]
    refine z0 (n:=p) (pre:=.row 8 (vA++.agg [.int .i64 (K),.int .i64 (K+1),.slice 1 (p) 0 y.Data.length false,.int .i64 y.Closure.Term.Kind,.int .i64 y.Closure.Term.Value,.slice 1 (p+AV.rows (.lst 1 (y.Data.map qD) false)) 0 y.Closure.Term.Data.length false,.slice 4 (p+AV.rows (.lst 1 (y.Data.map qD) false)+AV.rows (.lst 1 (y.Closure.Term.Data.map qD) false)) 0 y.Closure.Term.Kids.length false,.slice 1 (p+AV.rows (.lst 1 (y.Data.map qD) false)+AV.rows (.lst 1 (y.Closure.Term.Data.map qD) false)+AV.rows (.lst 4 (y.Closure.Term.Kids.map qA.enc) false)) 0 y.Closure.Env.length false]::vB) true::(oA++[])) (post:=((lay (.lst 1 (y.Closure.Term.Data.map qD) false) (p+AV.rows (.lst 1 (y.Data.map qD) false))).2++((lay (.lst 4 (y.Closure.Term.Kids.map qA.enc) false) (p+AV.rows (.lst 1 (y.Data.map qD) false)+AV.rows (.lst 1 (y.Closure.Term.Data.map qD) false))).2++((lay (.lst 1 (y.Closure.Env.map qD) false) (p+AV.rows (.lst 1 (y.Data.map qD) false)+AV.rows (.lst 1 (y.Closure.Term.Data.map qD) false)+AV.rows (.lst 4 (y.Closure.Term.Kids.map qA.enc) false))).2++[])))++oB) (t:=(.lst 1 (y.Data.map qD) false)) (t':=(.lst 1 ((mkL mkI ctI y.Data (K+1+1)).map qD) false)) (k90 y.Data (K+1+1) (by omega) (by omega) (by omega)) ?_ ?_ (by rw [zU,lMp]) ?_
    · first | rfl | (simp only [lCo,lAp,lNi,hoA,qV,AV.rows,qT qA.mrk qA.ct (enc:=qA.enc) qA.rowsM,qT mkI ctI (enc:=qD) (fun _ _=>rfl)];done) | (simp only [lCo,lAp,lNi,hoA,qV,AV.rows,qT qA.mrk qA.ct (enc:=qA.enc) qA.rowsM,qT mkI ctI (enc:=qD) (fun _ _=>rfl)];omega)
    · first | rfl | (simp only [lAa,List.nil_append,lAn,List.cons_append];done)
    simp only [qz hA,zN hA,zG hlt,List.set_cons_zero,List.cons_append,go_sem,Nat.reduceEqDiff,reduceIte,Nat.reduceAdd,nZa];refine qq (e':=.agg [.int .i64 (K),.int .i64 (K+1),.slice 1 (p) 0 y.Data.length false,.int .i64 (K+1+1+((qE ctI y.Data:Nat):Int)),.int .i64 y.Closure.Term.Value,.slice 1 (p+AV.rows (.lst 1 (y.Data.map qD) false)) 0 y.Closure.Term.Data.length false,.slice 4 (p+AV.rows (.lst 1 (y.Data.map qD) false)+AV.rows (.lst 1 (y.Closure.Term.Data.map qD) false)) 0 y.Closure.Term.Kids.length false,.slice 1 (p+AV.rows (.lst 1 (y.Data.map qD) false)+AV.rows (.lst 1 (y.Closure.Term.Data.map qD) false)+AV.rows (.lst 4 (y.Closure.Term.Kids.map qA.enc) false)) 0 y.Closure.Env.length false]) (by rfl) (by rfl) (qz hA) (by rfl) ?_;simp only [qz hA,zN hA,zG hlt,List.set_cons_zero,go_sem,Nat.reduceEqDiff,reduceIte,Nat.reduceAdd,nZa];rw [qv (n:=K+1+1+((qE ctI y.Data:Nat):Int)+1) (by omega) (by omega)]
    try simp only [qz hA,zN hA,zG hlt,List.set_cons_zero,go_sem,Nat.reduceEqDiff,reduceIte,Nat.reduceAdd,nZa]
    refine qq (e':=.agg [.int .i64 (K),.int .i64 (K+1),.slice 1 (p) 0 y.Data.length false,.int .i64 (K+1+1+((qE ctI y.Data:Nat):Int)),.int .i64 (K+1+1+((qE ctI y.Data:Nat):Int)+1),.slice 1 (p+AV.rows (.lst 1 (y.Data.map qD) false)) 0 y.Closure.Term.Data.length false,.slice 4 (p+AV.rows (.lst 1 (y.Data.map qD) false)+AV.rows (.lst 1 (y.Closure.Term.Data.map qD) false)) 0 y.Closure.Term.Kids.length false,.slice 1 (p+AV.rows (.lst 1 (y.Data.map qD) false)+AV.rows (.lst 1 (y.Closure.Term.Data.map qD) false)+AV.rows (.lst 4 (y.Closure.Term.Kids.map qA.enc) false)) 0 y.Closure.Env.length false]) (by rfl) (by rfl) (qz hA) (by rfl) ?_;simp only [qz hA,zN hA,zG hlt,List.set_cons_zero,go_sem,Nat.reduceEqDiff,reduceIte,Nat.reduceAdd,nZa];rw [qv (n:=K+1+1+((qE ctI y.Data:Nat):Int)+1+1) (by omega) (by omega)]
    try simp only [qz hA,zN hA,zG hlt,List.set_cons_zero,go_sem,Nat.reduceEqDiff,reduceIte,Nat.reduceAdd,nZa]
    refine z0 (n:=p+AV.rows (.lst 1 (y.Data.map qD) false)) (pre:=.row 8 (vA++.agg [.int .i64 (K),.int .i64 (K+1),.slice 1 (p) 0 y.Data.length false,.int .i64 (K+1+1+((qE ctI y.Data:Nat):Int)),.int .i64 (K+1+1+((qE ctI y.Data:Nat):Int)+1),.slice 1 (p+AV.rows (.lst 1 (y.Data.map qD) false)) 0 y.Closure.Term.Data.length false,.slice 4 (p+AV.rows (.lst 1 (y.Data.map qD) false)+AV.rows (.lst 1 (y.Closure.Term.Data.map qD) false)) 0 y.Closure.Term.Kids.length false,.slice 1 (p+AV.rows (.lst 1 (y.Data.map qD) false)+AV.rows (.lst 1 (y.Closure.Term.Data.map qD) false)+AV.rows (.lst 4 (y.Closure.Term.Kids.map qA.enc) false)) 0 y.Closure.Env.length false]::vB) true::(oA++((lay (.lst 1 ((mkL mkI ctI y.Data (K+1+1)).map qD) false) (p)).2))) (post:=((lay (.lst 4 (y.Closure.Term.Kids.map qA.enc) false) (p+AV.rows (.lst 1 (y.Data.map qD) false)+AV.rows (.lst 1 (y.Closure.Term.Data.map qD) false))).2++((lay (.lst 1 (y.Closure.Env.map qD) false) (p+AV.rows (.lst 1 (y.Data.map qD) false)+AV.rows (.lst 1 (y.Closure.Term.Data.map qD) false)+AV.rows (.lst 4 (y.Closure.Term.Kids.map qA.enc) false))).2++[]))++oB) (t:=(.lst 1 (y.Closure.Term.Data.map qD) false)) (t':=(.lst 1 ((mkL mkI ctI y.Closure.Term.Data (K+1+1+((qE ctI y.Data:Nat):Int)+1+1)).map qD) false)) (k90 y.Closure.Term.Data (K+1+1+((qE ctI y.Data:Nat):Int)+1+1) (by omega) (by omega) (by omega)) ?_ ?_ (by rw [zU,lMp]) ?_
    · first | rfl | (simp only [lCo,lAp,lNi,hoA,qV,AV.rows,qT qA.mrk qA.ct (enc:=qA.enc) qA.rowsM,qT mkI ctI (enc:=qD) (fun _ _=>rfl)];done) | (simp only [lCo,lAp,lNi,hoA,qV,AV.rows,qT qA.mrk qA.ct (enc:=qA.enc) qA.rowsM,qT mkI ctI (enc:=qD) (fun _ _=>rfl)];omega)
    · first | rfl | (simp only [lAa,List.nil_append,lAn,List.cons_append];done)
    simp only [qz hA,zN hA,zG hlt,List.set_cons_zero,List.cons_append,go_sem,Nat.reduceEqDiff,reduceIte,Nat.reduceAdd,nZa];refine z0 (n:=p+AV.rows (.lst 1 (y.Data.map qD) false)+AV.rows (.lst 1 (y.Closure.Term.Data.map qD) false)) (pre:=.row 8 (vA++.agg [.int .i64 (K),.int .i64 (K+1),.slice 1 (p) 0 y.Data.length false,.int .i64 (K+1+1+((qE ctI y.Data:Nat):Int)),.int .i64 (K+1+1+((qE ctI y.Data:Nat):Int)+1),.slice 1 (p+AV.rows (.lst 1 (y.Data.map qD) false)) 0 y.Closure.Term.Data.length false,.slice 4 (p+AV.rows (.lst 1 (y.Data.map qD) false)+AV.rows (.lst 1 (y.Closure.Term.Data.map qD) false)) 0 y.Closure.Term.Kids.length false,.slice 1 (p+AV.rows (.lst 1 (y.Data.map qD) false)+AV.rows (.lst 1 (y.Closure.Term.Data.map qD) false)+AV.rows (.lst 4 (y.Closure.Term.Kids.map qA.enc) false)) 0 y.Closure.Env.length false]::vB) true::(oA++((lay (.lst 1 ((mkL mkI ctI y.Data (K+1+1)).map qD) false) (p)).2++(lay (.lst 1 ((mkL mkI ctI y.Closure.Term.Data (K+1+1+((qE ctI y.Data:Nat):Int)+1+1)).map qD) false) (p+AV.rows (.lst 1 (y.Data.map qD) false))).2))) (post:=((lay (.lst 1 (y.Closure.Env.map qD) false) (p+AV.rows (.lst 1 (y.Data.map qD) false)+AV.rows (.lst 1 (y.Closure.Term.Data.map qD) false)+AV.rows (.lst 4 (y.Closure.Term.Kids.map qA.enc) false))).2++[])++oB) (t:=(.lst 4 (y.Closure.Term.Kids.map qA.enc) false)) (t':=(.lst 4 ((mkL qA.mrk qA.ct y.Closure.Term.Kids (K+1+1+((qE ctI y.Data:Nat):Int)+1+1+((qE ctI y.Closure.Term.Data:Nat):Int))).map qA.enc) false)) (Vr y.Closure.Term.Kids (K+1+1+((qE ctI y.Data:Nat):Int)+1+1+((qE ctI y.Closure.Term.Data:Nat):Int)) (by omega) (by omega) (by omega)) ?_ ?_ (by rw [zU,lMp]) ?_
    · first | rfl | (simp only [lCo,lAp,lNi,hoA,qV,AV.rows,qT qA.mrk qA.ct (enc:=qA.enc) qA.rowsM,qT mkI ctI (enc:=qD) (fun _ _=>rfl)];done) | (simp only [lCo,lAp,lNi,hoA,qV,AV.rows,qT qA.mrk qA.ct (enc:=qA.enc) qA.rowsM,qT mkI ctI (enc:=qD) (fun _ _=>rfl)];omega)
    · first | rfl | (simp only [lAa,List.nil_append,lAn,List.cons_append];done)
    simp only [qz hA,zN hA,zG hlt,List.set_cons_zero,List.cons_append,go_sem,Nat.reduceEqDiff,reduceIte,Nat.reduceAdd,nZa];refine z0 (n:=p+AV.rows (.lst 1 (y.Data.map qD) false)+AV.rows (.lst 1 (y.Closure.Term.Data.map qD) false)+AV.rows (.lst 4 (y.Closure.Term.Kids.map qA.enc) false)) (pre:=.row 8 (vA++.agg [.int .i64 (K),.int .i64 (K+1),.slice 1 (p) 0 y.Data.length false,.int .i64 (K+1+1+((qE ctI y.Data:Nat):Int)),.int .i64 (K+1+1+((qE ctI y.Data:Nat):Int)+1),.slice 1 (p+AV.rows (.lst 1 (y.Data.map qD) false)) 0 y.Closure.Term.Data.length false,.slice 4 (p+AV.rows (.lst 1 (y.Data.map qD) false)+AV.rows (.lst 1 (y.Closure.Term.Data.map qD) false)) 0 y.Closure.Term.Kids.length false,.slice 1 (p+AV.rows (.lst 1 (y.Data.map qD) false)+AV.rows (.lst 1 (y.Closure.Term.Data.map qD) false)+AV.rows (.lst 4 (y.Closure.Term.Kids.map qA.enc) false)) 0 y.Closure.Env.length false]::vB) true::(oA++((lay (.lst 1 ((mkL mkI ctI y.Data (K+1+1)).map qD) false) (p)).2++(lay (.lst 1 ((mkL mkI ctI y.Closure.Term.Data (K+1+1+((qE ctI y.Data:Nat):Int)+1+1)).map qD) false) (p+AV.rows (.lst 1 (y.Data.map qD) false))).2++(lay (.lst 4 ((mkL qA.mrk qA.ct y.Closure.Term.Kids (K+1+1+((qE ctI y.Data:Nat):Int)+1+1+((qE ctI y.Closure.Term.Data:Nat):Int))).map qA.enc) false) (p+AV.rows (.lst 1 (y.Data.map qD) false)+AV.rows (.lst 1 (y.Closure.Term.Data.map qD) false))).2))) (post:=([])++oB) (t:=(.lst 1 (y.Closure.Env.map qD) false)) (t':=(.lst 1 ((mkL mkI ctI y.Closure.Env (K+1+1+((qE ctI y.Data:Nat):Int)+1+1+((qE ctI y.Closure.Term.Data:Nat):Int)+((qE qA.ct y.Closure.Term.Kids:Nat):Int))).map qD) false)) (k90 y.Closure.Env (K+1+1+((qE ctI y.Data:Nat):Int)+1+1+((qE ctI y.Closure.Term.Data:Nat):Int)+((qE qA.ct y.Closure.Term.Kids:Nat):Int)) (by omega) (by omega) (by omega)) ?_ ?_ (by rw [zU,lMp]) ?_
    · first | rfl | (simp only [lCo,lAp,lNi,hoA,qV,AV.rows,qT qA.mrk qA.ct (enc:=qA.enc) qA.rowsM,qT mkI ctI (enc:=qD) (fun _ _=>rfl)];done) | (simp only [lCo,lAp,lNi,hoA,qV,AV.rows,qT qA.mrk qA.ct (enc:=qA.enc) qA.rowsM,qT mkI ctI (enc:=qD) (fun _ _=>rfl)];omega)
    · first | rfl | (simp only [lAa,List.nil_append,lAn,List.cons_append];done)
    simp only [qz hA,zN hA,zG hlt,List.set_cons_zero,List.cons_append,go_sem,Nat.reduceEqDiff,reduceIte,Nat.reduceAdd,nZa];simp only [qp (show i<4611686018427387904 by omega)];refine qt (i+1) (by omega) (by omega) ?_;have e3:K+1+1+((qE ctI y.Data:Nat):Int)+1+1+((qE ctI y.Closure.Term.Data:Nat):Int)+((qE qA.ct y.Closure.Term.Kids:Nat):Int)+((qE ctI y.Closure.Env:Nat):Int)=k+((qE qF.ct (xs.take (i+1)):Nat):Int):=by first | (rw [hend];done) | (rw [hend];omega)
    rw [e3];rw [hmk,e2];simp only [qF.mrk,qA.pK,qA.pV,qA.pD,qA.pC,jP,AV.rows,lAa,List.nil_append,lAn,List.cons_append,qT qA.mrk qA.ct (enc:=qA.enc) qA.rowsM,qT mkI ctI (enc:=qD) (fun _ _=>rfl)];exact Can.sub (by simp [go_sem]) (by simp [go_sem])
  · have hge:i=xs.length:=by have:=odF hc;omega
    subst hge;refine JM (by rw [List.take_length]) ?_;rw [List.take_length,List.drop_length,lAn]
theorem k473 (xs:List qH) (k:Int) (h0:0≤k) (hk:k+(qE qH.ct xs:Nat)≤4611686018427387904) (hl:xs.length≤4194304) (hz:∀y∈xs,y.sz≤4194304):Mark Gm 473 (.lst 6 (xs.map qH.enc) false) (.lst 6 ((mkL qH.mrk qH.ct xs k).map qH.enc) false) k (k+(qE qH.ct xs:Nat)):=by
  refine Mark.intro g473 (by kernel_rfl) rfl (zJ qH.plx xs) (zJ qH.plx _) (by simp only [AV.rows,qT qH.mrk qH.ct (enc:=qH.enc) qH.rowsM]) ?_;simp only [Xx,qP,zU,go_sem,Nat.reduceEqDiff,reduceIte,Nat.reduceAdd,nZa];refine Sem.loop (fun i:Nat=>i≤xs.length) (fun i=>(⟨[(0,.slice 6 0 0 xs.length false),(1,.int .i64 (k+((qE qH.ct (xs.take i):Nat):Int))),(5,.int .i64 (i:Nat))],[],(lay (.lst 6 ((mkL qH.mrk qH.ct (xs.take i) k++xs.drop i).map qH.enc) false) 0).2⟩:VSt)) (fun i=>xs.length-i) 0 (by kernel_rfl) (Nat.zero_le _) (by simp only [List.take_zero,mkL,List.nil_append,List.drop_zero,qE,Int.ofNat_zero,Int.natCast_zero,Int.add_zero];exact Can.sub (by simp [go_sem]) (by simp [go_sem])) ?_;intro i hi;simp only [go_sem,Nat.reduceEqDiff,reduceIte,Nat.reduceAdd,nZa];refine qN ?_ ?_<;>intro hc<;>simp only [hc,go_sem,Nat.reduceEqDiff,reduceIte,Nat.reduceAdd,nZa]
  · have hlt:i<xs.length:=by have:=odT hc;omega
    have hct:=ZH qH.ct hlt;have hcl:=ZG qH.ct xs (i+1);have hrow:=qH.rowsM;rw [List.drop_eq_getElem_cons hlt,Qr];have hsz:=hz xs[i] (gMm hlt);obtain ⟨K,hK⟩:∃K:Int,K=k+((qE qH.ct (xs.take i):Nat):Int):=⟨_,rfl⟩;have hend:k+((qE qH.ct (xs.take (i+1)):Nat):Int)=K+((qH.ct xs[i]:Nat):Int):=by rw [hct,hK];omega
    have hKb:0≤K∧K+((qH.ct xs[i]:Nat):Int)≤4611686018427387904:=by rw [←hend];omega
    have hmk:(mkL qH.mrk qH.ct (xs.take (i+1)) k++xs.drop (i+1))=mkL qH.mrk qH.ct (xs.take i) k++qH.mrk xs[i] K::xs.drop (i+1):=by rw [UC qH.mrk qH.ct hlt,←hK,lAa];rfl
    have hrx:=hrow xs[i] K;rw [←hK];obtain ⟨y,hy⟩:∃y,y=xs[i]:=⟨_,rfl⟩;rw [←hy] at hmk hend hKb hrx hsz⊢;have hcy:qH.ct y=1+1+1+qE ctI y.Closure.Term.Data+qE qA.ct y.Closure.Term.Kids+qE ctI y.Closure.Env:=rfl;rw [hcy] at hend hKb;simp only [qH.sz,qI.sz,qA.sz_eq] at hsz;have hA:(qS ((mkL qH.mrk qH.ct (xs.take i) k).map qH.enc) 1).1.length=i:=by rw [jO,lMp,jP];simp;omega
    have hoA:=zP ((mkL qH.mrk qH.ct (xs.take i) k).map qH.enc) 1;have e2:=Qr (enc:=qH.enc) (w:=6) (c:=false) (A:=mkL qH.mrk qH.ct (xs.take i) k) (B:=xs.drop (i+1)) (z:=qH.mrk y K);rw [hrx] at e2;rw [qH.layE] at e2⊢;obtain ⟨p,hp⟩:∃p,p=1+AV.rowss ((mkL qH.mrk qH.ct (xs.take i) k).map qH.enc):=⟨_,rfl⟩;rw [←hp] at e2⊢;generalize (qS ((xs.drop (i+1)).map qH.enc) (p+y.enc.rows)).1=vB at e2⊢;generalize (qS ((xs.drop (i+1)).map qH.enc) (p+y.enc.rows)).2=oB at e2⊢;generalize (qS ((mkL qH.mrk qH.ct (xs.take i) k).map qH.enc) 1).1=vA at e2 hA⊢;generalize (qS ((mkL qH.mrk qH.ct (xs.take i) k).map qH.enc) 1).2=oA at e2 hoA⊢;simp only [qz hA,zN hA,zG hlt,List.set_cons_zero,show ((3:Int)=0)=False from eq_false (by decide),go_sem,Nat.reduceEqDiff,reduceIte,Nat.reduceAdd,nZa];refine qq (e':=.agg [.bool (decide ((K).tmod 3=0)),.int .i64 y.Closure.Term.Kind,.int .i64 y.Closure.Term.Value,.slice 1 (p) 0 y.Closure.Term.Data.length false,.slice 4 (p+AV.rows (.lst 1 (y.Closure.Term.Data.map qD) false)) 0 y.Closure.Term.Kids.length false,.slice 1 (p+AV.rows (.lst 1 (y.Closure.Term.Data.map qD) false)+AV.rows (.lst 4 (y.Closure.Term.Kids.map qA.enc) false)) 0 y.Closure.Env.length false]) (by rfl) (by rfl) (qz hA) (by rfl) ?_;simp only [qz hA,zN hA,zG hlt,List.set_cons_zero,go_sem,Nat.reduceEqDiff,reduceIte,Nat.reduceAdd,nZa];rw [qv (n:=K+1) (by omega) (by omega)]
    try simp only [qz hA,zN hA,zG hlt,List.set_cons_zero,go_sem,Nat.reduceEqDiff,reduceIte,Nat.reduceAdd,nZa]
    refine qq (e':=.agg [.bool (decide ((K).tmod 3=0)),.int .i64 (K+1),.int .i64 y.Closure.Term.Value,.slice 1 (p) 0 y.Closure.Term.Data.length false,.slice 4 (p+AV.rows (.lst 1 (y.Closure.Term.Data.map qD) false)) 0 y.Closure.Term.Kids.length false,.slice 1 (p+AV.rows (.lst 1 (y.Closure.Term.Data.map qD) false)+AV.rows (.lst 4 (y.Closure.Term.Kids.map qA.enc) false)) 0 y.Closure.Env.length false]) (by rfl) (by rfl) (qz hA) (by rfl) ?_;simp only [qz hA,zN hA,zG hlt,List.set_cons_zero,go_sem,Nat.reduceEqDiff,reduceIte,Nat.reduceAdd,nZa];rw [qv (n:=K+1+1) (by omega) (by omega)]
    try simp only [qz hA,zN hA,zG hlt,List.set_cons_zero,go_sem,Nat.reduceEqDiff,reduceIte,Nat.reduceAdd,nZa]
    refine qq (e':=.agg [.bool (decide ((K).tmod 3=0)),.int .i64 (K+1),.int .i64 (K+1+1),.slice 1 (p) 0 y.Closure.Term.Data.length false,.slice 4 (p+AV.rows (.lst 1 (y.Closure.Term.Data.map qD) false)) 0 y.Closure.Term.Kids.length false,.slice 1 (p+AV.rows (.lst 1 (y.Closure.Term.Data.map qD) false)+AV.rows (.lst 4 (y.Closure.Term.Kids.map qA.enc) false)) 0 y.Closure.Env.length false]) (by rfl) (by rfl) (qz hA) (by rfl) ?_;simp only [qz hA,zN hA,zG hlt,List.set_cons_zero,go_sem,Nat.reduceEqDiff,reduceIte,Nat.reduceAdd,nZa];rw [qv (n:=K+1+1+1) (by omega) (by omega)]
    try simp only [qz hA,zN hA,zG hlt,List.set_cons_zero,go_sem,Nat.reduceEqDiff,reduceIte,Nat.reduceAdd,nZa]
    refine z0 (n:=p) (pre:=.row 6 (vA++.agg [.bool (decide ((K).tmod 3=0)),.int .i64 (K+1),.int .i64 (K+1+1),.slice 1 (p) 0 y.Closure.Term.Data.length false,.slice 4 (p+AV.rows (.lst 1 (y.Closure.Term.Data.map qD) false)) 0 y.Closure.Term.Kids.length false,.slice 1 (p+AV.rows (.lst 1 (y.Closure.Term.Data.map qD) false)+AV.rows (.lst 4 (y.Closure.Term.Kids.map qA.enc) false)) 0 y.Closure.Env.length false]::vB) true::(oA++[])) (post:=((lay (.lst 4 (y.Closure.Term.Kids.map qA.enc) false) (p+AV.rows (.lst 1 (y.Closure.Term.Data.map qD) false))).2++((lay (.lst 1 (y.Closure.Env.map qD) false) (p+AV.rows (.lst 1 (y.Closure.Term.Data.map qD) false)+AV.rows (.lst 4 (y.Closure.Term.Kids.map qA.enc) false))).2++[]))++oB) (t:=(.lst 1 (y.Closure.Term.Data.map qD) false)) (t':=(.lst 1 ((mkL mkI ctI y.Closure.Term.Data (K+1+1+1)).map qD) false)) (k90 y.Closure.Term.Data (K+1+1+1) (by omega) (by omega) (by omega)) ?_ ?_ (by rw [zU,lMp]) ?_
    · first | rfl | (simp only [lCo,lAp,lNi,hoA,qV,AV.rows,qT qA.mrk qA.ct (enc:=qA.enc) qA.rowsM,qT mkI ctI (enc:=qD) (fun _ _=>rfl)];done) | (simp only [lCo,lAp,lNi,hoA,qV,AV.rows,qT qA.mrk qA.ct (enc:=qA.enc) qA.rowsM,qT mkI ctI (enc:=qD) (fun _ _=>rfl)];omega)
    · first | rfl | (simp only [lAa,List.nil_append,lAn,List.cons_append];done)
    simp only [qz hA,zN hA,zG hlt,List.set_cons_zero,List.cons_append,go_sem,Nat.reduceEqDiff,reduceIte,Nat.reduceAdd,nZa];refine z0 (n:=p+AV.rows (.lst 1 (y.Closure.Term.Data.map qD) false)) (pre:=.row 6 (vA++.agg [.bool (decide ((K).tmod 3=0)),.int .i64 (K+1),.int .i64 (K+1+1),.slice 1 (p) 0 y.Closure.Term.Data.length false,.slice 4 (p+AV.rows (.lst 1 (y.Closure.Term.Data.map qD) false)) 0 y.Closure.Term.Kids.length false,.slice 1 (p+AV.rows (.lst 1 (y.Closure.Term.Data.map qD) false)+AV.rows (.lst 4 (y.Closure.Term.Kids.map qA.enc) false)) 0 y.Closure.Env.length false]::vB) true::(oA++((lay (.lst 1 ((mkL mkI ctI y.Closure.Term.Data (K+1+1+1)).map qD) false) (p)).2))) (post:=((lay (.lst 1 (y.Closure.Env.map qD) false) (p+AV.rows (.lst 1 (y.Closure.Term.Data.map qD) false)+AV.rows (.lst 4 (y.Closure.Term.Kids.map qA.enc) false))).2++[])++oB) (t:=(.lst 4 (y.Closure.Term.Kids.map qA.enc) false)) (t':=(.lst 4 ((mkL qA.mrk qA.ct y.Closure.Term.Kids (K+1+1+1+((qE ctI y.Closure.Term.Data:Nat):Int))).map qA.enc) false)) (Vr y.Closure.Term.Kids (K+1+1+1+((qE ctI y.Closure.Term.Data:Nat):Int)) (by omega) (by omega) (by omega)) ?_ ?_ (by rw [zU,lMp]) ?_
    · first | rfl | (simp only [lCo,lAp,lNi,hoA,qV,AV.rows,qT qA.mrk qA.ct (enc:=qA.enc) qA.rowsM,qT mkI ctI (enc:=qD) (fun _ _=>rfl)];done) | (simp only [lCo,lAp,lNi,hoA,qV,AV.rows,qT qA.mrk qA.ct (enc:=qA.enc) qA.rowsM,qT mkI ctI (enc:=qD) (fun _ _=>rfl)];omega)
    · first | rfl | (simp only [lAa,List.nil_append,lAn,List.cons_append];done)
    simp only [qz hA,zN hA,zG hlt,List.set_cons_zero,List.cons_append,go_sem,Nat.reduceEqDiff,reduceIte,Nat.reduceAdd,nZa];refine z0 (n:=p+AV.rows (.lst 1 (y.Closure.Term.Data.map qD) false)+AV.rows (.lst 4 (y.Closure.Term.Kids.map qA.enc) false)) (pre:=.row 6 (vA++.agg [.bool (decide ((K).tmod 3=0)),.int .i64 (K+1),.int .i64 (K+1+1),.slice 1 (p) 0 y.Closure.Term.Data.length false,.slice 4 (p+AV.rows (.lst 1 (y.Closure.Term.Data.map qD) false)) 0 y.Closure.Term.Kids.length false,.slice 1 (p+AV.rows (.lst 1 (y.Closure.Term.Data.map qD) false)+AV.rows (.lst 4 (y.Closure.Term.Kids.map qA.enc) false)) 0 y.Closure.Env.length false]::vB) true::(oA++((lay (.lst 1 ((mkL mkI ctI y.Closure.Term.Data (K+1+1+1)).map qD) false) (p)).2++(lay (.lst 4 ((mkL qA.mrk qA.ct y.Closure.Term.Kids (K+1+1+1+((qE ctI y.Closure.Term.Data:Nat):Int))).map qA.enc) false) (p+AV.rows (.lst 1 (y.Closure.Term.Data.map qD) false))).2))) (post:=([])++oB) (t:=(.lst 1 (y.Closure.Env.map qD) false)) (t':=(.lst 1 ((mkL mkI ctI y.Closure.Env (K+1+1+1+((qE ctI y.Closure.Term.Data:Nat):Int)+((qE qA.ct y.Closure.Term.Kids:Nat):Int))).map qD) false)) (k90 y.Closure.Env (K+1+1+1+((qE ctI y.Closure.Term.Data:Nat):Int)+((qE qA.ct y.Closure.Term.Kids:Nat):Int)) (by omega) (by omega) (by omega)) ?_ ?_ (by rw [zU,lMp]) ?_
    · first | rfl | (simp only [lCo,lAp,lNi,hoA,qV,AV.rows,qT qA.mrk qA.ct (enc:=qA.enc) qA.rowsM,qT mkI ctI (enc:=qD) (fun _ _=>rfl)];done) | (simp only [lCo,lAp,lNi,hoA,qV,AV.rows,qT qA.mrk qA.ct (enc:=qA.enc) qA.rowsM,qT mkI ctI (enc:=qD) (fun _ _=>rfl)];omega)
    · first | rfl | (simp only [lAa,List.nil_append,lAn,List.cons_append];done)
    simp only [qz hA,zN hA,zG hlt,List.set_cons_zero,List.cons_append,go_sem,Nat.reduceEqDiff,reduceIte,Nat.reduceAdd,nZa];simp only [qp (show i<4611686018427387904 by omega)];refine qt (i+1) (by omega) (by omega) ?_;have e3:K+1+1+1+((qE ctI y.Closure.Term.Data:Nat):Int)+((qE qA.ct y.Closure.Term.Kids:Nat):Int)+((qE ctI y.Closure.Env:Nat):Int)=k+((qE qH.ct (xs.take (i+1)):Nat):Int):=by first | (rw [hend];done) | (rw [hend];omega)
    rw [e3];rw [hmk,e2];simp only [qH.mrk,qA.pK,qA.pV,qA.pD,qA.pC,jP,AV.rows,lAa,List.nil_append,lAn,List.cons_append,qT qA.mrk qA.ct (enc:=qA.enc) qA.rowsM,qT mkI ctI (enc:=qD) (fun _ _=>rfl)];exact Can.sub (by simp [go_sem]) (by simp [go_sem])
  · have hge:i=xs.length:=by have:=odF hc;omega
    subst hge;refine JM (by rw [List.take_length]) ?_;rw [List.take_length,List.drop_length,lAn]
theorem k157 (x:qG) (k:Int) (h0:0≤k) (hk:k+(x.ctV:Nat)≤4611686018427387904) (hz:x.le):Mark Gm 157 x.enc (x.mkV k).enc k (k+(x.ctV:Nat)):=by
  refine Mark.intro g157 (by kernel_rfl) rfl (qG.plx x) (qG.plx _) (qG.rowsV x k) ?_;rw [qG.layE,qG.layE];simp only [XT,qP,go_sem,Nat.reduceEqDiff,reduceIte,Nat.reduceAdd,nZa];refine qX rfl ?_;simp only [go_sem,Nat.reduceEqDiff,reduceIte,Nat.reduceAdd,nZa];unfold qG.ctV at hk;obtain ⟨hz,z1,z2,z3,z4⟩:=hz;simp only [qI.sz,qA.sz_eq] at hz;refine z0 (n:=0) (pre:=[]) (post:=(lay (.lst 8 (x.Stack.map qF.enc) false) (AV.rows (.lst 1 (x.Control.Term.Data.map qD) false)+AV.rows (.lst 4 (x.Control.Term.Kids.map qA.enc) false)+AV.rows (.lst 1 (x.Control.Env.map qD) false))).2++((lay (.lst 6 (x.Heap.map qH.enc) false) (AV.rows (.lst 1 (x.Control.Term.Data.map qD) false)+AV.rows (.lst 4 (x.Control.Term.Kids.map qA.enc) false)+AV.rows (.lst 1 (x.Control.Env.map qD) false)+AV.rows (.lst 8 (x.Stack.map qF.enc) false))).2++[])) (t:=x.Control.enc) (t':=(x.Control.mkV (k)).enc) (k471 x.Control (k) (by omega) (by simp only [qI.ctV];omega) (by simp only [qI.sz,qA.sz_eq];omega)) ?_ ?_ ?_ ?_
  · first | rfl | (simp only [lAp,lNi,qV,AV.rows,qT qA.mrk qA.ct (enc:=qA.enc) qA.rowsM,qT qF.mrk qF.ct (enc:=qF.enc) qF.rowsM,qT qH.mrk qH.ct (enc:=qH.enc) qH.rowsM,qT mkI ctI (enc:=qD) (fun _ _=>rfl)];done) | (simp only [lAp,lNi,qV,AV.rows,qT qA.mrk qA.ct (enc:=qA.enc) qA.rowsM,qT qF.mrk qF.ct (enc:=qF.enc) qF.rowsM,qT qH.mrk qH.ct (enc:=qH.enc) qH.rowsM,qT mkI ctI (enc:=qD) (fun _ _=>rfl)];omega)
  · first | rfl | (simp only [qI.layE,qA.pK,qA.pV,qA.pD,qA.pC,nZa,lAa,List.nil_append,lAn];done) | (simp only [lAa,List.nil_append,lAn,AV.rows,qT qA.mrk qA.ct (enc:=qA.enc) qA.rowsM,qT mkI ctI (enc:=qD) (fun _ _=>rfl),qT qF.mrk qF.ct (enc:=qF.enc) qF.rowsM,qT qH.mrk qH.ct (enc:=qH.enc) qH.rowsM];done)
  · simp only [qI.layE,qA.pK,qA.pV,qA.pD,qA.pC,nZa]
  simp only [qI.layE,qI.mkV,qI.ctV,qA.pK,qA.pV,qA.pD,qA.pC,Int.natCast_add,←Int.add_assoc,lAa,List.nil_append,lAn,go_sem,Nat.reduceEqDiff,reduceIte,Nat.reduceAdd,nZa];refine z0 (n:=AV.rows (.lst 1 (x.Control.Term.Data.map qD) false)+AV.rows (.lst 4 (x.Control.Term.Kids.map qA.enc) false)+AV.rows (.lst 1 (x.Control.Env.map qD) false)) (pre:=(lay (.lst 1 ((mkL mkI ctI x.Control.Term.Data (k)).map qD) false) (0)).2++(lay (.lst 4 ((mkL qA.mrk qA.ct x.Control.Term.Kids (k+((qE ctI x.Control.Term.Data:Nat):Int))).map qA.enc) false) (AV.rows (.lst 1 (x.Control.Term.Data.map qD) false))).2++(lay (.lst 1 ((mkL mkI ctI x.Control.Env (k+((qE ctI x.Control.Term.Data:Nat):Int)+((qE qA.ct x.Control.Term.Kids:Nat):Int))).map qD) false) (AV.rows (.lst 1 (x.Control.Term.Data.map qD) false)+AV.rows (.lst 4 (x.Control.Term.Kids.map qA.enc) false))).2) (post:=(lay (.lst 6 (x.Heap.map qH.enc) false) (AV.rows (.lst 1 (x.Control.Term.Data.map qD) false)+AV.rows (.lst 4 (x.Control.Term.Kids.map qA.enc) false)+AV.rows (.lst 1 (x.Control.Env.map qD) false)+AV.rows (.lst 8 (x.Stack.map qF.enc) false))).2++[]) (t:=(.lst 8 (x.Stack.map qF.enc) false)) (t':=(.lst 8 ((mkL qF.mrk qF.ct x.Stack (k+((qE ctI x.Control.Term.Data:Nat):Int)+((qE qA.ct x.Control.Term.Kids:Nat):Int)+((qE ctI x.Control.Env:Nat):Int))).map qF.enc) false)) (k472 x.Stack (k+((qE ctI x.Control.Term.Data:Nat):Int)+((qE qA.ct x.Control.Term.Kids:Nat):Int)+((qE ctI x.Control.Env:Nat):Int)) (by omega) (by omega) (z1) (z2)) ?_ ?_ (by rw [zU,lMp]) ?_
  · first | rfl | (simp only [lAp,lNi,qV,AV.rows,qT qA.mrk qA.ct (enc:=qA.enc) qA.rowsM,qT qF.mrk qF.ct (enc:=qF.enc) qF.rowsM,qT qH.mrk qH.ct (enc:=qH.enc) qH.rowsM,qT mkI ctI (enc:=qD) (fun _ _=>rfl)];done) | (simp only [lAp,lNi,qV,AV.rows,qT qA.mrk qA.ct (enc:=qA.enc) qA.rowsM,qT qF.mrk qF.ct (enc:=qF.enc) qF.rowsM,qT qH.mrk qH.ct (enc:=qH.enc) qH.rowsM,qT mkI ctI (enc:=qD) (fun _ _=>rfl)];omega)
  · first | rfl | (simp only [lAa,List.nil_append,lAn];done) | (simp only [lAa,List.nil_append,lAn,AV.rows,qT qA.mrk qA.ct (enc:=qA.enc) qA.rowsM,qT mkI ctI (enc:=qD) (fun _ _=>rfl),qT qF.mrk qF.ct (enc:=qF.enc) qF.rowsM,qT qH.mrk qH.ct (enc:=qH.enc) qH.rowsM];done)
  simp only [lAa,List.nil_append,lAn,go_sem,Nat.reduceEqDiff,reduceIte,Nat.reduceAdd,nZa];refine z0 (n:=AV.rows (.lst 1 (x.Control.Term.Data.map qD) false)+AV.rows (.lst 4 (x.Control.Term.Kids.map qA.enc) false)+AV.rows (.lst 1 (x.Control.Env.map qD) false)+AV.rows (.lst 8 (x.Stack.map qF.enc) false)) (pre:=(lay (.lst 1 ((mkL mkI ctI x.Control.Term.Data (k)).map qD) false) (0)).2++(lay (.lst 4 ((mkL qA.mrk qA.ct x.Control.Term.Kids (k+((qE ctI x.Control.Term.Data:Nat):Int))).map qA.enc) false) (AV.rows (.lst 1 (x.Control.Term.Data.map qD) false))).2++(lay (.lst 1 ((mkL mkI ctI x.Control.Env (k+((qE ctI x.Control.Term.Data:Nat):Int)+((qE qA.ct x.Control.Term.Kids:Nat):Int))).map qD) false) (AV.rows (.lst 1 (x.Control.Term.Data.map qD) false)+AV.rows (.lst 4 (x.Control.Term.Kids.map qA.enc) false))).2++(lay (.lst 8 ((mkL qF.mrk qF.ct x.Stack (k+((qE ctI x.Control.Term.Data:Nat):Int)+((qE qA.ct x.Control.Term.Kids:Nat):Int)+((qE ctI x.Control.Env:Nat):Int))).map qF.enc) false) (AV.rows (.lst 1 (x.Control.Term.Data.map qD) false)+AV.rows (.lst 4 (x.Control.Term.Kids.map qA.enc) false)+AV.rows (.lst 1 (x.Control.Env.map qD) false))).2) (post:=[]) (t:=(.lst 6 (x.Heap.map qH.enc) false)) (t':=(.lst 6 ((mkL qH.mrk qH.ct x.Heap (k+((qE ctI x.Control.Term.Data:Nat):Int)+((qE qA.ct x.Control.Term.Kids:Nat):Int)+((qE ctI x.Control.Env:Nat):Int)+((qE qF.ct x.Stack:Nat):Int))).map qH.enc) false)) (k473 x.Heap (k+((qE ctI x.Control.Term.Data:Nat):Int)+((qE qA.ct x.Control.Term.Kids:Nat):Int)+((qE ctI x.Control.Env:Nat):Int)+((qE qF.ct x.Stack:Nat):Int)) (by omega) (by omega) (z3) (z4)) ?_ ?_ (by rw [zU,lMp]) ?_
  · first | rfl | (simp only [lAp,lNi,qV,AV.rows,qT qA.mrk qA.ct (enc:=qA.enc) qA.rowsM,qT qF.mrk qF.ct (enc:=qF.enc) qF.rowsM,qT qH.mrk qH.ct (enc:=qH.enc) qH.rowsM,qT mkI ctI (enc:=qD) (fun _ _=>rfl)];done) | (simp only [lAp,lNi,qV,AV.rows,qT qA.mrk qA.ct (enc:=qA.enc) qA.rowsM,qT qF.mrk qF.ct (enc:=qF.enc) qF.rowsM,qT qH.mrk qH.ct (enc:=qH.enc) qH.rowsM,qT mkI ctI (enc:=qD) (fun _ _=>rfl)];omega)
  · first | rfl | (simp only [lAa,List.nil_append,lAn];done) | (simp only [lAa,List.nil_append,lAn,AV.rows,qT qA.mrk qA.ct (enc:=qA.enc) qA.rowsM,qT mkI ctI (enc:=qD) (fun _ _=>rfl),qT qF.mrk qF.ct (enc:=qF.enc) qF.rowsM,qT qH.mrk qH.ct (enc:=qH.enc) qH.rowsM];done)
  simp only [lAa,List.nil_append,lAn,go_sem,Nat.reduceEqDiff,reduceIte,Nat.reduceAdd,nZa];refine JM (by first | rfl | (simp only [qG.ctV];done) | (simp only [qG.ctV];omega)) ?_;simp only [qG.mkV,AV.rows,qA.pK,qA.pV,qA.pD,qA.pC,nZa,lAa,List.nil_append,lAn,qT qA.mrk qA.ct (enc:=qA.enc) qA.rowsM,qT qF.mrk qF.ct (enc:=qF.enc) qF.rowsM,qT qH.mrk qH.ct (enc:=qH.enc) qH.rowsM,qT mkI ctI (enc:=qD) (fun _ _=>rfl)]
theorem q474 (x:qI) (k:Int) (h0:0≤k) (hk:k+(x.ctV:Nat)≤4611686018427387904) (hz:x.sz≤4194304):Pure Gm 474 [(x.mkV k).enc,.int .i64 k] (.int .i64 (k+(x.ctV:Nat))):=by
  refine Pure.intro [] [] g474 (by kernel_rfl) rfl (by simp [AV.trees,AV.tree,qI.tr]) rfl ?_;simp only [Xy,qP,go_sem,Nat.reduceEqDiff,reduceIte,Nat.reduceAdd,nZa];refine qX rfl ?_;simp only [go_sem,Nat.reduceEqDiff,reduceIte,Nat.reduceAdd,nZa];unfold qI.ctV at hk;simp only [qI.sz,qA.sz_eq] at hz;refine qK (q91 x.Term (k) (by omega) (by simp only [qA.ctV];omega) (by simp only [qA.sz_eq];omega)) ?_;simp only [qA.ctV,Int.natCast_add,←Int.add_assoc,go_sem,Nat.reduceEqDiff,reduceIte,Nat.reduceAdd,nZa]
  try (rw [show decide (k+((qE ctI x.Term.Data:Nat):Int)+((qE qA.ct x.Term.Kids:Nat):Int)<0)=false from decide_eq_false (by omega)];simp only [go_sem,Nat.reduceEqDiff,reduceIte,Nat.reduceAdd,nZa])
  refine qK (q92 x.Env (k+((qE ctI x.Term.Data:Nat):Int)+((qE qA.ct x.Term.Kids:Nat):Int)) (by omega) (by omega) (by omega)) ?_;simp only [go_sem,Nat.reduceEqDiff,reduceIte,Nat.reduceAdd,nZa]
  try (rw [show decide (k+((qE ctI x.Term.Data:Nat):Int)+((qE qA.ct x.Term.Kids:Nat):Int)+((qE ctI x.Env:Nat):Int)<0)=false from decide_eq_false (by omega)];simp only [go_sem,Nat.reduceEqDiff,reduceIte,Nat.reduceAdd,nZa])
  refine qJ rfl ?_
  first | rfl | (simp only [qI.ctV,AV.int.injEq,true_and];done) | (simp only [qI.ctV,AV.int.injEq,true_and];omega)
theorem q475 (xs:List qF) (k:Int) (h0:0≤k) (hk:k+(qE qF.ct xs:Nat)≤4611686018427387904) (hl:xs.length≤4194304) (hz:∀y∈xs,y.sz≤4194304):Pure Gm 475 [(.lst 8 ((mkL qF.mrk qF.ct xs k).map qF.enc) false),.int .i64 k] (.int .i64 (k+(qE qF.ct xs:Nat))):=by
  refine Pure.intro [] [] g475 (by kernel_rfl) rfl (by simp [AV.trees,AV.tree,zB qF.isSh.tree]) rfl ?_;simp only [Xz,qP,go_sem,Nat.reduceEqDiff,reduceIte,Nat.reduceAdd,nZa];refine Sem.loop (fun i:Nat=>i≤xs.length) (fun i=>(⟨[(0,(.lst 8 ((mkL qF.mrk qF.ct xs k).map qF.enc) false)),(1,.int .i64 (k+((qE qF.ct (xs.take i):Nat):Int))),(5,.int .i64 (i:Nat))],[],[]⟩:VSt)) (fun i=>xs.length-i) 0 (by kernel_rfl) (Nat.zero_le _) (by simp only [List.take_zero,qE,Int.ofNat_zero,Int.natCast_zero,Int.add_zero];exact Can.sub (by simp [go_sem]) (by simp [go_sem])) ?_;intro i hi;simp only [jP,go_sem,Nat.reduceEqDiff,reduceIte,Nat.reduceAdd,nZa];refine qN ?_ ?_<;>intro hc<;>simp only [hc,go_sem,Nat.reduceEqDiff,reduceIte,Nat.reduceAdd,nZa]
  · have hlt:i<xs.length:=by have:=odT hc;omega
    have hct:=ZH qF.ct hlt;have hcl:=ZG qF.ct xs (i+1);have hget:=UB qF.mrk qF.ct hlt k;have hsz:=hz xs[i] (gMm hlt);obtain ⟨K,hK⟩:∃K:Int,K=k+((qE qF.ct (xs.take i):Nat):Int):=⟨_,rfl⟩;have hend:k+((qE qF.ct (xs.take (i+1)):Nat):Int)=K+((qF.ct xs[i]:Nat):Int):=by rw [hct,hK];omega
    have hKb:0≤K∧K+((qF.ct xs[i]:Nat):Int)≤4611686018427387904:=by rw [←hend];omega
    rw [←hK] at hget⊢;obtain ⟨y,hy⟩:∃y,y=xs[i]:=⟨_,rfl⟩;rw [←hy] at hget hend hKb hsz;have hcy:qF.ct y=1+1+qE ctI y.Data+1+1+qE ctI y.Closure.Term.Data+qE qA.ct y.Closure.Term.Kids+qE ctI y.Closure.Env:=rfl;rw [hcy] at hend hKb;simp only [qF.sz,qI.sz,qA.sz_eq] at hsz;simp only [gMp,hget,oMs,go_sem,Nat.reduceEqDiff,reduceIte,Nat.reduceAdd,nZa]
    try simp only [gMp,hget,oMs,qF.mrk,qA.pK,qA.pV,qA.pD,qA.pC,show ((3:Int)=0)=False from eq_false (by decide),beq_self_eq_true,Bool.not_true,go_sem,Nat.reduceEqDiff,reduceIte,Nat.reduceAdd,nZa]
    rw [qv (n:=K+1) (by omega) (by omega)]
    try simp only [gMp,hget,oMs,qF.mrk,qA.pK,qA.pV,qA.pD,qA.pC,show ((3:Int)=0)=False from eq_false (by decide),beq_self_eq_true,Bool.not_true,go_sem,Nat.reduceEqDiff,reduceIte,Nat.reduceAdd,nZa]
    try simp only [gMp,hget,oMs,qF.mrk,qA.pK,qA.pV,qA.pD,qA.pC,show ((3:Int)=0)=False from eq_false (by decide),beq_self_eq_true,Bool.not_true,go_sem,Nat.reduceEqDiff,reduceIte,Nat.reduceAdd,nZa]
    rw [qv (n:=K+1+1) (by omega) (by omega)]
    try simp only [gMp,hget,oMs,qF.mrk,qA.pK,qA.pV,qA.pD,qA.pC,show ((3:Int)=0)=False from eq_false (by decide),beq_self_eq_true,Bool.not_true,go_sem,Nat.reduceEqDiff,reduceIte,Nat.reduceAdd,nZa]
    try simp only [gMp,hget,oMs,qF.mrk,qA.pK,qA.pV,qA.pD,qA.pC,show ((3:Int)=0)=False from eq_false (by decide),beq_self_eq_true,Bool.not_true,go_sem,Nat.reduceEqDiff,reduceIte,Nat.reduceAdd,nZa]
    refine qK (q92 y.Data (K+1+1) (by omega) (by omega) (by omega)) ?_;simp only [gMp,hget,oMs,qF.mrk,qA.pK,qA.pV,qA.pD,qA.pC,show ((3:Int)=0)=False from eq_false (by decide),beq_self_eq_true,Bool.not_true,go_sem,Nat.reduceEqDiff,reduceIte,Nat.reduceAdd,nZa];rw [show decide (K+1+1+((qE ctI y.Data:Nat):Int)<0)=false from decide_eq_false (by omega)];simp only [gMp,hget,oMs,qF.mrk,qA.pK,qA.pV,qA.pD,qA.pC,show ((3:Int)=0)=False from eq_false (by decide),beq_self_eq_true,Bool.not_true,go_sem,Nat.reduceEqDiff,reduceIte,Nat.reduceAdd,nZa]
    try simp only [gMp,hget,oMs,qF.mrk,qA.pK,qA.pV,qA.pD,qA.pC,show ((3:Int)=0)=False from eq_false (by decide),beq_self_eq_true,Bool.not_true,go_sem,Nat.reduceEqDiff,reduceIte,Nat.reduceAdd,nZa]
    rw [qv (n:=K+1+1+((qE ctI y.Data:Nat):Int)+1) (by omega) (by omega)]
    try simp only [gMp,hget,oMs,qF.mrk,qA.pK,qA.pV,qA.pD,qA.pC,show ((3:Int)=0)=False from eq_false (by decide),beq_self_eq_true,Bool.not_true,go_sem,Nat.reduceEqDiff,reduceIte,Nat.reduceAdd,nZa]
    try simp only [gMp,hget,oMs,qF.mrk,qA.pK,qA.pV,qA.pD,qA.pC,show ((3:Int)=0)=False from eq_false (by decide),beq_self_eq_true,Bool.not_true,go_sem,Nat.reduceEqDiff,reduceIte,Nat.reduceAdd,nZa]
    rw [qv (n:=K+1+1+((qE ctI y.Data:Nat):Int)+1+1) (by omega) (by omega)]
    try simp only [gMp,hget,oMs,qF.mrk,qA.pK,qA.pV,qA.pD,qA.pC,show ((3:Int)=0)=False from eq_false (by decide),beq_self_eq_true,Bool.not_true,go_sem,Nat.reduceEqDiff,reduceIte,Nat.reduceAdd,nZa]
    try simp only [gMp,hget,oMs,qF.mrk,qA.pK,qA.pV,qA.pD,qA.pC,show ((3:Int)=0)=False from eq_false (by decide),beq_self_eq_true,Bool.not_true,go_sem,Nat.reduceEqDiff,reduceIte,Nat.reduceAdd,nZa]
    refine qK (q92 y.Closure.Term.Data (K+1+1+((qE ctI y.Data:Nat):Int)+1+1) (by omega) (by omega) (by omega)) ?_;simp only [gMp,hget,oMs,qF.mrk,qA.pK,qA.pV,qA.pD,qA.pC,show ((3:Int)=0)=False from eq_false (by decide),beq_self_eq_true,Bool.not_true,go_sem,Nat.reduceEqDiff,reduceIte,Nat.reduceAdd,nZa];rw [show decide (K+1+1+((qE ctI y.Data:Nat):Int)+1+1+((qE ctI y.Closure.Term.Data:Nat):Int)<0)=false from decide_eq_false (by omega)];simp only [gMp,hget,oMs,qF.mrk,qA.pK,qA.pV,qA.pD,qA.pC,show ((3:Int)=0)=False from eq_false (by decide),beq_self_eq_true,Bool.not_true,go_sem,Nat.reduceEqDiff,reduceIte,Nat.reduceAdd,nZa]
    try simp only [gMp,hget,oMs,qF.mrk,qA.pK,qA.pV,qA.pD,qA.pC,show ((3:Int)=0)=False from eq_false (by decide),beq_self_eq_true,Bool.not_true,go_sem,Nat.reduceEqDiff,reduceIte,Nat.reduceAdd,nZa]
    refine qK (q348 y.Closure.Term.Kids (K+1+1+((qE ctI y.Data:Nat):Int)+1+1+((qE ctI y.Closure.Term.Data:Nat):Int)) (by omega) (by omega) (by omega)) ?_;simp only [gMp,hget,oMs,qF.mrk,qA.pK,qA.pV,qA.pD,qA.pC,show ((3:Int)=0)=False from eq_false (by decide),beq_self_eq_true,Bool.not_true,go_sem,Nat.reduceEqDiff,reduceIte,Nat.reduceAdd,nZa];rw [show decide (K+1+1+((qE ctI y.Data:Nat):Int)+1+1+((qE ctI y.Closure.Term.Data:Nat):Int)+((qE qA.ct y.Closure.Term.Kids:Nat):Int)<0)=false from decide_eq_false (by omega)];simp only [gMp,hget,oMs,qF.mrk,qA.pK,qA.pV,qA.pD,qA.pC,show ((3:Int)=0)=False from eq_false (by decide),beq_self_eq_true,Bool.not_true,go_sem,Nat.reduceEqDiff,reduceIte,Nat.reduceAdd,nZa]
    try simp only [gMp,hget,oMs,qF.mrk,qA.pK,qA.pV,qA.pD,qA.pC,show ((3:Int)=0)=False from eq_false (by decide),beq_self_eq_true,Bool.not_true,go_sem,Nat.reduceEqDiff,reduceIte,Nat.reduceAdd,nZa]
    refine qK (q92 y.Closure.Env (K+1+1+((qE ctI y.Data:Nat):Int)+1+1+((qE ctI y.Closure.Term.Data:Nat):Int)+((qE qA.ct y.Closure.Term.Kids:Nat):Int)) (by omega) (by omega) (by omega)) ?_;simp only [gMp,hget,oMs,qF.mrk,qA.pK,qA.pV,qA.pD,qA.pC,show ((3:Int)=0)=False from eq_false (by decide),beq_self_eq_true,Bool.not_true,go_sem,Nat.reduceEqDiff,reduceIte,Nat.reduceAdd,nZa];rw [show decide (K+1+1+((qE ctI y.Data:Nat):Int)+1+1+((qE ctI y.Closure.Term.Data:Nat):Int)+((qE qA.ct y.Closure.Term.Kids:Nat):Int)+((qE ctI y.Closure.Env:Nat):Int)<0)=false from decide_eq_false (by omega)];simp only [gMp,hget,oMs,qF.mrk,qA.pK,qA.pV,qA.pD,qA.pC,show ((3:Int)=0)=False from eq_false (by decide),beq_self_eq_true,Bool.not_true,go_sem,Nat.reduceEqDiff,reduceIte,Nat.reduceAdd,nZa];simp only [qp (show i<4611686018427387904 by omega)];refine qt (i+1) (by omega) (by omega) ?_;have e3:K+1+1+((qE ctI y.Data:Nat):Int)+1+1+((qE ctI y.Closure.Term.Data:Nat):Int)+((qE qA.ct y.Closure.Term.Kids:Nat):Int)+((qE ctI y.Closure.Env:Nat):Int)=k+((qE qF.ct (xs.take (i+1)):Nat):Int):=by first | (rw [hend];done) | (rw [hend];omega)
    rw [e3];exact Can.sub (by simp [go_sem]) (by simp [go_sem])
  · have hge:i=xs.length:=by have:=odF hc;omega
    subst hge;refine qJ rfl ?_;rw [List.take_length]
theorem q476 (xs:List qH) (k:Int) (h0:0≤k) (hk:k+(qE qH.ct xs:Nat)≤4611686018427387904) (hl:xs.length≤4194304) (hz:∀y∈xs,y.sz≤4194304):Pure Gm 476 [(.lst 6 ((mkL qH.mrk qH.ct xs k).map qH.enc) false),.int .i64 k] (.int .i64 (k+(qE qH.ct xs:Nat))):=by
  refine Pure.intro [] [] g476 (by kernel_rfl) rfl (by simp [AV.trees,AV.tree,zB qH.isSh.tree]) rfl ?_;simp only [X0,qP,go_sem,Nat.reduceEqDiff,reduceIte,Nat.reduceAdd,nZa];refine Sem.loop (fun i:Nat=>i≤xs.length) (fun i=>(⟨[(0,(.lst 6 ((mkL qH.mrk qH.ct xs k).map qH.enc) false)),(1,.int .i64 (k+((qE qH.ct (xs.take i):Nat):Int))),(5,.int .i64 (i:Nat))],[],[]⟩:VSt)) (fun i=>xs.length-i) 0 (by kernel_rfl) (Nat.zero_le _) (by simp only [List.take_zero,qE,Int.ofNat_zero,Int.natCast_zero,Int.add_zero];exact Can.sub (by simp [go_sem]) (by simp [go_sem])) ?_;intro i hi;simp only [jP,go_sem,Nat.reduceEqDiff,reduceIte,Nat.reduceAdd,nZa];refine qN ?_ ?_<;>intro hc<;>simp only [hc,go_sem,Nat.reduceEqDiff,reduceIte,Nat.reduceAdd,nZa]
  · have hlt:i<xs.length:=by have:=odT hc;omega
    have hct:=ZH qH.ct hlt;have hcl:=ZG qH.ct xs (i+1);have hget:=UB qH.mrk qH.ct hlt k;have hsz:=hz xs[i] (gMm hlt);obtain ⟨K,hK⟩:∃K:Int,K=k+((qE qH.ct (xs.take i):Nat):Int):=⟨_,rfl⟩;have hend:k+((qE qH.ct (xs.take (i+1)):Nat):Int)=K+((qH.ct xs[i]:Nat):Int):=by rw [hct,hK];omega
    have hKb:0≤K∧K+((qH.ct xs[i]:Nat):Int)≤4611686018427387904:=by rw [←hend];omega
    rw [←hK] at hget⊢;obtain ⟨y,hy⟩:∃y,y=xs[i]:=⟨_,rfl⟩;rw [←hy] at hget hend hKb hsz;have hcy:qH.ct y=1+1+1+qE ctI y.Closure.Term.Data+qE qA.ct y.Closure.Term.Kids+qE ctI y.Closure.Env:=rfl;rw [hcy] at hend hKb;simp only [qH.sz,qI.sz,qA.sz_eq] at hsz;simp only [gMp,hget,oMs,go_sem,Nat.reduceEqDiff,reduceIte,Nat.reduceAdd,nZa]
    try simp only [gMp,hget,oMs,qH.mrk,qA.pK,qA.pV,qA.pD,qA.pC,show ((3:Int)=0)=False from eq_false (by decide),beq_self_eq_true,Bool.not_true,go_sem,Nat.reduceEqDiff,reduceIte,Nat.reduceAdd,nZa]
    rw [qv (n:=K+1) (by omega) (by omega)]
    try simp only [gMp,hget,oMs,qH.mrk,qA.pK,qA.pV,qA.pD,qA.pC,show ((3:Int)=0)=False from eq_false (by decide),beq_self_eq_true,Bool.not_true,go_sem,Nat.reduceEqDiff,reduceIte,Nat.reduceAdd,nZa]
    try simp only [gMp,hget,oMs,qH.mrk,qA.pK,qA.pV,qA.pD,qA.pC,show ((3:Int)=0)=False from eq_false (by decide),beq_self_eq_true,Bool.not_true,go_sem,Nat.reduceEqDiff,reduceIte,Nat.reduceAdd,nZa]
    rw [qv (n:=K+1+1) (by omega) (by omega)]
    try simp only [gMp,hget,oMs,qH.mrk,qA.pK,qA.pV,qA.pD,qA.pC,show ((3:Int)=0)=False from eq_false (by decide),beq_self_eq_true,Bool.not_true,go_sem,Nat.reduceEqDiff,reduceIte,Nat.reduceAdd,nZa]
    try simp only [gMp,hget,oMs,qH.mrk,qA.pK,qA.pV,qA.pD,qA.pC,show ((3:Int)=0)=False from eq_false (by decide),beq_self_eq_true,Bool.not_true,go_sem,Nat.reduceEqDiff,reduceIte,Nat.reduceAdd,nZa]
    rw [qv (n:=K+1+1+1) (by omega) (by omega)]
    try simp only [gMp,hget,oMs,qH.mrk,qA.pK,qA.pV,qA.pD,qA.pC,show ((3:Int)=0)=False from eq_false (by decide),beq_self_eq_true,Bool.not_true,go_sem,Nat.reduceEqDiff,reduceIte,Nat.reduceAdd,nZa]
    try simp only [gMp,hget,oMs,qH.mrk,qA.pK,qA.pV,qA.pD,qA.pC,show ((3:Int)=0)=False from eq_false (by decide),beq_self_eq_true,Bool.not_true,go_sem,Nat.reduceEqDiff,reduceIte,Nat.reduceAdd,nZa]
    refine qK (q92 y.Closure.Term.Data (K+1+1+1) (by omega) (by omega) (by omega)) ?_;simp only [gMp,hget,oMs,qH.mrk,qA.pK,qA.pV,qA.pD,qA.pC,show ((3:Int)=0)=False from eq_false (by decide),beq_self_eq_true,Bool.not_true,go_sem,Nat.reduceEqDiff,reduceIte,Nat.reduceAdd,nZa];rw [show decide (K+1+1+1+((qE ctI y.Closure.Term.Data:Nat):Int)<0)=false from decide_eq_false (by omega)];simp only [gMp,hget,oMs,qH.mrk,qA.pK,qA.pV,qA.pD,qA.pC,show ((3:Int)=0)=False from eq_false (by decide),beq_self_eq_true,Bool.not_true,go_sem,Nat.reduceEqDiff,reduceIte,Nat.reduceAdd,nZa]
    try simp only [gMp,hget,oMs,qH.mrk,qA.pK,qA.pV,qA.pD,qA.pC,show ((3:Int)=0)=False from eq_false (by decide),beq_self_eq_true,Bool.not_true,go_sem,Nat.reduceEqDiff,reduceIte,Nat.reduceAdd,nZa]
    refine qK (q348 y.Closure.Term.Kids (K+1+1+1+((qE ctI y.Closure.Term.Data:Nat):Int)) (by omega) (by omega) (by omega)) ?_;simp only [gMp,hget,oMs,qH.mrk,qA.pK,qA.pV,qA.pD,qA.pC,show ((3:Int)=0)=False from eq_false (by decide),beq_self_eq_true,Bool.not_true,go_sem,Nat.reduceEqDiff,reduceIte,Nat.reduceAdd,nZa];rw [show decide (K+1+1+1+((qE ctI y.Closure.Term.Data:Nat):Int)+((qE qA.ct y.Closure.Term.Kids:Nat):Int)<0)=false from decide_eq_false (by omega)];simp only [gMp,hget,oMs,qH.mrk,qA.pK,qA.pV,qA.pD,qA.pC,show ((3:Int)=0)=False from eq_false (by decide),beq_self_eq_true,Bool.not_true,go_sem,Nat.reduceEqDiff,reduceIte,Nat.reduceAdd,nZa]
    try simp only [gMp,hget,oMs,qH.mrk,qA.pK,qA.pV,qA.pD,qA.pC,show ((3:Int)=0)=False from eq_false (by decide),beq_self_eq_true,Bool.not_true,go_sem,Nat.reduceEqDiff,reduceIte,Nat.reduceAdd,nZa]
    refine qK (q92 y.Closure.Env (K+1+1+1+((qE ctI y.Closure.Term.Data:Nat):Int)+((qE qA.ct y.Closure.Term.Kids:Nat):Int)) (by omega) (by omega) (by omega)) ?_;simp only [gMp,hget,oMs,qH.mrk,qA.pK,qA.pV,qA.pD,qA.pC,show ((3:Int)=0)=False from eq_false (by decide),beq_self_eq_true,Bool.not_true,go_sem,Nat.reduceEqDiff,reduceIte,Nat.reduceAdd,nZa];rw [show decide (K+1+1+1+((qE ctI y.Closure.Term.Data:Nat):Int)+((qE qA.ct y.Closure.Term.Kids:Nat):Int)+((qE ctI y.Closure.Env:Nat):Int)<0)=false from decide_eq_false (by omega)];simp only [gMp,hget,oMs,qH.mrk,qA.pK,qA.pV,qA.pD,qA.pC,show ((3:Int)=0)=False from eq_false (by decide),beq_self_eq_true,Bool.not_true,go_sem,Nat.reduceEqDiff,reduceIte,Nat.reduceAdd,nZa];simp only [qp (show i<4611686018427387904 by omega)];refine qt (i+1) (by omega) (by omega) ?_;have e3:K+1+1+1+((qE ctI y.Closure.Term.Data:Nat):Int)+((qE qA.ct y.Closure.Term.Kids:Nat):Int)+((qE ctI y.Closure.Env:Nat):Int)=k+((qE qH.ct (xs.take (i+1)):Nat):Int):=by first | (rw [hend];done) | (rw [hend];omega)
    rw [e3];exact Can.sub (by simp [go_sem]) (by simp [go_sem])
  · have hge:i=xs.length:=by have:=odF hc;omega
    subst hge;refine qJ rfl ?_;rw [List.take_length]
theorem q158 (x:qG) (k:Int) (h0:0≤k) (hk:k+(x.ctV:Nat)≤4611686018427387904) (hz:x.le):Pure Gm 158 [(x.mkV k).enc,.int .i64 k] (.int .i64 (k+(x.ctV:Nat))):=by
  refine Pure.intro [] [] g158 (by kernel_rfl) rfl (by simp [AV.trees,AV.tree,qG.tr]) rfl ?_;simp only [XU,qP,go_sem,Nat.reduceEqDiff,reduceIte,Nat.reduceAdd,nZa];refine qX rfl ?_;simp only [go_sem,Nat.reduceEqDiff,reduceIte,Nat.reduceAdd,nZa];unfold qG.ctV at hk;obtain ⟨hz,z1,z2,z3,z4⟩:=hz;simp only [qI.sz,qA.sz_eq] at hz;refine qK (q474 x.Control (k) (by omega) (by simp only [qI.ctV];omega) (by simp only [qI.sz,qA.sz_eq];omega)) ?_;simp only [qI.ctV,Int.natCast_add,←Int.add_assoc,go_sem,Nat.reduceEqDiff,reduceIte,Nat.reduceAdd,nZa]
  try (rw [show decide (k+((qE ctI x.Control.Term.Data:Nat):Int)+((qE qA.ct x.Control.Term.Kids:Nat):Int)+((qE ctI x.Control.Env:Nat):Int)<0)=false from decide_eq_false (by omega)];simp only [go_sem,Nat.reduceEqDiff,reduceIte,Nat.reduceAdd,nZa])
  refine qK (q475 x.Stack (k+((qE ctI x.Control.Term.Data:Nat):Int)+((qE qA.ct x.Control.Term.Kids:Nat):Int)+((qE ctI x.Control.Env:Nat):Int)) (by omega) (by omega) (z1) (z2)) ?_;simp only [go_sem,Nat.reduceEqDiff,reduceIte,Nat.reduceAdd,nZa]
  try (rw [show decide (k+((qE ctI x.Control.Term.Data:Nat):Int)+((qE qA.ct x.Control.Term.Kids:Nat):Int)+((qE ctI x.Control.Env:Nat):Int)+((qE qF.ct x.Stack:Nat):Int)<0)=false from decide_eq_false (by omega)];simp only [go_sem,Nat.reduceEqDiff,reduceIte,Nat.reduceAdd,nZa])
  refine qK (q476 x.Heap (k+((qE ctI x.Control.Term.Data:Nat):Int)+((qE qA.ct x.Control.Term.Kids:Nat):Int)+((qE ctI x.Control.Env:Nat):Int)+((qE qF.ct x.Stack:Nat):Int)) (by omega) (by omega) (z3) (z4)) ?_;simp only [go_sem,Nat.reduceEqDiff,reduceIte,Nat.reduceAdd,nZa]
  try (rw [show decide (k+((qE ctI x.Control.Term.Data:Nat):Int)+((qE qA.ct x.Control.Term.Kids:Nat):Int)+((qE ctI x.Control.Env:Nat):Int)+((qE qF.ct x.Stack:Nat):Int)+((qE qH.ct x.Heap:Nat):Int)<0)=false from decide_eq_false (by omega)];simp only [go_sem,Nat.reduceEqDiff,reduceIte,Nat.reduceAdd,nZa])
  refine qJ rfl ?_
  first | rfl | (simp only [qG.ctV,AV.int.injEq,true_and];done) | (simp only [qG.ctV,AV.int.injEq,true_and];omega)
end Go.Ab
namespace Go.Ab
open Go
set_option maxRecDepth 10000
set_option maxHeartbeats 2000000
attribute [local simp] qo qd
theorem qX1 {S S1:List (Option Nat)} {g mid:List qC} {k w:Nat} {vs ts:List AV} {X t:AV} (hO:qy S g vs ts) (hS:∀j,some j∈S→j<g.length) (hk:g[k]?=some (.row w vs true)) (hn:some k∉S)
    (hX:zF S1 (g++mid) X t) (hS1:∀j,some j∈S1→g.length≤j∧j<g.length+mid.length):
    ∃G,G=(((g++mid)++[qC.row w [X] true]).set k .dead)++[qC.row w (vs++[X]) true]∧qy (S++S1) G (vs++[X]) (ts++[t])∧(∀j,some j∈S++S1→j<G.length)∧G[g.length+mid.length+1]?=some (.row w (vs++[X]) true)∧some (g.length+mid.length+1)∉S++S1∧
      (∀j,j<g.length→j≠k→G[j]?=g[j]?)∧g.length≤G.length∧∀j,some j∈S++S1→some j∈S∨g.length≤j:=by
  have lk:=qf hk;have a1:∀j,j<g.length+mid.length→j≠k→((((g++mid)++[qC.row w [X] true]).set k .dead)++[qC.row w (vs++[X]) true])[j]?=(g++mid)[j]?:=fun j hj hne=>by
    rw [gAl (by simp;omega),gSn (Ne.symm hne),gAl (by simp;omega)]
  refine ⟨_,rfl, ?_,fun j hj=> ?_, ?_,fun q=> ?_,fun j hj hne=> ?_,by simp;omega,fun j hj=> ?_⟩
  · refine (hO.heap fun j hj=> ?_).snoc (hX.heap fun j hj=> ?_) fun j hj hj2=> ?_
    · have:=hS j hj;rw [a1 j (by omega) (by rintro rfl;exact hn hj),gAl this]
    · have:=hS1 j hj;exact a1 j (by omega) (by omega)
    · have:=hS j hj;have:=hS1 j hj2;omega
  · rcases List.mem_append.1 hj with q | q
    · have:=hS j q;simp;omega
    · have:=hS1 j q;simp;omega
  · rw [gAr (by simp;omega)];simp only [List.length_set,lAp,lCo,lNi];rw [show g.length+mid.length+1-(g.length+mid.length+(0+1))=0 by omega];rfl
  · rcases List.mem_append.1 q with q | q
    · have:=hS _ q;omega
    · have:=hS1 _ q;omega
  · rw [a1 j (by omega) hne,gAl hj]
  · rcases List.mem_append.1 hj with q | q
    · exact .inl q
    · exact .inr (hS1 j q).1
structure IFs (S0:List (Option Nat)) (cs0 ts0:List AV) (w:Nat) (g:List qC) (si:Nat) (S:List (Option Nat)) (vs ts:List AV):Prop where
  c:qy S0 g cs0 ts0
  c0:∀j,some j∈S0→j<g.length
  o:qy S g vs ts
  o0:∀j,some j∈S→j<g.length
  r:g[si]?=some (.row w vs true)
  n1:some si∉S
  n2:some si∉S0
  n3:∀j,some j∈S0→some j∉S
section
variable {S0 S S1:List (Option Nat)} {cs0 ts0 vs ts:List AV} {w si:Nat} {g mid:List qC} {X t:AV}
theorem IFs.start (hc:qy S0 g cs0 ts0) (h0:∀j,some j∈S0→j<g.length):IFs S0 cs0 ts0 w (g++[.row w [] true]) g.length [] [] []:=
  ⟨hc.heap fun j hj=>gAl (h0 j hj),fun j hj=>by have:=h0 j hj;simp;omega,qy.nil,fun j hj=>by simp at hj,by simp,by simp,fun q=>by have:=h0 _ q;omega,fun j _ hj=>by simp at hj⟩
theorem IFs.push (h:IFs S0 cs0 ts0 w g si S vs ts) (hX:zF S1 (g++mid) X t) (hS1:∀j,some j∈S1→g.length≤j∧j<g.length+mid.length):
    IFs S0 cs0 ts0 w ((((g++mid)++[qC.row w [X] true]).set si .dead)++[qC.row w (vs++[X]) true]) (g.length+mid.length+1) (S++S1) (vs++[X]) (ts++[t]):=by
  obtain ⟨G,hG,q1,q2,q3,q4,q5,q6,q7⟩:=qX1 h.o h.o0 h.r h.n1 hX hS1;rw [←hG];refine ⟨h.c.heap fun j hj=>q5 j (h.c0 j hj) (by rintro rfl;exact h.n2 hj),fun j hj=>by have:=h.c0 j hj;omega,q1,q2,q3,q4,fun q=>by have:=h.c0 _ q;omega,fun j hj hj2=> ?_⟩;rcases q7 j hj2 with q | q
  · exact h.n3 j hj q
  · have:=h.c0 j hj;omega
theorem IFs.done {n:Nat} (h:IFs S0 cs0 ts0 w g si S vs ts) (hn:ts.length=n):qy (S0++some si::S) g (cs0++[.slice w si 0 n false]) (ts0++[.lst w ts false])∧∀j,some j∈S0++some si::S→j<g.length:=by
  subst hn;refine ⟨h.c.snoc (h.o.row h.r h.n1) fun j hj hj2=> ?_,fun j hj=> ?_⟩
  · rcases List.mem_cons.1 hj2 with q | q
    · cases q;exact h.n2 hj
    · exact h.n3 j hj q
  · rcases List.mem_append.1 hj with q | q
    · exact h.c0 j q
    · rcases List.mem_cons.1 q with q | q
      · cases q;exact qf h.r
      · exact h.o0 j q
end
structure QF where
  i:Nat
  g:List qC
  si:Nat
  S:List (Option Nat)
  vs:List AV
theorem n696 (x:qI) (hz:x.sz≤1048576):Fresh Gm 696 [x.enc] x.enc:=by
  refine Fresh.intro [] [] g696 (by kernel_rfl) rfl (by simp [AV.trees,qI.tr]) (qI.plx x) ?_;simp only [YK,qP,go_sem];refine qX rfl ?_;simp only [go_sem];unfold qI.sz at hz;refine zn (n385 x.Term (by omega)) ?_;simp only [go_sem,qA.layE];refine zn (n401 x.Env (by omega)) ?_;simp only [go_sem,zU];refine qe rfl rfl ⟨_,rfl⟩ (by decide) ?_;simp only [go_sem];exact jx (pre:=[]) (post:=[]) (qI.plx x) (by simp [q9,qI.layE,qV,Nat.add_assoc,qA.layE,qA.rowsE]) (by simp [qI.layE,qV,Nat.add_assoc,qA.layE,qA.rowsE])
theorem qK4 (x:qI) (n:Nat):∃a b c,(lay x.enc n).1=.agg [.int .i64 x.Term.Kind,.int .i64 x.Term.Value,a,b,c]:=by rw [qI.layE];exact ⟨_,_,_,rfl⟩
theorem qXZ {g:List qC} {f:qF} {a1 b1 c1:AV} (hl:(lay f.Closure.enc (g++(lay (.lst 1 (f.Data.map qD) false) g.length).2).length).1=.agg [.int .i64 f.Closure.Term.Kind,.int .i64 f.Closure.Term.Value,a1,b1,c1]):
    ∃S1,zF S1 (g++((lay (.lst 1 (f.Data.map qD) false) g.length).2++(lay f.Closure.enc (g++(lay (.lst 1 (f.Data.map qD) false) g.length).2).length).2)) (.agg [.int .i64 f.Kind,.int .i64 f.Value,.slice 1 g.length 0 f.Data.length false,.int .i64 f.Closure.Term.Kind,.int .i64 f.Closure.Term.Value,a1,b1,c1]) f.enc∧
      ∀j,some j∈S1→g.length≤j∧j<g.length+((lay (.lst 1 (f.Data.map qD) false) g.length).2++(lay f.Closure.enc (g++(lay (.lst 1 (f.Data.map qD) false) g.length).2).length).2).length:=by
  have oD:=zF.new (t:=.lst 1 (f.Data.map qD) false) (pre:=g) (post:=(lay f.Closure.enc (g++(lay (.lst 1 (f.Data.map qD) false) g.length).2).length).2) (by simp [AV.pl,zJ (enc:=qD) (fun _=>rfl)]) rfl rfl;have oC:=zF.new (t:=f.Closure.enc) (pre:=g++(lay (.lst 1 (f.Data.map qD) false) g.length).2) (post:=[]) (qI.plx _) rfl rfl;rw [hl,lAn,lAa] at oC;rw [zU,lMp] at oD;obtain ⟨vs,hv,oC⟩:=zF.aggs (ts:=[AV.int .i64 f.Closure.Term.Kind,.int .i64 f.Closure.Term.Value,.lst 1 (f.Closure.Term.Data.map qD) false,.lst 4 (f.Closure.Term.Kids.map qA.enc) false,.lst 1 (f.Closure.Env.map qD) false]) oC;cases hv;have o2:=((qy.nil.scal (a:=.int .i64 f.Kind) (fun _=>rfl) rfl rfl).scal (a:=.int .i64 f.Value) (fun _=>rfl) rfl rfl).snoc oD fun j hj=>by simp at hj
  have o3:=(o2.app oC fun j hj hj2=>by
    have h1:=Q9 (by simpa using hj);have h2:=Q9 hj2;rw [lAp,qV] at h2;omega).agg
  refine ⟨_,o3,fun j hj=> ?_⟩;rw [lAp,qV,qV];rcases List.mem_append.1 hj with q | q
  · have:=Q9 (by simpa using q);omega
  · have:=Q9 q;rw [lAp,qV] at this;omega
theorem qX2 {g:List qC} {t:qH} {a1 b1 c1:AV} (hl:(lay t.Closure.enc g.length).1=.agg [.int .i64 t.Closure.Term.Kind,.int .i64 t.Closure.Term.Value,a1,b1,c1]):
    ∃S1,zF S1 (g++(lay t.Closure.enc g.length).2) (.agg [.bool t.Done,.int .i64 t.Closure.Term.Kind,.int .i64 t.Closure.Term.Value,a1,b1,c1]) t.enc∧∀j,some j∈S1→g.length≤j∧j<g.length+(lay t.Closure.enc g.length).2.length:=by
  have oC:=zF.new (t:=t.Closure.enc) (pre:=g) (post:=[]) (qI.plx _) rfl rfl;rw [hl,lAn] at oC;obtain ⟨vs,hv,oC⟩:=zF.aggs (ts:=[AV.int .i64 t.Closure.Term.Kind,.int .i64 t.Closure.Term.Value,.lst 1 (t.Closure.Term.Data.map qD) false,.lst 4 (t.Closure.Term.Kids.map qA.enc) false,.lst 1 (t.Closure.Env.map qD) false]) oC;cases hv;have o3:=((qy.nil.scal (a:=.bool t.Done) (fun _=>rfl) rfl rfl).app oC fun j hj=>by simp at hj).agg;refine ⟨_,o3,fun j hj=> ?_⟩;rw [qV];exact Q9 (by simpa using hj)
theorem n467 (M:qG) (hc:M.Control.sz≤1048576) (hs:∀f∈M.Stack,f.sz≤1048576) (ht:∀t∈M.Heap,t.sz≤1048576) (l1:M.Stack.length≤100000) (l2:M.Heap.length≤100000):Fresh Gm 467 [M.enc] M.enc:=by
  refine Fresh.intro [] [] g467 (by kernel_rfl) rfl (by simp [AV.trees,qG.tr]) (qG.plx M) ?_;simp only [Xq,qP,go_sem];refine qX rfl ?_;simp only [go_sem];refine zn (n696 M.Control hc) ?_;simp only [List.nil_append,lNi];have o0:zF ((List.range' 0 M.Control.enc.rows).map some) ((lay M.Control.enc 0).2++[]) (lay M.Control.enc 0).1 M.Control.enc:=zF.new (pre:=[]) (post:=[]) (qI.plx _) rfl (by simp);obtain ⟨a,b,c,hl⟩:=qK4 M.Control 0;rw [lAn,hl] at o0;rw [hl];have s0:∀j,some j∈(List.range' 0 M.Control.enc.rows).map some→j<(lay M.Control.enc 0).2.length:=fun j hj=>by have:=Q9 hj;rw [qV];omega
  generalize (List.range' 0 M.Control.enc.rows).map some=S0 at o0 s0;generalize (lay M.Control.enc 0).2=g0 at o0 s0;simp only [go_sem];refine qe (k:=7) rfl rfl ⟨_,rfl⟩ (by decide) ?_;simp only [go_sem]
  try simp only [Xs,Xr,go_sem]
  obtain ⟨ks,hks⟩:∃ks,ks=[AV.int .i64 M.Control.Term.Kind,.int .i64 M.Control.Term.Value,.lst 1 (M.Control.Term.Data.map qD) false,.lst 4 (M.Control.Term.Kids.map qA.enc) false,.lst 1 (M.Control.Env.map qD) false]:=⟨_,rfl⟩;obtain ⟨vs0,hv0,o1⟩:=zF.aggs (ts:=ks) (by rw [hks];exact o0);cases hv0;clear o0;refine V6 (fun q:QF=>q.i≤M.Stack.length∧IFs S0 [.int .i64 M.Control.Term.Kind,.int .i64 M.Control.Term.Value,a,b,c] ks 8 q.g q.si q.S q.vs ((M.Stack.take q.i).map qF.enc))
    (fun q=>(⟨[(13,.lst 8 (M.Stack.map qF.enc) false),(14,.int .i64 (M.Stack.length:Nat)),(15,.int .i64 (q.i:Nat))],[(1,M.enc),(2,.agg [.int .i64 0,.int .i64 0,.nils,.nils,.nils,.nils,.nils]),
      (3,.agg [.int .i64 M.Control.Term.Kind,.int .i64 M.Control.Term.Value,a,b,c,.slice 8 q.si 0 q.i false,.nils])],q.g⟩:VSt)) (fun q=>M.Stack.length-q.i) ⟨0,g0++[.row 8 [] true],g0.length,[],[]⟩
    (fun q:QF=>IFs S0 [.int .i64 M.Control.Term.Kind,.int .i64 M.Control.Term.Value,a,b,c] ks 8 q.g q.si q.S q.vs (M.Stack.map qF.enc))
    (fun q=>(⟨[],[(1,M.enc),(2,.agg [.int .i64 0,.int .i64 0,.nils,.nils,.nils,.nils,.nils]),(3,.agg [.int .i64 M.Control.Term.Kind,.int .i64 M.Control.Term.Value,a,b,c,.slice 8 q.si 0 M.Stack.length false,.nils])],q.g⟩:VSt)) (by kernel_rfl) ?_ ?_ ?_ ?_
  · exact ⟨Nat.zero_le _,IFs.start o1 s0⟩
  · refine Can.ph (w:=8) ?_ ?_
    · exact WkN.same (by simp [go_sem]) (WkN.same (by simp [go_sem]) (WkN.same (by simp [go_sem]) .nil))
    · exact WkN.same (by simp [go_sem]) (WkN.same (by simp [go_sem]) (WkN.cons (v:=.agg [.int .i64 M.Control.Term.Kind,.int .i64 M.Control.Term.Value,a,b,c,.nils,.nils]) (by simp [go_sem]) (.agg (.same (.same (.same (.same (.same (.cons (.ph (by simp)) (.same .nil)))))))) .nil))
  · rintro ⟨i,g,si,S,vs⟩ ⟨h1,h2⟩;simp only at h1 h2⊢;simp only [go_sem];refine qN ?_ ?_<;>intro hc<;>simp only [hc,go_sem]
    · have hlt:i<M.Stack.length:=by have:=odT hc;omega
      clear hc;simp only [gMp,gEg hlt,oMs,go_sem];have hfz:=hs _ (gMm hlt);generalize hfe:M.Stack[i]=f at hfz;refine qe (k:=8) rfl rfl ⟨_,rfl⟩ (by decide) ?_;simp only [go_sem];have hfz':f.Data.length+f.Closure.sz≤1048576:=hfz;refine zn (n401 f.Data (by omega)) ?_;simp only [go_sem,zU];refine zn (n696 f.Closure (by omega)) ?_;obtain ⟨a1,b1,c1,hl1⟩:=qK4 f.Closure (g++(lay (.lst 1 (f.Data.map qD) false) g.length).2).length;rw [hl1];simp only [go_sem];obtain ⟨S1,oF,oF1⟩:=qXZ hl1;have l4:=qf h2.r;have hcnt:=h2.o.cnt;rw [lMp,List.length_take] at hcnt;refine jZ (x:=.agg [.int .i64 f.Kind,.int .i64 f.Value,.slice 1 g.length 0 f.Data.length false,.int .i64 f.Closure.Term.Kind,.int .i64 f.Closure.Term.Value,a1,b1,c1]) (xs:=vs) (js:=[]) List.getElem?_concat_length (by rw [lAn,gAl (by simp;omega),gAl (by simp;omega),gAl l4];exact h2.r) (by omega) (by omega) ?_;simp only [lAa g,go_sem];have h5:=h2.push oF oF1;rw [show (M.Stack.take i).map qF.enc++[f.enc]=(M.Stack.take (i+1)).map qF.enc by rw [ZI hlt,hfe];simp] at h5;clear oF oF1;generalize (AV.agg [.int .i64 f.Kind,.int .i64 f.Value,.slice 1 g.length 0 f.Data.length false,.int .i64 f.Closure.Term.Kind,.int .i64 f.Closure.Term.Value,a1,b1,c1])=X at h5⊢;clear hl1;generalize ((lay (AV.lst 1 (f.Data.map qD) false) g.length).2++(lay f.Closure.enc (g++(lay (.lst 1 (f.Data.map qD) false) g.length).2).length).2)=mid at h5⊢;rw [show (g++(mid++[qC.row 8 [X] true])).length=g.length+mid.length+1 by simp;omega,qp (show i<4611686018427387904 by omega)];rw [lAa g] at h5;exact V5 ⟨i+1,_,_,_,_⟩ ⟨by simp only;omega,h5⟩ (by simp only;omega) (Can.sub (by simp [go_sem]) (by simp [go_sem]))
    · obtain rfl:i=M.Stack.length:=by have:=odF hc;omega
      rw [List.take_length] at h2;exact UN ⟨0,g,si,S,vs⟩ h2 (Can.sub (by simp [go_sem]) (by simp [go_sem]))
  · rintro ⟨i,g,si,S,vs⟩ h2;simp only at h2⊢;simp only [go_sem];have hd:=h2.done (n:=M.Stack.length) (by simp);clear h2 o1 s0;obtain ⟨hd,hd0⟩:=hd;generalize S0++some si::S=S0 at hd hd0;simp only [List.cons_append,List.nil_append] at hd;generalize hks2:ks++[AV.lst 8 (M.Stack.map qF.enc) false]=ks2 at hd;generalize AV.slice 8 si 0 M.Stack.length false=d at hd⊢;refine Sem.loop (fun q:QF=>q.i≤M.Heap.length∧IFs S0 [.int .i64 M.Control.Term.Kind,.int .i64 M.Control.Term.Value,a,b,c,d] ks2 6 q.g q.si q.S q.vs ((M.Heap.take q.i).map qH.enc))
      (fun q=>(⟨[(37,.lst 6 (M.Heap.map qH.enc) false),(38,.int .i64 (M.Heap.length:Nat)),(39,.int .i64 (q.i:Nat))],[(1,M.enc),(2,.agg [.int .i64 0,.int .i64 0,.nils,.nils,.nils,.nils,.nils]),
        (3,.agg [.int .i64 M.Control.Term.Kind,.int .i64 M.Control.Term.Value,a,b,c,d,.slice 6 q.si 0 q.i false])],q.g⟩:VSt)) (fun q=>M.Heap.length-q.i) ⟨0,g++[.row 6 [] true],g.length,[],[]⟩ (by kernel_rfl) ?_ ?_ ?_
    · exact ⟨Nat.zero_le _,IFs.start hd hd0⟩
    · refine Can.ph (w:=6) ?_ ?_
      · exact WkN.same (by simp [go_sem]) (WkN.same (by simp [go_sem]) (WkN.same (by simp [go_sem]) .nil))
      · exact WkN.same (by simp [go_sem]) (WkN.same (by simp [go_sem]) (WkN.cons (v:=.agg [.int .i64 M.Control.Term.Kind,.int .i64 M.Control.Term.Value,a,b,c,d,.nils]) (by simp [go_sem]) (.agg (.same (.same (.same (.same (.same (.same (.cons (.ph (by simp)) .nil)))))))) .nil))
    · rintro ⟨i,g,si,S,vs⟩ ⟨h1,h2⟩;simp only at h1 h2⊢;simp only [go_sem];refine qN ?_ ?_<;>intro hc<;>simp only [hc,go_sem]
      · have hlt:i<M.Heap.length:=by have:=odT hc;omega
        clear hc;simp only [gMp,gEg hlt,oMs,go_sem];have hfz:=ht _ (gMm hlt);generalize hfe:M.Heap[i]=t at hfz;refine qe (k:=6) rfl rfl ⟨_,rfl⟩ (by decide) ?_;simp only [Xt,go_sem];have hfz':t.Closure.sz≤1048576:=hfz;refine zn (n696 t.Closure hfz') ?_;obtain ⟨a1,b1,c1,hl1⟩:=qK4 t.Closure g.length;rw [hl1];simp only [go_sem];obtain ⟨S1,oF,oF1⟩:=qX2 hl1;have l4:=qf h2.r;have hcnt:=h2.o.cnt;rw [lMp,List.length_take] at hcnt;refine jZ (x:=.agg [.bool t.Done,.int .i64 t.Closure.Term.Kind,.int .i64 t.Closure.Term.Value,a1,b1,c1]) (xs:=vs) (js:=[]) List.getElem?_concat_length (by rw [lAn,gAl (by simp;omega),gAl l4];exact h2.r) (by omega) (by omega) ?_;simp only [go_sem];have h5:=h2.push oF oF1;rw [show (M.Heap.take i).map qH.enc++[t.enc]=(M.Heap.take (i+1)).map qH.enc by rw [ZI hlt,hfe];simp] at h5;clear oF oF1;generalize (AV.agg [.bool t.Done,.int .i64 t.Closure.Term.Kind,.int .i64 t.Closure.Term.Value,a1,b1,c1])=X at h5⊢;clear hl1;generalize (lay t.Closure.enc g.length).2=mid at h5⊢;rw [show (g++mid++[qC.row 6 [X] true]).length=g.length+mid.length+1 by simp;omega,qp (show i<4611686018427387904 by omega)];exact qt ⟨i+1,_,_,_,_⟩ ⟨by simp only;omega,h5⟩ (by simp only;omega) (Can.sub (by simp [go_sem]) (by simp [go_sem]))
      · obtain rfl:i=M.Heap.length:=by have:=odF hc;omega
        rw [List.take_length] at h2;refine qe (k:=7) rfl rfl ⟨_,rfl⟩ (by decide) ?_;simp only [go_sem];have hf:=(h2.done (n:=M.Heap.length) (by simp)).1.agg;subst hks2 hks;exact zF.fin hf
end Go.Ab
namespace Go.Ab
open Go
set_option maxRecDepth 10000
set_option maxHeartbeats 2000000
attribute [local simp] qo qd
section
variable {P:Nat→Prop} {w:Nat} {pre post:List AV} {id j:Nat} {h:List qC} {M:qG} {b:qO} {K:AV→List qC→Prop}
theorem qY9 (hj:pre.length=j) (hN:NSx P w pre post id h M) (hM:MI b M) (hd:M.done=true) (hK:K (.tup [.int .i64 0,.int .i64 3]) h):SCall Gm 466 [.ptr id 0 j,b.enc] h K:=by
  have hz:M.Control.sz≤1048576:=by have:=hM.c.t.sz;have:=hM.c.l;unfold qI.sz;omega
  refine SCall.run [] [] g466 (by kernel_rfl) rfl ?_;simp only [Za,qP,go_sem];refine qX rfl ?_;simp only [go_sem];refine qn (s670 hj hN hz ?_);rw [hd];simp only [go_sem];exact hK
end
theorem qLG {h:List qC} {e:Int} {y:qG×Int×Int} (he:y=(JE,0,e)):FinF (some [qPQ,.int .i64 0,.int .i64 e]) h (wE y):=by
  subst he;have n5:∀{S:List (Option Nat)} {vs ts:List AV} {w:Nat},qy S h vs ts→qy (S++[none]) h (vs++[.nils]) (ts++[.lst w [] false]):=fun {S vs ts w} x=>x.snoc (zF.nils (c:=false)) fun j _ hj=>by simp at hj
  have o:=(n5 (w:=6) (n5 (w:=8) (n5 (w:=1) (n5 (w:=4) (n5 (w:=1) ((qy.nil (h:=h).scal (a:=.int .i64 0) (fun _=>rfl) rfl rfl).scal (a:=.int .i64 0) (fun _=>rfl) rfl rfl)))))).agg;exact ((o.one.scal (a:=.int .i64 0) (fun _=>rfl) rfl rfl).scal (a:=.int .i64 e) (fun _=>rfl) rfl rfl).tup.fin
theorem qXX (y:qG×Int×Int):(wE y).pl=true:=by simp [wE,AV.pl,AV.pls,qG.plx]
theorem qOQ {f:qF} (h:FV f):f.sz≤4000:=by have:=Zl h.1;have:=h.2;unfold qF.sz;omega
theorem n155 {b:qO} {m:qG} (hb:b.sz≤1048576) (hz:m.sz≤1048576):Fresh Gm 155 [b.enc,m.enc] (wE (jS b m)):=by
  have hz':m.Control.sz+(m.Stack.length+qE qF.sz m.Stack)+(m.Heap.length+qE qH.sz m.Heap)≤1048576:=hz;refine Fresh.intro [] [] g155 (by kernel_rfl) rfl (by simp [AV.trees,AV.tree,go_sem]) (qXX _) ?_;simp only [XQ,qP,go_sem];refine qX rfl ?_;simp only [go_sem];refine qX rfl ?_;simp only [go_sem];refine qK (c293 hb hz) ?_;simp only [go_sem];refine qN ?_ ?_<;>intro hc<;>simp only [hc,go_sem]
  · refine qe (k:=7) rfl rfl ⟨_,rfl⟩ (by decide) ?_;simp only [go_sem];exact qLG (by unfold jS;rw [if_pos (nt hc)])
  have hok:=nf hc;clear hc;obtain ⟨hBI,hMI,hFV⟩:=qL5 hok;refine qn (s465 (by have:=hMI.sl;omega) (by have:=hMI.hl;omega) ?_);simp only [List.nil_append,lNi,List.cons_append,nZa];simp only [go_sem];have hN:NSx (fun _=>False) 7 [] [] 2 [.row 8 (m.Stack.map qF.enc) true,.row 6 (m.Heap.map qH.enc) true,.row 7 [.agg (Nec m 0 1)] true] m:=
    ⟨0,1,[],by simp,by simp,by simp,by omega,by omega,by omega,id,id,id,fun j hj=>hj.elim⟩
  cases hd:m.done with
  | true=>
    refine qn (qY9 (pre:=[]) (post:=[]) (j:=0) rfl hN hMI hd ?_);simp only [go_sem];refine qN ?_ ?_<;>intro hc<;>simp only [hc,go_sem]
    · try simp only [ZY,go_sem]
      refine qe (k:=7) rfl rfl ⟨_,rfl⟩ (by decide) ?_;simp only [go_sem];exact qLG (by unfold jS;rw [if_neg (by rw [hok];decide),if_pos hd])
    · exact absurd hc (by decide)
  | false=>
    refine qn (s466 (pre:=[]) (post:=[]) (j:=0) rfl hN hBI hMI hd fun g2 hN2 _=> ?_);simp only [go_sem];refine qN ?_ ?_<;>intro hc<;>simp only [hc,go_sem]
    · have hne:¬(m.step b).2.1=0:=by simpa using hc
      try simp only [ZY,go_sem]
      refine qe (k:=7) rfl rfl ⟨_,rfl⟩ (by decide) ?_;simp only [go_sem];exact qLG (by unfold jS;rw [if_neg (by rw [hok];decide),if_neg (by rw [hd];decide),if_pos hne])
    have h0:(m.step b).2.1=0:=by simpa using hc
    clear hc;have hMI2:=hMI.step hBI hd h0;have hFV2:=qMY hMI hFV;have hv:jS b m=((m.step b).2.2,(m.step b).1,0):=by unfold jS;rw [if_neg (by rw [hok];decide),if_neg (by rw [hd];decide),if_neg (fun q=>q h0)]
    generalize (m.step b).2.2=M2 at hN2 hMI2 hFV2 hv;obtain ⟨si2,hi2,js,hN2⟩:=hN2
    try simp only [XR,go_sem]
    have ho:=hN2.o;simp only [List.nil_append,lAn] at ho;simp only [ho,go_sem];rw [show Zh (Jb (Nec M2 si2 hi2) 7)=some (.agg (Nec M2 si2 hi2)) from rfl];simp only [go_sem];have hcz:M2.Control.sz≤1048576:=by have:=hMI2.c.t.sz;have:=hMI2.c.l;unfold qI.sz;omega
    refine qKY (Cvs.cons (Ur hN2.s hN2.t) Cvs.nil) (n467 M2 hcz (fun f hf=>by have:=qOQ (hFV2 f hf);omega) (fun t ht=>by have:=Zl (.inl ⟨(hMI2.h t ht).t.v,(hMI2.h t ht).l⟩);show t.Closure.sz≤_;omega) (by have:=hMI2.sl;omega) (by have:=hMI2.hl;omega)) ?_;have oR:=zF.new (t:=M2.enc) (pre:=g2) (post:=[]) (qG.plx M2) rfl (by rw [lAn]);have oT:=((oR.one.scal (a:=.int .i64 (m.step b).1) (fun _=>rfl) rfl rfl).scal (a:=.int .i64 0) (fun _=>rfl) rfl rfl).tup;obtain ⟨a1,a2,a3,a4,a5,a6,a7,hcs⟩:∃a1 a2 a3 a4 a5 a6 a7,(lay M2.enc g2.length).1=.agg [a1,a2,a3,a4,a5,a6,a7]:=by rw [qG.layE];exact ⟨_,_,_,_,_,_,_,rfl⟩
    rw [hcs] at oT⊢;simp only [go_sem];refine qe (k:=7) rfl rfl ⟨_,rfl⟩ (by decide) ?_;simp only [go_sem];rw [hv];exact zF.fin (ws:=[.agg [a1,a2,a3,a4,a5,a6,a7],.int .i64 (m.step b).1,.int .i64 0]) oT
end Go.Ab
namespace Go.Ab
open Go
set_option maxRecDepth 10000
set_option maxHeartbeats 2000000
attribute [local simp] qo qd zS
structure qG.le2 (x:qG):Prop where
  c:x.Control.sz≤2097152
  s1:x.Stack.length≤2097152
  s2:∀y∈x.Stack,y.sz≤2097152
  h1:x.Heap.length≤2097152
  h2:∀y∈x.Heap,y.sz≤2097152
theorem qG.le2.le {x:qG} (h:x.le2):x.le:=⟨by have:=h.c;omega,by have:=h.s1;omega,fun y hy=>by have:=h.s2 y hy;omega,by have:=h.h1;omega,fun y hy=>by have:=h.h2 y hy;omega⟩
theorem VS {x:qG} (h:x.le2):Pure Gm 156 [x.enc,x.enc] (.bool true):=c156 x h.c h.s1 h.s2 h.h1 h.h2
theorem qVZ {M:qG} (h:M.sz≤1048576):M.le2:=by
  have hz':M.Control.sz+(M.Stack.length+qE qF.sz M.Stack)+(M.Heap.length+qE qH.sz M.Heap)≤1048576:=h;exact ⟨by omega,by omega,fun y hy=>by have:=zQ (f:=qF.sz) hy;omega,by omega,fun y hy=>by have:=zQ (f:=qH.sz) hy;omega⟩
theorem qM1 {α:Type} {f:α→Nat} {k:Nat}:∀{xs:List α},(∀x∈xs,f x≤k)→qE f xs≤xs.length*k
  |[],_=>by simp [qE]
  | x::xs,h=>by
    have h1:=h x (by simp);have h2:=qM1 (xs:=xs) fun y hy=>h y (by simp [hy]);simp only [qE,lCo,Nat.add_mul,Nat.one_mul];omega
theorem qRR {b:qO} {M:qG} (hM:MI b M) (hF:∀f∈M.Stack,FV f):M.le2∧M.sz≤100000000:=by
  have q0:=hM.c.t.sz;have q1:=hM.c.l;have q2:=hM.sl;have q3:=hM.hl;have f1:∀y∈M.Stack,y.sz≤4000:=fun y hy=>qOQ (hF y hy);have f2:∀y∈M.Heap,y.sz≤4000:=fun y hy=>by have:=Zl (.inl ⟨(hM.h y hy).t.v,(hM.h y hy).l⟩);show y.Closure.sz≤_;omega
  have s1:=qM1 f1;have s2:=qM1 f2;have hc:M.Control.sz≤4000:=by unfold qI.sz;omega
  refine ⟨⟨by omega,by omega,fun y hy=>by have:=f1 y hy;omega,by omega,fun y hy=>by have:=f2 y hy;omega⟩, ?_⟩;show M.Control.sz+(M.Stack.length+qE qF.sz M.Stack)+(M.Heap.length+qE qH.sz M.Heap)≤_;omega
theorem qM7:JE.le2∧JE.sz≤100000000:=⟨⟨by decide,by decide,fun y hy=>by simp [JE] at hy,by decide,fun y hy=>by simp [JE] at hy⟩,by decide⟩
theorem qZO (b:qO) (M:qG):(jS b M).1.le2∧(jS b M).1.sz≤100000000:=by
  unfold jS;split
  · exact qM7
  split
  · exact qM7
  split
  · exact qM7
  · rename_i h1 h2 h3;obtain ⟨hB,hM,hF⟩:=qL5 (by simpa using h1);exact qRR (hM.step hB (by simpa using h2) (by simpa using h3)) (qMY hM hF)
theorem z6 (x:qG) (n:Nat):(lay x.enc n).1.part 0 (some 7)=some (lay x.enc n).1:=qO8 (qG.plx x) ⟨_,rfl⟩ rfl
theorem qO6 (x:qG) (k:Int) (n:Nat):(lay (x.mkV k).enc n).1=(lay x.enc n).1:=by
  have h1:=qG.layE x n;have h2:=qG.layE (x.mkV k) n;rw [h1,h2];simp [qG.mkV,qA.pK,qA.pV,qA.pD,qA.pC,jP,AV.rows,qT qA.mrk qA.ct (enc:=qA.enc) qA.rowsM,qT mkI ctI (enc:=qD) (fun _ _=>rfl),qT qF.mrk qF.ct (enc:=qF.enc) qF.rowsM,qT qH.mrk qH.ct (enc:=qH.enc) qH.rowsM]
theorem qLY {E:Ev} {l:List qB} {ks:List Fr1} {s m:qb} {h:List qC} {Q:qW→VSt→Prop} {t:Nat} {x:qG} {n:Nat} {cs:List AV} (h1:cs.length=7) (hr:R E (.ops l::ks) ⟨s,(t,(lay x.enc n).1)::m,h⟩ Q):Lst E t 0 7 (some (.agg cs)) (some (lay x.enc n).1) l ks ⟨s,m,h⟩ Q:=
  qe h1 (by rw [Zz (qG.plx x)];rfl) (by rw [qG.layE];exact ⟨_,rfl⟩) (by decide) hr
theorem layT (G:qG) (r e:Int) (n:Nat):lay (.tup [G.enc,.int .i64 r,.int .i64 e]) n=(.tup [(lay G.enc n).1,.int .i64 r,.int .i64 e],(lay G.enc n).2):=by
  simp [lay,qS]
theorem c18 {b:qO} {c:qG} (hb:b.bd) (hx:c.bd):Pure Gm 18 [b.enc,c.enc] (.bool true):=by
  refine Pure.intro [] [] g18 (by kernel_rfl) rfl (by simp [AV.trees,AV.tree,go_sem]) rfl ?_;simp only [F18,qP,go_sem];refine qX rfl ?_;simp only [go_sem];refine qX rfl ?_;simp only [go_sem];refine qK (c79 b hb 1048576 (by omega)) ?_;simp only [go_sem];refine qN ?_ ?_<;>intro hc<;>simp only [hc,go_sem]
  · exact qJ rfl rfl
  have hbz:b.sz≤1048576:=by
    have:=odF hc;rw [zZ] at this;omega
  rw [zi hbz];refine qK (c152 c hx (1048576-b.sz) (by omega)) ?_;simp only [go_sem];refine qN ?_ ?_<;>intro hc<;>simp only [hc,go_sem]
  · exact qJ rfl rfl
  have hcz:c.sz≤1048576-b.sz:=by
    have:=odF hc;rw [zZ] at this;omega
  have hAz:=qZO b c;have hcz2:=qVZ (M:=c) (by omega);have k0:=c153 hbz (m:=c) (by omega);have k1:=n155 hbz (m:=c) (by omega);generalize jS b c=A at hAz k0 k1;obtain ⟨G,r,e⟩:=A;simp only at hAz;obtain ⟨hG2,hGz⟩:=hAz;refine qK (c82 b hbz) ?_;simp only [go_sem];refine qK (c154 c (by omega)) ?_;simp only [go_sem];refine qK k0 ?_;simp only [wE,go_sem];refine qe (k:=7) rfl rfl ⟨_,rfl⟩ (by decide) ?_;simp only [go_sem];refine zn (n82 b hbz) ?_;simp only [go_sem];refine qe (k:=1) rfl (qVU b 0) (qVT b 0) (by decide) ?_;simp only [zu,go_sem];refine zn (n154 c (by omega)) ?_;simp only [go_sem];refine qLY rfl ?_;obtain ⟨B,hB⟩:∃B,B=b.enc.rows:=⟨_,rfl⟩;obtain ⟨C,hC⟩:∃C,C=c.enc.rows:=⟨_,rfl⟩;simp only [z6,zu,go_sem,List.nil_append,qV,←hB];have atB:∀{h post:List qC},h=(lay b.enc 0).2++post→Cv h (lay b.enc 0).1 b.enc:=fun {h post} hh=>Vv (pre:=[]) (qO.plx b) (qO.cnx b) hh;have atC:∀{b':qO} {h post:List qC},b'.enc.rows=B→h=(lay b'.enc 0).2++((lay c.enc B).2++post)→Cv h (lay c.enc B).1 c.enc:=fun {b' h post} hr hh=>by
    have hl:(lay b'.enc 0).2.length=B:=(qV _ _).trans hr;rw [←hl] at hh⊢;exact Vv (qG.plx c) (qG.cnx c) hh
  have atG:∀{b':qO} {c' G':qG} {h post:List qC},b'.enc.rows=B→c'.enc.rows=C→h=(lay b'.enc 0).2++((lay c'.enc B).2++((lay G'.enc (B+C)).2++post))→Cv h (lay G'.enc (B+C)).1 G'.enc:=fun {b' c' G' h post} hr hr2 hh=>by
    have hl:((lay b'.enc 0).2++(lay c'.enc B).2).length=B+C:=by rw [lAp,qV,qV,hr,hr2]
    rw [←lAa] at hh;rw [←hl] at hh⊢;exact Vv (qG.plx G') (qG.cnx G') hh
  refine qKY (Cvs.cons (atB (post:=(lay c.enc B).2) rfl) (Cvs.cons (atC (b':=b) (post:=[]) hB.symm (by simp)) Cvs.nil)) k1 ?_;have hlBC:((lay b.enc 0).2++(lay c.enc B).2).length=B+C:=by rw [lAp,qV,qV,hB,hC]
  simp only [hlBC,wE,layT,z6,zu,go_sem,lAa];refine qLY rfl ?_;simp only [z6,zu,go_sem];refine Jh (Cvs.cons (atG (b':=b) (c':=c) (post:=[]) hB.symm hC.symm (by simp)) (Cvs.cons (.refl (by simp [go_sem])) Cvs.nil)) (VS hG2) rfl ?_;simp only [z6,zu,go_sem];refine qK (c82 b hbz) ?_;simp only [z6,zu,go_sem];refine Jh (Cvs.cons (atB rfl) (Cvs.cons (.refl (by simp [go_sem])) Cvs.nil)) (c87 b (by omega)) rfl ?_;simp only [z6,zu,go_sem];refine qK (c154 c (by omega)) ?_;simp only [z6,zu,go_sem];refine Jh (Cvs.cons (atC (b':=b) hB.symm rfl) (Cvs.cons (.refl (by simp [go_sem])) Cvs.nil)) (VS hcz2) rfl ?_;simp only [z6,zu,go_sem];have ctB:=b.ctVle;have ctC:=c.ctVle;have ctG:=G.ctVle;refine z0 (k88 b 1 (by omega) (by omega) (by omega)) (pre:=[]) rfl rfl rfl ?_;simp only [z6,zu,go_sem,List.nil_append];have hlB:(lay (b.mkV 1).enc 0).2.length=B:=by rw [qV,qO.rowsV,hB]
  refine z0 (k157 c (1+((b.ctV:Nat):Int)) (by omega) (by omega) hcz2.le) hlB rfl rfl ?_;simp only [z6,zu,go_sem];have hneg:decide ((1:Int)+((b.ctV:Nat):Int)+((c.ctV:Nat):Int)<0)=false:=decide_eq_false (by omega);simp only [hneg,z6,zu,go_sem];have hrB:(b.mkV 1).enc.rows=B:=by rw [qO.rowsV,hB]
  have hrC:(c.mkV (1+((b.ctV:Nat):Int))).enc.rows=C:=by rw [qG.rowsV,hC]
  refine Jh (Cvs.cons (atG (b':=b.mkV 1) (c':=c.mkV (1+((b.ctV:Nat):Int))) (post:=[]) hrB hrC (by simp)) (Cvs.cons (.refl (by simp [go_sem])) Cvs.nil)) (VS hG2) rfl ?_;simp only [z6,zu,go_sem];have hlG:((lay (b.mkV 1).enc 0).2++(lay (c.mkV (1+((b.ctV:Nat):Int))).enc B).2).length=B+C:=by rw [lAp,qV,qV,hrB,hrC]
  refine z0 (k157 G 1 (by omega) (by omega) hG2.le) (post:=[]) hlG (by simp) rfl ?_;simp only [z6,zu,go_sem,lAa,lAn];refine Jh (Cvs.cons (by rw [←qO6 G 1];exact atG (post:=[]) hrB hrC (by simp)) (Cvs.cons (.refl rfl) Cvs.nil)) (q158 G 1 (by omega) (by omega) hG2.le) rfl ?_;have hneg2:decide ((1:Int)+((G.ctV:Nat):Int)<0)=false:=decide_eq_false (by omega);simp only [hneg2,z6,zu,go_sem];refine qK (c82 b hbz) ?_;simp only [z6,zu,go_sem];refine qK (c154 c (by omega)) ?_;simp only [z6,zu,go_sem];refine zn k1 ?_;simp only [wE,layT,z6,zu,go_sem];refine qLY rfl ?_;simp only [z6,zu,go_sem];refine Jh (Cvs.cons (Vv (pre:=(lay (b.mkV 1).enc 0).2++((lay (c.mkV (1+((b.ctV:Nat):Int))).enc B).2++(lay (G.mkV 1).enc (B+C)).2)) (post:=[]) (qG.plx G) (qG.cnx G) (by simp)) (Cvs.cons (.refl (by simp [go_sem])) Cvs.nil)) (VS hG2) rfl ?_;simp only [z6,zu,go_sem];refine Jh (Cvs.cons (by rw [←qO6 G 1];exact atG hrB hrC (by simp only [lAa];rfl)) (Cvs.cons (.refl rfl) Cvs.nil)) (q158 G 1 (by omega) (by omega) hG2.le) rfl ?_;simp only [hneg2,z6,zu,go_sem];exact qJ rfl rfl
end Go.Ab
