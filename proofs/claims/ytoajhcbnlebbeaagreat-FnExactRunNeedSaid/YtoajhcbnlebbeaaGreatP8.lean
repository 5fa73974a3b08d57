/- Texts Cor23 .. Nee23: the abstract machine, its laws and contracts of functions: lemmas for the statement. No condition. -/
import Derived.Test.YtoajhcbnlebbeaaGreatP7
set_option linter.unusedSimpArgs false
set_option linter.unusedVariables false
namespace Go.Ab
open Go
set_option maxRecDepth 10000
set_option maxHeartbeats 2000000
attribute [local simp] jA zU
def JC (x:qA):AV:=if x.ok=true then .tup [.int .i64 (x.dep:Nat),.int .i64 (x.size:Nat),.bool true] else .tup [.int .i64 0,.int .i64 0,.bool false]
theorem qaP (x:qA):(JC x).tree=true:=by unfold JC;split<;>rfl
theorem qSJ (x:qA):x.valid=(x.ok&&x.fits):=by
 unfold qA.valid qA.fits;cases x.ok<;>cases decide (x.dep≤80)<;>cases decide (x.size≤400)<;>rfl
theorem c770 (x:qA):∀(hz:x.sz≤1048576) (hd:x.dep≤2097152) (hs:x.size≤2097152),Pure Gm 770 [x.enc] (JC x):=by
 induction x using qA.ind with
 | _ x ih=>
 intro hz hd hs;refine Pure.intro [] [] g770 (by kernel_rfl) rfl (by simp [AV.trees,AV.tree,go_sem]) (by exact qaP _) ?_;simp only [YZ,qP,go_sem];have hL:=x.len_sz;have hde:=x.dep_eq;have hse:=x.size_eq;have hoe:=x.ok_eq;refine qW qA.ln ?_;simp only [go_sem];refine qK (qTM hz) ?_;simp only [go_sem];refine qM ?_ ?_<;>intro hc<;>simp only [hc,go_sem]
 ·have hn:x.ok=false:=by rw [hoe];simp at hc;simp [hc]
  rw [show JC x=_ from if_neg (by simp [hn])];exact jg (by rfl) rfl
 have hn:x.ok=x.Kids.all qA.ok:=by rw [hoe];simp at hc;simp [hc]
 refine Sem.loop (fun i:Nat=>i≤x.Kids.length∧x.ok=(x.Kids.drop i).all qA.ok) (fun i=>(⟨[(2,.int .i64 ((1+zI qA.dep (x.Kids.take i):Nat):Int)),(3,.int .i64 ((1+qE qA.size (x.Kids.take i):Nat):Int)),(14,.lst 4 (x.Kids.map qA.enc) false),(15,.int .i64 (x.Kids.length:Nat)),(16,.int .i64 (i:Nat))],[(1,x.enc)],[]⟩:VSt)) (fun i=>x.Kids.length-i) 0 (by kernel_rfl) ⟨Nat.zero_le _,by simp [hn]⟩ (Can.sub (by simp [go_sem]) (by simp [go_sem])) ?_;rintro i ⟨hi,hI⟩;simp only [go_sem];refine qM ?_ ?_<;>intro hc<;>simp only [hc,go_sem]
 ·have hlt:i<x.Kids.length:=by have:=odT hc;omega
  simp only [gMp,gEg hlt,oMs,go_sem];have hm:=gMm hlt;have hk:=qA.kid_sz hm;have hp:=qA.dep_kid hm;rw [List.drop_eq_getElem_cons hlt,List.all_cons] at hI;refine qf (k:=4) (by rfl) (by simp [go_sem]) (qA.isAgg _) (by decide) ?_;simp only [go_sem];refine qK (ih _ hm (by omega) (by omega) (by have:=zP (f:=qA.size) hm;omega)) ?_;cases hko:x.Kids[i].ok
  ·rw [hko,Bool.false_and] at hI;simp only [JC,hko,go_sem];rw [if_neg (by simp [hI])];exact jg (by rfl) rfl
  ·rw [hko,Bool.true_and] at hI;simp only [JC,hko,go_sem];have ht:=qNU (f:=qA.size) hlt;have hle:=qNV qA.size x.Kids (i+1);have e1:((1+qE qA.size (x.Kids.take i):Nat):Int)+x.Kids[i].size=((1+qE qA.size (x.Kids.take (i+1)):Nat):Int):=by omega
   have e2:max ((1+zI qA.dep (x.Kids.take i):Nat):Int) ((x.Kids[i].dep:Int)+1)=((1+zI qA.dep (x.Kids.take (i+1)):Nat):Int):=by rw [qQI hlt];omega
   rw [qr (n:=(x.Kids[i].dep:Int)+1) (by omega) (by omega),e1,e2,qr (n:=((1+qE qA.size (x.Kids.take (i+1)):Nat):Int)) (by omega) (by omega)];simp only [qq (show i<4611686018427387904 by omega)];refine qo (i+1) ⟨by omega, ?_⟩ (by omega) (Can.sub (by simp [go_sem]) (by simp [go_sem]));exact hI
 ·obtain rfl:i=x.Kids.length:=by have:=odF hc;omega
  rw [List.take_length,←hde,←hse];rw [show JC x=_ from if_pos (by rw [hI];simp)];exact jg (by rfl) rfl
theorem c391 {x:qA} (hz:x.sz≤1048576) (hd:x.dep≤2097152) (hs:x.size≤2097152):Pure Gm 391 [x.enc] (.bool x.valid):=by
 refine Pure.intro [] [] g391 (by kernel_rfl) rfl (by simp [AV.trees,AV.tree,go_sem]) rfl ?_;simp only [Xl,qP,go_sem];refine qW qA.ln ?_;simp only [go_sem];refine qK (c770 x hz hd hs) ?_;cases hko:x.ok
 ·simp only [JC,hko,go_sem];exact qJ rfl (by rw [qSJ,hko];rfl)
 ·simp only [JC,hko,go_sem];refine qK (c495 hz hd hs) ?_;simp only [go_sem];exact qJ rfl (by rw [qSJ,hko];rfl)
theorem Vc {b:Bool}:Pure Gm 566 [.bool b] (.int .i64 (if b then 1 else 0)):=by
 refine Pure.intro [] [] g566 (by kernel_rfl) rfl (by simp [AV.trees,AV.tree,go_sem]) rfl ?_;simp only [YD,qP,go_sem];refine qM ?_ ?_<;>intro hc<;>simp only [hc,go_sem]
 ·exact qJ rfl rfl
 ·exact qJ rfl rfl
theorem qOW {x:qA} {i:Nat}:Pure Gm 1193 [x.enc,.int .i64 (i:Int)] (.int .i64 (qt x.Kind i)):=by
 refine Pure.intro [] [] qV5 (by kernel_rfl) rfl (by simp [AV.trees,AV.tree,go_sem]) rfl ?_;simp only [XF,qP,go_sem];refine qW qA.ln ?_;simp only [go_sem]
 repeat' (first | (first | (refine qY ?_ ?_<;>intro hc<;>simp only [hc,go_sem]) | (refine qM ?_ ?_<;>intro hc<;>simp only [hc,go_sem])) | (refine qK Vc ?_;simp only [go_sem]) | refine qJ rfl ?_)
 all_goals (simp_all [qt]<;>omega)
theorem c880 (x:qA):∀(d:Int) (ho:x.ok=true) (hz:x.sz≤1048576) (hd:0≤d∧d+x.dep≤4194304),Pure Gm 880 [x.enc,.int .i64 d] (.bool (!x.above d)):=by
 induction x using qA.ind with
 | _ x ih=>
 intro d ho hz hd;refine Pure.intro [] [] g880 (by kernel_rfl) rfl (by simp [AV.trees,AV.tree,go_sem]) rfl ?_;simp only [VK,qP,go_sem];have hL:=x.len_sz;have hae:=x.above_eq d;refine qW qA.ln ?_;simp only [go_sem];refine qY ?_ ?_<;>intro hc<;>simp only [hc,go_sem]
 ·have h1:=odT hc;rw [if_pos h1] at hae;refine qM ?_ ?_<;>intro hc<;>simp only [hc,go_sem]
  ·exact qJ rfl (by rw [hae,decide_eq_true (by have:=odT hc;omega)];rfl)
  have hg:x.above d=zg (fun i y=>y.above (d+qt x.Kind i)) x.Kids 0:=by
   rw [hae,qQR ho h1,decide_eq_false (by have:=odF hc;omega)];rfl
  refine Sem.loop (fun i:Nat=>i≤x.Kids.length∧x.above d=zg (fun i y=>y.above (d+qt x.Kind i)) (x.Kids.drop i) i) (fun i=>(⟨[(1,.int .i64 d),(17,.lst 4 (x.Kids.map qA.enc) false),(18,.int .i64 (x.Kids.length:Nat)),(19,.int .i64 (i:Nat))],[(2,x.enc)],[]⟩:VSt)) (fun i=>x.Kids.length-i) 0 (by kernel_rfl) ⟨Nat.zero_le _,by simpa using hg⟩ (Can.sub (by simp [go_sem]) (by simp [go_sem])) ?_;rintro i ⟨hi,hI⟩;simp only [go_sem];refine qM ?_ ?_<;>intro hc<;>simp only [hc,go_sem]
  ·have hlt:i<x.Kids.length:=by have:=odT hc;omega
   simp only [gMp,gEg hlt,oMs,go_sem];refine qf (k:=4) (by rfl) (by simp [go_sem]) (qA.isAgg _) (by decide) ?_;simp only [go_sem];refine qK qOW ?_;simp only [go_sem];have hm:=gMm hlt;have hk:=qA.kid_sz hm;have hp:=qA.dep_kid hm;have hb:=Qb x.Kind i;rw [qr (n:=d+qt x.Kind i) (by omega) (by omega)];refine qK (ih _ hm _ (WD ho hm) (by omega) (by omega)) ?_;simp only [go_sem];rw [jI hlt,zg] at hI;refine qM ?_ ?_<;>intro hc<;>simp only [hc,go_sem]
   ·exact qJ rfl (by rw [hI];simp at hc;simp [hc])
   ·simp only [qq (show i<4611686018427387904 by omega)];refine qo (i+1) ⟨by omega, ?_⟩ (by omega) (Can.sub (by simp [go_sem]) (by simp [go_sem]));rw [hI];simp at hc;simp [hc]
  ·obtain rfl:i=x.Kids.length:=by have:=odF hc;omega
   exact qJ rfl (by rw [hI];simp [zg])
 ·rw [if_neg (by simpa using hc)] at hae;have hg:=hae;refine Sem.loop (fun i:Nat=>i≤x.Kids.length∧x.above d=zg (fun i y=>y.above (d+qt x.Kind i)) (x.Kids.drop i) i) (fun i=>(⟨[(1,.int .i64 d),(17,.lst 4 (x.Kids.map qA.enc) false),(18,.int .i64 (x.Kids.length:Nat)),(19,.int .i64 (i:Nat))],[(2,x.enc)],[]⟩:VSt)) (fun i=>x.Kids.length-i) 0 (by kernel_rfl) ⟨Nat.zero_le _,by simpa using hg⟩ (Can.sub (by simp [go_sem]) (by simp [go_sem])) ?_;rintro i ⟨hi,hI⟩;simp only [go_sem];refine qM ?_ ?_<;>intro hc<;>simp only [hc,go_sem]
  ·have hlt:i<x.Kids.length:=by have:=odT hc;omega
   simp only [gMp,gEg hlt,oMs,go_sem];refine qf (k:=4) (by rfl) (by simp [go_sem]) (qA.isAgg _) (by decide) ?_;simp only [go_sem];refine qK qOW ?_;simp only [go_sem];have hm:=gMm hlt;have hk:=qA.kid_sz hm;have hp:=qA.dep_kid hm;have hb:=Qb x.Kind i;rw [qr (n:=d+qt x.Kind i) (by omega) (by omega)];refine qK (ih _ hm _ (WD ho hm) (by omega) (by omega)) ?_;simp only [go_sem];rw [jI hlt,zg] at hI;refine qM ?_ ?_<;>intro hc<;>simp only [hc,go_sem]
   ·exact qJ rfl (by rw [hI];simp at hc;simp [hc])
   ·simp only [qq (show i<4611686018427387904 by omega)];refine qo (i+1) ⟨by omega, ?_⟩ (by omega) (Can.sub (by simp [go_sem]) (by simp [go_sem]));rw [hI];simp at hc;simp [hc]
  ·obtain rfl:i=x.Kids.length:=by have:=odF hc;omega
   exact qJ rfl (by rw [hI];simp [zg])
theorem c521 {x:qA} (hz:x.sz≤1048576) (hd:x.dep≤2097152) (hs:x.size≤2097152):Pure Gm 521 [x.enc] (.bool x.closed):=by
 refine Pure.intro [] [] g521 (by kernel_rfl) rfl (by simp [AV.trees,AV.tree,go_sem]) rfl ?_;simp only [YC,qP,go_sem];refine qW qA.ln ?_;simp only [go_sem];refine qK (c391 hz hd hs) ?_;simp only [go_sem];refine qY ?_ ?_<;>intro hc<;>simp only [hc,go_sem]
 ·refine qK (c880 x 0 (JF hc).1 hz (by omega)) ?_;simp only [go_sem];exact qJ rfl (by unfold qA.closed;rw [hc];rfl)
 ·exact qJ rfl (by unfold qA.closed;rw [hc];rfl)
def Ji (p:qA→Bool):qA→Bool:=qA.fold fun x rs=>p x || rs.any id
theorem VU (p:qA→Bool) (x:qA):Ji p x=(p x || x.Kids.any (Ji p)):=by
 unfold Ji;rw [qA.fold_eq];simp
@[go_sem] theorem qtD {g:Nat} {cs:List AV}:(AV.fn g cs).part 0 none=some (.fn g cs):=nr rfl
def qST (g:Nat) (cs:List AV) (p:qA→Bool):Prop:=∀y:qA,y.sz≤1048576→Pure Gm g (y.enc::cs) (.bool (p y))
theorem c993 {g:Nat} {cs:List AV} {y:qA} {b:Bool} (ht:AV.trees cs=true) (h:Pure Gm 615 [y.enc,.fn g cs] (.bool b)):Pure Gm 993 [y.enc,.ept (.fn g cs) 0] (.bool b):=by
 refine Pure.intro [] [] g993 (by kernel_rfl) rfl (by simp [AV.trees,AV.tree,go_sem,ht]) rfl ?_;simp only [VL,qP,go_sem];refine qW qA.ln ?_;simp only [go_sem];refine qK h ?_;simp only [go_sem];exact qJ rfl rfl
theorem c615 (x:qA):∀(g:Nat) (cs:List AV) (p:qA→Bool) (ht:AV.trees cs=true) (hp:qST g cs p) (hz:x.sz≤1048576),Pure Gm 615 [x.enc,.fn g cs] (.bool (Ji p x)):=by
 induction x using qA.ind with
 | _ x ih=>
 intro g cs p ht hp hz;refine Pure.intro [3] [] g615 (by kernel_rfl) rfl (by simp [AV.trees,AV.tree,go_sem,ht]) rfl ?_;simp only [YG,qP,go_sem];have hL:=x.len_sz;refine qW qA.ln ?_;simp only [go_sem];refine jh rfl ?_;simp only [go_sem];simp only [go_sem,List.nil_append,List.cons_append,List.set_cons_zero,List.set_cons_succ];refine qK (hp x hz) ?_;simp only [go_sem];refine qY ?_ ?_<;>intro hc<;>simp only [hc,go_sem]
 ·refine qK (c581 (f:=.fn 993 [.ept (.fn g cs) 0]) (Ji p) (by simp [AV.trees,AV.tree,ht]) x.Kids (fun y hy=>⟨993,_,rfl,c993 ht (ih y hy g cs p ht hp (by have:=qA.kid_sz hy;omega))⟩) (by omega)) ?_;simp only [go_sem];exact qJ rfl (by rw [VU,hc];rfl)
 ·exact qJ rfl (by rw [VU];simp at hc;simp [hc])
theorem qOV {n m:Int}:Pure Gm 1169 [.int .i64 n,.ept (.int .i64 m) 0] (.bool (decide (m≤n))):=by
 refine Pure.intro [] [] qV4 (by kernel_rfl) rfl (by simp [AV.trees,AV.tree,go_sem]) rfl ?_;simp only [XE,qP,go_sem];exact qJ rfl rfl
def Jr (n:Int) (x:qA):Bool:=(decide (x.Kind=11)&&decide (n≤x.Value)) || x.Data.any fun k=>decide (n≤k)
theorem qS0 (n:Int) (xs:List Int):(xs.all fun k=>decide (k<n))= !(xs.any fun k=>decide (n≤k)):=by
 induction xs with
 | nil=>rfl
 | cons a xs ih=>
  simp only [List.all_cons,List.any_cons,ih,Bool.not_or];congr 1;rw [Bool.eq_iff_iff];simp
theorem qLL {α:Type} {p q:α→Bool}:∀{xs:List α},(∀x∈xs,p x= !q x)→xs.all p= !xs.any q
 |[],_=>rfl
 | x::xs,h=>by simp only [List.all_cons,List.any_cons,Bool.not_or];rw [h x (by simp),qLL (fun y hy=>h y (by simp [hy]))]
theorem qZR (n:Int):∀x:qA,x.refs n= !Ji (Jr n) x:=qA.ind fun x ih=>by
 rw [qA.refs_eq,VU,Jr,qS0,Bool.not_or,Bool.not_or,qLL ih]
theorem qTP {x:qA} {m:Int} (hz:x.sz≤1048576):Pure Gm 1168 [x.enc,.ept (.int .i64 m) 0] (.bool (Jr m x)):=by
 refine Pure.intro [] [] qV3 (by kernel_rfl) rfl (by simp [AV.trees,AV.tree,go_sem]) rfl ?_;simp only [XD,qP,go_sem];have hL:=x.len_sz;refine qW qA.ln ?_;simp only [go_sem];refine qY ?_ ?_<;>intro hc<;>simp only [hc,go_sem]
 ·have h11:=hc;refine qY ?_ ?_<;>intro hc<;>simp only [hc,go_sem]
  ·refine qK (Zk (f:=.fn 1169 [.ept (.int .i64 m) 0]) (fun n=>decide (m≤n)) rfl x.Data (fun y _=>⟨1169,_,rfl,qOV⟩) (by omega)) ?_;simp only [go_sem];exact qJ rfl (by unfold Jr;rw [h11,hc];rfl)
  ·exact qJ rfl (by unfold Jr;rw [h11];simp at hc;simp [hc])
 ·refine qK (Zk (f:=.fn 1169 [.ept (.int .i64 m) 0]) (fun n=>decide (m≤n)) rfl x.Data (fun y _=>⟨1169,_,rfl,qOV⟩) (by omega)) ?_;simp only [go_sem];exact qJ rfl (by unfold Jr;simp at hc;simp [hc])
theorem c847 {x:qA} {n:Int} (hz:x.sz≤1048576):Pure Gm 847 [x.enc,.int .i64 n] (.bool (x.refs n)):=by
 refine Pure.intro [3] [] g847 (by kernel_rfl) rfl (by simp [AV.trees,AV.tree,go_sem]) rfl ?_;simp only [VH,qP,go_sem];refine qW qA.ln ?_;simp only [go_sem];refine jh rfl ?_;simp only [go_sem];simp only [go_sem,List.nil_append,List.cons_append,List.set_cons_zero,List.set_cons_succ];refine qK (c615 x 1168 [.ept (.int .i64 n) 0] (Jr n) rfl (fun y hy=>qTP hy) hz) ?_;simp only [go_sem];exact qJ rfl (by rw [qZR])
theorem c851 {x:qA} {b:qO} (hz:x.sz≤1048576) (hd:x.dep≤2097152) (hs:x.size≤2097152):Pure Gm 851 [x.enc,.ept b.enc 0] (.bool (!(x.closed&&x.refs b.Defs.length))):=by
 refine Pure.intro [] [] g851 (by kernel_rfl) rfl (by simp [AV.trees,AV.tree,go_sem]) rfl ?_;simp only [VI,qP,go_sem];refine qW qA.ln ?_;simp only [go_sem];refine qK (c521 hz hd hs) ?_;simp only [go_sem];refine qY ?_ ?_<;>intro hc<;>simp only [hc,go_sem]
 ·refine qK (c847 hz) ?_;simp only [go_sem];exact qJ rfl (by simp at hc;simp [hc])
 ·exact qJ rfl (by simp at hc;simp [hc])
theorem c498 {b:qO} (hz:b.sz≤1048576):Pure Gm 498 [b.enc] (.bool b.ok):=by
 refine Pure.intro [1] [] g498 (by kernel_rfl) rfl (by simp [AV.trees,AV.tree,go_sem]) rfl ?_;simp only [YA,qP,go_sem];have hz':b.Defs.length+qE qA.sz b.Defs≤1048576:=hz;refine jh rfl ?_;simp only [go_sem];simp only [go_sem,List.nil_append,List.cons_append,List.set_cons_zero,List.set_cons_succ];refine qY ?_ ?_<;>intro hc<;>simp only [hc,go_sem]
 ·have h1:=odF hc;refine qM ?_ ?_<;>intro hc<;>simp only [hc,go_sem]
  ·exact qJ rfl (by have:=odT hc;unfold qO.ok inI;rw [decide_eq_false (p:=(b.Defs.length:Int)≤24) (by omega)];simp)
  have h2:=odF hc;refine qK (c581 (f:=.fn 851 [.ept b.enc 0]) (fun x=> !(x.closed&&x.refs b.Defs.length)) (by simp [AV.trees,AV.tree,go_sem]) b.Defs (fun y hy=>⟨851,_,rfl,c851 (by have:=zP (f:=qA.sz) hy;omega) (by have:=zP (f:=qA.sz) hy;have:=y.dep_size;have:=y.size_sz;omega) (by have:=zP (f:=qA.sz) hy;have:=y.size_sz;omega)⟩) (by omega)) ?_;simp only [go_sem];exact qJ rfl (by unfold qO.ok inI;rw [QY,decide_eq_true (p:=(1:Int)≤b.Defs.length) (by omega),decide_eq_true (p:=(b.Defs.length:Int)≤24) (by omega)];rfl)
 ·exact qJ rfl (by simp at hc;unfold qO.ok inI;rw [decide_eq_false (p:=(1:Int)≤b.Defs.length) (by omega)];simp)
end Go.Ab
namespace Go.Ab
open Go
set_option maxRecDepth 10000
set_option maxHeartbeats 2000000
attribute [local simp] jA zU
theorem c834 {xs:List Int} {n:Int} (hl:xs.length≤4194304):Pure Gm 834 [.lst 1 (xs.map qD) false,.int .i64 n] (.int .i64 (jW (fun k=>decide (n=k)) xs 0)):=by
 refine Pure.intro [] [] g834 (by kernel_rfl) rfl (by simp [AV.trees,AV.tree,go_sem]) rfl ?_;simp only [VG,qP,go_sem];refine Sem.loop (fun i:Nat=>i≤xs.length∧jW (fun k=>decide (n=k)) xs 0=jW (fun k=>decide (n=k)) (xs.drop i) i) (fun i=>(⟨[(0,.lst 1 (xs.map qD) false),(1,.int .i64 n),(7,.int .i64 (xs.length:Nat)),(8,.int .i64 (i:Nat))],[],[]⟩:VSt)) (fun i=>xs.length-i) 0 (by kernel_rfl) ⟨Nat.zero_le _,by simp⟩ (Can.sub (by simp [go_sem]) (by simp [go_sem])) ?_;rintro i ⟨hi,hI⟩;simp only [go_sem];refine qM ?_ ?_<;>intro hc<;>simp only [hc,go_sem]
 ·have hlt:i<xs.length:=by have:=odT hc;omega
  simp only [gMp,gEg hlt,oMs,go_sem];rw [List.drop_eq_getElem_cons hlt,jW] at hI;simp only [qD,go_sem];refine qM ?_ ?_<;>intro hc<;>simp only [hc,go_sem]
  ·exact qJ rfl (by rw [hI,hc];rfl)
  ·rw [hc] at hI;simp only [qq (show i<4611686018427387904 by omega)];refine qo (i+1) ⟨by omega, ?_⟩ (by omega) (Can.sub (by simp [go_sem]) (by simp [go_sem]));exact hI
 ·obtain rfl:i=xs.length:=by have:=odF hc;omega
  exact qJ rfl (by rw [hI,List.drop_length];rfl)
theorem qSN (x:Int):w32 x=IntKind.i64.wrap (IntKind.i32.wrap x):=by
 unfold w32;congr 1;simp only [IntKind.wrap,IntKind.bits,IntKind.signed];simp
theorem Qd {x:Int}:Pure Gm 1400 [.int .i64 x] (.int .i64 (w32 x)):=by
 refine Pure.intro [] [] qV8 (by kernel_rfl) rfl (by simp [AV.trees,AV.tree,go_sem]) rfl ?_;simp only [XI,qP,go_sem];exact qJ rfl (by rw [qSN])
theorem qLS {x:Int}:Pure Gm 1120 [.int .i64 x] ((qA.mk 11 x [] []).enc):=by
 refine Pure.intro [] [] qVK (by kernel_rfl) rfl (by simp [AV.trees,AV.tree,go_sem]) (by simp [go_sem]) ?_;simp only [Wi,qP,go_sem];refine qf (k:=4) (by rfl) (by rfl) (by exact ⟨_,rfl⟩) (by decide) ?_;simp only [go_sem];exact j5 Qg
theorem c726 {x:Int}:Pure Gm 726 [.int .i64 x] ((qA.mk 2 x [] []).enc):=by
 refine Pure.intro [] [] g726 (by kernel_rfl) rfl (by simp [AV.trees,AV.tree,go_sem]) (by simp [go_sem]) ?_;simp only [YV,qP,go_sem];refine qf (k:=4) (by rfl) (by rfl) (by exact ⟨_,rfl⟩) (by decide) ?_;simp only [go_sem];exact j5 Qg
theorem qTK {k a b:Int}:Pure Gm 1118 [.int .i64 k,.int .i64 a,.int .i64 b] (.int .i64 (opI k a b)):=by
 refine Pure.intro [] [] qVJ (by kernel_rfl) rfl (by simp [AV.trees,AV.tree,go_sem]) rfl ?_;simp only [Wh,qP,go_sem];refine qK Qd ?_;simp only [go_sem];refine qK Qd ?_;simp only [go_sem];unfold opI;refine qM ?_ ?_<;>intro hc<;>simp only [hc,go_sem]
 ·rw [if_pos (odT hc)];refine qK Qd ?_;simp only [go_sem];exact qJ rfl rfl
 rw [if_neg (odF hc)];refine qM ?_ ?_<;>intro hc<;>simp only [hc,go_sem]
 ·rw [if_pos (odT hc)];refine qK Qd ?_;simp only [go_sem];exact qJ rfl rfl
 rw [if_neg (odF hc)];refine qM ?_ ?_<;>intro hc<;>simp only [hc,go_sem]
 ·rw [if_pos (odT hc)];refine qK Qd ?_;simp only [go_sem];exact qJ rfl rfl
 rw [if_neg (odF hc)];refine qM ?_ ?_<;>intro hc<;>simp only [hc,go_sem]
 ·rw [if_pos (odT hc)];refine qM ?_ ?_<;>intro hc<;>simp only [hc,go_sem]
  ·rw [if_pos (odT hc)];exact qJ rfl rfl
  rw [if_neg (odF hc)];have hq:=odF hc;simp only [if_neg hq,go_sem];refine qK Qd ?_;simp only [go_sem];exact qJ rfl rfl
 rw [if_neg (odF hc)];refine qM ?_ ?_<;>intro hc<;>simp only [hc,go_sem]
 ·rw [if_pos (odT hc)];refine qK Vc ?_;simp only [go_sem];exact qJ rfl (by simp)
 rw [if_neg (odF hc)];refine qM ?_ ?_<;>intro hc<;>simp only [hc,go_sem]
 ·rw [if_pos (odT hc)];refine qK Vc ?_;simp only [go_sem];exact qJ rfl (by simp)
 rw [if_neg (odF hc)];exact qJ rfl rfl
end Go.Ab
namespace Go.Ab
open Go
set_option maxRecDepth 10000
set_option maxHeartbeats 2000000
def jN:List qA→Nat→Bool
 |[],_=>true
 | k::ks,i=>decide (k.Kind=1)&&decide (k.Value=i)&&jN ks (i+1)
def qI.fields (c:qI):Bool:=decide (c.Term.Kids.length=c.Env.length)&&jN c.Term.Kids 0
def qI.val (c:qI):Bool:=if c.Term.Kind=4∨c.Term.Kind=2 then true else if c.Term.Kind=8 then c.fields else false
namespace qG
def done (M:qG):Bool:=decide (M.Stack.length=0)&&M.Control.val
end qG
def noT:qA:=.mk 0 0 [] []
def noC:qI:=⟨noT,[]⟩
def fr (k v:Int):qF:=⟨k,v,[],noC⟩
namespace qG
def ctl (M:qG) (c:qI):qG:={M with Control:=c}
def push (M:qG) (f:qF):qG:={M with Stack:=M.Stack++[f]}
def pop (M:qG):qG:={M with Stack:=M.Stack.dropLast}
def addr (M:qG) (t:qA):Int×qG:=if t.Kind=1 then (M.Control.Env.getD t.Value.toNat 0,M) else (M.Heap.length,{M with Heap:=M.Heap++[⟨false,⟨t,M.Control.Env⟩⟩]})
def addrs:List qA→qG→List Int×qG
 |[],M=>([],M)
 | k::ks,M=>((M.addr k).1::(addrs ks (M.addr k).2).1,(addrs ks (M.addr k).2).2)
end qG
def vars (n:Nat):List qA:=(List.range n).map fun i:Nat=>.mk 1 (i:Int) [] []
def qA.kid (t:qA) (i:Nat):qA:=t.Kids.getD i noT
namespace qG
def build (M:qG) (t:qA):qG:={(addrs t.Kids M).2 with Control:=⟨.mk 8 t.Value [] (vars t.Kids.length),(addrs t.Kids M).1⟩}
def toRef (M:qG) (d:Int):qG:=M.ctl ⟨.mk 11 d [] [],[]⟩
def cellAt (M:qG) (a:Int):qH:=M.Heap.getD a.toNat ⟨false,noC⟩
def enter (M:qG) (a:Int):qG:=(if (M.cellAt a).Done then M else M.push (fr 1 a)).ctl (M.cellAt a).Closure
def top (M:qG):qF:=M.Stack.getD (M.Stack.length-1) (fr 0 0)
def eval (b:qO) (M:qG):Int×qG:=
 if M.Control.Term.Kind=1 then (2,M.enter (M.Control.Env.getD M.Control.Term.Value.toNat 0))
 else if M.Control.Term.Kind=5 then (1,(((M.addr (M.Control.Term.kid 1)).2).push (fr 2 (M.addr (M.Control.Term.kid 1)).1)).ctl ⟨M.Control.Term.kid 0,M.Control.Env⟩)
 else if M.Control.Term.Kind=3 then (1,(M.push ⟨3,M.Control.Term.Value,[],⟨M.Control.Term.kid 1,M.Control.Env⟩⟩).ctl ⟨M.Control.Term.kid 0,M.Control.Env⟩)
 else if M.Control.Term.Kind=9 then (1,(M.push ⟨5,0,M.Control.Term.Data,noC⟩).ctl ⟨M.Control.Term.kid 0,M.Control.Env⟩)
 else if M.Control.Term.Kind=10 then (1,(M.push ⟨6,0,M.Control.Term.Data,noC⟩).ctl ⟨M.Control.Term.kid 0,M.Control.Env⟩)
 else if M.Control.Term.Kind=11 then (7,M.ctl ⟨b.Defs.getD M.Control.Term.Value.toNat noT,[]⟩)
 else (8,M.build M.Control.Term)
def meet (M:qG):Int×qG:=
 if M.top.Kind=1 then (3,{M with Heap:=M.Heap.set M.top.Value.toNat ⟨true,M.Control⟩,Stack:=M.Stack.dropLast})
 else if M.Control.Term.Kind=4∧M.top.Kind=2 then (4,M.pop.ctl ⟨M.Control.Term.kid 0,M.top.Value::M.Control.Env⟩)
 else if M.Control.Term.Kind=2∧M.top.Kind=3 then (1,(M.pop.push ⟨4,M.top.Value,[M.Control.Term.Value],noC⟩).ctl M.top.Closure)
 else if M.Control.Term.Kind=2∧M.top.Kind=4 then (5,M.pop.ctl ⟨.mk 2 (opI M.top.Value (M.top.Data.getD 0 0) M.Control.Term.Value) [] [],[]⟩)
 else if M.Control.Term.Kind=2∧M.top.Kind=6 then (6,M.pop.toRef (M.top.Data.getD (if M.Control.Term.Value=0 then 1 else 0) 0))
 else if M.Control.Term.Kind=8∧M.top.Kind=5∧M.Control.Term.Value<M.top.Data.length then
  (6,({M.pop with Stack:=M.pop.Stack++M.Control.Env.reverse.map (fr 2)}).toRef (M.top.Data.getD M.Control.Term.Value.toNat 0))
 else (0,M)
def move (b:qO) (M:qG):Int×qG:=if M.Control.val then M.meet else M.eval b
def step (b:qO) (M:qG):Int×Int×qG:=
 if (M.move b).1=0 then (0,5,(M.move b).2)
 else if 2000<(M.move b).2.Heap.length∨400<(M.move b).2.Stack.length∨256<(M.move b).2.Control.Env.length then (0,4,(M.move b).2)
 else ((M.move b).1,0,(M.move b).2)
end qG
def cnt (cs:List Int) (k:Int):List Int:=if 4≤k∧k≤7 then cs.set (k-4).toNat (IntKind.i64.wrap (cs.getD (k-4).toNat 0+1)) else cs
def qn (b:qO):Nat→qG→List Int→Int×qG×List Int×Nat
 | 0,M,cs=>if M.done then (0,M,cs,0) else (12,M,cs,0)
 | n+1,M,cs=>if M.done then (0,M,cs,n+1) else if (M.step b).2.1≠0 then ((M.step b).2.1,(M.step b).2.2,cs,n+1) else qn b n (M.step b).2.2 (cnt cs (M.step b).1)
def qA.er:qA→Bool:=qA.fold fun x rs=> !(decide (x.Kind=6) || decide (x.Kind=7))&&rs.all id
theorem qA.er_eq (x:qA):x.er=(!(decide (x.Kind=6) || decide (x.Kind=7))&&x.Kids.all qA.er):=by
 unfold qA.er;rw [qA.fold_eq];simp
structure TI (nb n:Nat) (t:qA):Prop where
 v:t.valid=true
 e:t.er=true
 r:t.refs nb=true
 a:t.above n=false
structure CI (nb hl L:Nat) (c:qI):Prop where
 t:TI nb c.Env.length c.Term
 l:c.Env.length≤L
 e:∀a∈c.Env,0≤a∧a<(hl:Int)
structure FI (nb hl:Nat) (f:qF):Prop where
 a:f.Kind=1∨f.Kind=2→0≤f.Value∧f.Value<(hl:Int)
 c:f.Kind=3→CI nb hl 256 f.Closure
 d:f.Kind=4→f.Data.length=1
 r:f.Kind=5∨f.Kind=6→∀d∈f.Data,0≤d∧d<(nb:Int)
 l:f.Kind=6→f.Data.length=2
structure MI0 (L:Nat) (b:qO) (M:qG):Prop where
 c:CI b.Defs.length M.Heap.length L M.Control
 s:∀f∈M.Stack,FI b.Defs.length M.Heap.length f
 h:∀t∈M.Heap,CI b.Defs.length M.Heap.length 256 t.Closure
structure MI (b:qO) (M:qG):Prop extends MI0 256 b M where
 sl:M.Stack.length≤400
 hl:M.Heap.length≤2000
structure BI (b:qO):Prop where
 l:b.Defs.length≤24
 d:∀d∈b.Defs,TI b.Defs.length 0 d
section
variable {nb n hl hl' L:Nat} {t y:qA} {c:qI} {f:qF} {b:qO} {M:qG}
theorem CI.up (h:CI nb hl L c) (q:hl≤hl'):CI nb hl' L c:=⟨h.t,h.l,fun a ha=>by have:=h.e a ha;omega⟩
theorem CI.up2 {L':Nat} (h:CI nb hl L c) (q:L≤L'):CI nb hl L' c:=⟨h.t,Nat.le_trans h.l q,h.e⟩
theorem FI.up (h:FI nb hl f) (q:hl≤hl'):FI nb hl' f:=⟨fun k=>by have:=h.a k;omega,fun k=>(h.c k).up q,h.d,h.r,h.l⟩
theorem qOA {α:Type} {p:Nat→α→Bool}:∀{xs:List α} {k i:Nat} (h:i<xs.length),zg p xs k=false→p (k+i) xs[i]=false
 | x::xs,k,0,_,h=>by simp only [zg,Bool.or_eq_false_iff] at h;exact h.1
 | x::xs,k,i+1,hi,h=>by
  simp only [zg,Bool.or_eq_false_iff] at h;have:=qOA (i:=i) (by simpa using hi) h.2;rw [show k+(i+1)=k+1+i by omega];exact this
theorem TI.ok (h:TI nb n t):t.ok=true:=(JF h.v).1
theorem TI.sz (h:TI nb n t):t.sz≤2000:=(JF h.v).2.2.2.1
theorem TI.not6 (h:TI nb n t):¬t.Kind=6∧¬t.Kind=7:=by
 have:=h.e;rw [qA.er_eq] at this;simp only [bAt,Bool.not_eq_true',Bool.or_eq_false_iff,decide_eq_false_iff_not] at this;exact this.1
theorem TI.node (h:TI nb n t):zN t=true:=Jt h.ok
theorem TI.lens (h:TI nb n t):t.Kids.length≤3∧t.Data.length≤4:=by
 have:=h.node;simp only [zN,bAt,inI,decide_eq_true_eq] at this;have h1:(shp t.Kind).1.2≤3∧(shp t.Kind).2.2≤4:=by
  unfold shp
  repeat' split
  all_goals simp
 omega
theorem TI.kinds (h:TI nb n t):t.Kind=1∨t.Kind=2∨t.Kind=3∨t.Kind=4∨t.Kind=5∨t.Kind=8∨t.Kind=9∨t.Kind=10∨t.Kind=11:=by
 have h6:=h.not6;have:=h.node;simp only [zN,bAt,inI,decide_eq_true_eq] at this;have h0:=this.1.1.1;clear this;unfold shp at h0;split at h0
 ·rename_i q;rcases q with q | q | q<;>simp [q]
 split at h0
 ·rename_i q;rcases q with q | q | q<;>simp [q]<;>exact absurd q h6.2
 split at h0
 ·rename_i q;rcases q with q | q<;>simp [q]<;>exact absurd q h6.1
 split at h0
 ·rename_i q;simp [q]
 split at h0
 ·rename_i q;simp [q]
 split at h0
 ·rename_i q;simp [q]
 ·simp at h0;omega
theorem TI.mem (h:TI nb n t) (hy:y∈t.Kids):y.valid=true∧y.er=true∧y.refs nb=true:=by
 refine ⟨?_, ?_, ?_⟩
 ·obtain ⟨h1,h2,h3,_,_⟩:=JF h.v;have hd:=qA.dep_kid hy;have hs:=zP (f:=qA.size) hy;have:=t.size_eq;unfold qA.valid;rw [WD h1 hy];simp only [Bool.true_and,bAt,decide_eq_true_eq];omega
 ·have:=h.e;rw [qA.er_eq,bAt,List.all_eq_true] at this;exact this.2 y hy
 ·have:=h.r;rw [qA.refs_eq,bAt,List.all_eq_true] at this;exact this.2 y hy
theorem TI.kid (h:TI nb n t) {i:Nat} (hi:i<t.Kids.length):TI nb (n+(qt t.Kind i).toNat) t.Kids[i]:=by
 obtain ⟨h1,h2,h3⟩:=h.mem (gMm hi);refine ⟨h1,h2,h3, ?_⟩;have ha:=h.a;rw [qA.above_eq,if_neg (fun q=>by rw [qQR h.ok q] at hi;simp at hi)] at ha;have hb:=Qb t.Kind i;have:=qOA hi ha;simp only [nZa] at this;rw [show ((n+(qt t.Kind i).toNat:Nat):Int)=n+qt t.Kind i by omega];exact this
theorem TI.kid0 (h:TI nb n t) (h4:¬t.Kind=4) {i:Nat} (hi:i<t.Kids.length):TI nb n t.Kids[i]:=by
 have:=h.kid hi;have e:qt t.Kind i=0:=by unfold qt;rw [if_neg];rintro (q | q);exact h4 q;exact h.not6.2 q.1
 rw [e] at this;exact this
theorem TI.lam (h:TI nb n t) (h4:t.Kind=4):∃hi:0<t.Kids.length,TI nb (n+1) t.Kids[0]:=by
 have hl:=(WE h.ok).2 (.inl h4);have hi:0<t.Kids.length:=by omega
 refine ⟨hi, ?_⟩;have:=h.kid hi;rw [h4] at this;exact this
theorem TI.var (h:TI nb n t) (h1:t.Kind=1):0≤t.Value∧t.Value.toNat<n:=by
 have ha:=h.a;rw [qA.above_eq,if_pos h1,decide_eq_false_iff_not] at ha;have hv:=qM4 h.ok;unfold jl inI at hv;rw [if_pos h1] at hv;simp at hv;omega
theorem TI.val8 (h:TI nb n t) (h1:t.Kind=8):0≤t.Value∧t.Value≤3:=by
 have hv:=qM4 h.ok;unfold jl inI at hv;rw [h1] at hv;simpa using hv
theorem TI.ref (h:TI nb n t) (h1:t.Kind=11):0≤t.Value∧t.Value<nb:=by
 have hv:=qM4 h.ok;unfold jl inI at hv;rw [h1] at hv;have hr:=h.r;rw [qA.refs_eq,h1] at hr;simp at hv hr;omega
theorem TI.data (h:TI nb n t):∀d∈t.Data,0≤d∧d<(nb:Int):=fun d hd=>by
 have hr:=h.r;rw [qA.refs_eq] at hr;simp only [bAt,List.all_eq_true,decide_eq_true_eq] at hr;have:=h.node;simp only [zN,bAt,List.all_eq_true] at this;have q:=this.2 d hd;simp only [jd,inI,bAt,decide_eq_true_eq] at q;exact ⟨q.1,hr.1.2 d hd⟩
theorem TI.data10 (h:TI nb n t) (h1:t.Kind=10):t.Data.length=2:=by
 have:=h.node;simp only [zN,bAt,inI,decide_eq_true_eq] at this;have h0:=this.1.1.2;rw [h1] at h0;simp [shp] at h0;omega
theorem TI.mkVar {i:Int} (h0:0≤i) (h1:i<n) (h2:i≤255):TI nb n (.mk 1 i [] []):=by
 refine ⟨?_, ?_, ?_, ?_⟩
 ·unfold qA.valid;rw [qA.ok_eq,qA.dep_eq,qA.size_eq];simp [qA.Kids,zN,qA.Kind,qA.Data,qA.Value,shp,inI,jl,zI,qE,h0,h2]
 ·rw [qA.er_eq];simp [qA.Kids,qA.Kind]
 ·rw [qA.refs_eq];simp [qA.Kids,qA.Kind,qA.Data]
 ·rw [qA.above_eq,if_pos (by rfl)];exact decide_eq_false (by show ¬(n:Int)≤i;omega)
theorem TI.mkRef {i:Int} (h0:0≤i) (h1:i<nb) (h2:nb≤24):TI nb n (.mk 11 i [] []):=by
 have h3:i≤23:=by omega
 refine ⟨?_, ?_, ?_, ?_⟩
 ·unfold qA.valid;rw [qA.ok_eq,qA.dep_eq,qA.size_eq];simp [qA.Kids,zN,qA.Kind,qA.Data,qA.Value,shp,inI,jl,zI,qE,h0,h3]
 ·rw [qA.er_eq];simp [qA.Kids,qA.Kind]
 ·rw [qA.refs_eq];have q:decide ((nb:Int)≤(qA.mk 11 i [] []).Value)=false:=decide_eq_false (by show ¬(nb:Int)≤i;omega);rw [q];simp [qA.Kids,qA.Data]
 ·rw [qA.above_eq];simp [qA.Kind,qA.Value,qA.Kids,zg]
theorem TI.mkNum {i:Int} (h0: -2147483648≤i) (h1:i≤2147483647):TI nb n (.mk 2 i [] []):=by
 refine ⟨?_, ?_, ?_, ?_⟩
 ·unfold qA.valid;rw [qA.ok_eq,qA.dep_eq,qA.size_eq];simp [qA.Kids,zN,qA.Kind,qA.Data,qA.Value,shp,inI,jl,zI,qE,h0,h1]
 ·rw [qA.er_eq];simp [qA.Kids,qA.Kind]
 ·rw [qA.refs_eq];simp [qA.Kids,qA.Kind,qA.Data,qA.Value]
 ·rw [qA.above_eq];simp [qA.Kind,qA.Value,qA.Kids,zg]
theorem TI.mkCon {v:Int} {ks:List qA} (h0:0≤v) (h1:v≤3) (hl:ks.length≤3) (hk:∀(i:Nat) (h:i<ks.length),TI nb n ks[i]∧ks[i].size=1∧ks[i].dep=1):TI nb n (.mk 8 v [] ks):=by
 have hm:∀k∈ks,TI nb n k∧k.size=1∧k.dep=1:=fun k hk'=>by obtain ⟨i,hi,rfl⟩:=List.mem_iff_getElem.1 hk';exact hk i hi
 refine ⟨?_, ?_, ?_, ?_⟩
 ·unfold qA.valid;rw [qA.ok_eq,qA.dep_eq,qA.size_eq];have e1:(ks.all qA.ok)=true:=List.all_eq_true.2 fun k hk=>(hm k hk).1.ok;have e2:zI qA.dep ks≤1:=(UI _ _ _).2 fun k hk=>by rw [(hm k hk).2.2];exact Nat.le_refl _
  have e3:qE qA.size ks≤3:=by
   have:∀xs:List qA,(∀k∈xs,k.size=1)→qE qA.size xs=xs.length:=by
    intro xs
    induction xs with
    | nil=>intro _;rfl
    | cons a xs ih=>intro h;simp only [qE,lCo,h a (by simp),ih fun k hk=>h k (by simp [hk])];omega
   rw [this ks fun k hk=>(hm k hk).2.1];exact hl
  have e4:zN (.mk 8 v [] ks)=true:=by simp [qA.Kids,zN,qA.Kind,qA.Data,qA.Value,shp,inI,jl,h0,h1];omega
  show ((zN (.mk 8 v [] ks)&&ks.all qA.ok)&&decide (1+zI qA.dep ks≤80)&&decide (1+qE qA.size ks≤400))=true;rw [e4,e1,decide_eq_true (by omega),decide_eq_true (by omega)];rfl
 ·rw [qA.er_eq];simp [qA.Kids,qA.Kind];exact fun k hk=>(hm k hk).1.e
 ·rw [qA.refs_eq];simp [qA.Kids,qA.Kind,qA.Data,qA.Value];exact fun k hk=>(hm k hk).1.r
 ·rw [qA.above_eq,if_neg (by show ¬(8:Int)=1;decide)];have:∀(xs:List qA) (k:Nat),(∀y∈xs,TI nb n y)→zg (fun i (y:qA)=>y.above (n+qt 8 i)) xs k=false:=by
   intro xs
   induction xs with
   | nil=>intro _ _;rfl
   | cons a xs ih=>
    intro k h;simp only [zg,Bool.or_eq_false_iff];refine ⟨?_,ih _ fun y hy=>h y (by simp [hy])⟩;have:=(h a (by simp)).a;rw [show qt 8 k=0 by unfold qt;rw [if_neg];simp,Int.add_zero];exact this
  exact this ks 0 fun y hy=>(hm y hy).1
theorem qbB {i:Nat} (h:i<(vars n).length):(vars n)[i]=.mk 1 i [] []:=by simp [vars]
theorem qSK:(vars n).length=n:=by simp [vars]
theorem qbA {i:Int}:(qA.mk 1 i [] []).size=1∧(qA.mk 1 i [] []).dep=1:=by rw [qA.size_eq,qA.dep_eq];simp [qA.Kids,qE,zI]
theorem MI0.push (h:MI0 L b M) (hf:FI b.Defs.length M.Heap.length f):MI0 L b (M.push f):=
 ⟨h.c,fun g hg=>by
  simp only [qG.push,List.mem_append,List.mem_singleton] at hg;rcases hg with hg | rfl
  ·exact h.s g hg
  ·exact hf,h.h⟩
theorem MI0.pop (h:MI0 L b M):MI0 L b M.pop:=⟨h.c,fun g hg=>h.s g (List.dropLast_subset _ hg),h.h⟩
theorem MI0.ctl {L':Nat} (h:MI0 L b M) (hc:CI b.Defs.length M.Heap.length L' c):MI0 L' b (M.ctl c):=⟨hc,h.s,h.h⟩
theorem qMD {k a:Int} (hk:k=1∨k=2) (h:0≤a∧a<(hl:Int)):FI nb hl (fr k a):=
 ⟨fun _=>h,fun q=>by rcases hk with rfl | rfl<;>simp [fr] at q,fun q=>by rcases hk with rfl | rfl<;>simp [fr] at q,fun q d hd=>by simp [fr] at hd,fun q=>by rcases hk with rfl | rfl<;>simp [fr] at q⟩
theorem MI0.addr (h:MI0 256 b M) (ht:TI b.Defs.length M.Control.Env.length t):MI0 256 b (M.addr t).2∧(M.addr t).2.Control=M.Control∧M.Heap.length≤(M.addr t).2.Heap.length∧(M.addr t).2.Heap.length≤M.Heap.length+1∧0≤(M.addr t).1∧(M.addr t).1<(M.addr t).2.Heap.length∧(M.addr t).2.Stack=M.Stack:=by
 unfold qG.addr;split
 ·rename_i h1;obtain ⟨v0,v1⟩:=ht.var h1;have hm:M.Control.Env.getD t.Value.toNat 0∈M.Control.Env:=by rw [List.getD_eq_getElem?_getD,gEg v1];exact gMm v1
  have:=h.c.e _ hm;exact ⟨h,rfl,Nat.le_refl _,by simp only;omega,this.1,this.2,rfl⟩
 ·have hc:=h.c;refine ⟨⟨?_,fun f hf=> ?_,fun x hx=> ?_⟩,rfl,by simp,by simp,by simp only;omega,by simp only [lAp,lCo,lNi];omega,rfl⟩
  ·exact hc.up (by simp)
  ·exact (h.s f hf).up (by simp)
  ·simp only [List.mem_append,List.mem_singleton] at hx;rcases hx with hx | rfl
   ·exact (h.h x hx).up (by simp)
   ·exact ⟨ht,hc.l,fun a ha=>by have:=hc.e a ha;simp;omega⟩
theorem MI0.addrs:∀(ks:List qA) {M:qG},MI0 256 b M→(∀k∈ks,TI b.Defs.length M.Control.Env.length k)→MI0 256 b (qG.addrs ks M).2∧(qG.addrs ks M).2.Control=M.Control∧M.Heap.length≤(qG.addrs ks M).2.Heap.length∧
  (∀a∈(qG.addrs ks M).1,0≤a∧a<((qG.addrs ks M).2.Heap.length:Int))∧(qG.addrs ks M).1.length=ks.length
 |[],M,h,_=>⟨h,rfl,Nat.le_refl _,fun a ha=>by simp [qG.addrs] at ha,rfl⟩
 | k::ks,M,h,hk=>by
  obtain ⟨q1,q2,q3,q4,q5,q6,_⟩:=h.addr (hk k (by simp));obtain ⟨r1,r2,r3,r4,r5⟩:=MI0.addrs ks q1 (fun k' hk'=>by rw [q2];exact hk k' (by simp [hk']));refine ⟨r1,r2.trans q2,Nat.le_trans q3 r3,fun a ha=> ?_,by simp [qG.addrs,r5]⟩;simp only [qG.addrs,List.mem_cons] at ha;rcases ha with rfl | ha
  ·exact ⟨q5,by simp only [qG.addrs];omega⟩
  ·exact r4 a ha
theorem MI0.build (h:MI0 256 b M) (h8:M.Control.Term.Kind=8):MI0 256 b (M.build M.Control.Term):=by
 have ht:=h.c.t;have hl:=ht.lens.1;obtain ⟨r1,r2,r3,r4,r5⟩:=MI0.addrs M.Control.Term.Kids h fun k hk=>by
  obtain ⟨i,hi,rfl⟩:=List.mem_iff_getElem.1 hk;exact ht.kid0 (by rw [h8];decide) hi
 obtain ⟨v0,v1⟩:=ht.val8 h8;refine r1.ctl ⟨?_,by simp only [r5];omega,r4⟩;simp only [r5];refine .mkCon v0 v1 (by rw [qSK];exact hl) fun i hi=> ?_;rw [qSK] at hi;rw [qbB];exact ⟨.mkVar (by omega) (by omega) (by omega),qbA⟩
theorem zj {α:Type} {xs:List α} {i:Nat} {d:α} (h:i<xs.length):xs.getD i d=xs[i]:=by simp [List.getD,h]
theorem MI0.enter (h:MI0 256 b M) {a:Int} (h0:0≤a) (h1:a<M.Heap.length):MI0 256 b (M.enter a):=by
 have hi:a.toNat<M.Heap.length:=by omega
 have e:M.cellAt a=M.Heap[a.toNat]:=zj hi;have hc:=h.h _ (gMm hi);unfold qG.enter;rw [e];split
 ·exact h.ctl hc
 ·exact (h.push (qMD (.inl rfl) ⟨h0,h1⟩)).ctl hc
theorem MI0.toRef (h:MI0 L b M) (hb:BI b) {d:Int} (h0:0≤d) (h1:d<b.Defs.length):MI0 256 b (M.toRef d):=h.ctl ⟨.mkRef h0 h1 hb.l,by simp,fun a ha=>by simp at ha⟩
theorem jC {i:Nat} (h:i<t.Kids.length):t.kid i=t.Kids[i]:=zj h
theorem MI0.eval (hb:BI b) (h:MI0 256 b M) (hv:M.Control.val=false):MI0 256 b (M.eval b).2:=by
 have ht:=h.c.t;have hk2:=WE ht.ok;unfold qG.eval;split
 ·rename_i h1;obtain ⟨v0,v1⟩:=ht.var h1;have hm:M.Control.Env.getD M.Control.Term.Value.toNat 0∈M.Control.Env:=by rw [zj v1];exact gMm v1
  have:=h.c.e _ hm;exact h.enter this.1 this.2
 have foc:∀{N:qG},MI0 256 b N→N.Control=M.Control→¬M.Control.Term.Kind=4→0<M.Control.Term.Kids.length→MI0 256 b (N.ctl ⟨M.Control.Term.kid 0,M.Control.Env⟩):=fun {N} hN e h4 hl=>by
  refine hN.ctl ⟨?_, ?_, ?_⟩
  ·rw [jC hl];exact ht.kid0 h4 hl
  ·exact h.c.l
  ·have:=hN.c.e;rw [e] at this;exact this
 split
 ·rename_i h5;have hl:=hk2.1 (.inr (.inl h5));have h4:¬M.Control.Term.Kind=4:=by rw [h5];decide
  have hl1:1<M.Control.Term.Kids.length:=by omega
  obtain ⟨q1,q2,q3,q4,q5,q6,_⟩:=h.addr (t:=M.Control.Term.kid 1) (by rw [jC hl1];exact ht.kid0 h4 hl1);exact foc (q1.push (qMD (.inr rfl) ⟨q5,q6⟩)) q2 h4 (by omega)
 split
 ·rename_i h5;have hl:=hk2.1 (.inl h5);have h4:¬M.Control.Term.Kind=4:=by rw [h5];decide
  have hl1:1<M.Control.Term.Kids.length:=by omega
  exact foc (h.push ⟨fun q=>by simp at q,fun _=>⟨by rw [jC hl1];exact ht.kid0 h4 hl1,h.c.l,h.c.e⟩,fun q=>by simp at q,fun q=>by simp at q,fun q=>by simp at q⟩) rfl h4 (by omega)
 split
 ·rename_i h5;have hl:=hk2.2 (.inr (.inr (.inl h5)));have h4:¬M.Control.Term.Kind=4:=by rw [h5];decide
  exact foc (h.push ⟨fun q=>by simp at q,fun q=>by simp at q,fun q=>by simp at q,fun q=>ht.data,fun q=>by simp at q⟩) rfl h4 (by omega)
 split
 ·rename_i h5;have hl:=hk2.2 (.inr (.inr (.inr h5)));have h4:¬M.Control.Term.Kind=4:=by rw [h5];decide
  exact foc (h.push ⟨fun q=>by simp at q,fun q=>by simp at q,fun q=>by simp at q,fun q=>ht.data,fun q=>ht.data10 h5⟩) rfl h4 (by omega)
 split
 ·rename_i h5;obtain ⟨v0,v1⟩:=ht.ref h5;have hi:M.Control.Term.Value.toNat<b.Defs.length:=by omega
  exact h.ctl ⟨by simp only [zj hi];exact hb.d _ (gMm hi),by simp,fun a ha=>by simp at ha⟩
 ·have h8:M.Control.Term.Kind=8:=by
   unfold qI.val at hv;have:=ht.kinds;split at hv
   ·cases hv
   ·omega
  exact h.build h8
theorem qQX {k a b:Int}: -2147483648≤opI k a b∧opI k a b≤2147483647:=by
 have hw:∀n:Int,-2147483648≤w32 n∧w32 n≤2147483647:=fun n=>by
  have h3: -2147483648≤IntKind.i32.wrap n∧IntKind.i32.wrap n≤2147483647:=by
   simp only [IntKind.wrap,IntKind.bits,IntKind.signed,Bool.true_and,decide_eq_true_eq,Nat.reduceSub,Int.reducePow,ge_iff_le];split<;>constructor<;>omega
  rw [qSN,qr (by omega) (by omega)];exact h3
 unfold opI
 repeat' split
 all_goals first | exact hw _ | omega
theorem wi (h:0<M.Stack.length):M.top=M.Stack[M.Stack.length-1]∧M.top∈M.Stack:=by
 have:M.top=M.Stack[M.Stack.length-1]:=zj (by omega);exact ⟨this,by rw [this];exact gMm _⟩
theorem MI0.meet (hb:BI b) (h:MI0 256 b M) (hv:M.Control.val=true) (hs:0<M.Stack.length):MI0 257 b M.meet.2:=by
 have ht:=h.c.t;obtain ⟨te,tm⟩:=wi hs;have hf:=h.s _ tm;have up:∀{N:qG},MI0 256 b N→MI0 257 b N:=fun q=>⟨q.c.up2 (by omega),q.s,q.h⟩;unfold qG.meet;split
 ·rename_i h1;refine up ⟨?_,fun f hf=> ?_,fun x hx=> ?_⟩
  ·simp only [List.length_set];exact h.c
  ·simp only [List.length_set];exact h.s f (List.dropLast_subset _ hf)
  ·simp only [List.length_set];rcases List.mem_or_eq_of_mem_set hx with hx | rfl
   ·exact h.h x hx
   ·exact h.c
 split
 ·rename_i h1;obtain ⟨hl,hk⟩:=ht.lam h1.1;have ha:=hf.a (.inr h1.2);refine h.pop.ctl ⟨?_, ?_,fun a hm=> ?_⟩
  ·simp only [lCo,jC hl];exact hk
  ·simp only [lCo];have:=h.c.l;omega
  ·simp only [List.mem_cons] at hm;rcases hm with rfl | hm
   ·exact ha
   ·exact h.c.e a hm
 split
 ·rename_i h1;exact up ((h.pop.push ⟨fun q=>by simp at q,fun q=>by simp at q,fun q=>rfl,fun q=>by simp at q,fun q=>by simp at q⟩).ctl (hf.c h1.2))
 split
 ·rename_i h1;exact up (h.pop.ctl ⟨.mkNum qQX.1 qQX.2,by simp,fun a ha=>by simp at ha⟩)
 split
 ·rename_i h1;have hl:=hf.l h1.2;have hi:(if M.Control.Term.Value=0 then 1 else 0)<M.top.Data.length:=by split<;>omega
  have:=hf.r (.inr h1.2) _ (gMm hi);refine up (h.pop.toRef hb ?_ ?_)
  ·rw [zj hi];exact this.1
  ·rw [zj hi];exact this.2
 split
 ·rename_i h1;obtain ⟨v0,v1⟩:=ht.val8 h1.1;have hi:M.Control.Term.Value.toNat<M.top.Data.length:=by omega
  have:=hf.r (.inl h1.2.1) _ (gMm hi);refine up (MI0.toRef (L:=256) (M:={M.pop with Stack:=M.pop.Stack++M.Control.Env.reverse.map (fr 2)}) ⟨h.c,fun f hf=> ?_,h.h⟩ hb ?_ ?_)
  ·simp only [List.mem_append,List.mem_map,List.mem_reverse] at hf;rcases hf with hf | ⟨a,ha,rfl⟩
   ·exact h.pop.s f hf
   ·exact qMD (.inr rfl) (h.c.e a ha)
  ·rw [zj hi];exact this.1
  ·rw [zj hi];exact this.2
 ·exact up h
theorem MI.pos (hd:M.done=false) (hv:M.Control.val=true):0<M.Stack.length:=by
 unfold qG.done at hd;rw [hv,Bool.and_true,decide_eq_false_iff_not] at hd;omega
theorem MI.step (hb:BI b) (h:MI b M) (hd:M.done=false) (hc:(M.step b).2.1=0):MI b (M.step b).2.2:=by
 have hm:MI0 257 b (M.move b).2:=by
  unfold qG.move;split
  ·rename_i hv;exact h.toMI0.meet hb hv (MI.pos hd hv)
  ·rename_i hv;have:=h.toMI0.eval hb (by simpa using hv);exact ⟨this.c.up2 (by omega),this.s,this.h⟩
 unfold qG.step at hc⊢;split at hc
 ·simp at hc
 rename_i h1;split at hc
 ·simp at hc
 rename_i h2;rw [if_neg h1,if_neg h2];exact ⟨⟨⟨hm.c.t,by simp only;omega,hm.c.e⟩,hm.s,hm.h⟩,by simp only;omega,by simp only;omega⟩
end
theorem c727 {x:Int}:Pure Gm 727 [.int .i64 x] ((qA.mk 1 x [] []).enc):=by
 refine Pure.intro [] [] g727 (by kernel_rfl) rfl (by simp [AV.trees,AV.tree,go_sem]) (by simp [go_sem]) ?_;simp only [YW,qP,go_sem];refine qf (k:=4) (by rfl) (by rfl) (by exact ⟨_,rfl⟩) (by decide) ?_;simp only [go_sem];exact j5 Qg
theorem c612 {x:Int}:Pure Gm 612 [.int .i64 x] ((qA.mk 1 x [] []).enc):=by
 refine Pure.intro [] [] g612 (by kernel_rfl) rfl (by simp [AV.trees,AV.tree,go_sem]) (by simp [go_sem]) ?_;simp only [YF,qP,go_sem];refine qf (k:=4) (by rfl) (by rfl) (by exact ⟨_,rfl⟩) (by decide) ?_;simp only [go_sem];exact j5 Qg
theorem qNY {ks:List qA} {i:Nat} (h:i<ks.length):jN (ks.drop i) i=(decide (ks[i].Kind=1)&&decide (ks[i].Value=i)&&jN (ks.drop (i+1)) (i+1)):=by
 rw [jI h];rfl
theorem c673 {x:qI} (hz:x.sz≤1048576):Pure Gm 673 [x.enc] (.bool x.val):=by
 refine Pure.intro [] [] g673 (by kernel_rfl) rfl (by simp [AV.trees,AV.tree,go_sem]) rfl ?_;simp only [YO,qP,go_sem];have hz':=hz;unfold qI.sz at hz';have hk:=x.Term.sz_eq;refine qW rfl ?_;simp only [go_sem];refine qM ?_ ?_<;>intro hc<;>simp only [hc,go_sem]
 ·exact qJ rfl (by unfold qI.val;simp at hc;simp [hc])
 refine qM ?_ ?_<;>intro hc<;>simp only [hc,go_sem]
 ·exact qJ rfl (by unfold qI.val;simp at hc;simp [hc])
 rename_i h4;have h2:=hc;clear hc;refine qM ?_ ?_<;>intro hc<;>simp only [hc,go_sem];rotate_left
 ·exact qJ rfl (by unfold qI.val;simp at hc h4 h2;simp [hc,h4,h2])
 have hv:x.val=(decide (x.Term.Kids.length=x.Env.length)&&jN x.Term.Kids 0):=by unfold qI.val qI.fields;simp at hc h4 h2;simp [hc]
 rw [hv];clear hc h4 h2 hv;refine Sem.loop (fun i:Nat=>i≤x.Term.Kids.length∧jN x.Term.Kids 0=jN (x.Term.Kids.drop i) i) (fun i=>(⟨[(15,.lst 4 (x.Term.Kids.map qA.enc) false),(16,.int .i64 (x.Term.Kids.length:Nat)),(17,.int .i64 (i:Nat))],[(1,x.enc)],[]⟩:VSt)) (fun i=>x.Term.Kids.length-i) 0 (by kernel_rfl) ⟨Nat.zero_le _,by simp⟩ (Can.sub (by simp [go_sem]) (by simp [go_sem])) ?_;rintro i ⟨hi,hI⟩;simp only [go_sem];refine qM ?_ ?_<;>intro hc<;>simp only [hc,go_sem]
 ·have hlt:i<x.Term.Kids.length:=by have:=odT hc;omega
  rw [qNY hlt] at hI;clear hc;simp only [gMp,gEg hlt,oMs,go_sem];refine qf (k:=4) (by rfl) (by simp [go_sem]) (qA.isAgg _) (by decide) ?_;simp only [go_sem];refine qY ?_ ?_<;>intro hc<;>simp only [hc,go_sem]
  ·have hc1:=hc;refine qM ?_ ?_<;>intro hc<;>simp only [hc,go_sem]
   ·exact qJ rfl (by simp at hc hc1;simp [hI,hc,hc1])
   ·simp only [qq (show i<4611686018427387904 by omega)];refine qo (i+1) ⟨by omega, ?_⟩ (by omega) (Can.sub (by simp [go_sem]) (by simp [go_sem]));simp at hc hc1;rw [hI];simp [hc,hc1]
  ·exact qJ rfl (by simp at hc;simp [hI,hc])
 ·obtain rfl:i=x.Term.Kids.length:=by have:=odF hc;omega
  have h1:jN (x.Term.Kids.drop x.Term.Kids.length) x.Term.Kids.length=true:=by rw [List.drop_length];rfl
  rw [h1] at hI;exact qJ rfl (by rw [hI,Bool.and_true,AV.bool.injEq,decide_eq_decide];omega)
section
variable {P:Nat→Prop} {w:Nat} {pre post:List AV} {id j:Nat} {h:List qC} {M:qG} {K:AV→List qC→Prop}
theorem qRS (hj:pre.length=j) (hN:NSx P w pre post id h M) (hz:M.Control.sz≤1048576) (hK:K (.bool M.Control.fields) h):SCall Gm 1149 [.ptr id 0 j] h K:=by
 obtain ⟨si,hi,js,hN⟩:=hN;have hz':=hz;unfold qI.sz at hz';have hk:=M.Control.Term.sz_eq;refine SCall.run [] [] qPQ (by kernel_rfl) rfl ?_;simp only [ZQ,qP,go_sem];simp only [hN.o,Nat.add_zero,ne3 hj,ne4 hj,go_sem];refine qM ?_ ?_<;>intro hc<;>simp only [hc,go_sem]
 ·have:M.Control.fields=false:=by unfold qI.fields;simp at hc;simp;intro q;omega
  rw [this] at hK;exact hK
 have hf:M.Control.fields=jN M.Control.Term.Kids 0:=by
  unfold qI.fields;have:M.Control.Term.Kids.length=M.Control.Env.length:=by simp at hc;omega
  simp [this]
 rw [hf] at hK;clear hc hf;refine Sem.loop (fun i:Nat=>i≤M.Control.Term.Kids.length∧jN M.Control.Term.Kids 0=jN (M.Control.Term.Kids.drop i) i) (fun i=>(⟨[(0,.ptr id 0 j),(3,.int .i64 (i:Nat))],[],h⟩:VSt)) (fun i=>M.Control.Term.Kids.length-i) 0 (by kernel_rfl) ⟨Nat.zero_le _,by simp⟩ (Can.sub (by simp [go_sem]) (by simp [go_sem])) ?_;rintro i ⟨hi',hI⟩;simp only [go_sem];simp only [hN.o,Nat.add_zero,ne0 hj,ne1 hj,ne2 hj,ne3 hj,ne4 hj,ne5 hj,ne6 hj,neT hj,neC hj,go_sem];refine qM ?_ ?_<;>intro hc<;>simp only [hc,go_sem]
 ·have hlt:i<M.Control.Term.Kids.length:=by have:=odT hc;omega
  rw [qNY hlt] at hI;clear hc;simp only [hN.o,Nat.add_zero,ne0 hj,ne1 hj,ne2 hj,ne3 hj,ne4 hj,ne5 hj,ne6 hj,neT hj,neC hj,go_sem];simp only [gMp,gEg hlt,oMs,go_sem];refine qY ?_ ?_<;>intro hc<;>simp only [hc,go_sem]
  ·have hc1:=hc;simp only [hN.o,Nat.add_zero,ne0 hj,ne1 hj,ne2 hj,ne3 hj,ne4 hj,ne5 hj,ne6 hj,neT hj,neC hj,go_sem];simp only [gMp,gEg hlt,oMs,go_sem];refine qM ?_ ?_<;>intro hc<;>simp only [hc,go_sem]
   ·have:jN M.Control.Term.Kids 0=false:=by simp at hc hc1;simp [hI,hc,hc1]
    rw [this] at hK;exact hK
   ·simp only [qq (show i<4611686018427387904 by omega)];refine qo (i+1) ⟨by omega, ?_⟩ (by omega) (Can.sub (by simp [go_sem]) (by simp [go_sem]));simp at hc hc1;rw [hI];simp [hc,hc1]
  ·have:jN M.Control.Term.Kids 0=false:=by simp at hc;simp [hI,hc]
   rw [this] at hK;exact hK
 ·obtain rfl:i=M.Control.Term.Kids.length:=by have:=odF hc;omega
  have h1:jN (M.Control.Term.Kids.drop M.Control.Term.Kids.length) M.Control.Term.Kids.length=true:=by rw [List.drop_length];rfl
  rw [h1] at hI;rw [hI] at hK;exact hK
theorem s822 (hj:pre.length=j) (hN:NSx P w pre post id h M) (hz:M.Control.sz≤1048576) (hK:K (.bool M.Control.val) h):SCall Gm 822 [.ptr id 0 j] h K:=by
 obtain ⟨si,hi,js,hN'⟩:=hN;have hN:=hN';refine SCall.run [] [] g822 (by kernel_rfl) rfl ?_;simp only [Zb,qP,go_sem];simp only [hN.o,Nat.add_zero,ne0 hj,ne1 hj,ne2 hj,ne3 hj,ne4 hj,ne5 hj,ne6 hj,neT hj,neC hj,go_sem];refine qM ?_ ?_<;>intro hc<;>simp only [hc,go_sem]
 ·have:M.Control.val=true:=by unfold qI.val;simp at hc;simp [hc]
  rw [this] at hK;exact hK
 refine qM ?_ ?_<;>intro hc<;>simp only [hc,go_sem]
 ·have:M.Control.val=true:=by unfold qI.val;simp at hc;simp [hc]
  rw [this] at hK;exact hK
 rename_i h4;have h2:=hc;clear hc;refine qM ?_ ?_<;>intro hc<;>simp only [hc,go_sem]
 ·have:M.Control.val=M.Control.fields:=by unfold qI.val;simp at hc h2 h4;simp [hc]
  rw [this] at hK;refine qe (qRS hj ⟨_,_,_,hN⟩ hz ?_);simp only [go_sem];exact hK
 ·have:M.Control.val=false:=by unfold qI.val;simp at hc h2 h4;simp [hc,h2,h4]
  rw [this] at hK;exact hK
theorem s459 (hj:pre.length=j) (hN:NSx P w pre post id h M) (hz:M.Control.sz≤1048576) (hK:K (.bool M.done) h):SCall Gm 459 [.ptr id 0 j] h K:=by
 obtain ⟨si,hi,js,hN⟩:=hN;refine SCall.run [] [] g459 (by kernel_rfl) rfl ?_;simp only [Xp,qP,go_sem];simp only [hN.o,Nat.add_zero,ne0 hj,ne1 hj,ne2 hj,ne3 hj,ne4 hj,ne5 hj,ne6 hj,neT hj,neC hj,go_sem];refine qY ?_ ?_<;>intro hc<;>simp only [hc,go_sem]
 ·refine qe (s822 hj ⟨_,_,_,hN⟩ hz ?_);simp only [go_sem];have:M.done=M.Control.val:=by unfold qG.done;simp at hc;simp [hc]
  rw [this] at hK;exact hK
 ·have:M.done=false:=by unfold qG.done;simp at hc;simp [hc]
  rw [this] at hK;exact hK
theorem s670 (hj:pre.length=j) (hN:NSx P w pre post id h M) (hz:M.Control.sz≤1048576) (hK:K (.bool M.done) h):SCall Gm 670 [.ptr id 0 j] h K:=by
 obtain ⟨si,hi,js,hN⟩:=hN;refine SCall.run [] [] g670 (by kernel_rfl) rfl ?_;simp only [YL,qP,go_sem];simp only [hN.o,Nat.add_zero,ne0 hj,ne1 hj,ne2 hj,ne3 hj,ne4 hj,ne5 hj,ne6 hj,neT hj,neC hj,go_sem];refine qY ?_ ?_<;>intro hc<;>simp only [hc,go_sem]
 ·simp only [hN.o,Nat.add_zero,ne0 hj,ne1 hj,ne2 hj,ne3 hj,ne4 hj,ne5 hj,ne6 hj,neT hj,neC hj,go_sem];refine qK (c673 hz) ?_;simp only [go_sem];have:M.done=M.Control.val:=by unfold qG.done;simp at hc;simp [hc]
  rw [this] at hK;exact hK
 ·have:M.done=false:=by unfold qG.done;simp at hc;simp [hc]
  rw [this] at hK;exact hK
end
theorem qMG {α:Type} {xs:List α} {i:Nat} {d:α} (h:i<xs.length):xs.getD i d=xs[i]:=by simp [List.getD,h]
section
variable {P:Nat→Prop} {w:Nat} {pre post:List AV} {id j:Nat} {h:List qC} {M:qG} {K:AV→List qC→Prop}
theorem NS.eqh {si hi:Nat} {js:List AV} {h':List qC} (hN:NS P w pre post id h M si hi js) (e:h=h'):NS P w pre post id h' M si hi js:=e▸hN
theorem Keep.eqh {h0 h':List qC} (hN:Keep P h0 h) (e:h=h'):Keep P h0 h':=e▸hN
theorem qRU (hj:pre.length=j) (hN:NSx P w pre post id h M) (hs:M.Heap.length≤1000000) (t:qA) (hv:t.Kind=1→0≤t.Value∧t.Value.toNat<M.Control.Env.length)
  (hK:∀h',NSx P w pre post id h' (M.addr t).2→Keep P h h'→K (.int .i64 (M.addr t).1) h'):SCall Gm 1159 [.ptr id 0 j,t.enc] h K:=by
 have hN0:=hN;obtain ⟨si,hi,js,hN⟩:=hN;refine SCall.run [] [] qV0 (by kernel_rfl) rfl ?_;simp only [XA,qP,go_sem];refine qW qA.ln ?_;simp only [go_sem];refine qM ?_ ?_<;>intro hc<;>simp only [hc,go_sem]
 ·simp only [hN.o,Nat.add_zero,ne0 hj,ne1 hj,ne2 hj,ne3 hj,ne4 hj,ne5 hj,ne6 hj,neT hj,neC hj,go_sem];have h1:t.Kind=1:=by simpa using hc
  obtain ⟨v0,v1⟩:=hv h1;have e:M.addr t=(M.Control.Env[t.Value.toNat],M):=by unfold qG.addr;rw [if_pos h1,qMG v1]
  rw [e] at hK;simp only [w7 v0,gMp,gEg v1,oMs,shI.part,go_sem];exact hK _ hN0 Keep.refl
 ·have h1:¬t.Kind=1:=by simpa using hc
  have e:M.addr t=(((M.Heap.length:Nat):Int),{M with Heap:=M.Heap++[⟨false,⟨t,M.Control.Env⟩⟩]}):=by unfold qG.addr;rw [if_neg h1]
  rw [e] at hK;simp only [hN.o,Nat.add_zero,ne0 hj,ne1 hj,ne2 hj,ne3 hj,ne4 hj,ne5 hj,ne6 hj,neT hj,neC hj,go_sem];have o2:(h++[qC.row 6 [qH.enc (⟨false,⟨t,M.Control.Env⟩⟩:qH)] true])[hi]?=some (.row 6 (M.Heap.map qH.enc++[]) true):=by rw [gAl (qc hN.t)];simpa using hN.t
  have hl:(h++[qC.row 6 [qH.enc (⟨false,⟨t,M.Control.Env⟩⟩:qH)] true]).length=h.length+1:=by simp
  have e:M.Heap.map qH.enc++[qH.enc (⟨false,⟨t,M.Control.Env⟩⟩:qH)]=(M.Heap++[(⟨false,⟨t,M.Control.Env⟩⟩:qH)]).map qH.enc:=by simp
  refine ja (x:=qH.enc (⟨false,⟨t,M.Control.Env⟩⟩:qH)) List.getElem?_concat_length o2 (by simp) (by omega) ?_;rw [e];have o3:(((h++[qC.row 6 [qH.enc (⟨false,⟨t,M.Control.Env⟩⟩:qH)] true]).set hi .dead)++[qC.row 6 ((M.Heap++[(⟨false,⟨t,M.Control.Env⟩⟩:qH)]).map qH.enc) true])[id]?=some (.row w [.agg (pre++(Nec M si hi++post))] true):=by
   have:=qc hN.o;rw [gAl (by simp;omega),gSn (Ne.symm hN.d2),gAl this];exact hN.o
  obtain ⟨n1,n2⟩:=hN.grow (M':={M with Heap:=M.Heap++[⟨false,⟨t,M.Control.Env⟩⟩]}) (x:=qC.row 6 [qH.enc (⟨false,⟨t,M.Control.Env⟩⟩:qH)] true) rfl;simp only [show (h++[qC.row 6 [qH.enc (⟨false,⟨t,M.Control.Env⟩⟩:qH)] true]).length=h.length+1 from hl,lAp,lCo,lNi,nZa,go_sem];refine qp rfl o3 rfl (qQP hj (M':={M with Heap:=M.Heap++[⟨false,⟨t,M.Control.Env⟩⟩]}) rfl rfl (by simp [qG.push,qG.pop,qG.ctl])) ?_;generalize hg:List.set _ _ _=h2;replace n1:=NS.eqh n1 hg;replace n2:=Keep.eqh n2 hg;clear hg;replace hN:=n1;simp only [go_sem];simp only [hN.o,Nat.add_zero,ne0 hj,ne1 hj,ne2 hj,ne3 hj,ne4 hj,ne5 hj,ne6 hj,neT hj,neC hj,go_sem];have e3:IntKind.i64.wrap (((M.Heap.length+1:Nat):Int)-1)=((M.Heap.length:Nat):Int):=by rw [Uy (by omega) (by omega)];rfl
  simp only [lAp,lCo,lNi,nZa,e3];exact hK _ ⟨_,_,_,hN⟩ n2
theorem qRT (hj:pre.length=j) (hN:NSx P w pre post id h M) (hs:M.Heap.length≤1000000) (t:qA) (hv:t.Kind=1→0≤t.Value∧t.Value.toNat<M.Control.Env.length)
  (hK:∀h',NSx P w pre post id h' (M.addr t).2→Keep P h h'→K (.int .i64 (M.addr t).1) h'):SCall Gm 1150 [.ptr id 0 j,.ept t.enc 0] h K:=by
 have hN0:=hN;obtain ⟨si,hi,js,hN⟩:=hN;refine SCall.run [] [] qVT (by kernel_rfl) rfl ?_;simp only [Ws,qP,go_sem];refine qM ?_ ?_<;>intro hc<;>simp only [hc,go_sem]
 ·simp only [hN.o,Nat.add_zero,ne0 hj,ne1 hj,ne2 hj,ne3 hj,ne4 hj,ne5 hj,ne6 hj,neT hj,neC hj,go_sem];have h1:t.Kind=1:=by simpa using hc
  obtain ⟨v0,v1⟩:=hv h1;have e:M.addr t=(M.Control.Env[t.Value.toNat],M):=by unfold qG.addr;rw [if_pos h1,qMG v1]
  rw [e] at hK;simp only [w7 v0,gMp,gEg v1,oMs,shI.part,go_sem];exact hK _ hN0 Keep.refl
 ·have h1:¬t.Kind=1:=by simpa using hc
  have e:M.addr t=(((M.Heap.length:Nat):Int),{M with Heap:=M.Heap++[⟨false,⟨t,M.Control.Env⟩⟩]}):=by unfold qG.addr;rw [if_neg h1]
  rw [e] at hK;simp only [hN.o,Nat.add_zero,ne0 hj,ne1 hj,ne2 hj,ne3 hj,ne4 hj,ne5 hj,ne6 hj,neT hj,neC hj,go_sem];have o2:(h++[qC.row 6 [qH.enc (⟨false,⟨t,M.Control.Env⟩⟩:qH)] true])[hi]?=some (.row 6 (M.Heap.map qH.enc++[]) true):=by rw [gAl (qc hN.t)];simpa using hN.t
  have hl:(h++[qC.row 6 [qH.enc (⟨false,⟨t,M.Control.Env⟩⟩:qH)] true]).length=h.length+1:=by simp
  have e:M.Heap.map qH.enc++[qH.enc (⟨false,⟨t,M.Control.Env⟩⟩:qH)]=(M.Heap++[(⟨false,⟨t,M.Control.Env⟩⟩:qH)]).map qH.enc:=by simp
  refine ja (x:=qH.enc (⟨false,⟨t,M.Control.Env⟩⟩:qH)) List.getElem?_concat_length o2 (by simp) (by omega) ?_;rw [e];have o3:(((h++[qC.row 6 [qH.enc (⟨false,⟨t,M.Control.Env⟩⟩:qH)] true]).set hi .dead)++[qC.row 6 ((M.Heap++[(⟨false,⟨t,M.Control.Env⟩⟩:qH)]).map qH.enc) true])[id]?=some (.row w [.agg (pre++(Nec M si hi++post))] true):=by
   have:=qc hN.o;rw [gAl (by simp;omega),gSn (Ne.symm hN.d2),gAl this];exact hN.o
  obtain ⟨n1,n2⟩:=hN.grow (M':={M with Heap:=M.Heap++[⟨false,⟨t,M.Control.Env⟩⟩]}) (x:=qC.row 6 [qH.enc (⟨false,⟨t,M.Control.Env⟩⟩:qH)] true) rfl;simp only [show (h++[qC.row 6 [qH.enc (⟨false,⟨t,M.Control.Env⟩⟩:qH)] true]).length=h.length+1 from hl,lAp,lCo,lNi,nZa,go_sem];refine qp rfl o3 rfl (qQP hj (M':={M with Heap:=M.Heap++[⟨false,⟨t,M.Control.Env⟩⟩]}) rfl rfl (by simp [qG.push,qG.pop,qG.ctl])) ?_;generalize hg:List.set _ _ _=h2;replace n1:=NS.eqh n1 hg;replace n2:=Keep.eqh n2 hg;clear hg;replace hN:=n1;simp only [go_sem];simp only [hN.o,Nat.add_zero,ne0 hj,ne1 hj,ne2 hj,ne3 hj,ne4 hj,ne5 hj,ne6 hj,neT hj,neC hj,go_sem];have e3:IntKind.i64.wrap (((M.Heap.length+1:Nat):Int)-1)=((M.Heap.length:Nat):Int):=by rw [Uy (by omega) (by omega)];rfl
  simp only [lAp,lCo,lNi,nZa,e3];exact hK _ ⟨_,_,_,hN⟩ n2
theorem Ul (hj:pre.length=j) (hN:NSx P w pre post id h M) (t:qA)
  (hK:∀h',NSx P w pre post id h' (M.ctl ⟨t,M.Control.Env⟩)→Keep P h h'→K (.tup []) h'):SCall Gm 1161 [.ptr id 0 j,t.enc] h K:=by
 obtain ⟨si,hi,js,hN⟩:=hN;refine SCall.run [] [] qV2 (by kernel_rfl) rfl ?_;simp only [XC,qP,go_sem];refine qW qA.ln ?_;simp only [go_sem];simp only [hN.o,Nat.add_zero,ne0 hj,ne1 hj,ne2 hj,ne3 hj,ne4 hj,ne5 hj,ne6 hj,neT hj,neC hj,go_sem];refine qp rfl hN.o rfl (z9 hj rfl) ?_;obtain ⟨n1,n2⟩:=hN.struct (post':=post) (M':=M.ctl ⟨t,M.Control.Env⟩) (js':=js) rfl rfl;generalize hg:List.set _ _ _=h2;replace n1:=NS.eqh n1 hg;replace n2:=Keep.eqh n2 hg;clear hg;replace hN:=n1;simp only [go_sem];exact hK _ ⟨_,_,_,hN⟩ n2
theorem Uk (hj:pre.length=j) (hN:NSx P w pre post id h M) (hs:M.Stack.length≤1000000) (f:qF) (t:qA)
  (hK:∀h',NSx P w pre post id h' ((M.push f).ctl ⟨t,M.Control.Env⟩)→Keep P h h'→K (.tup []) h'):SCall Gm 1151 [.ptr id 0 j,f.enc,.ept t.enc 0] h K:=by
 obtain ⟨si,hi,js,hN⟩:=hN;refine SCall.run [] [] qVU (by kernel_rfl) rfl ?_;simp only [Wu,qP,go_sem];refine qW qF.ln ?_;simp only [go_sem];simp only [hN.o,Nat.add_zero,ne0 hj,ne1 hj,ne2 hj,ne3 hj,ne4 hj,ne5 hj,ne6 hj,neT hj,neC hj,go_sem];have o2:(h++[qC.row 8 [qF.enc f] true])[si]?=some (.row 8 (M.Stack.map qF.enc++js) true):=by rw [gAl (qc hN.s)];simpa using hN.s
 have hl:(h++[qC.row 8 [qF.enc f] true]).length=h.length+1:=by simp
 have e:M.Stack.map qF.enc++[qF.enc f]=(M.Stack++[f]).map qF.enc:=by simp
 refine ja (x:=qF.enc f) List.getElem?_concat_length o2 (by simp) (by omega) ?_;rw [e];have o3:(((h++[qC.row 8 [qF.enc f] true]).set si .dead)++[qC.row 8 ((M.Stack++[f]).map qF.enc) true])[id]?=some (.row w [.agg (pre++(Nec M si hi++post))] true):=by
  have:=qc hN.o;rw [gAl (by simp;omega),gSn (Ne.symm hN.d1),gAl this];exact hN.o
 obtain ⟨n1,n2⟩:=hN.push (M':=M.push f) (x:=qC.row 8 [qF.enc f] true) rfl;simp only [show (h++[qC.row 8 [qF.enc f] true]).length=h.length+1 from hl,lAp,lCo,lNi,nZa,go_sem];refine qp rfl o3 rfl (WA hj (M':=M.push f) rfl rfl (by simp [qG.push,qG.pop,qG.ctl])) ?_;generalize hg:List.set _ _ _=h2;replace n1:=NS.eqh n1 hg;replace n2:=Keep.eqh n2 hg;clear hg;replace hN:=n1;have k2:=n2;clear n2;simp only [go_sem];simp only [hN.o,Nat.add_zero,ne0 hj,ne1 hj,ne2 hj,ne3 hj,ne4 hj,ne5 hj,ne6 hj,neT hj,neC hj,go_sem];refine qp rfl hN.o rfl (z9 hj rfl) ?_;obtain ⟨n1,n2⟩:=hN.struct (post':=post) (M':=(M.push f).ctl ⟨t,M.Control.Env⟩) (js':=[]) rfl rfl;generalize hg:List.set _ _ _=h3;replace n1:=NS.eqh n1 hg;replace n2:=Keep.eqh n2 hg;simp only [go_sem];exact hK _ ⟨_,_,_,n1⟩ (k2.trans n2)
end
section
variable {P:Nat→Prop} {w:Nat} {pre post:List AV} {id j:Nat} {h:List qC} {M:qG} {K:AV→List qC→Prop}
theorem ji {w id len:Nat} {cl:Bool} {k:IntKind} {n:Int} (h0:0≤n) (h:n<len):idx w (some (.slice w id 0 len cl)) (some (.int k n))=some (.ptr id n.toNat 0):=by rw [qML h0 h,nZa]
theorem frW {k v:Int}:Wk [] (.agg [.int .i64 k,.int .i64 v,.nils,.int .i64 0,.int .i64 0,.nils,.nils,.nils]) (fr k v).enc:=
 .agg (.same (.same (.cons .nilL (.same (.same (.cons .nilL (.cons .nilL (.cons .nilL .nil))))))))
theorem JN {a b c d s5 s6:AV} {pre post:List AV}:Wks [] [.agg (pre++(([a,b,c,d,.nils]++[s5,s6])++post))] [.agg (pre++([a,b,c,d,.lst 1 [] false,s5,s6]++post))]:=
 .cons (.agg (Wks.app (.refl pre) (Wks.app (.same (.same (.same (.same (.cons .nilL (.refl _)))))) (.refl post)))) .nil
theorem qNL (hj:pre.length=j) (hN:NSx P w pre post id h M) (d:Int)
  (hK:∀h',NSx P w pre post id h' (M.toRef d)→Keep P h h'→K (.tup []) h'):SCall Gm 1405 [.ptr id 0 j,.int .i64 d] h K:=by
 obtain ⟨si,hi,js,hN⟩:=hN;refine SCall.runW [] [] qWA (by kernel_rfl) rfl ?_;simp only [XK,qP,go_sem];refine qK qTL ?_;simp only [go_sem];refine qp rfl hN.o rfl (z9 hj rfl) ?_;simp only [go_sem];obtain ⟨n1,n2⟩:=hN.struct (post':=post) (M':=M.toRef d) (js':=js) rfl rfl;exact ⟨_,_,.refl _,WkH.set JN,hK _ ⟨_,_,_,n1⟩ n2⟩
theorem qaE (hj:pre.length=j) (hN:NSx P w pre post id h M) (hs:M.Stack.length≤1000000) (a:Int) (a0:0≤a) (a1:a.toNat<M.Heap.length)
  (hK:∀h',NSx P w pre post id h' (M.enter a)→Keep P h h'→K (.int .i64 2) h'):SCall Gm 1158 [.ptr id 0 j,.int .i64 a] h K:=by
 have hN0:=hN;obtain ⟨si,hi,js,hN⟩:=hN;have ec:M.cellAt a=M.Heap[a.toNat]:=by unfold qG.cellAt;rw [qMG a1]
 refine SCall.run [] [] qVZ (by kernel_rfl) rfl ?_;simp only [W9,qP,go_sem];simp only [hN.o,Nat.add_zero,ne0 hj,ne1 hj,ne2 hj,ne3 hj,ne4 hj,ne5 hj,ne6 hj,neT hj,neC hj,go_sem];simp only [ji a0 (show a<(M.Heap.length:Int) by omega),go_sem,hN.t,gMp,gEg a1,oMs];refine qM ?_ ?_<;>intro hc<;>simp only [hc,go_sem]
 ·have hd:M.Heap[a.toNat].Done=false:=by simpa using hc
  have en:M.enter a=(M.push (fr 1 a)).ctl M.Heap[a.toNat].Closure:=by unfold qG.enter;rw [ec,hd];rfl
  rw [en] at hK;refine qe (SCall.arg (.same (.cons frW .nil)) (Jy Jl hj hN0 hs (fr 1 a) fun h2 hN2 k2=> ?_));clear hN;obtain ⟨si,hi,js,hN⟩:=hN2;simp only [go_sem];simp only [hN.o,Nat.add_zero,ne0 hj,ne1 hj,ne2 hj,ne3 hj,ne4 hj,ne5 hj,ne6 hj,neT hj,neC hj,go_sem];have a2:a.toNat<(M.push (fr 1 a)).Heap.length:=a1;have e2:(M.push (fr 1 a)).Heap.length=M.Heap.length:=rfl;have hN:=hN;have hNt:h2[hi]?=some (.row 6 (M.Heap.map qH.enc) true):=hN.t;simp only [ji a0 (show a<(M.Heap.length:Int) by omega),go_sem,hNt,gMp,gEg a1,oMs];simp only [Nat.add_zero];refine qp rfl hN.o rfl (z9 hj rfl) ?_;obtain ⟨n1,n2⟩:=hN.struct (post':=post) (M':=(M.push (fr 1 a)).ctl M.Heap[a.toNat].Closure) (js':=js) rfl rfl;generalize hg:List.set _ _ _=h3;replace n1:=NS.eqh n1 hg;replace n2:=Keep.eqh n2 hg;simp only [go_sem];exact hK _ ⟨_,_,_,n1⟩ (k2.trans n2)
 ·have hd:M.Heap[a.toNat].Done=true:=by simpa using hc
  have en:M.enter a=M.ctl M.Heap[a.toNat].Closure:=by unfold qG.enter;rw [ec,hd];rfl
  rw [en] at hK;simp only [hN.o,Nat.add_zero,ne0 hj,ne1 hj,ne2 hj,ne3 hj,ne4 hj,ne5 hj,ne6 hj,neT hj,neC hj,go_sem];simp only [ji a0 (show a<(M.Heap.length:Int) by omega),go_sem,hN.t,gMp,gEg a1,oMs];simp only [Nat.add_zero];refine qp rfl hN.o rfl (z9 hj rfl) ?_;obtain ⟨n1,n2⟩:=hN.struct (post':=post) (M':=M.ctl M.Heap[a.toNat].Closure) (js':=js) rfl rfl;generalize hg:List.set _ _ _=h2;replace n1:=NS.eqh n1 hg;replace n2:=Keep.eqh n2 hg;clear hg;replace hN:=n1;simp only [go_sem];exact hK _ ⟨_,_,_,n1⟩ n2
end
attribute [local simp] jA zU
def Outs (P:Nat→Prop) (h h':List qC):Prop:=h.length≤h'.length∧∀j,j<h.length→¬P j→h'[j]?=h[j]?
def wo (P:Nat→Prop) (a b:Nat):Nat→Prop:=fun j=>P j∨j=a∨j=b
section
variable {P Q:Nat→Prop} {w:Nat} {pre post:List AV} {id j:Nat} {h h':List qC} {M:qG} {K:AV→List qC→Prop}
theorem NSx.out (hN:NSx P w pre post id h M) (ho:Outs P h h') (hq:∀j,Q j→(P j∨h.length≤j)∧j<h'.length):NSx Q w pre post id h' M:=by
 obtain ⟨si,hi,js,hN⟩:=hN;have l1:=qc hN.o;have l2:=qc hN.s;have l3:=qc hN.t;refine ⟨si,hi,js,by rw [ho.2 _ l1 hN.p1];exact hN.o,by rw [ho.2 _ l2 hN.p2];exact hN.s,by rw [ho.2 _ l3 hN.p3];exact hN.t,hN.d1,hN.d2,hN.d3,fun q=> ?_,fun q=> ?_,fun q=> ?_,fun j hj=>(hq j hj).2⟩
 ·rcases (hq _ q).1 with q | q
  ·exact hN.p1 q
  ·omega
 ·rcases (hq _ q).1 with q | q
  ·exact hN.p2 q
  ·omega
 ·rcases (hq _ q).1 with q | q
  ·exact hN.p3 q
  ·omega
theorem NSx.pl (hN:NSx P w pre post id h M) {j:Nat} (hj:P j):j<h.length:=by obtain ⟨_,_,_,hN⟩:=hN;exact hN.pl j hj
theorem NSx.sub (hN:NSx P w pre post id h M) (hq:∀j,Q j→P j):NSx Q w pre post id h M:=by obtain ⟨_,_,_,hN⟩:=hN;exact ⟨_,_,_,hN.kp hq⟩
theorem Outs.app {er v:Nat} {x y:qC} (hp:P er):Outs P h (((h++[x]).set er .dead)++[y]):=by
 refine ⟨by simp;omega,fun j hj hn=> ?_⟩;have:er≠j:=by rintro rfl;exact hn hp
 rw [gAl (by simp;omega),gSn this,gAl hj]
theorem Keep.app {er:Nat} {x y:qC} (hp:¬P er) (hl:∀j,P j→j<h.length):Keep P h (((h++[x]).set er .dead)++[y]):=by
 refine ⟨by simp;omega,fun j hj=> ?_⟩;have h1:=hl j hj;have:er≠j:=by rintro rfl;exact hp hj
 rw [gAl (by simp;omega),gSn this,gAl h1]
namespace qG
theorem qSW {t:qA}:(M.addr t).2.Control=M.Control:=by unfold addr;split<;>rfl
theorem qSX {t:qA}:(M.addr t).2.Heap.length≤M.Heap.length+1:=by unfold addr;split<;>simp
theorem addrs_snoc {k:qA}:∀(ks:List qA) (M:qG),addrs (ks++[k]) M=((addrs ks M).1++[((addrs ks M).2.addr k).1],((addrs ks M).2.addr k).2)
 |[],M=>rfl
 | a::ks,M=>by simp only [List.cons_append,addrs,addrs_snoc ks]
theorem addrs_control:∀(ks:List qA) (M:qG),(addrs ks M).2.Control=M.Control
 |[],M=>rfl
 | a::ks,M=>by simp only [addrs];rw [addrs_control ks,qSW]
theorem addrs_heap:∀(ks:List qA) (M:qG),(addrs ks M).2.Heap.length≤M.Heap.length+ks.length
 |[],M=>by simp [addrs]
 | a::ks,M=>by
  simp only [addrs,lCo];have:=addrs_heap ks (M.addr a).2;have:=qSX (M:=M) (t:=a);omega
theorem addrs_len:∀(ks:List qA) (M:qG),(addrs ks M).1.length=ks.length
 |[],M=>rfl
 | a::ks,M=>by simp only [addrs,lCo,addrs_len ks]
end qG
theorem Uf {er kr u v:Nat} {xs ys zs:List AV} {x:qC} {h0 g g':List qC} (hg:((g++[x]).set er .dead)++[.row v zs true]=g') (hN:NSx (wo P er kr) w pre post id g M) (h3:g[er]?=some (.row v xs true)) (h4:g[kr]?=some (.row u ys true)) (hne:er≠kr) (hk:Keep P h0 g)
  (hP:∀j,P j→j<h0.length) (h6:h0.length≤er):NSx (wo P (g.length+1) kr) w pre post id g' M∧g'[g.length+1]?=some (.row v zs true)∧g'[kr]?=some (.row u ys true)∧g.length+1≠kr∧Keep P h0 g'∧h0.length≤g.length+1:=by
 have l3:=qc h3;have l4:=qc h4;have l0:=hk.1;have hl:g'.length=g.length+2:=by rw [←hg];simp
 refine ⟨hN.out (P:=wo P er kr) (h':=g') (by rw [←hg];exact Outs.app (v:=0) (.inr (.inl rfl))) fun j hj=> ?_, ?_, ?_,by omega, ?_,by omega⟩
 ·rcases hj with hj | rfl | rfl
  ·have:=hP _ hj;exact ⟨.inl (.inl hj),by omega⟩
  ·exact ⟨.inr (by omega),by omega⟩
  ·exact ⟨.inl (.inr (.inr rfl)),by omega⟩
 ·rw [←hg,gAr (by simp)];simp
 ·rw [←hg,gAl (by simp;omega),gSn hne,gAl l4];exact h4
 ·rw [←hg];exact hk.trans (Keep.app (fun q=>by have:=hP _ q;omega) fun j hj=>by have:=hP _ hj;omega)
theorem NSx.swap {a b:Nat} (hN:NSx (wo P a b) w pre post id h M):NSx (wo P b a) w pre post id h M:=hN.sub fun j hj=>hj.elim .inl fun q=>.inr q.symm
theorem ZJ {α:Type} {xs:List α} {i:Nat} (h:i<xs.length):xs.take (i+1)=xs.take i++[xs[i]]:=by rw [List.take_add_one,gEg h];rfl
theorem qSL (n:Nat):vars (n+1)=vars n++[.mk 1 n [] []]:=by unfold vars;rw [List.range_succ,List.map_append];rfl
theorem Uw (n:Nat):(vars n).length=n:=by simp [vars]
theorem qaF (hj:pre.length=j) (hN:NSx P w pre post id h M) (t:qA) (hn:t.Kids.length≤1000) (hs:M.Heap.length≤100000) (hv:∀k∈t.Kids,k.Kind=1→0≤k.Value∧k.Value.toNat<M.Control.Env.length)
  (hK:∀h',NSx P w pre post id h' (M.build t)→Keep P h h'→K (.int .i64 8) h'):SCall Gm 1160 [.ptr id 0 j,t.enc] h K:=by
 refine SCall.run [] [] qV1 (by kernel_rfl) rfl ?_;simp only [XB,qP,go_sem];refine qW qA.ln ?_;simp only [go_sem];refine qf (k:=4) (by rfl) (by rfl) (by exact ⟨_,rfl⟩) (by decide) ?_;simp only [go_sem];refine UF (fun q:Nat×List qC×Nat×Nat=>q.1≤t.Kids.length∧NSx (wo P q.2.2.1 q.2.2.2) w pre post id q.2.1 (qG.addrs (t.Kids.take q.1) M).2∧q.2.1[q.2.2.1]?=some (.row 1 ((qG.addrs (t.Kids.take q.1) M).1.map qD) true)∧
   q.2.1[q.2.2.2]?=some (.row 4 ((vars q.1).map qA.enc) true)∧q.2.2.1≠q.2.2.2∧h.length≤q.2.2.1∧h.length≤q.2.2.2∧Keep P h q.2.1)
  (fun q=>(⟨[(0,.ptr id 0 j),(6,.slice 1 q.2.2.1 0 q.1 false),(13,.lst 4 (t.Kids.map qA.enc) false),(14,.int .i64 (t.Kids.length:Nat)),(15,.int .i64 (q.1:Nat))],
   [(5,.agg [.int .i64 8,.int .i64 t.Value,.nils,.slice 4 q.2.2.2 0 q.1 false])],q.2.1⟩:VSt)) (fun q=>t.Kids.length-q.1) (0,(h++[.row 1 [] true])++[.row 4 [] true],h.length,h.length+1)
  (fun g:List qC=>NSx P w pre post id g (qG.addrs t.Kids M).2∧Keep P h g)
  (fun g=>(⟨[(0,.ptr id 0 j),(6,.lst 1 ((qG.addrs t.Kids M).1.map qD) false)],[(5,(qA.mk 8 t.Value [] (vars t.Kids.length)).enc)],g⟩:VSt)) (by kernel_rfl) ?_ ?_ ?_ ?_
 ·refine ⟨Nat.zero_le _, ?_, ?_, ?_,by simp,by simp,by simp, ?_⟩
  ·simp only [List.take_zero,qG.addrs];refine NSx.out hN ⟨by simp,fun j hj _=> ?_⟩ fun j hj=> ?_
   ·rw [gAl (by simp;omega),gAl hj]
   ·rcases hj with hj | rfl | rfl
    ·have:=hN.pl hj;exact ⟨.inl hj,by simp;omega⟩
    ·exact ⟨.inr (by simp),by simp⟩
    ·exact ⟨.inr (by simp),by simp⟩
  ·simp [qG.addrs,List.getElem?_append]
  ·simp [vars,List.getElem?_append]
  ·exact ⟨by simp,fun j hj=>by have:=hN.pl hj;simp only;rw [gAl (by simp;omega),gAl this]⟩
 ·refine (Can.ph (w:=1) (s':=[(0,.ptr id 0 j),(6,.slice 1 h.length 0 0 false),(13,.lst 4 (t.Kids.map qA.enc) false),(14,.int .i64 (t.Kids.length:Nat)),(15,.int .i64 0)]) (m':=[(5,.agg [.int .i64 8,.int .i64 t.Value,.nils,.nils])]) ?_ ?_).trans (Can.ph (w:=4) ?_ ?_)
  ·exact WkN.same (by simp [go_sem]) (WkN.cons (v:=.nils) (by simp [go_sem]) (.ph (by simp)) (WkN.same (by simp [go_sem]) (WkN.same (by simp [go_sem]) (WkN.same (by simp [go_sem]) .nil))))
  ·exact WkN.same (by simp [go_sem]) .nil
  ·exact WkN.same (by simp [go_sem]) (WkN.same (by simp [go_sem]) (WkN.same (by simp [go_sem]) (WkN.same (by simp [go_sem]) (WkN.same (by simp [go_sem]) .nil))))
  ·exact WkN.cons (v:=.agg [.int .i64 8,.int .i64 t.Value,.nils,.nils]) (by simp [go_sem]) (.agg (.same (.same (.same (.cons (.ph (by simp)) .nil))))) .nil
 ·rintro ⟨i,g,er,kr⟩ ⟨h1,h2,h3,h4,h5,h6,h7,h8⟩;simp only at h1 h2 h3 h4 h5 h6 h7 h8⊢;simp only [go_sem];refine qM ?_ ?_<;>intro hc<;>simp only [hc,go_sem]
  ·have hlt:i<t.Kids.length:=by have:=odT hc;omega
   clear hc;simp only [gMp,gEg hlt,oMs,go_sem];refine qf (k:=4) (by rfl) (by simp [go_sem]) (qA.isAgg _) (by decide) ?_;simp only [go_sem];have c1:=qG.addrs_control (t.Kids.take i) M;have c2:=qG.addrs_heap (t.Kids.take i) M;have c3:=qG.addrs_len (t.Kids.take i) M;rw [List.length_take] at c2 c3;have c4:=qG.addrs_snoc (k:=t.Kids[i]) (t.Kids.take i) M;rw [←ZJ hlt] at c4;refine qe (qRU hj h2 (by omega) t.Kids[i] (fun hk=>by rw [c1];exact hv _ (gMm hlt) hk) fun g2 n2 k2=> ?_);simp only [go_sem];have q3:g2[er]?=_:=(k2.2 er (.inr (.inl rfl))).trans h3;have q4:g2[kr]?=_:=(k2.2 kr (.inr (.inr rfl))).trans h4;have q8:Keep P h g2:=h8.trans (k2.sub fun j hj=>.inl hj);refine ja (xs:=(qG.addrs (t.Kids.take i) M).1.map qD) (js:=[]) List.getElem?_concat_length (by rw [gAl (qc q3),lAn];exact q3) (by rw [lMp];omega) (by omega) ?_;generalize hg:(List.set (g2++[qC.row 1 _ true]) er qC.dead++[qC.row 1 _ true])=g3;obtain ⟨m1,m2,m3,m4,m5,m6⟩:=Uf hg n2 q3 q4 h5 q8 (fun j hj=>hN.pl hj) h6;rw [show (g2++[qC.row 1 [AV.int .i64 ((qG.addrs (t.Kids.take i) M).2.addr t.Kids[i]).1] true]).length=g2.length+1 by simp];simp only [go_sem];refine qK c727 ?_;simp only [go_sem];refine ja (xs:=(vars i).map qA.enc) (js:=[]) List.getElem?_concat_length (by rw [gAl (qc m3),lAn];exact m3) (by rw [lMp,Uw]) (by omega) ?_;generalize hg2:(List.set (g3++[qC.row 4 _ true]) kr qC.dead++[qC.row 4 _ true])=g4;obtain ⟨p1,p2,p3,p4,p5,p6⟩:=Uf hg2 m1.swap m3 m2 (Ne.symm m4) m5 (fun j hj=>hN.pl hj) h7;rw [show (g3++[qC.row 4 [(qA.mk 1 (i:Nat) [] []).enc] true]).length=g3.length+1 by simp];simp only [go_sem];rw [qq (by omega)];refine UE (i+1,g4,g2.length+1,g3.length+1) ⟨by simp only;omega, ?_, ?_, ?_,Ne.symm p4,m6,p6,p5⟩ (by simp only;omega) (Can.sub (by simp [go_sem]) (by simp [go_sem]))
   ·simp only [c4];exact p1.swap
   ·simp only [c4];rw [p3];simp;rfl
   ·simp only;rw [p2,qSL];simp
  ·obtain rfl:i=t.Kids.length:=by have:=odF hc;omega
   rw [List.take_length] at h2 h3;refine UV (without [er,kr] g) ⟨h2.out (P:=wo P er kr) ⟨by rw [jO];exact Nat.le_refl _,fun j _ hn=>wA fun hj=>hn ?_⟩ fun j hj=>⟨.inl (.inl hj), ?_⟩,h8.trans ⟨by rw [jO];exact Nat.le_refl _,fun j hj=>wA ?_⟩⟩ (Can.give [er,kr] ?_ ?_)
   ·simp only [List.mem_cons,List.not_mem_nil,or_false] at hj;exact .inr hj
   ·have:=h2.pl (.inl hj);rw [jO];exact this
   ·have:=hN.pl hj;simp only [List.mem_cons,List.not_mem_nil,or_false];omega
   ·refine GvS.same (by simp [go_sem]) (GvS.cons (v:=.slice 1 er 0 t.Kids.length false) (by simp [go_sem]) (Cv.row (by rw [Ja (by simp)];exact h3) (by rw [lMp,qG.addrs_len]) (zU _) (by decide)) (by simp [AV.tree,zU]) .nil)
   ·refine GvS.cons (v:=.agg [.int .i64 8,.int .i64 t.Value,.nils,.slice 4 kr 0 t.Kids.length false]) (by simp [go_sem]) (qL3 .nils (Cv.row (by rw [Ja (by simp)];exact h4) (by rw [lMp,Uw]) (jA _) (by decide))) qA.tr .nil
 ·rintro g ⟨h1,h2⟩;simp only [go_sem];simp only [Nat.add_zero];obtain ⟨si,hi,js,h1⟩:=h1;refine qp rfl h1.o rfl (z9 hj rfl) ?_;simp only [go_sem];obtain ⟨n1,n2⟩:=h1.struct (post':=post) (M':=M.build t) (js':=js) rfl rfl;exact hK _ ⟨_,_,_,n1⟩ (h2.trans n2)
theorem qaC (hj:pre.length=j) (hN:NSx P w pre post id h M) (hn:M.Control.Term.Kids.length≤1000) (hs:M.Heap.length≤100000) (hv:∀k∈M.Control.Term.Kids,k.Kind=1→0≤k.Value∧k.Value.toNat<M.Control.Env.length)
  (hK:∀h',NSx P w pre post id h' (M.build M.Control.Term)→Keep P h h'→K (.tup []) h'):SCall Gm 1152 [.ptr id 0 j] h K:=by
 have hN0:=hN;obtain ⟨si,hi,js,hN⟩:=hN;refine SCall.run [] [] qVV (by kernel_rfl) rfl ?_;simp only [Wv,qP,go_sem];simp only [hN.o,Nat.add_zero,ne0 hj,ne1 hj,ne2 hj,ne3 hj,ne4 hj,ne5 hj,ne6 hj,neT hj,neC hj,go_sem];generalize ht:M.Control.Term=t at*;refine qf (k:=4) (by rfl) (by simp [go_sem]) (qA.isAgg _) (by decide) ?_;simp only [go_sem];clear hN si hi js;have hN:=hN0;clear hN0;refine UF (fun q:Nat×List qC×Nat×Nat=>q.1≤t.Kids.length∧NSx (wo P q.2.2.1 q.2.2.2) w pre post id q.2.1 (qG.addrs (t.Kids.take q.1) M).2∧q.2.1[q.2.2.1]?=some (.row 1 ((qG.addrs (t.Kids.take q.1) M).1.map qD) true)∧
   q.2.1[q.2.2.2]?=some (.row 4 ((vars q.1).map qA.enc) true)∧q.2.2.1≠q.2.2.2∧h.length≤q.2.2.1∧h.length≤q.2.2.2∧Keep P h q.2.1)
  (fun q=>(⟨[(0,.ptr id 0 j),(3,.slice 4 q.2.2.2 0 q.1 false),(4,.slice 1 q.2.2.1 0 q.1 false),(5,.int .i64 (q.1:Nat))],
   [(2,t.enc)],q.2.1⟩:VSt)) (fun q=>t.Kids.length-q.1) (0,(h++[.row 1 [] true])++[.row 4 [] true],h.length,h.length+1)
  (fun g:List qC=>NSx P w pre post id g (qG.addrs t.Kids M).2∧Keep P h g)
  (fun g=>(⟨[(0,.ptr id 0 j),(3,.lst 4 ((vars t.Kids.length).map qA.enc) false),(4,.lst 1 ((qG.addrs t.Kids M).1.map qD) false)],[(2,t.enc)],g⟩:VSt)) (by kernel_rfl) ?_ ?_ ?_ ?_
 ·refine ⟨Nat.zero_le _, ?_, ?_, ?_,by simp,by simp,by simp, ?_⟩
  ·simp only [List.take_zero,qG.addrs];refine NSx.out hN ⟨by simp,fun j hj _=> ?_⟩ fun j hj=> ?_
   ·rw [gAl (by simp;omega),gAl hj]
   ·rcases hj with hj | rfl | rfl
    ·have:=hN.pl hj;exact ⟨.inl hj,by simp;omega⟩
    ·exact ⟨.inr (by simp),by simp⟩
    ·exact ⟨.inr (by simp),by simp⟩
  ·simp [qG.addrs,List.getElem?_append]
  ·simp [vars,List.getElem?_append]
  ·exact ⟨by simp,fun j hj=>by have:=hN.pl hj;simp only;rw [gAl (by simp;omega),gAl this]⟩
 ·refine (Can.ph (w:=1) (s':=[(0,.ptr id 0 j),(3,.lst 4 [] true),(4,.slice 1 h.length 0 0 false),(5,.int .i64 0)]) (m':=[(2,t.enc)]) ?_ ?_).trans (Can.ph (w:=4) ?_ ?_)
  ·exact WkN.same (by simp [go_sem]) (WkN.same (by simp [go_sem]) (WkN.cons (v:=.lst 1 [] true) (by simp [go_sem]) (.ph2 (by simp)) (WkN.same (by simp [go_sem]) .nil)))
  ·exact WkN.same (by simp [go_sem]) .nil
  ·exact WkN.same (by simp [go_sem]) (WkN.cons (v:=.lst 4 [] true) (by simp [go_sem]) (.ph2 (by simp)) (WkN.same (by simp [go_sem]) (WkN.same (by simp [go_sem]) .nil)))
  ·exact WkN.same (by simp [go_sem]) .nil
 ·rintro ⟨i,g,er,kr⟩ ⟨h1,h2,h3,h4,h5,h6,h7,h8⟩;simp only at h1 h2 h3 h4 h5 h6 h7 h8⊢;simp only [go_sem];refine qM ?_ ?_<;>intro hc<;>simp only [hc,go_sem]
  ·have hlt:i<t.Kids.length:=by have:=odT hc;omega
   clear hc;simp only [gMp,gEg hlt,oMs,go_sem];have c1:=qG.addrs_control (t.Kids.take i) M;have c2:=qG.addrs_heap (t.Kids.take i) M;have c3:=qG.addrs_len (t.Kids.take i) M;rw [List.length_take] at c2 c3;have c4:=qG.addrs_snoc (k:=t.Kids[i]) (t.Kids.take i) M;rw [←ZJ hlt] at c4;refine qe (qRT hj h2 (by omega) t.Kids[i] (fun hk=>by rw [c1];exact hv _ (gMm hlt) hk) fun g2 n2 k2=> ?_);simp only [go_sem];have q3:g2[er]?=_:=(k2.2 er (.inr (.inl rfl))).trans h3;have q4:g2[kr]?=_:=(k2.2 kr (.inr (.inr rfl))).trans h4;have q8:Keep P h g2:=h8.trans (k2.sub fun j hj=>.inl hj);refine ja (xs:=(qG.addrs (t.Kids.take i) M).1.map qD) (js:=[]) List.getElem?_concat_length (by rw [gAl (qc q3),lAn];exact q3) (by rw [lMp];omega) (by omega) ?_;generalize hg:(List.set (g2++[qC.row 1 _ true]) er qC.dead++[qC.row 1 _ true])=g3;obtain ⟨m1,m2,m3,m4,m5,m6⟩:=Uf hg n2 q3 q4 h5 q8 (fun j hj=>hN.pl hj) h6;rw [show (g2++[qC.row 1 [AV.int .i64 ((qG.addrs (t.Kids.take i) M).2.addr t.Kids[i]).1] true]).length=g2.length+1 by simp];simp only [go_sem];refine qK c612 ?_;simp only [go_sem];refine ja (xs:=(vars i).map qA.enc) (js:=[]) List.getElem?_concat_length (by rw [gAl (qc m3),lAn];exact m3) (by rw [lMp,Uw]) (by omega) ?_;generalize hg2:(List.set (g3++[qC.row 4 _ true]) kr qC.dead++[qC.row 4 _ true])=g4;obtain ⟨p1,p2,p3,p4,p5,p6⟩:=Uf hg2 m1.swap m3 m2 (Ne.symm m4) m5 (fun j hj=>hN.pl hj) h7;rw [show (g3++[qC.row 4 [(qA.mk 1 (i:Nat) [] []).enc] true]).length=g3.length+1 by simp];simp only [go_sem];rw [qq (by omega)];refine UE (i+1,g4,g2.length+1,g3.length+1) ⟨by simp only;omega, ?_, ?_, ?_,Ne.symm p4,m6,p6,p5⟩ (by simp only;omega) (Can.sub (by simp [go_sem]) (by simp [go_sem]))
   ·simp only [c4];exact p1.swap
   ·simp only [c4];rw [p3];simp;rfl
   ·simp only;rw [p2,qSL];simp
  ·obtain rfl:i=t.Kids.length:=by have:=odF hc;omega
   rw [List.take_length] at h2 h3;refine UV (without [er,kr] g) ⟨h2.out (P:=wo P er kr) ⟨by rw [jO];exact Nat.le_refl _,fun j _ hn=>wA fun hj=>hn ?_⟩ fun j hj=>⟨.inl (.inl hj), ?_⟩,h8.trans ⟨by rw [jO];exact Nat.le_refl _,fun j hj=>wA ?_⟩⟩ (Can.give [er,kr] ?_ ?_)
   ·simp only [List.mem_cons,List.not_mem_nil,or_false] at hj;exact .inr hj
   ·have:=h2.pl (.inl hj);rw [jO];exact this
   ·have:=hN.pl hj;simp only [List.mem_cons,List.not_mem_nil,or_false];omega
   ·refine GvS.same (by simp [go_sem]) (GvS.cons (v:=.slice 4 kr 0 t.Kids.length false) (by simp [go_sem]) (Cv.row (by rw [Ja (by simp)];exact h4) (by rw [lMp,Uw]) (jA _) (by decide)) (by simp [AV.tree,jA]) (GvS.cons (v:=.slice 1 er 0 t.Kids.length false) (by simp [go_sem]) (Cv.row (by rw [Ja (by simp)];exact h3) (by rw [lMp,qG.addrs_len]) (zU _) (by decide)) (by simp [AV.tree,zU]) .nil))
   ·exact GvS.same (by simp [go_sem]) .nil
 ·rintro g ⟨h1,h2⟩;simp only [go_sem];refine qK c382 ?_;simp only [go_sem];simp only [Nat.add_zero];obtain ⟨si,hi,js,h1⟩:=h1;refine qp rfl h1.o rfl (z9 hj rfl) ?_;simp only [go_sem];obtain ⟨n1,n2⟩:=h1.struct (post':=post) (M':=M.build t) (js':=js) rfl rfl;exact hK _ ⟨_,_,_,n1⟩ (h2.trans n2)
end
end Go.Ab
namespace Go.Ab
open Go
set_option maxRecDepth 10000
set_option maxHeartbeats 2000000
section
variable {P:Nat→Prop} {w:Nat} {pre post:List AV} {id j:Nat} {h:List qC} {M:qG} {K:AV→List qC→Prop} {b:qO}
theorem Qp {w id n:Nat} {c:Bool} (h0:0<n) (h1:n≤1000000):idx w (some (.slice w id 0 n c)) (some (.int .i64 (IntKind.i64.wrap ((n:Int)-1))))=some (.ptr id (n-1) 0):=by
 rw [Uy h0 (by omega),qML (by omega) (by omega),Int.toNat_natCast,nZa]
theorem ZK {js:List AV} (h0:0<M.Stack.length):(M.Stack.map qF.enc++js)[M.Stack.length-1]?=some M.top.enc:=by
 rw [gAl (by simp;omega),gMp,(wi h0).1,gEg (by omega)];rfl
theorem WkH.set2 {ns:List Nat} {a c:List qC} (hw:WkH ns a c) {i:Nat} {o:qC}:WkH ns (a.set i o) (c.set i o):=by
 refine ⟨by simp [hw.1],fun k p p' h1 h2=> ?_⟩;rw [List.getElem?_set] at h1 h2;split at h1
 ·rename_i e;rw [if_pos e] at h2;split at h1
  ·rename_i hl;rw [if_pos (by rw [←hw.1];exact hl)] at h2;cases h1;cases h2;exact .refl _
  ·cases h1
 ·rename_i e;rw [if_neg e] at h2;exact hw.2 k p p' h1 h2
theorem qQ6 {si hi:Nat} {js:List AV} (hN:NS P w pre post id h M si hi js) {x:qC} {F:AV} {f:qF} (hF:Wk [] F f.enc):∃h'',WkH [] ((((h++[x]).set si .dead)++[qC.row 8 (M.Stack.map qF.enc++[F]) true]).set id (.row w [.agg (pre++(Nec (M.push f) (h.length+1) hi++post))] true)) h''∧
  NS P w pre post id h'' (M.push f) (h.length+1) hi []∧Keep P h h'':=by
 obtain ⟨n1,n2⟩:=hN.push (M':=M.push f) (x:=x) rfl;refine ⟨_,WkH.set2 (WkH.app (.refl _) (.row ?_)),n1,n2⟩;simp only [qG.push,List.map_append,List.map_cons,List.map_nil];exact Wks.app (.refl _) (.cons hF .nil)
theorem U2 {g:List qC} {e:Nat} {env:List Int} (he:g[e]?=some (.row 1 (env.map qD) true)):HCv (only [e] g) (.slice 1 e 0 env.length false) (.lst 1 (env.map qD) false):=
 .cv (Cv.row (by rw [Ja (by simp)];exact he) (by rw [lMp]) (zA shI.tree _) (by decide)) (by simp only [AV.tree];exact zA shI.tree _)
theorem qPA {bb:Nat} {g:List qC} {e:Nat} {si hi:Nat} {js:List AV} {t:qA} {env:List Int} (hN:NS P w pre post id h M si hi js) (hg:h.length≤g.length) (hold:∀i,i<h.length→g[i]?=h[i]?) (he:g[e]?=some (.row 1 (env.map qD) true)) (hle:h.length≤e):
  ∃h'',(∀s m,Can bb ⟨s,m,g.set id (.row w [.agg (pre++(([.int .i64 t.Kind,.int .i64 t.Value,.lst 1 (t.Data.map qD) false,.lst 4 (t.Kids.map qA.enc) false,.slice 1 e 0 env.length false]++[.slice 8 si 0 M.Stack.length false,.slice 6 hi 0 M.Heap.length false])++post))] true)⟩ ⟨s,m,h''⟩)∧
   NSx P w pre post id h'' (M.ctl ⟨t,env⟩)∧Keep P h h'':=by
 have hid:=qc hN.o;have hsi:=qc hN.s;have hhi:=qc hN.t;have hee:=qc he;have hne:e≠id:=by omega
 refine ⟨_,fun s m=>Can.giveH (id:=id) (w:=w) (el:=[.agg (pre++(([.int .i64 t.Kind,.int .i64 t.Value,.lst 1 (t.Data.map qD) false,.lst 4 (t.Kids.map qA.enc) false,.slice 1 e 0 env.length false]++[.slice 8 si 0 M.Stack.length false,.slice 6 hi 0 M.Heap.length false])++post))])
  (el':=[.agg (pre++(Nec (M.ctl ⟨t,env⟩) si hi++post))]) [e] (by simpa using Ne.symm hne) (by rw [List.getElem?_set,if_pos rfl,if_pos (by omega)]) (by simp) ?_, ?_, ?_⟩
 ·have hA:[AV.agg (pre++(([.int .i64 t.Kind,.int .i64 t.Value,.lst 1 (t.Data.map qD) false,.lst 4 (t.Kids.map qA.enc) false,.slice 1 e 0 env.length false]++[.slice 8 si 0 M.Stack.length false,.slice 6 hi 0 M.Heap.length false])++post))].length=[AV.agg (pre++(Nec (M.ctl ⟨t,env⟩) si hi++post))].length∧True:=⟨rfl,trivial⟩;refine HCv.list ?_ (HCv.refls []);have q:=HCv.apps (H:=only [e] (g.set id (.row w [.agg (pre++(([.int .i64 t.Kind,.int .i64 t.Value,.lst 1 (t.Data.map qD) false,.lst 4 (t.Kids.map qA.enc) false,.slice 1 e 0 env.length false]++[.slice 8 si 0 M.Stack.length false,.slice 6 hi 0 M.Heap.length false])++post))] true))) pre
   (as:=([.int .i64 t.Kind,.int .i64 t.Value,.lst 1 (t.Data.map qD) false,.lst 4 (t.Kids.map qA.enc) false,.slice 1 e 0 env.length false]++[.slice 8 si 0 M.Stack.length false,.slice 6 hi 0 M.Heap.length false])++post) (bs:=Nec (M.ctl ⟨t,env⟩) si hi++post)
   (HCv.list (.same _) (HCv.list (.same _) (HCv.list (.same _) (HCv.list (.same _) (HCv.list (U2 (by rw [gSn (Ne.symm hne)];exact he)) (HCv.list (.same _) (HCv.list (.same _) (HCv.refls _))))))))
  exact .agg q.1 q.2
 ·have old:∀i,i<h.length→i≠id→((without [e] (g.set id (.row w [.agg (pre++(([.int .i64 t.Kind,.int .i64 t.Value,.lst 1 (t.Data.map qD) false,.lst 4 (t.Kids.map qA.enc) false,.slice 1 e 0 env.length false]++[.slice 8 si 0 M.Stack.length false,.slice 6 hi 0 M.Heap.length false])++post))] true))).set id (.row w [.agg (pre++(Nec (M.ctl ⟨t,env⟩) si hi++post))] true))[i]?=h[i]?:=fun i hi hn=>by
   rw [gSn (Ne.symm hn),wA (by simp;omega),gSn (Ne.symm hn),hold i hi]
  exact ⟨si,hi,js,by rw [List.getElem?_set,if_pos rfl,if_pos (by rw [jO];simp;omega)],by rw [old si hsi (Ne.symm hN.d1)];exact hN.s,by rw [old hi hhi (Ne.symm hN.d2)];exact hN.t,hN.d1,hN.d2,hN.d3,hN.p1,hN.p2,hN.p3,fun j hj=>by have:=hN.pl j hj;rw [List.length_set,jO];simp;omega⟩
 ·refine ⟨by rw [List.length_set,jO];simp;omega,fun j hj=> ?_⟩;have h1:=hN.pl j hj;have h2:j≠id:=by rintro rfl;exact hN.p1 hj
  rw [gSn (Ne.symm h2),wA (by simp;omega),gSn (Ne.symm h2),hold j h1]
theorem qYV {α:Type} {xs js:List α} {y:α} (h:0<xs.length):(xs++js).set (xs.length-1) y=xs.dropLast++(y::js):=by
 obtain ⟨ys,z,rfl⟩:∃ys z,xs=ys++[z]:=⟨_,_,(List.dropLast_concat_getLast (l:=xs) (by intro q;subst q;simp at h)).symm⟩;rw [List.dropLast_concat,lAp,lCo,lNi,nZa,Nat.add_sub_cancel,lAa];simp [List.set_append]
theorem qU5 {bb:Nat} {g:List qC} {e:Nat} {si hi:Nat} {js:List AV} {k v:Int} {d:List Int} (hN:NS P w pre post id h M si hi js) (h0:0<M.Stack.length) (hg:h.length≤g.length) (hold:∀i,i<h.length→g[i]?=h[i]?) (he:g[e]?=some (.row 1 (d.map qD) true)) (hle:h.length≤e):
  ∃h'',(∀s m,Can bb ⟨s,m,g.set si (.row 8 ((M.Stack.map qF.enc++js).set (M.Stack.length-1) (.agg [.int .i64 k,.int .i64 v,.slice 1 e 0 d.length false,.int .i64 0,.int .i64 0,.nils,.nils,.nils])) true)⟩ ⟨s,m,h''⟩)∧
   NS P w pre post id h'' (M.pop.push ⟨k,v,d,noC⟩) si hi js∧Keep P h h'':=by
 have hid:=qc hN.o;have hsi:=qc hN.s;have hhi:=qc hN.t;have hee:=qc he;have hne:e≠si:=by omega
 have es:(M.Stack.map qF.enc++js).set (M.Stack.length-1) (.agg [.int .i64 k,.int .i64 v,.slice 1 e 0 d.length false,.int .i64 0,.int .i64 0,.nils,.nils,.nils])=M.Stack.dropLast.map qF.enc++(.agg [.int .i64 k,.int .i64 v,.slice 1 e 0 d.length false,.int .i64 0,.int .i64 0,.nils,.nils,.nils]::js):=by
  have:=qYV (xs:=M.Stack.map qF.enc) (js:=js) (y:=.agg [.int .i64 k,.int .i64 v,.slice 1 e 0 d.length false,.int .i64 0,.int .i64 0,.nils,.nils,.nils]) (by simpa using h0);rw [lMp,←List.map_dropLast] at this;exact this
 have ed:(M.pop.push ⟨k,v,d,noC⟩).Stack.map qF.enc++js=M.Stack.dropLast.map qF.enc++(qF.enc ⟨k,v,d,noC⟩::js):=by simp [qG.push,qG.pop]
 have hnec:Nec (M.pop.push ⟨k,v,d,noC⟩) si hi=Nec M si hi:=by
  have:(M.pop.push ⟨k,v,d,noC⟩).Stack.length=M.Stack.length:=by simp [qG.push,qG.pop];omega
  unfold Nec;rw [this];rfl
 rw [es];refine ⟨_,fun s m=>Can.giveH (id:=si) (w:=8) (el:=M.Stack.dropLast.map qF.enc++(.agg [.int .i64 k,.int .i64 v,.slice 1 e 0 d.length false,.int .i64 0,.int .i64 0,.nils,.nils,.nils]::js))
  (el':=(M.pop.push ⟨k,v,d,noC⟩).Stack.map qF.enc++js) [e] (by simpa using Ne.symm hne) (by rw [List.getElem?_set,if_pos rfl,if_pos (by omega)]) (by simp;omega) ?_, ?_, ?_⟩
 ·rw [ed];refine HCv.apps _ (HCv.list ?_ (HCv.refls js));have q:=HCv.list (H:=only [e] (g.set si (.row 8 (M.Stack.dropLast.map qF.enc++(.agg [.int .i64 k,.int .i64 v,.slice 1 e 0 d.length false,.int .i64 0,.int .i64 0,.nils,.nils,.nils]::js)) true))) (.same (.int .i64 k)) (HCv.list (.same (.int .i64 v)) (HCv.list (U2 (by rw [gSn (Ne.symm hne)];exact he)) (HCv.list (.same (.int .i64 0)) (HCv.list (.same (.int .i64 0))
   (HCv.list (.cv (.nils (w:=1) (c:=false)) rfl) (HCv.list (.cv (.nils (w:=4) (c:=false)) rfl) (HCv.list (.cv (.nils (w:=1) (c:=false)) rfl) (HCv.refls []))))))))
  exact .agg q.1 q.2
 ·have old:∀i,i<h.length→i≠si→((without [e] (g.set si (.row 8 (M.Stack.dropLast.map qF.enc++(.agg [.int .i64 k,.int .i64 v,.slice 1 e 0 d.length false,.int .i64 0,.int .i64 0,.nils,.nils,.nils]::js)) true))).set si (.row 8 ((M.pop.push ⟨k,v,d,noC⟩).Stack.map qF.enc++js) true))[i]?=h[i]?:=fun i hi hn=>by
   rw [gSn (Ne.symm hn),wA (by simp;omega),gSn (Ne.symm hn),hold i hi]
  exact ⟨by rw [old id hid hN.d1,hnec];exact hN.o,by rw [List.getElem?_set,if_pos rfl,if_pos (by rw [jO];simp;omega)],by rw [old hi hhi (Ne.symm hN.d3)];exact hN.t,hN.d1,hN.d2,hN.d3,hN.p1,hN.p2,hN.p3,fun j hj=>by have:=hN.pl j hj;rw [List.length_set,jO];simp;omega⟩
 ·refine ⟨by rw [List.length_set,jO];simp;omega,fun j hj=> ?_⟩;have h1:=hN.pl j hj;have h2:j≠si:=by rintro rfl;exact hN.p2 hj
  rw [gSn (Ne.symm h2),wA (by simp;omega),gSn (Ne.symm h2),hold j h1]
theorem Vw {k v:Int} {d:List Int}:Wk [] (.agg [.int .i64 k,.int .i64 v,.lst 1 (d.map qD) false,.int .i64 0,.int .i64 0,.nils,.nils,.nils]) (qF.enc ⟨k,v,d,noC⟩):=
 .agg (.same (.same (.same (.same (.same (.cons .nilL (.cons .nilL (.cons .nilL .nil))))))))
theorem J2 (hj:pre.length=j) (hN:NSx P w pre post id h M) (h0:0<M.Stack.length) (h1:M.Stack.length≤1000000)
  (hK:∀h',NSx P w pre post id h' M.pop→Keep P h h'→K (.tup []) h'):SCall Gm 1153 [.ptr id 0 j] h K:=Jx qVW hj hN h0 h1 hK
theorem qNK (hj:pre.length=j) (hN:NSx P w pre post id h M) (hb:BI b) (hM:MI b M) (hv:M.Control.val=true) (hs:0<M.Stack.length) (h1:¬M.top.Kind=1)
  (hK:∀h',NSx P w pre post id h' M.meet.2→Keep P h h'→K (.int .i64 M.meet.1) h'):SCall Gm 1154 [.ptr id 0 j] h K:=by
 have hN0:=hN;obtain ⟨si,hi,js,hN⟩:=hN;have sl:=hM.sl;have ht:=hM.c.t;refine SCall.runW [] [2,77] qVX (by kernel_rfl) rfl ?_;simp only [Ww,qP,go_sem];simp only [Wz,W0,Wy];simp only [bitvec_to_nat,Nat.reduceBEq,go_sem];refine Sem.reg (by kernel_rfl) ?_;simp only [bitvec_to_nat,Nat.reduceBEq,go_sem];simp only [hN.o,Nat.add_zero,ne0 hj,ne1 hj,ne2 hj,ne3 hj,ne4 hj,ne5 hj,ne6 hj,neT hj,neC hj,go_sem];refine qf (k:=5) rfl qI.ln ⟨_,rfl⟩ (by decide) ?_;simp only [bitvec_to_nat,Nat.reduceBEq,go_sem];simp only [hN.o,Nat.add_zero,ne0 hj,ne1 hj,ne2 hj,ne3 hj,ne4 hj,ne5 hj,ne6 hj,neT hj,neC hj,go_sem];simp only [Qp hs (show M.Stack.length≤1000000 by omega),hN.s,ZK hs,go_sem];refine qf (k:=8) rfl qF.ln ⟨_,rfl⟩ (by decide) ?_;simp only [bitvec_to_nat,Nat.reduceBEq,go_sem];have hkk:M.Control.Term.Kind=4∨M.Control.Term.Kind=2∨M.Control.Term.Kind=8:=by
  unfold qI.val at hv;split at hv
  ·rename_i q;rcases q with q | q<;>simp [q]
  ·split at hv
   ·rename_i q;simp [q]
   ·cases hv
 rcases hkk with hk | hk | hk
 ·simp only [QE,W7,QG,QC];simp only [hk,Int.reduceEq,decide_true,decide_false,bitvec_to_nat,Nat.reduceBEq,go_sem];refine qM ?_ ?_<;>intro hc<;>simp only [hc,go_sem]
  ·have q2:M.top.Kind=2:=odT hc;clear hc;have em:M.meet=(4,M.pop.ctl ⟨M.Control.Term.kid 0,M.top.Value::M.Control.Env⟩):=by unfold qG.meet;rw [if_neg h1,if_pos ⟨hk,q2⟩]
   rw [em] at hK;simp only [bitvec_to_nat,Nat.reduceBEq,go_sem];refine qe (J2 hj hN0 hs (by omega) fun h2 hN2 k2=> ?_);simp only [bitvec_to_nat,Nat.reduceBEq,go_sem];clear hN;obtain ⟨si2,hi2,js2,hN⟩:=hN2;obtain ⟨hl,_⟩:=ht.lam hk;have hen:=hM.c.l;simp only [gMp,gEg hl,oMs,go_sem];have o2:(h2++[qC.row 1 [AV.int .i64 M.top.Value] true])[h2.length]?=some (.row 1 [AV.int .i64 M.top.Value] true):=List.getElem?_concat_length;refine qS2 (ys:=M.Control.Env.map qD) (by rfl) Els.lst o2 rfl (by rw [lMp];omega) ?_;generalize hg:(h2++[qC.row 1 [AV.int .i64 M.top.Value] true]).set h2.length qC.dead++[qC.row 1 ([AV.int IntKind.i64 M.top.Value]++List.map qD M.Control.Env) true]=g;have g1:h2.length≤g.length:=by rw [←hg];simp
   have g2:∀i,i<h2.length→g[i]?=h2[i]?:=fun i hi=>by rw [←hg,gAl (by simp;omega),gSn (by omega),gAl hi]
   have g3:g[h2.length+1]?=some (.row 1 ((M.top.Value::M.Control.Env).map qD) true):=by rw [←hg,gAr (by simp)];simp [qD]
   have e1:(h2++[qC.row 1 [AV.int .i64 M.top.Value] true]).length=h2.length+1:=by simp
   have e2:1+(List.map qD M.Control.Env).length=(M.top.Value::M.Control.Env).length:=by simp;omega
   rw [e1,e2];simp only [bitvec_to_nat,Nat.reduceBEq,go_sem];refine qp rfl ((g2 _ (qc hN.o)).trans hN.o) rfl (z9 hj rfl) ?_;simp only [bitvec_to_nat,Nat.reduceBEq,go_sem];obtain ⟨h3,c1,n1,n2⟩:=qPA (bb:=h.length) (t:=M.Control.Term.kid 0) hN g1 g2 g3 (Nat.le_succ _);rw [jC hl] at c1;refine Sem.can (c1 _ _) (Sem.reg (by kernel_rfl) ?_);simp only [bitvec_to_nat,Nat.reduceBEq,go_sem];exact ⟨_,_,.refl _,.refl _,hK _ n1 (k2.trans n2)⟩
  ·have em:M.meet=(0,M):=by
    have q2:¬M.top.Kind=2:=odF hc;unfold qG.meet;rw [if_neg h1,if_neg (by omega),if_neg (by omega),if_neg (by omega),if_neg (by omega),if_neg (by omega)]
   rw [em] at hK;simp only [ZU,ZV,QH,ZW,QI,QB,ZR,ZS,ZT,QD];simp only [hk,Int.reduceEq,decide_true,decide_false,bitvec_to_nat,Nat.reduceBEq,go_sem];refine Sem.reg (by kernel_rfl) ?_;simp only [bitvec_to_nat,Nat.reduceBEq,go_sem];exact ⟨_,_,.refl _,.refl _,hK _ hN0 Keep.refl⟩
 ·simp only [QE,QG,QC];simp only [hk,Int.reduceEq,decide_true,decide_false,bitvec_to_nat,Nat.reduceBEq,go_sem];refine qM ?_ ?_<;>intro hc<;>simp only [hc,go_sem]
  ·have q2:M.top.Kind=3:=odT hc;clear hc;have em:M.meet=(1,(M.pop.push ⟨4,M.top.Value,[M.Control.Term.Value],noC⟩).ctl M.top.Closure):=by unfold qG.meet;rw [if_neg h1,if_neg (by omega),if_pos ⟨hk,q2⟩]
   rw [em] at hK;simp only [ZU,ZV];simp only [bitvec_to_nat,Nat.reduceBEq,go_sem];simp only [hN.o,Nat.add_zero,ne0 hj,ne1 hj,ne2 hj,ne3 hj,ne4 hj,ne5 hj,ne6 hj,neT hj,neC hj,go_sem];simp only [Qp hs (show M.Stack.length≤1000000 by omega),go_sem];refine qp rfl (by rw [gAl (qc hN.s)];exact hN.s) (ZK hs) (wK (k:=8) qF.ln rfl ⟨fun _=>⟨_,rfl⟩,fun _=>⟨_,rfl⟩⟩ (by decide)) ?_;simp only [bitvec_to_nat,Nat.reduceBEq,go_sem];obtain ⟨h3,c1,n1,k2⟩:=qU5 (bb:=h.length) (g:=h++[qC.row 1 [AV.int .i64 M.Control.Term.Value] true]) (e:=h.length) (k:=4) (v:=M.top.Value) (d:=[M.Control.Term.Value]) hN hs (by simp) (fun i hi=>gAl hi) List.getElem?_concat_length (Nat.le_refl _);refine Sem.can (c1 _ _) (Sem.reg (by kernel_rfl) ?_);clear hN;have hN:=n1;simp only [bitvec_to_nat,Nat.reduceBEq,go_sem];refine qp rfl hN.o rfl (z9 hj rfl) ?_;simp only [bitvec_to_nat,Nat.reduceBEq,go_sem];refine Sem.reg (by kernel_rfl) ?_;obtain ⟨n2,k3⟩:=hN.struct (post':=post) (M':=(M.pop.push ⟨4,M.top.Value,[M.Control.Term.Value],noC⟩).ctl M.top.Closure) (js':=js) rfl rfl;simp only [bitvec_to_nat,Nat.reduceBEq,go_sem];exact ⟨_,_,.refl _,.refl _,hK _ ⟨_,_,_,n2⟩ (k2.trans k3)⟩
  have n3:¬M.top.Kind=3:=odF hc;clear hc;simp only [QH];simp only [hk,Int.reduceEq,decide_true,decide_false,bitvec_to_nat,Nat.reduceBEq,go_sem];refine qM ?_ ?_<;>intro hc<;>simp only [hc,go_sem]
  ·have q2:M.top.Kind=4:=odT hc;clear hc;have hd0:0<M.top.Data.length:=by have:=(hM.s _ (wi hs).2).d q2;omega
   have em:M.meet=((5:Int),M.pop.ctl ⟨.mk 2 (opI M.top.Value M.top.Data[0] M.Control.Term.Value) [] [],[]⟩):=by unfold qG.meet;rw [if_neg h1,if_neg (by omega),if_neg (by omega),if_pos ⟨hk,q2⟩,zj hd0]
   rw [em] at hK;simp only [ZW];simp only [bitvec_to_nat,Nat.reduceBEq,go_sem];refine qe (J2 hj hN0 hs (by omega) fun h2 hN2 k2=> ?_);simp only [bitvec_to_nat,Nat.reduceBEq,go_sem];clear hN;obtain ⟨si2,hi2,js2,hN⟩:=hN2;simp only [gMp,gEg hd0,oMs,go_sem];simp only [qD];simp only [bitvec_to_nat,Nat.reduceBEq,go_sem];refine qK c762 ?_;simp only [bitvec_to_nat,Nat.reduceBEq,go_sem];refine qK c381 ?_;simp only [bitvec_to_nat,Nat.reduceBEq,go_sem];refine qp rfl hN.o rfl (z9 hj rfl) ?_;simp only [bitvec_to_nat,Nat.reduceBEq,go_sem];refine Sem.reg (by kernel_rfl) ?_;obtain ⟨n1,n2⟩:=hN.struct (post':=post) (M':=M.pop.ctl ⟨.mk 2 (opI M.top.Value M.top.Data[0] M.Control.Term.Value) [] [],[]⟩) (js':=js2) rfl rfl;simp only [bitvec_to_nat,Nat.reduceBEq,go_sem];exact ⟨_,_,.refl _,WkH.set JN,hK _ ⟨_,_,_,n1⟩ (k2.trans n2)⟩
  have n4:¬M.top.Kind=4:=odF hc;clear hc;simp only [QI,QB];simp only [hk,Int.reduceEq,decide_true,decide_false,bitvec_to_nat,Nat.reduceBEq,go_sem];refine qM ?_ ?_<;>intro hc<;>simp only [hc,go_sem]
  ·have q2:M.top.Kind=6:=odT hc;clear hc;have hd2:=(hM.s _ (wi hs).2).l q2;have hd0:0<M.top.Data.length:=by omega
   have hd1:1<M.top.Data.length:=by omega
   have em:M.meet=((6:Int),M.pop.toRef (if M.Control.Term.Value=0 then M.top.Data[1] else M.top.Data[0])):=by
    unfold qG.meet;rw [if_neg h1,if_neg (by omega),if_neg (by omega),if_neg (by omega),if_pos ⟨hk,q2⟩];split
    ·rw [zj hd1]
    ·rw [zj hd0]
   rw [em] at hK;simp only [bitvec_to_nat,Nat.reduceBEq,go_sem];refine qe (J2 hj hN0 hs (by omega) fun h2 hN2 k2=> ?_);simp only [ZR,ZS,ZT];simp only [bitvec_to_nat,Nat.reduceBEq,go_sem];refine qM ?_ ?_<;>intro hc<;>simp only [hc,go_sem]
   ·have hv0:¬M.Control.Term.Value=0:=by simpa using hc
    rw [if_neg hv0] at hK;simp only [bitvec_to_nat,Nat.reduceBEq,go_sem];simp only [gMp,gEg hd0,oMs,go_sem];simp only [qD];simp only [bitvec_to_nat,Nat.reduceBEq,go_sem];refine qe (qNL hj hN2 M.top.Data[0] fun h3 hN3 k3=> ?_);simp only [bitvec_to_nat,Nat.reduceBEq,go_sem];refine Sem.reg (by kernel_rfl) ?_;simp only [bitvec_to_nat,Nat.reduceBEq,go_sem];exact ⟨_,_,.refl _,.refl _,hK _ hN3 (k2.trans k3)⟩
   ·have hv0:M.Control.Term.Value=0:=by simpa using hc
    rw [if_pos hv0] at hK;simp only [bitvec_to_nat,Nat.reduceBEq,go_sem];simp only [gMp,gEg hd1,oMs,go_sem];simp only [qD];simp only [bitvec_to_nat,Nat.reduceBEq,go_sem];refine qe (qNL hj hN2 M.top.Data[1] fun h3 hN3 k3=> ?_);simp only [bitvec_to_nat,Nat.reduceBEq,go_sem];refine Sem.reg (by kernel_rfl) ?_;simp only [bitvec_to_nat,Nat.reduceBEq,go_sem];exact ⟨_,_,.refl _,.refl _,hK _ hN3 (k2.trans k3)⟩
  ·have n6:¬M.top.Kind=6:=odF hc;have em:M.meet=(0,M):=by
    unfold qG.meet;rw [if_neg h1,if_neg (by omega),if_neg (by omega),if_neg (by omega),if_neg (by omega),if_neg (by omega)]
   rw [em] at hK;simp only [QD];simp only [hk,Int.reduceEq,decide_true,decide_false,bitvec_to_nat,Nat.reduceBEq,go_sem];refine Sem.reg (by kernel_rfl) ?_;simp only [bitvec_to_nat,Nat.reduceBEq,go_sem];exact ⟨_,_,.refl _,.refl _,hK _ hN0 Keep.refl⟩
 ·simp only [QE,QG,QC,QH,QI,QB,QD];simp only [hk,Int.reduceEq,decide_true,decide_false,bitvec_to_nat,Nat.reduceBEq,go_sem];have none (em:M.meet=(0,M)):K (.int .i64 0) h:=by rw [em] at hK;exact hK _ hN0 Keep.refl
  refine qY ?_ ?_<;>intro hc<;>simp only [hc,go_sem]
  ·have q2:M.top.Kind=5:=odT hc;clear hc;refine qM ?_ ?_<;>intro hc<;>simp only [hc,go_sem]
   ·have q3:M.Control.Term.Value<M.top.Data.length:=by simpa using hc
    clear hc;obtain ⟨v0,v1⟩:=ht.val8 hk;have hvl:M.Control.Term.Value.toNat<M.top.Data.length:=by omega
    have em:M.meet=(6,({M.pop with Stack:=M.pop.Stack++(M.Control.Env.drop 0).reverse.map (fr 2)}:qG).toRef M.top.Data[M.Control.Term.Value.toNat]):=by
     unfold qG.meet;rw [if_neg h1,if_neg (by omega),if_neg (by omega),if_neg (by omega),if_neg (by omega),if_pos ⟨hk,q2,q3⟩,zj hvl];rfl
    rw [em] at hK;have hen:=hM.c.l;simp only [bitvec_to_nat,Nat.reduceBEq,go_sem];refine qe (J2 hj hN0 hs (by omega) fun h2 hN2 k2=> ?_);simp only [W4,Wx,W6];simp only [bitvec_to_nat,Nat.reduceBEq,go_sem];clear hN;refine Sem.loop (fun q:Nat×List qC=>q.1≤M.Control.Env.length∧NSx P w pre post id q.2 {M.pop with Stack:=M.pop.Stack++(M.Control.Env.drop q.1).reverse.map (fr 2)}∧Keep P h q.2)
     (fun q=>(⟨[(0,.ptr id 0 j),(5,.int .i64 ((q.1:Int)-1))],[(4,M.top.enc),(3,M.Control.enc)],q.2⟩:VSt)) (fun q=>q.1) (M.Control.Env.length,h2) (by kernel_rfl) ⟨Nat.le_refl _, ?_,k2⟩ (Can.sub (by simp only [qr (n:=(M.Control.Env.length:Int)-1) (by omega) (by omega)];simp [go_sem]) (by simp [go_sem])) ?_
    ·simp only [List.drop_length,List.reverse_nil,List.map_nil,lAn];exact hN2
    rintro ⟨k,g⟩ ⟨hk1,hk2,hk3⟩;simp only at hk1 hk2 hk3⊢;simp only [bitvec_to_nat,Nat.reduceBEq,go_sem];refine qM ?_ ?_<;>intro hc<;>simp only [hc,go_sem]
    ·have hk0:1≤k:=by have:=odT hc;omega
     clear hc;have hlt:k-1<M.Control.Env.length:=by omega
     obtain ⟨M1,hM1⟩:∃M1:qG,M1={M.pop with Stack:=M.pop.Stack++(M.Control.Env.drop k).reverse.map (fr 2)}:=⟨_,rfl⟩;rw [←hM1] at hk2;have hsl:M1.Stack.length≤1000000:=by rw [hM1];simp [qG.pop];omega
     have hnx:M1.push (fr 2 M.Control.Env[k-1])={M.pop with Stack:=M.pop.Stack++(M.Control.Env.drop (k-1)).reverse.map (fr 2)}:=by
      rw [hM1];have:=List.drop_eq_getElem_cons hlt;rw [show k-1+1=k by omega] at this;rw [this];simp [qG.push]
     obtain ⟨si,hi,js,hN⟩:=hk2;simp only [W5];simp only [bitvec_to_nat,Nat.reduceBEq,go_sem];simp only [hN.o,Nat.add_zero,ne0 hj,ne1 hj,ne2 hj,ne3 hj,ne4 hj,ne5 hj,ne6 hj,neT hj,neC hj,go_sem];rw [w7 (by omega),show ((k:Int)-1).toNat=k-1 by omega];simp only [gMp,gEg hlt,oMs,go_sem];simp only [qD];simp only [bitvec_to_nat,Nat.reduceBEq,go_sem];obtain ⟨F,hF⟩:∃F,F=AV.agg [.int .i64 2,.int .i64 M.Control.Env[k-1],.nils,.int .i64 0,.int .i64 0,.nils,.nils,.nils]:=⟨_,rfl⟩;rw [←hF];have o2:(g++[qC.row 8 [F] true])[si]?=some (.row 8 (M1.Stack.map qF.enc++js) true):=by rw [gAl (qc hN.s)];exact hN.s
     refine ja List.getElem?_concat_length o2 (by rw [lMp]) (by omega) ?_;obtain ⟨h3,w1,n1,n2⟩:=qQ6 (f:=fr 2 M.Control.Env[k-1]) hN (x:=qC.row 8 [F] true) (F:=F) (by rw [hF];exact frW);have e1:(g++[qC.row 8 [F] true]).length=g.length+1:=by simp
     have o3:(((g++[qC.row 8 [F] true]).set si .dead)++[qC.row 8 (M1.Stack.map qF.enc++[F]) true])[id]?=some (.row w [.agg (pre++(Nec M1 si hi++post))] true):=by
      have:=qc hN.o;rw [gAl (by simp;omega),gSn (Ne.symm hN.d1),gAl this];exact hN.o
     rw [e1];simp only [bitvec_to_nat,Nat.reduceBEq,go_sem];refine qp rfl o3 rfl (WA hj (M':=M1.push (fr 2 M.Control.Env[k-1])) rfl rfl (by simp [qG.push])) ?_;simp only [bitvec_to_nat,Nat.reduceBEq,go_sem];rw [qr (n:=(k:Int)-1-1) (by omega) (by omega),show (k:Int)-1-1=((k-1:Nat):Int)-1 by omega];rw [hnx] at n1;refine qo (k-1,h3) ⟨by simp only;omega,⟨_,_,_,n1⟩,hk3.trans n2⟩ (by simp only;omega) (Can.wk (WkS.cons (by simp [go_sem]) (.refl _) (WkS.cons (by simp [go_sem]) (.refl _) .nil)) (WkS.cons (by simp [go_sem]) (.refl _) (WkS.cons (by simp [go_sem]) (.refl _) .nil)) w1)
    ·obtain rfl:k=0:=by have:=odF hc;omega
     simp only [bitvec_to_nat,Nat.reduceBEq,go_sem];rw [w7 v0];simp only [gMp,gEg hvl,oMs,go_sem];simp only [qD];simp only [bitvec_to_nat,Nat.reduceBEq,go_sem];refine qe (qNL hj hk2 _ fun h3 hN3 k3=> ?_);simp only [bitvec_to_nat,Nat.reduceBEq,go_sem];refine Sem.reg (by kernel_rfl) ?_;simp only [bitvec_to_nat,Nat.reduceBEq,go_sem];exact ⟨_,_,.refl _,.refl _,hK _ hN3 (hk3.trans k3)⟩
   ·have n5:¬M.Control.Term.Value<M.top.Data.length:=by simpa using hc
    simp only [bitvec_to_nat,Nat.reduceBEq,go_sem];refine Sem.reg (by kernel_rfl) ?_;simp only [bitvec_to_nat,Nat.reduceBEq,go_sem];exact ⟨_,_,.refl _,.refl _,none (by
     unfold qG.meet;rw [if_neg h1,if_neg (by omega),if_neg (by omega),if_neg (by omega),if_neg (by omega),if_neg (fun q=>n5 q.2.2)])⟩
  ·have n5:¬M.top.Kind=5:=by simpa using hc
   simp only [bitvec_to_nat,Nat.reduceBEq,go_sem];refine Sem.reg (by kernel_rfl) ?_;simp only [bitvec_to_nat,Nat.reduceBEq,go_sem];exact ⟨_,_,.refl _,.refl _,none (by
    unfold qG.meet;rw [if_neg h1,if_neg (by omega),if_neg (by omega),if_neg (by omega),if_neg (by omega),if_neg (by omega)])⟩
end
structure WR where
 t:qA
 e:Int
 M:qG
 cs:List Int
 l:Nat
 n:Nat
structure WF where
 ts:List qA
 e:Int
 M:qG
 cs:List Int
 l:Nat
 n:Nat
def WF.pre (q:WF) (ts:List qA):WF:={q with ts:=ts++q.ts}
def qG.at1 (M:qG) (a:Int):qG:=M.ctl ⟨.mk 1 0 [] [],[a]⟩
section
variable {b:qO} {M:qG} {cs:List Int} {l n f:Nat} {W:qG→List Int→Nat→Nat→WR}
theorem qL1 {k:Int}:(cnt cs k).length=cs.length:=by unfold cnt;split<;>simp
theorem MI.at1 (h:MI b M) {a:Int} (h0:0≤a) (h1:a<M.Heap.length):MI b (M.at1 a):=
 ⟨h.toMI0.ctl ⟨.mkVar (by omega) (by simp) (by omega),by simp,fun x hx=>by simp at hx;subst hx;exact ⟨h0,h1⟩⟩,h.sl,h.hl⟩
end
section
variable {P:Nat→Prop} {w:Nat} {pre post:List AV} {id j:Nat} {h:List qC} {M:qG} {K:AV→List qC→Prop} {b:qO}
theorem ZN {k:Int} (hk:M.Control.Term.Kind=k) (h:¬(k=4∨k=2)∧¬k=8):M.Control.val=false:=by
 unfold qI.val;rw [hk,if_neg h.1,if_neg h.2]
theorem Uv {k:Int} (hk:M.Control.Term.Kind=k) (h:k=4∨k=2):M.Control.val=true:=by
 unfold qI.val;rw [hk,if_pos h]
theorem JX (hv:M.Control.val=false):M.move b=M.eval b:=by unfold qG.move;rw [hv];rfl
theorem qNX (hk:M.Control.Term.Kind=8):M.Control.val=M.Control.fields:=by
 unfold qI.val;rw [hk];rfl
theorem s824 (hj:pre.length=j) (hN:NSx P w pre post id h M) (hb:BI b) (hM:MI b M) (hd:M.done=false)
  (hK:∀h',NSx P w pre post id h' (M.move b).2→Keep P h h'→K (.int .i64 (M.move b).1) h'):SCall Gm 824 [.ept b.enc 0,.ptr id 0 j] h K:=by
 have hN0:=hN;obtain ⟨si,hi,js,hN⟩:=hN;have sl:=hM.sl;have hhl:=hM.hl;have ht:=hM.c.t;have hen:=hM.c.l;have hz:M.Control.sz≤1048576:=by have:=ht.sz;unfold qI.sz;omega
 have hkn:=ht.kinds;have hlens:=WE ht.ok;refine SCall.runW [] [] g824 (by kernel_rfl) rfl ?_;simp only [Yk,qP,go_sem];simp only [hN.o,Nat.add_zero,ne0 hj,ne1 hj,ne2 hj,ne3 hj,ne4 hj,ne5 hj,ne6 hj,neT hj,neC hj,go_sem];refine qf (k:=4) rfl qA.ln ⟨_,qA.enc_eq _⟩ (by decide) ?_;simp only [go_sem];have hcase:M.Control.Term.Kind=1∨M.Control.Term.Kind=5∨M.Control.Term.Kind=3∨M.Control.Term.Kind=9∨M.Control.Term.Kind=10∨M.Control.Term.Kind=11∨(M.Control.Term.Kind=8∨M.Control.Term.Kind=2∨M.Control.Term.Kind=4):=by omega
 have hMI0:∀{i:Nat} (hi:i<M.Control.Term.Kids.length),¬M.Control.Term.Kind=4→M.Control.Term.Kids[i].Kind=1→0≤M.Control.Term.Kids[i].Value∧M.Control.Term.Kids[i].Value.toNat<M.Control.Env.length:=fun hi h4 h1=>(ht.kid0 h4 hi).var h1;rcases hcase with hk | hk | hk | hk | hk | hk | hk
 ·obtain ⟨v0,v1⟩:=ht.var hk;obtain ⟨a0,a1⟩:=hM.c.e _ (gMm v1);have em:M.move b=((2:Int),M.enter M.Control.Env[M.Control.Term.Value.toNat]):=by rw [JX (ZN hk (by decide))];unfold qG.eval;simp only [hk,Int.reduceEq,if_false,if_true,zj v1]
  rw [em] at hK;simp only [Ym,Yp,Yq,Yr];simp only [hk,Int.reduceEq,decide_true,decide_false,bitvec_to_nat,Nat.reduceBEq,go_sem];simp only [hN.o,Nat.add_zero,ne0 hj,ne1 hj,ne2 hj,ne3 hj,ne4 hj,ne5 hj,ne6 hj,neT hj,neC hj,go_sem];rw [w7 v0];simp only [gMp,gEg v1,oMs,go_sem];simp only [qD];generalize M.Control.Env[M.Control.Term.Value.toNat]=a at*;have a2:a.toNat<M.Heap.length:=by omega
  have ec:M.cellAt a=M.Heap[a.toNat]:=zj a2;simp only [bitvec_to_nat,Nat.reduceBEq,go_sem];simp only [hN.o,Nat.add_zero,ne0 hj,ne1 hj,ne2 hj,ne3 hj,ne4 hj,ne5 hj,ne6 hj,neT hj,neC hj,go_sem];simp only [ji a0 (show a<(M.Heap.length:Int) by omega),go_sem,hN.t,gMp,gEg a2,oMs];refine qM ?_ ?_<;>intro hc<;>simp only [hc,go_sem]
  ·have hd:M.Heap[a.toNat].Done=false:=by simpa using hc
   have en:M.enter a=(M.push (fr 1 a)).ctl M.Heap[a.toNat].Closure:=by unfold qG.enter;rw [ec,hd];rfl
   rw [en] at hK;simp only [hN.o,Nat.add_zero,ne0 hj,ne1 hj,ne2 hj,ne3 hj,ne4 hj,ne5 hj,ne6 hj,neT hj,neC hj,go_sem];obtain ⟨F,hF⟩:∃F,F=AV.agg [.int .i64 1,.int .i64 a,.nils,.int .i64 0,.int .i64 0,.nils,.nils,.nils]:=⟨_,rfl⟩;rw [←hF];have o2:(h++[qC.row 8 [F] true])[si]?=some (.row 8 (M.Stack.map qF.enc++js) true):=by rw [gAl (qc hN.s)];exact hN.s
   refine ja List.getElem?_concat_length o2 (by rw [lMp]) (by omega) ?_;obtain ⟨h3,w1,n1,k1⟩:=qQ6 (f:=fr 1 a) hN (x:=qC.row 8 [F] true) (F:=F) (by rw [hF];exact frW);have e1:(h++[qC.row 8 [F] true]).length=h.length+1:=by simp
   have o3:(((h++[qC.row 8 [F] true]).set si .dead)++[qC.row 8 (M.Stack.map qF.enc++[F]) true])[id]?=some (.row w [.agg (pre++(Nec M si hi++post))] true):=by
    have:=qc hN.o;rw [gAl (by simp;omega),gSn (Ne.symm hN.d1),gAl this];exact hN.o
   have o4:(((h++[qC.row 8 [F] true]).set si .dead)++[qC.row 8 (M.Stack.map qF.enc++[F]) true])[hi]?=some (.row 6 (M.Heap.map qH.enc) true):=by
    have:=qc hN.t;rw [gAl (by simp;omega),gSn hN.d3,gAl this];exact hN.t
   rw [e1];simp only [bitvec_to_nat,Nat.reduceBEq,go_sem];refine qp rfl o3 rfl (WA hj (M':=M.push (fr 1 a)) rfl rfl (by simp [qG.push])) ?_;generalize ((h++[qC.row 8 [F] true]).set si .dead)++[qC.row 8 (M.Stack.map qF.enc++[F]) true]=g at*;have o5:(g.set id (.row w [.agg (pre++(Nec (M.push (fr 1 a)) (h.length+1) hi++post))] true))[id]?=some (.row w [.agg (pre++(Nec (M.push (fr 1 a)) (h.length+1) hi++post))] true):=by
    rw [List.getElem?_set,if_pos rfl,if_pos (qc o3)]
   have o6:(g.set id (.row w [.agg (pre++(Nec (M.push (fr 1 a)) (h.length+1) hi++post))] true))[hi]?=some (.row 6 (M.Heap.map qH.enc) true):=by
    rw [gSn hN.d2];exact o4
   simp only [bitvec_to_nat,Nat.reduceBEq,go_sem];simp only [List.set_cons_zero];generalize hgg:g.set id (.row w [.agg (pre++(Nec (M.push (fr 1 a)) (h.length+1) hi++post))] true)=g2 at*;simp only [o5,Nat.add_zero,ne6 hj,go_sem];have hl6:(M.push (fr 1 a)).Heap.length=M.Heap.length:=rfl;simp only [hl6,ji a0 (show a<(M.Heap.length:Int) by omega),go_sem,o6,gMp,gEg a2,oMs];refine qp rfl o5 rfl (z9 hj rfl) ?_;simp only [bitvec_to_nat,Nat.reduceBEq,go_sem];obtain ⟨n2,k2⟩:=n1.struct (post':=post) (M':=(M.push (fr 1 a)).ctl M.Heap[a.toNat].Closure) (js':=[]) rfl rfl;exact ⟨_,_,.refl _,WkH.set2 w1,hK _ ⟨_,_,_,n2⟩ (k1.trans k2)⟩
  ·have hd:M.Heap[a.toNat].Done=true:=by simpa using hc
   have en:M.enter a=M.ctl M.Heap[a.toNat].Closure:=by unfold qG.enter;rw [ec,hd];rfl
   rw [en] at hK;simp only [hN.o,Nat.add_zero,ne0 hj,ne1 hj,ne2 hj,ne3 hj,ne4 hj,ne5 hj,ne6 hj,neT hj,neC hj,go_sem];simp only [ji a0 (show a<(M.Heap.length:Int) by omega),go_sem,hN.t,gMp,gEg a2,oMs];simp only [Nat.add_zero];refine qp rfl hN.o rfl (z9 hj rfl) ?_;simp only [bitvec_to_nat,Nat.reduceBEq,go_sem];obtain ⟨n1,n2⟩:=hN.struct (post':=post) (M':=M.ctl M.Heap[a.toNat].Closure) (js':=js) rfl rfl;exact ⟨_,_,.refl _,.refl _,hK _ ⟨_,_,_,n1⟩ n2⟩
 ·have hl:=hlens.1 (.inr (.inl hk));have hl0:0<M.Control.Term.Kids.length:=by omega
  have hl1:1<M.Control.Term.Kids.length:=by omega
  have em:M.move b=((1:Int),(((M.addr M.Control.Term.Kids[1]).2).push (fr 2 (M.addr M.Control.Term.Kids[1]).1)).ctl ⟨M.Control.Term.Kids[0],M.Control.Env⟩):=by
   rw [JX (ZN hk (by decide))];unfold qG.eval;simp only [hk,Int.reduceEq,if_false,if_true,jC hl0,jC hl1]
  rw [em] at hK;simp only [wn,Ys,Yt];simp only [hk,Int.reduceEq,decide_true,decide_false,bitvec_to_nat,Nat.reduceBEq,go_sem];simp only [gMp,gEg hl1,oMs,go_sem];obtain ⟨_,q2,_,q4,_,_,q7⟩:=hM.toMI0.addr (ht.kid0 (by omega) hl1);refine qe (qRT hj hN0 (by omega) M.Control.Term.Kids[1] (hMI0 hl1 (by omega)) fun h2 hN2 k2=> ?_);simp only [bitvec_to_nat,Nat.reduceBEq,go_sem];simp only [gMp,gEg hl0,oMs,go_sem];refine qe (SCall.arg (.same (.cons frW (.same .nil))) (Uk hj hN2 (by rw [q7];omega) (fr 2 (M.addr M.Control.Term.Kids[1]).1) M.Control.Term.Kids[0] fun h3 hN3 k3=> ?_));simp only [bitvec_to_nat,Nat.reduceBEq,go_sem];rw [q2] at hN3;exact ⟨_,_,.refl _,.refl _,hK _ hN3 (k2.trans k3)⟩
 ·have hl:=hlens.1 (.inl hk);have hl0:0<M.Control.Term.Kids.length:=by omega
  have hl1:1<M.Control.Term.Kids.length:=by omega
  have em:M.move b=((1:Int),(M.push ⟨3,M.Control.Term.Value,[],⟨M.Control.Term.Kids[1],M.Control.Env⟩⟩).ctl ⟨M.Control.Term.Kids[0],M.Control.Env⟩):=by
   rw [JX (ZN hk (by decide))];unfold qG.eval;simp only [hk,Int.reduceEq,if_false,if_true,jC hl0,jC hl1]
  rw [em] at hK;simp only [wn,Yu];simp only [hk,Int.reduceEq,decide_true,decide_false,bitvec_to_nat,Nat.reduceBEq,go_sem];simp only [gMp,gEg hl1,oMs,go_sem];simp only [hN.o,Nat.add_zero,ne0 hj,ne1 hj,ne2 hj,ne3 hj,ne4 hj,ne5 hj,ne6 hj,neT hj,neC hj,go_sem];simp only [gMp,gEg hl0,oMs,go_sem];refine qe (SCall.arg (.same (.cons (.agg (.same (.same (.cons .nilL (.refl _))))) (.same .nil))) (Uk hj hN0 (by omega) ⟨3,M.Control.Term.Value,[],⟨M.Control.Term.Kids[1],M.Control.Env⟩⟩ M.Control.Term.Kids[0] fun h3 hN3 k3=> ?_));simp only [bitvec_to_nat,Nat.reduceBEq,go_sem];exact ⟨_,_,.refl _,.refl _,hK _ hN3 k3⟩
 ·have hl:=hlens.2 (.inr (.inr (.inl hk)));have hl0:0<M.Control.Term.Kids.length:=by omega
  have em:M.move b=((1:Int),(M.push ⟨5,0,M.Control.Term.Data,noC⟩).ctl ⟨M.Control.Term.Kids[0],M.Control.Env⟩):=by
   rw [JX (ZN hk (by decide))];unfold qG.eval;simp only [hk,Int.reduceEq,if_false,if_true,jC hl0]
  rw [em] at hK;simp only [wn,Jg,Yv];simp only [hk,Int.reduceEq,decide_true,decide_false,bitvec_to_nat,Nat.reduceBEq,go_sem];simp only [gMp,gEg hl0,oMs,go_sem];refine qe (SCall.arg (.same (.cons Vw (.same .nil))) (Uk hj hN0 (by omega) ⟨5,0,M.Control.Term.Data,noC⟩ M.Control.Term.Kids[0] fun h3 hN3 k3=> ?_));simp only [bitvec_to_nat,Nat.reduceBEq,go_sem];exact ⟨_,_,.refl _,.refl _,hK _ hN3 k3⟩
 ·have hl:=hlens.2 (.inr (.inr (.inr hk)));have hl0:0<M.Control.Term.Kids.length:=by omega
  have em:M.move b=((1:Int),(M.push ⟨6,0,M.Control.Term.Data,noC⟩).ctl ⟨M.Control.Term.Kids[0],M.Control.Env⟩):=by
   rw [JX (ZN hk (by decide))];unfold qG.eval;simp only [hk,Int.reduceEq,if_false,if_true,jC hl0]
  rw [em] at hK;simp only [wn,Jg,QJ,Yw];simp only [hk,Int.reduceEq,decide_true,decide_false,bitvec_to_nat,Nat.reduceBEq,go_sem];simp only [gMp,gEg hl0,oMs,go_sem];refine qe (SCall.arg (.same (.cons Vw (.same .nil))) (Uk hj hN0 (by omega) ⟨6,0,M.Control.Term.Data,noC⟩ M.Control.Term.Kids[0] fun h3 hN3 k3=> ?_));simp only [bitvec_to_nat,Nat.reduceBEq,go_sem];exact ⟨_,_,.refl _,.refl _,hK _ hN3 k3⟩
 ·obtain ⟨v0,v1⟩:=ht.ref hk;have hvl:M.Control.Term.Value.toNat<b.Defs.length:=by omega
  have em:M.move b=((7:Int),M.ctl ⟨b.Defs[M.Control.Term.Value.toNat],[]⟩):=by
   rw [JX (ZN hk (by decide))];unfold qG.eval;simp only [hk,Int.reduceEq,if_false,if_true,zj hvl]
  rw [em] at hK;simp only [wn,Jg,QJ,Yn];simp only [hk,Int.reduceEq,decide_true,decide_false,bitvec_to_nat,Nat.reduceBEq,go_sem];rw [w7 v0];simp only [gMp,gEg hvl,oMs,go_sem];simp only [Nat.add_zero];refine qp rfl hN.o rfl (z9 hj rfl) ?_;simp only [bitvec_to_nat,Nat.reduceBEq,go_sem];obtain ⟨n1,n2⟩:=hN.struct (post':=post) (M':=M.ctl ⟨b.Defs[M.Control.Term.Value.toNat],[]⟩) (js':=js) rfl rfl;exact ⟨_,_,.refl _,WkH.set JN,hK _ ⟨_,_,_,n1⟩ n2⟩
 ·have hvc:M.Control.val=true∨M.Control.Term.Kind=8∧M.Control.fields=false:=by
   rcases hk with hk | hk | hk
   ·rw [qNX hk];cases M.Control.fields<;>simp [hk]
   ·exact .inl (Uv hk (by decide))
   ·exact .inl (Uv hk (by decide))
  have tl:M.Control.val=true→0<M.Stack.length∧M.move b=M.meet:=fun hv=>⟨MI.pos hd hv,by unfold qG.move;rw [if_pos hv]⟩;simp only [wn,Jg,QJ,Yl,Yo];rcases hk with hk | hk | hk
  ·simp only [hk,Int.reduceEq,decide_true,decide_false,bitvec_to_nat,Nat.reduceBEq,go_sem];refine qe (qRS hj hN0 hz ?_);simp only [bitvec_to_nat,Nat.reduceBEq,go_sem];refine qM ?_ ?_<;>intro hc<;>simp only [hc,go_sem]
   ·have hf:M.Control.fields=false:=by simpa using hc
    have em:M.move b=((8:Int),M.build M.Control.Term):=by
     rw [JX (by rw [qNX hk];exact hf)];unfold qG.eval;simp only [hk,Int.reduceEq,if_false,if_true]
    rw [em] at hK;refine qe (qaC hj hN0 (by have:=ht.lens;omega) (by omega) (fun k hk' h1=>by
     obtain ⟨i,hi,rfl⟩:=List.mem_iff_getElem.1 hk';exact hMI0 hi (by omega) h1) fun h2 hN2 k2=> ?_)
    simp only [bitvec_to_nat,Nat.reduceBEq,go_sem];exact ⟨_,_,.refl _,.refl _,hK _ hN2 k2⟩
   ·have hf:M.Control.fields=true:=by simpa using hc
    obtain ⟨hs,em⟩:=tl (by rw [qNX hk];exact hf);have hv:M.Control.val=true:=by rcases hvc with q | q;exact q;simp_all
    rw [em] at hK;simp only [QL,QK,QM];simp only [hN.o,Nat.add_zero,ne0 hj,ne1 hj,ne2 hj,ne3 hj,ne4 hj,ne5 hj,ne6 hj,neT hj,neC hj,go_sem];simp only [Qp hs (show M.Stack.length≤1000000 by omega),hN.s,ZK hs,go_sem];refine qf (k:=8) rfl qF.ln ⟨_,rfl⟩ (by decide) ?_;simp only [bitvec_to_nat,Nat.reduceBEq,go_sem];refine qM ?_ ?_<;>intro hc<;>simp only [hc,go_sem]
    ·have q1:M.top.Kind=1:=odT hc;obtain ⟨a0,a1⟩:=(hM.s _ (wi hs).2).a (.inl q1);have a2:M.top.Value.toNat<M.Heap.length:=by omega
     have e3:M.meet=(3,({M with Heap:=M.Heap.set M.top.Value.toNat ⟨true,M.Control⟩}:qG).pop):=by unfold qG.meet;rw [if_pos q1];rfl
     rw [e3] at hK;simp only [hN.o,Nat.add_zero,ne0 hj,ne1 hj,ne2 hj,ne3 hj,ne4 hj,ne5 hj,ne6 hj,neT hj,neC hj,go_sem];simp only [ji a0 (show M.top.Value<(M.Heap.length:Int) by omega),go_sem];refine qp rfl hN.t (by rw [gMp,gEg a2];rfl) (wK (k:=6) qH.ln rfl ⟨fun _=>⟨_,rfl⟩,fun _=>⟨_,rfl⟩⟩ (by decide)) ?_;simp only [bitvec_to_nat,Nat.reduceBEq,go_sem];obtain ⟨n1,n2⟩:=hN.cell (M':={M with Heap:=M.Heap.set M.top.Value.toNat ⟨true,M.Control⟩}) rfl rfl (by simp);simp only [List.map_set] at n1 n2;refine qe (J2 hj ⟨_,_,_,n1⟩ hs (show M.Stack.length≤1000000 by omega) fun h3 hN3 k3=> ?_);simp only [bitvec_to_nat,Nat.reduceBEq,go_sem];exact ⟨_,_,.refl _,.refl _,hK _ hN3 (n2.trans k3)⟩
    ·have q1:¬M.top.Kind=1:=odF hc;refine qe (qNK hj hN0 hb hM hv hs q1 fun h3 hN3 k3=> ?_);simp only [bitvec_to_nat,Nat.reduceBEq,go_sem];exact ⟨_,_,.refl _,.refl _,hK _ hN3 k3⟩
  ·obtain ⟨hs,em⟩:=tl (Uv hk (by decide));simp only [hk,Int.reduceEq,decide_true,decide_false,bitvec_to_nat,Nat.reduceBEq,go_sem];have hv:M.Control.val=true:=by rcases hvc with q | q;exact q;simp_all
   rw [em] at hK;simp only [QL,QK,QM];simp only [hN.o,Nat.add_zero,ne0 hj,ne1 hj,ne2 hj,ne3 hj,ne4 hj,ne5 hj,ne6 hj,neT hj,neC hj,go_sem];simp only [Qp hs (show M.Stack.length≤1000000 by omega),hN.s,ZK hs,go_sem];refine qf (k:=8) rfl qF.ln ⟨_,rfl⟩ (by decide) ?_;simp only [bitvec_to_nat,Nat.reduceBEq,go_sem];refine qM ?_ ?_<;>intro hc<;>simp only [hc,go_sem]
   ·have q1:M.top.Kind=1:=odT hc;obtain ⟨a0,a1⟩:=(hM.s _ (wi hs).2).a (.inl q1);have a2:M.top.Value.toNat<M.Heap.length:=by omega
    have e3:M.meet=(3,({M with Heap:=M.Heap.set M.top.Value.toNat ⟨true,M.Control⟩}:qG).pop):=by unfold qG.meet;rw [if_pos q1];rfl
    rw [e3] at hK;simp only [hN.o,Nat.add_zero,ne0 hj,ne1 hj,ne2 hj,ne3 hj,ne4 hj,ne5 hj,ne6 hj,neT hj,neC hj,go_sem];simp only [ji a0 (show M.top.Value<(M.Heap.length:Int) by omega),go_sem];refine qp rfl hN.t (by rw [gMp,gEg a2];rfl) (wK (k:=6) qH.ln rfl ⟨fun _=>⟨_,rfl⟩,fun _=>⟨_,rfl⟩⟩ (by decide)) ?_;simp only [bitvec_to_nat,Nat.reduceBEq,go_sem];obtain ⟨n1,n2⟩:=hN.cell (M':={M with Heap:=M.Heap.set M.top.Value.toNat ⟨true,M.Control⟩}) rfl rfl (by simp);simp only [List.map_set] at n1 n2;refine qe (J2 hj ⟨_,_,_,n1⟩ hs (show M.Stack.length≤1000000 by omega) fun h3 hN3 k3=> ?_);simp only [bitvec_to_nat,Nat.reduceBEq,go_sem];exact ⟨_,_,.refl _,.refl _,hK _ hN3 (n2.trans k3)⟩
   ·have q1:¬M.top.Kind=1:=odF hc;refine qe (qNK hj hN0 hb hM hv hs q1 fun h3 hN3 k3=> ?_);simp only [bitvec_to_nat,Nat.reduceBEq,go_sem];exact ⟨_,_,.refl _,.refl _,hK _ hN3 k3⟩
  ·obtain ⟨hs,em⟩:=tl (Uv hk (by decide));simp only [hk,Int.reduceEq,decide_true,decide_false,bitvec_to_nat,Nat.reduceBEq,go_sem];have hv:M.Control.val=true:=by rcases hvc with q | q;exact q;simp_all
   rw [em] at hK;simp only [QL,QK,QM];simp only [hN.o,Nat.add_zero,ne0 hj,ne1 hj,ne2 hj,ne3 hj,ne4 hj,ne5 hj,ne6 hj,neT hj,neC hj,go_sem];simp only [Qp hs (show M.Stack.length≤1000000 by omega),hN.s,ZK hs,go_sem];refine qf (k:=8) rfl qF.ln ⟨_,rfl⟩ (by decide) ?_;simp only [bitvec_to_nat,Nat.reduceBEq,go_sem];refine qM ?_ ?_<;>intro hc<;>simp only [hc,go_sem]
   ·have q1:M.top.Kind=1:=odT hc;obtain ⟨a0,a1⟩:=(hM.s _ (wi hs).2).a (.inl q1);have a2:M.top.Value.toNat<M.Heap.length:=by omega
    have e3:M.meet=(3,({M with Heap:=M.Heap.set M.top.Value.toNat ⟨true,M.Control⟩}:qG).pop):=by unfold qG.meet;rw [if_pos q1];rfl
    rw [e3] at hK;simp only [hN.o,Nat.add_zero,ne0 hj,ne1 hj,ne2 hj,ne3 hj,ne4 hj,ne5 hj,ne6 hj,neT hj,neC hj,go_sem];simp only [ji a0 (show M.top.Value<(M.Heap.length:Int) by omega),go_sem];refine qp rfl hN.t (by rw [gMp,gEg a2];rfl) (wK (k:=6) qH.ln rfl ⟨fun _=>⟨_,rfl⟩,fun _=>⟨_,rfl⟩⟩ (by decide)) ?_;simp only [bitvec_to_nat,Nat.reduceBEq,go_sem];obtain ⟨n1,n2⟩:=hN.cell (M':={M with Heap:=M.Heap.set M.top.Value.toNat ⟨true,M.Control⟩}) rfl rfl (by simp);simp only [List.map_set] at n1 n2;refine qe (J2 hj ⟨_,_,_,n1⟩ hs (show M.Stack.length≤1000000 by omega) fun h3 hN3 k3=> ?_);simp only [bitvec_to_nat,Nat.reduceBEq,go_sem];exact ⟨_,_,.refl _,.refl _,hK _ hN3 (n2.trans k3)⟩
   ·have q1:¬M.top.Kind=1:=odF hc;refine qe (qNK hj hN0 hb hM hv hs q1 fun h3 hN3 k3=> ?_);simp only [bitvec_to_nat,Nat.reduceBEq,go_sem];exact ⟨_,_,.refl _,.refl _,hK _ hN3 k3⟩
end
section
variable {P:Nat→Prop} {w:Nat} {pre post:List AV} {id j:Nat} {h:List qC} {M:qG} {K:AV→List qC→Prop} {b:qO}
theorem s461 (hj:pre.length=j) (hN:NSx P w pre post id h M) (hb:BI b) (hM:MI b M) (hd:M.done=false)
  (hK:∀h',NSx P w pre post id h' (M.step b).2.2→Keep P h h'→K (.tup [.int .i64 (M.step b).1,.int .i64 (M.step b).2.1]) h'):SCall Gm 461 [.ept b.enc 0,.ptr id 0 j] h K:=by
 refine SCall.run [] [] g461 (by kernel_rfl) rfl ?_;simp only [Xs,qP,go_sem];refine qe (s824 hj hN hb hM hd fun h2 hN2 k2=> ?_);simp only [go_sem];have es:M.step b=if (M.move b).1=0 then (0,5,(M.move b).2) else if 2000<(M.move b).2.Heap.length∨400<(M.move b).2.Stack.length∨256<(M.move b).2.Control.Env.length then (0,4,(M.move b).2) else ((M.move b).1,0,(M.move b).2):=rfl;refine qM ?_ ?_<;>intro hc<;>simp only [hc,go_sem]
 ·rw [es,if_pos (odT hc)] at hK;exact hK _ hN2 k2
 have h0:=odF hc;rw [es,if_neg h0] at hK;obtain ⟨si,hi,js,hN⟩:=hN2;generalize M.move b=r at*;obtain ⟨k,M⟩:=r;simp only at hN hK;simp only [hN.o,Nat.add_zero,ne0 hj,ne1 hj,ne2 hj,ne3 hj,ne4 hj,ne5 hj,ne6 hj,neT hj,neC hj,go_sem];refine qY ?_ ?_<;>intro hc<;>simp only [hc,go_sem]
 ·have g1:=odF hc;simp only [hN.o,Nat.add_zero,ne0 hj,ne1 hj,ne2 hj,ne3 hj,ne4 hj,ne5 hj,ne6 hj,neT hj,neC hj,go_sem];refine qY ?_ ?_<;>intro hc<;>simp only [hc,go_sem]
  ·have g2:=odF hc;simp only [hN.o,Nat.add_zero,ne0 hj,ne1 hj,ne2 hj,ne3 hj,ne4 hj,ne5 hj,ne6 hj,neT hj,neC hj,go_sem];refine qM ?_ ?_<;>intro hc<;>simp only [hc,go_sem]
   ·have g3:=odT hc;rw [if_pos (by omega)] at hK;exact hK _ ⟨_,_,_,hN⟩ k2
   ·have g3:=odF hc;rw [if_neg (by omega)] at hK;exact hK _ ⟨_,_,_,hN⟩ k2
  ·have g2:=odT (by simpa using hc);rw [if_pos (by omega)] at hK;exact hK _ ⟨_,_,_,hN⟩ k2
 ·have g1:=odT (by simpa using hc);rw [if_pos (by omega)] at hK;exact hK _ ⟨_,_,_,hN⟩ k2
end
structure FS (P:Nat→Prop) (b:qO) (ci id:Nat) (h:List qC) (M:qG) (cs:List Int) (l n:Nat):Prop where
 m:NSx (fun i=>P i∨i=ci) 11 [.ept b.enc 0] [.slice 1 ci 0 4 false,.int .i64 (l:Nat),.int .i64 (n:Nat)] id h M
 c:h[ci]?=some (.row 1 (cs.map qD) true)
 p:¬P ci
 k:cs.length=4
section
variable {P:Nat→Prop} {b:qO} {ci id:Nat} {h:List qC} {M:qG} {cs:List Int} {l n:Nat} {K:AV→List qC→Prop}
theorem FS.pl (hF:FS P b ci id h M cs l n) {i:Nat} (hi:P i):i<h.length:=hF.m.pl (.inl hi)
theorem FS.go {h':List qC} {M':qG} (hF:FS P b ci id h M cs l n) (hN:NSx (fun i=>P i∨i=ci) 11 [.ept b.enc 0] [.slice 1 ci 0 4 false,.int .i64 (l:Nat),.int .i64 (n:Nat)] id h' M') (hk:Keep (fun i=>P i∨i=ci) h h'):FS P b ci id h' M' cs l n∧Keep P h h':=
 ⟨⟨hN,(hk.2 ci (.inr rfl)).trans hF.c,hF.p,hF.k⟩,hk.sub fun _=>.inl⟩
theorem FS.left (hF:FS P b ci id h M cs l n) (l' n':Nat):∃si hi,h[id]?=some (.row 11 [.agg ([.ept b.enc 0]++(Nec M si hi++[.slice 1 ci 0 4 false,.int .i64 (l:Nat),.int .i64 (n:Nat)]))] true)∧
  FS P b ci id (h.set id (.row 11 [.agg ([.ept b.enc 0]++(Nec M si hi++[.slice 1 ci 0 4 false,.int .i64 (l':Nat),.int .i64 (n':Nat)]))] true)) M cs l' n'∧
  Keep P h (h.set id (.row 11 [.agg ([.ept b.enc 0]++(Nec M si hi++[.slice 1 ci 0 4 false,.int .i64 (l':Nat),.int .i64 (n':Nat)]))] true)):=by
 obtain ⟨si,hi,js,hN⟩:=hF.m;obtain ⟨n1,n2⟩:=hN.struct (post':=[.slice 1 ci 0 4 false,.int .i64 (l':Nat),.int .i64 (n':Nat)]) (M':=M) (js':=js) rfl rfl;refine ⟨si,hi,hN.o,⟨⟨_,_,_,n1⟩, ?_,hF.p,hF.k⟩,n2.sub fun _=>.inl⟩;rw [gSn (fun e=>hN.p1 (.inr e))];exact hF.c
theorem FS.cnts (hF:FS P b ci id h M cs l n) {cs':List Int} (hl:cs'.length=4):FS P b ci id (h.set ci (.row 1 (cs'.map qD) true)) M cs' l n∧Keep P h (h.set ci (.row 1 (cs'.map qD) true)):=by
 have hc:=qc hF.c;obtain ⟨si,hi,js,hN⟩:=hF.m;refine ⟨⟨⟨si,hi,js, ?_, ?_, ?_,hN.d1,hN.d2,hN.d3,hN.p1,hN.p2,hN.p3,by simpa using hN.pl⟩,by rw [List.getElem?_set,if_pos rfl,if_pos hc],hF.p,hl⟩,by simp,fun j hj=> ?_⟩
 ·rw [gSn (fun e=>hN.p1 (.inr e.symm))];exact hN.o
 ·rw [gSn (fun e=>hN.p2 (.inr e.symm))];exact hN.s
 ·rw [gSn (fun e=>hN.p3 (.inr e.symm))];exact hN.t
 ·rw [gSn];rintro rfl;exact hF.p hj
theorem qQQ:0≤(M.step b).1∧(M.step b).1≤8:=by
 have hm:0≤(M.move b).1∧(M.move b).1≤8:=by
  unfold qG.move;split
  ·unfold qG.meet;repeat' split
   all_goals simp
  ·unfold qG.eval;repeat' split
   all_goals simp
 unfold qG.step;split
 ·simp
 split
 ·simp
 ·exact hm
theorem s833 {k:Int} (hco:h[ci]?=some (.row 1 (cs.map qD) true)) (hl:cs.length=4) (hk0: -100≤k∧k≤100) (hK:K (.tup []) (if 4≤k∧k≤7 then h.set ci (.row 1 ((cnt cs k).map qD) true) else h)):SCall Gm 833 [.slice 1 ci 0 4 false,.int .i64 k] h K:=by
 refine SCall.run [] [] g833 (by kernel_rfl) rfl ?_;simp only [VF,qP,go_sem];refine qK jb ?_;simp only [go_sem];refine qM ?_ ?_<;>intro hc<;>simp only [hc,go_sem]
 ·have hk:4≤k∧k≤7:=by simpa [inI] using hc
  rw [if_pos hk] at hK;have hi:(k-4).toNat<cs.length:=by omega
  have e1:cnt cs k=cs.set (k-4).toNat (IntKind.i64.wrap (cs[(k-4).toNat]+1)):=by unfold cnt;rw [if_pos hk,zj hi]
  rw [e1,List.map_set] at hK;rw [qr (n:=k-4) (by omega) (by omega),ji (by omega) (by omega)];simp only [go_sem, *,gMp,gEg hi,oMs,qD];rw [ji (by omega) (by omega)];simp only [go_sem];refine qp rfl hco (by rw [gMp,gEg hi];rfl) (show (qD cs[(k-4).toNat]).put 0 (.int .i64 (IntKind.i64.wrap (cs[(k-4).toNat]+1)))=some (qD (IntKind.i64.wrap (cs[(k-4).toNat]+1))) from rfl) ?_;simp only [go_sem];exact hK
 ·have hk:¬(4≤k∧k≤7):=by simpa [inI] using hc
  rw [if_neg hk] at hK;exact hK
theorem qO4 {k:Int} (hk:¬(4≤k∧k≤7)):cnt cs k=cs:=by unfold cnt;rw [if_neg hk]
end
section
variable {P Q:Nat→Prop} {b:qO} {ci id:Nat} {h:List qC} {M:qG} {cs:List Int} {l n:Nat} {K:AV→List qC→Prop}
theorem FS.out {h':List qC} (hF:FS P b ci id h M cs l n) (ho:Outs P h h') (hq:∀j,Q j→(P j∨h.length≤j)∧j<h'.length):FS Q b ci id h' M cs l n:=by
 have hc:=qc hF.c;have hcs:h'[ci]?=h[ci]?:=ho.2 ci hc hF.p;have hn:¬Q ci:=fun q=>by
  rcases (hq _ q).1 with q | q
  ·exact hF.p q
  ·omega
 refine ⟨hF.m.out (P:=fun i=>P i∨i=ci) ⟨ho.1,fun j hj hnj=>ho.2 j hj fun q=>hnj (.inl q)⟩ fun j hj=> ?_,hcs.trans hF.c,hn,hF.k⟩;rcases hj with hj | rfl
 ·obtain ⟨q1,q2⟩:=hq j hj;exact ⟨q1.elim (fun q=>.inl (.inl q)) .inr,q2⟩
 ·exact ⟨.inl (.inr rfl),by have:=ho.1;omega⟩
structure VQ where
 i:Nat
 g:List qC
 kr:Nat
 ts:List qA
 M:qG
 cs:List Int
 l:Nat
 n:Nat
end
attribute [local simp] jA zU
end Go.Ab
namespace Go.Ab
open Go
set_option maxRecDepth 10000
set_option maxHeartbeats 2000000
theorem c724 (x:qA):∀(hz:x.sz≤1048576),Pure Gm 724 [.ept x.enc 0] (.bool x.er):=by
 induction x using qA.ind with
 | _ x ih=>
 intro hz;refine Pure.intro [] [] g724 (by kernel_rfl) rfl (by simp [AV.trees,AV.tree,go_sem]) rfl ?_;simp only [YT,qP,go_sem];have hL:=x.len_sz;have bad:∀{h:List qC},x.er=false→Fin (some [.bool false]) h (.bool x.er):=fun h=>qJ rfl (by rw [h])
 repeat' (first
  | (first | (refine qY ?_ ?_<;>intro hc<;>simp only [hc,go_sem]) | (refine qM ?_ ?_<;>intro hc<;>simp only [hc,go_sem]))
  | refine bad ?_)
 all_goals try (rw [x.er_eq];simp_all;done)
 all_goals
  have hk1:x.er=x.Kids.all qA.er:=by rw [x.er_eq];simp_all
  refine Sem.loop (fun i:Nat=>i≤x.Kids.length∧x.er=(x.Kids.drop i).all qA.er) (fun i=>(⟨[(0,.ept x.enc 0),(3,.int .i64 (i:Nat))],[],[]⟩:VSt)) (fun i=>x.Kids.length-i) 0 (by kernel_rfl) ⟨Nat.zero_le _,by simp [hk1]⟩ (Can.sub (by simp [go_sem]) (by simp [go_sem])) ?_;rintro i ⟨hi,hI⟩;simp only [go_sem];refine qM ?_ ?_<;>intro hc<;>simp only [hc,go_sem]
  ·have hlt:i<x.Kids.length:=by have:=odT hc;omega
   simp only [gMp,gEg hlt,oMs,go_sem];have hm:=gMm hlt;have hk:=qA.kid_sz hm;refine qK (ih _ hm (by omega)) ?_;simp only [go_sem];rw [jI hlt,List.all_cons] at hI;refine qM ?_ ?_<;>intro hc<;>simp only [hc,go_sem]
   ·exact bad (by rw [hI,nt hc];rfl)
   ·simp only [qq (show i<4611686018427387904 by omega)];refine qo (i+1) ⟨by omega, ?_⟩ (by omega) (Can.sub (by simp [go_sem]) (by simp [go_sem]));rw [hI,nf hc];rfl
  ·obtain rfl:i=x.Kids.length:=by have:=odF hc;omega
   exact qJ rfl (by rw [hI];simp)
def bxB (x:qA):Bool:=decide (x.Kind=6) || decide (x.Kind=7)
theorem qUZ:∀x:qA,x.er= !Ji bxB x:=qA.ind fun x ih=>by
 rw [qA.er_eq,VU,bxB,Bool.not_or,qLL ih,Bool.not_or,Bool.not_or]
theorem c616 {x:qA}:Pure Gm 616 [x.enc] (.bool (bxB x)):=by
 refine Pure.intro [] [] g616 (by kernel_rfl) rfl (by simp [AV.trees,AV.tree,go_sem]) rfl ?_;simp only [YH,qP,go_sem];refine qW qA.ln ?_;simp only [go_sem];refine qY ?_ ?_<;>intro hc<;>simp only [hc,go_sem]
 ·exact qJ rfl (by unfold bxB;simp at hc;simp [hc])
 ·exact qJ rfl (by unfold bxB;simp at hc;simp [hc])
theorem c259 {x:qA} (hz:x.sz≤1048576) (hd:x.dep≤2097152) (hs:x.size≤2097152):Pure Gm 259 [x.enc] (.bool (x.valid&&x.er)):=by
 refine Pure.intro [] [] g259 (by kernel_rfl) rfl (by simp [AV.trees,AV.tree,go_sem]) rfl ?_;simp only [XY,qP,go_sem];refine qW qA.ln ?_;simp only [go_sem];refine qK (c391 hz hd hs) ?_;simp only [go_sem];refine qY ?_ ?_<;>intro hc<;>simp only [hc,go_sem]
 ·refine qK (c615 x 616 [] bxB rfl (fun y hy=>c616) hz) ?_;simp only [go_sem];exact qJ rfl (by simp [qUZ])
 ·exact qJ rfl (by simp)
theorem qTH {x:qA} (hz:x.sz≤1048576) (hd:x.dep≤2097152) (hs:x.size≤2097152):Pure Gm 1045 [x.enc] (.bool (!(x.valid&&x.er))):=by
 refine Pure.intro [] [] qVB (by kernel_rfl) rfl (by simp [AV.trees,AV.tree,go_sem]) rfl ?_;simp only [Wa,qP,go_sem];refine qW qA.ln ?_;simp only [go_sem];refine qK (c259 hz hd hs) ?_;simp only [go_sem];exact qJ rfl rfl
theorem qL5 {x:qA} (h:x.sz≤1048576):x.dep≤2097152∧x.size≤2097152:=by
 have:=x.dep_size;have:=x.size_sz;omega
theorem c671 {b:qO} (hz:b.sz≤1048576):Pure Gm 671 [b.enc] (.bool (b.ok&&b.Defs.all fun c=>c.valid&&c.er)):=by
 refine Pure.intro [] [] g671 (by kernel_rfl) rfl (by simp [AV.trees,AV.tree,go_sem]) rfl ?_;simp only [YM,qP,go_sem];have hz':b.Defs.length+qE qA.sz b.Defs≤1048576:=hz;refine qW rfl ?_;simp only [go_sem];refine qK (c498 hz) ?_;simp only [go_sem];refine qY ?_ ?_<;>intro hc<;>simp only [hc,go_sem]
 ·refine qK (c581 (f:=.fn 1045 []) (fun x=> !(x.valid&&x.er)) rfl b.Defs (fun y hy=>⟨1045,_,rfl,by have:=zP (f:=qA.sz) hy;exact qTH (by omega) (qL5 (by omega)).1 (qL5 (by omega)).2⟩) (by omega)) ?_;simp only [go_sem];exact qJ rfl (by rw [QY];simp)
 ·exact qJ rfl (by simp)
theorem c344 {n:Int}:Pure Gm 344 [.int .i64 n] (.bool (inI n 0 20000)):=by
 refine Pure.intro [] [] g344 (by kernel_rfl) rfl (by simp [AV.trees,AV.tree,go_sem]) rfl ?_;simp only [Xe,qP,go_sem]
 repeat' (first | (refine qW rfl ?_;simp only [go_sem]) | (first | (refine qY ?_ ?_<;>intro hc<;>simp only [hc,go_sem]) | (refine qM ?_ ?_<;>intro hc<;>simp only [hc,go_sem])) | refine qJ rfl ?_ | refine jg (by rfl) ?_)
 all_goals (simp_all [inI]<;>omega)
def qQO:AV:=.agg [.int .i64 0,.int .i64 0,.nils,.nils,.nils,.nils,.nils]
attribute [local simp] jA zU
@[go_sem] theorem d21:decide ((2:Int)=1)=false:=nr rfl
@[go_sem] theorem d31:decide ((3:Int)=1)=false:=nr rfl
@[go_sem] theorem d32:decide ((3:Int)=2)=false:=nr rfl
@[go_sem] theorem d41:decide ((4:Int)=1)=false:=nr rfl
@[go_sem] theorem d42:decide ((4:Int)=2)=false:=nr rfl
@[go_sem] theorem d43:decide ((4:Int)=3)=false:=nr rfl
def Va (p:Bool):AV:=.bool p
theorem JE (I:List Bool):AV.trees (I.map Va)=true:=zA (enc:=Va) (fun _=>rfl) I
attribute [local simp] JE
def WN (b:qO) (lim:Int) (I:List Bool):AV:=.agg [.lst 4 (b.Defs.map qA.enc) false,.int .i64 lim,.lst 1 (I.map Va) false]
@[go_sem] theorem qzC {b:qO} {lim:Int} {I:List Bool}:(WN b lim I).part 0 (some 1)=some b.enc:=nr rfl
@[go_sem] theorem qzD {b:qO} {lim:Int} {I:List Bool}:(WN b lim I).part 0 none=some (.lst 4 (b.Defs.map qA.enc) false):=nr rfl
@[go_sem] theorem qzE {b:qO} {lim:Int} {I:List Bool}:(WN b lim I).part 2 none=some (.lst 1 (I.map Va) false):=nr rfl
@[go_sem] theorem qzF {b:qO} {lim:Int} {I:List Bool}:(WN b lim I).tree=true:=by simp [WN,AV.tree,AV.trees,jA,JE]
def letR (x c:qA) (l:Int):qA×Bool:=if (letC x l).2=0 then (qA.put (letC x l).1 c 0,true) else (JI,false)
def at1 (b:qO) (I:List Bool) (x a c:qA) (l:Int):qA×Int:=
 if redK x=2 then (.mk 2 (opI x.Value a.Value c.Value) [] [],1) else if redK x=3 then (qT0 (redD x) a.Kids,2)
 else if redK x=1 then (qA.put c (kid0 a) 0,3)
 else if x.Kind=5∧a.Kind=11∧I.getD a.Value.toNat false=true∧l+(b.Defs.getD a.Value.toNat JI).boxes≤8 then (appC (b.Defs.getD a.Value.toNat JI) c,5)
 else if x.Kind=7∧(letR x c l).2=true then ((letR x c l).1,4) else (JI,0)
def atC (b:qO) (I:List Bool) (x:qA) (l:Int):qA×Int:=match x.Kids with
 |[]=>(JI,0)
 | a::ys=>at1 b I x a (ys.headD JI) l
end Go.Ab
namespace Go.Ab
open Go
set_option maxRecDepth 10000
set_option maxHeartbeats 2000000
def RW (h:List qC) (id:Nat) (ys:List Int):List qC:=h.set id (.row 1 (ys.map qD) true)
section
variable {E:Ev} {ks:List Fr1} {s m:qb} {h:List qC} {Q:qX→VSt→Prop} {l:List qB}
end
def bx (k:IntKind) (x:Int):qC:=.row 1 [.int k x] true
def lenT:List UInt8:=[0,1,2,2,3,3,3,3,4,4,4,4,4,4,4,4,5,5,5,5,5,5,5,5,5,5,5,5,5,5,5,5,6,6,6,6,6,6,6,6,6,6,6,6,6,6,6,6,6,6,6,6,6,6,6,6,6,6,6,6,6,6,6,6,7,7,7,7,7,7,7,7,7,7,7,7,7,7,7,7,7,7,7,7,7,7,7,7,7,7,7,7,7,7,7,7,7,7,7,7,7,7,7,7,7,7,7,7,7,7,7,7,7,7,7,7,7,7,7,7,7,7,7,7,7,7,7,7,8,8,8,8,8,8,8,8,8,8,8,8,8,8,8,8,8,8,8,8,8,8,8,8,8,8,8,8,8,8,8,8,8,8,8,8,8,8,8,8,8,8,8,8,8,8,8,8,8,8,8,8,8,8,8,8,8,8,8,8,8,8,8,8,8,8,8,8,8,8,8,8,8,8,8,8,8,8,8,8,8,8,8,8,8,8,8,8,8,8,8,8,8,8,8,8,8,8,8,8,8,8,8,8,8,8,8,8,8,8,8,8,8,8,8,8,8,8,8,8,8,8,8,8,8,8,8,8]
def tb (n:Int):Int:=((lenT.getD n.toNat 0).toNat:Int)
def shf2 (op:BinOp):Option AV→Option AV→Option AV
 | some (.int k a),some (.int _ b)=>ZF op k a b
 | _,_=>none
section
variable {E:Ev} {ks:List Fr1} {s m:qb} {h:List qC} {Q:qX→VSt→Prop} {l:List qB} {i:Nat} {d:Option Nat} {g:Option (Nat×Bool)} {ck:List qB} {x y:Ao} {op:BinOp}
@[go_sem] theorem quT:Go1 E (.mk i d g (.shft op x y) ck) l ks ⟨s,m,h⟩ Q=Put E (shf2 op (ev (toE s) x) (ev (toE s) y)) d l ks ⟨s,m,h⟩ Q:=by
 rw [zL rfl fun _=>rfl];congr 1
@[go_sem] theorem qzA {k k':IntKind} {a b:Int}:shf2 op (some (.int k a)) (some (.int k' b))=ZF op k a b:=nr rfl
end
def PR (h:List qC) (id n:Nat) (a b:Int):Prop:=∀(ex:List qC) (ys:List Int) (a' b' lim:Int) (K:AV→List qC→Prop),ys.length=n→0≤a'→a'≤b'→b'≤n→b'-a'<b-a→
 (∀(zs:List Int) (ex':List qC),zs.Perm ys→K (.tup []) (RW (h++(ex++ex')) id zs))→SCall Gm 1053 [.slice 1 id 0 n false,.int .i64 a',.int .i64 b',.int .i64 lim] (RW (h++ex) id ys) K
section
variable {bb id n:Nat} {h ex:List qC} {xs ys:List Int} {s:qb} {a b lim:Int} {wb wp:Bool} {Q:qX→VSt→Prop}
theorem PR.mono {a' b':Int} (hr:PR h id n a b) (hl:b'-a'≤b-a):PR h id n a' b':=fun ex ys a2 b2 lim K h1 h2 h3 h4 h5 h6=>hr ex ys a2 b2 lim K h1 h2 h3 h4 (by omega) h6
end
attribute [local simp] jA zU JE
def qA.nm:qA→List Int:=qA.fold fun x rs=>(if x.Kind=11 then [x.Value] else [])++(x.Data++rs.flatten)
def SetV (P:Int→Prop) (n:Nat) (v:AV):Prop:=∃ys:List Int,v=.lst 1 (ys.map qD) false∧(∀k,k∈ys↔P k)∧ys.length≤n
theorem SetV.tree {P:Int→Prop} {n:Nat}:∀v,SetV P n v→v.tree=true:=by
 rintro v ⟨ys,rfl,_⟩;simp [AV.tree]
structure j0 (U:List (List Int)) (d:Int) (i:Nat) (seen:List Int):Prop where
 nd:seen.Nodup
 rng:∀s∈seen,0≤s∧s<U.length
 rch:∀s∈seen,s=d∨Relation.TransGen (Ed U) d s
 beg:d∈seen
 cls:∀j,j<i→∀s,seen[j]?=some s→∀k,Ed U s k→k∈seen
theorem j0.len {U:List (List Int)} {d:Int} {i:Nat} {seen:List Int} (h:j0 U d i seen):seen.length≤U.length:=UP _ _ h.nd h.rng
theorem j0.start {U:List (List Int)} {d:Int} (hd:0≤d∧d<U.length):j0 U d 0 [d]:=
 ⟨by simp,fun s hs=>by rw [List.mem_singleton] at hs;subst hs;exact hd,fun s hs=>.inl (by simpa using hs),by simp,fun j hj=>by omega⟩
theorem j0.done {U:List (List Int)} {d:Int} {seen:List Int} (h:j0 U d seen.length seen) (k:Int):k∈seen↔k=d∨Relation.TransGen (Ed U) d k:=by
 constructor
 ·exact h.rch k
 ·have cl:∀{a c:Int},a∈seen→Ed U a c→c∈seen:=fun {a c} ha hc=>by
   obtain ⟨j,hj,e⟩:=List.getElem_of_mem ha;exact h.cls j hj _ (by rw [gEg hj,e]) _ hc
  rintro (rfl | hr)
  ·exact h.beg
  ·induction hr with
   | single h1=>exact cl h.beg h1
   | tail _ h2 ih=>exact cl ih h2
theorem j0.next {U:List (List Int)} {d:Int} {i:Nat} {seen':List Int} {e:Int} (h:j0 U d i seen') (hp:seen'[i]?=some e) (he:∀k,Ed U e k→k∈seen'):j0 U d (i+1) seen':=
 ⟨h.nd,h.rng,h.rch,h.beg,fun j hj s hs k hk=>by
  rcases Nat.lt_succ_iff_lt_or_eq.1 hj with hj | rfl
  ·exact h.cls j hj s hs k hk
  ·rw [hp] at hs;cases hs;exact he k hk⟩
theorem j0.push {U:List (List Int)} (hU:qLJ U) {d:Int} {i:Nat} {seen:List Int} {e k:Int} (h:j0 U d i seen) (hi:i≤seen.length) (he:e∈seen) (hk:Ed U e k) (hn:k∉seen):j0 U d i (seen++[k]) where
 nd:=by
  rw [List.nodup_append];refine ⟨h.nd,by simp, ?_⟩;intro a ha b hb;simp at hb;rintro rfl;subst hb;exact hn ha
 rng:=by
  intro s hs;rcases List.mem_append.1 hs with hs | hs
  ·exact h.rng s hs
  ·rw [List.mem_singleton] at hs;subst hs;unfold Ed at hk;rw [List.getD_eq_getElem?_getD] at hk;cases q:U[e.toNat]? with
   | none=>rw [q] at hk;simp at hk
   | some ys=>rw [q] at hk;exact hU ys (List.mem_of_getElem? q) _ hk
 rch:=by
  intro s hs;rcases List.mem_append.1 hs with hs | hs
  ·exact h.rch s hs
  ·rw [List.mem_singleton] at hs;subst hs;rcases h.rch e he with rfl | hr
   ·exact .inr (.single hk)
   ·exact .inr (hr.tail hk)
 beg:=by simp [h.beg]
 cls:=fun j hj s hs k' hk'=>by
  rw [gAl (by omega)] at hs;exact List.mem_append_left _ (h.cls j hj s hs k' hk')
open Classical in
section
variable {E:Ev} {l:List qB} {ks:List Fr1} {s m:qb} {h:List qC} {Q:qX→VSt→Prop} {b:qO} {lim:Int} {i k:Nat} {X:AV} {v:Bool}
end
end Go.Ab
namespace Go.Ab
open Go
set_option maxRecDepth 10000
set_option maxHeartbeats 2000000
attribute [local simp] jA zU JE
end Go.Ab
namespace Go.Ab
open Go
set_option maxRecDepth 10000
set_option maxHeartbeats 2000000
theorem qQ4 {α:Type} {enc:α→AV}:∀{xs:List α},(∀x∈xs,(enc x).pl=true)→AV.pls (xs.map enc)=true
 |[],_=>rfl
 | x::xs,h=>by simp only [List.map_cons,AV.pls,h x (by simp),qQ4 (xs:=xs) (fun y hy=>h y (by simp [hy])),Bool.and_self]
theorem qO3 {α:Type} {enc:α→AV}:∀{xs:List α},(∀x∈xs,(enc x).cn=true)→AV.cns (xs.map enc)=true
 |[],_=>rfl
 | x::xs,h=>by simp only [List.map_cons,AV.cns,h x (by simp),qO3 (xs:=xs) (fun y hy=>h y (by simp [hy])),Bool.and_self]
theorem qRM {α:Type} {enc:α→AV} {f:α→Int→α} {c:α→Nat}:∀{xs:List α} (k:Int),(∀x∈xs,∀k,(enc (f x k)).rows=(enc x).rows)→AV.rowss ((mkL f c xs k).map enc)=AV.rowss (xs.map enc)
 |[],_,_=>rfl
 | x::xs,k,h=>by simp only [mkL,List.map_cons,AV.rowss,h x (by simp),qRM (xs:=xs) _ fun y hy=>h y (by simp [hy])]
theorem qA.plx:∀x:qA,x.enc.pl=true:=qA.ind fun x ih=>by
 rw [qA.enc_eq];simp [AV.pl,AV.pls,zH (enc:=qD) (fun _=>rfl),qQ4 ih]
theorem qA.cnx:∀x:qA,x.enc.cn=true:=qA.ind fun x ih=>by
 rw [qA.enc_eq];simp [AV.cn,AV.cns,jc (enc:=qD) (fun _=>rfl),qO3 ih]
theorem qA.layE (x:qA) (n:Nat):lay x.enc n=(.agg [.int .i64 x.Kind,.int .i64 x.Value,.slice 1 (n) 0 x.Data.length false,.slice 4 (n+AV.rows (.lst 1 (x.Data.map qD) false)) 0 x.Kids.length false],(lay (.lst 1 (x.Data.map qD) false) (n)).2++((lay (.lst 4 (x.Kids.map qA.enc) false) (n+AV.rows (.lst 1 (x.Data.map qD) false))).2++[])):=by
 rw [qA.enc_eq];simp [lay,qS,zO,AV.rows,Nat.add_assoc,Nat.add_comm,Nat.add_left_comm]
theorem qA.rowsE (x:qA):x.enc.rows=AV.rows (.lst 1 (x.Data.map qD) false)+AV.rows (.lst 4 (x.Kids.map qA.enc) false):=by rw [qA.enc_eq];simp [AV.rows,AV.rowss,Nat.add_assoc]
mutual
def qA.ct:qA→Nat
 |.mk _ _ d ks=>1+1+qE ctI d+qA.cts ks
def qA.cts:List qA→Nat
 |[]=>0
 | x::xs=>x.ct+qA.cts xs
end
theorem qA.cts_eq:∀xs,qA.cts xs=qE qA.ct xs
 |[]=>by simp [qA.cts,qE]
 | x::xs=>by simp [qA.cts,qE,qA.cts_eq xs]
theorem qA.ct_eq (x:qA):x.ct=1+1+qE ctI x.Data+qE qA.ct x.Kids:=by cases x;simp [qA.ct,qA.cts_eq,qA.Data,qA.Kids]
mutual
def qA.mrk:qA→Int→qA
 |.mk _ _ d ks,k=>.mk k (k+1) (mkL mkI ctI d (k+1+1)) (qA.mrks ks (k+1+1+((qE ctI d:Nat):Int)))
def qA.mrks:List qA→Int→List qA
 |[],_=>[]
 | x::xs,k=>x.mrk k::qA.mrks xs (k+x.ct)
end
theorem qA.mrks_eq:∀xs k,qA.mrks xs k=mkL qA.mrk qA.ct xs k
 |[],k=>by simp [qA.mrks,mkL]
 | x::xs,k=>by simp [qA.mrks,mkL,qA.mrks_eq xs]
theorem qA.mrk_eq (x:qA) (k:Int):x.mrk k=.mk k (k+1) (mkL mkI ctI x.Data (k+1+1)) (mkL qA.mrk qA.ct x.Kids (k+1+1+((qE ctI x.Data:Nat):Int))):=by
 cases x;simp [qA.mrk,qA.mrks_eq,qA.Data,qA.Kids]
theorem qA.mrkK (x:qA) (k:Int):(x.mrk k).Kind=k:=by rw [qA.mrk_eq];rfl
theorem qA.mrkV (x:qA) (k:Int):(x.mrk k).Value=k+1:=by rw [qA.mrk_eq];rfl
theorem qA.mrkD (x:qA) (k:Int):(x.mrk k).Data=mkL mkI ctI x.Data (k+1+1):=by rw [qA.mrk_eq];rfl
theorem qA.mrkC (x:qA) (k:Int):(x.mrk k).Kids=mkL qA.mrk qA.ct x.Kids (k+1+1+((qE ctI x.Data:Nat):Int)):=by rw [qA.mrk_eq];rfl
theorem qA.rowsM:∀(x:qA) (k:Int),(x.mrk k).enc.rows=x.enc.rows:=qA.ind fun x ih k=>by
 rw [qA.rowsE,qA.rowsE,qA.mrkD,qA.mrkC];simp only [AV.rows,qRM _ ih,qT mkI ctI (enc:=qD) (fun _ _=>rfl)]
def qA.mkV (x:qA) (k:Int):qA:=.mk x.Kind x.Value (mkL mkI ctI x.Data (k)) (mkL qA.mrk qA.ct x.Kids (k+((qE ctI x.Data:Nat):Int)))
def qA.ctV (x:qA):Nat:=qE ctI x.Data+qE qA.ct x.Kids
theorem qA.mkVK (x:qA) (k:Int):(x.mkV k).Kind=x.Kind:=rfl
theorem qA.mkVV (x:qA) (k:Int):(x.mkV k).Value=x.Value:=rfl
theorem qA.mkVD (x:qA) (k:Int):(x.mkV k).Data=mkL mkI ctI x.Data (k):=rfl
theorem qA.mkVC (x:qA) (k:Int):(x.mkV k).Kids=mkL qA.mrk qA.ct x.Kids (k+((qE ctI x.Data:Nat):Int)):=rfl
theorem qA.rowsV (x:qA) (k:Int):(x.mkV k).enc.rows=x.enc.rows:=by
 rw [qA.rowsE,qA.rowsE,qA.mkVD,qA.mkVC];simp only [AV.rows,qT qA.mrk qA.ct (enc:=qA.enc) qA.rowsM,qT mkI ctI (enc:=qD) (fun _ _=>rfl)]
theorem qA.ctle:∀x:qA,x.ct≤16+16*x.sz:=qA.ind fun x ih=>by
 have h:∀xs:List qA,(∀y∈xs,y.ct≤16+16*y.sz)→qE qA.ct xs≤16*(xs.length+qE qA.sz xs):=by
  intro xs
  induction xs with
  | nil=>intro _;exact Nat.le_refl _
  | cons a xs ihx=>intro h;have:=h a (by simp);have:=ihx (fun y hy=>h y (by simp [hy]));simp only [qE,lCo];omega
 have h0:=h _ ih;rw [x.ct_eq,x.sz_eq,wx];omega
theorem qA.ctVle (x:qA):x.ctV≤16*x.sz:=by
 have h0:=x.ctle;rw [x.ct_eq,wx] at h0;have h1:=jT (c:=qA.ct) (z:=qA.sz) qA.ctle x.Kids;rw [x.sz_eq];unfold qA.ctV;rw [wx];omega
theorem n147 (xs:List Int) (hl:xs.length≤1048576):Fresh Gm 147 [.lst 1 (xs.map qD) false] (.lst 1 (xs.map qD) false):=qa5 g147 xs hl
theorem n83 (x:qA):∀(_:x.sz≤1048576),Fresh Gm 83 [x.enc] x.enc:=by
 induction x using qA.ind with
 | _ x ih=>
 intro hz;refine Fresh.intro [] [] g83 (by kernel_rfl) rfl (by simp [AV.trees,AV.tree,qA.tr]) (qA.plx x) ?_;simp only [F83,qP,go_sem];refine qW qA.ln ?_;simp only [go_sem];rw [qA.sz_eq] at hz;refine zp (n147 _ (by omega)) ?_;simp only [go_sem,zS];refine zp (Uq qA.isSh qA.plx rfl rfl (by simp) Vx x.Kids (fun y hm=>ih y hm (by have:=zP (f:=qA.sz) hm;omega)) (by omega)) ?_;simp only [go_sem,zS];refine qf rfl rfl ⟨_,rfl⟩ (by decide) ?_;simp only [go_sem];exact j4 (pre:=[]) (post:=[]) (qA.plx x) (by simp [qz,qA.layE,qV,Nat.add_assoc]) (by simp [qA.layE,qV,Nat.add_assoc])
theorem n342 (xs:List qA) (hl:xs.length+qE qA.sz xs≤1048576):Fresh Gm 342 [.lst 4 (xs.map qA.enc) false] (.lst 4 (xs.map qA.enc) false):=
 Uq qA.isSh qA.plx rfl rfl (by simp) Vx xs (fun x hm=>n83 x (by have:=zP (f:=qA.sz) hm;omega)) (by omega)
theorem qO.plx (x:qO):x.enc.pl=true:=by simp [qO.enc,AV.pl,AV.pls,zH qA.plx]
theorem qO.cnx (x:qO):x.enc.cn=true:=by simp [qO.enc,AV.cn,AV.cns,jc qA.cnx]
theorem qO.layE (x:qO) (n:Nat):lay x.enc n=(.agg [.slice 4 (n) 0 x.Defs.length false],(lay (.lst 4 (x.Defs.map qA.enc) false) (n)).2++[]):=by
 simp [qO.enc,lay,qS,zO,AV.rows,Nat.add_assoc,Nat.add_comm,Nat.add_left_comm]
theorem qO.rowsE (x:qO):x.enc.rows=AV.rows (.lst 4 (x.Defs.map qA.enc) false):=by simp [qO.enc,AV.rows,AV.rowss,Nat.add_assoc]
def qO.mrk (x:qO) (k:Int):qO:={Defs:=mkL qA.mrk qA.ct x.Defs (k)}
def qO.ct (x:qO):Nat:=qE qA.ct x.Defs
def qO.mkV (x:qO) (k:Int):qO:={Defs:=mkL qA.mrk qA.ct x.Defs (k)}
def qO.ctV (x:qO):Nat:=qE qA.ct x.Defs
theorem qO.rowsM (x:qO) (k:Int):(x.mrk k).enc.rows=x.enc.rows:=by simp [qO.rowsE,qO.mrk,AV.rows,qT qA.mrk qA.ct (enc:=qA.enc) qA.rowsM]
theorem qO.rowsV (x:qO) (k:Int):(x.mkV k).enc.rows=x.enc.rows:=by simp [qO.rowsE,qO.mkV,AV.rows,qT qA.mrk qA.ct (enc:=qA.enc) qA.rowsM]
theorem qO.ctle (x:qO):x.ct≤16+16*x.sz:=by
 have h0:=jT (c:=qA.ct) (z:=qA.sz) qA.ctle x.Defs;simp only [qO.ct,qO.sz];omega
theorem qO.ctVle (x:qO):x.ctV≤16*x.sz:=by
 have h0:=jT (c:=qA.ct) (z:=qA.sz) qA.ctle x.Defs;simp only [qO.ctV,qO.sz];omega
theorem n82 (x:qO) (hz:x.sz≤1048576):Fresh Gm 82 [x.enc] x.enc:=by
 refine Fresh.intro [] [] g82 (by kernel_rfl) rfl (by simp [AV.trees,AV.tree,qO.tr]) (qO.plx x) ?_;simp only [F82,qP,go_sem];refine qW rfl ?_;simp only [go_sem];unfold qO.sz at hz;refine zp (n342 _ (by omega)) ?_;simp only [go_sem,zS];exact j4 (pre:=[]) (post:=[]) (qO.plx x) (by simp [qz,qO.layE,qV,Nat.add_assoc]) (by simp [qO.layE,qV,Nat.add_assoc])
theorem k90 (xs:List Int) (k:Int) (h0:0≤k) (hk:k+(qE ctI xs:Nat)≤4611686018427387904) (hz:xs.length≤4194304):Mark Gm 90 (.lst 1 (xs.map qD) false) (.lst 1 ((mkL mkI ctI xs k).map qD) false) k (k+(qE ctI xs:Nat)):=qYI g90 rfl xs k h0 hk hz
theorem qWO (n:Nat):∀(xs:List qA) (k:Int) (_:xs.length+qE qA.sz xs<n) (_:0≤k) (_:k+(qE qA.ct xs:Nat)≤4611686018427387904) (_:xs.length+qE qA.sz xs≤4194304),Mark Gm 347 (.lst 4 (xs.map qA.enc) false) (.lst 4 ((mkL qA.mrk qA.ct xs k).map qA.enc) false) k (k+(qE qA.ct xs:Nat)):=by
 induction n with
 | zero=>intro xs k h;exact absurd h (by omega)
 | succ n ih=>
 intro xs k hn h0 hk hz;refine Mark.intro g347 (by kernel_rfl) rfl (zH qA.plx xs) (zH qA.plx _) (by simp only [AV.rows,qT qA.mrk qA.ct (enc:=qA.enc) qA.rowsM]) ?_;simp only [Xf,qP,zS,go_sem,nZa];refine Sem.loop (fun i:Nat=>i≤xs.length) (fun i=>(⟨[(0,.slice 4 0 0 xs.length false),(1,.int .i64 (k+((qE qA.ct (xs.take i):Nat):Int))),(5,.int .i64 (i:Nat))],[],(lay (.lst 4 ((mkL qA.mrk qA.ct (xs.take i) k++xs.drop i).map qA.enc) false) 0).2⟩:VSt)) (fun i=>xs.length-i) 0 (by kernel_rfl) (Nat.zero_le _) (by simp only [List.take_zero,mkL,List.nil_append,List.drop_zero,qE,Int.ofNat_zero,Int.natCast_zero,Int.add_zero];exact Can.sub (by simp [go_sem]) (by simp [go_sem])) ?_;intro i hi;simp only [go_sem,nZa];refine qM ?_ ?_<;>intro hc<;>simp only [hc,go_sem,nZa]
 ·have hlt:i<xs.length:=by have:=odT hc;omega
  have hct:=ZI qA.ct hlt;have hcl:=ZH qA.ct xs (i+1);have hrow:=qA.rowsM;rw [List.drop_eq_getElem_cons hlt,Qu];have hsz:qA.sz xs[i]≤qE qA.sz xs:=zP (f:=qA.sz) (gMm hlt);obtain ⟨K,hK⟩:∃K:Int,K=k+((qE qA.ct (xs.take i):Nat):Int):=⟨_,rfl⟩;have hend:k+((qE qA.ct (xs.take (i+1)):Nat):Int)=K+((qA.ct xs[i]:Nat):Int):=by rw [hct,hK];omega
  have hKb:0≤K∧K+((qA.ct xs[i]:Nat):Int)≤4611686018427387904:=by rw [←hend];omega
  have hmk:(mkL qA.mrk qA.ct (xs.take (i+1)) k++xs.drop (i+1))=mkL qA.mrk qA.ct (xs.take i) k++qA.mrk xs[i] K::xs.drop (i+1):=by rw [UL qA.mrk qA.ct hlt,←hK,lAa];rfl
  have hrx:=hrow xs[i] K;rw [←hK];obtain ⟨y,hy⟩:∃y,y=xs[i]:=⟨_,rfl⟩;rw [←hy] at hmk hend hKb hrx hsz⊢;have hcy:qA.ct y=1+1+qE ctI y.Data+qE qA.ct y.Kids:=qA.ct_eq y;rw [hcy] at hend hKb;rw [qA.sz_eq] at hsz;have hA:(qS ((mkL qA.mrk qA.ct (xs.take i) k).map qA.enc) 1).1.length=i:=by rw [jQ,lMp,jL];simp;omega
  have hoA:=zO ((mkL qA.mrk qA.ct (xs.take i) k).map qA.enc) 1;have e2:=Qu (enc:=qA.enc) (w:=4) (c:=false) (A:=mkL qA.mrk qA.ct (xs.take i) k) (B:=xs.drop (i+1)) (z:=qA.mrk y K);rw [hrx] at e2;rw [qA.layE] at e2⊢;obtain ⟨p,hp⟩:∃p,p=1+AV.rowss ((mkL qA.mrk qA.ct (xs.take i) k).map qA.enc):=⟨_,rfl⟩;rw [←hp] at e2⊢;generalize (qS ((xs.drop (i+1)).map qA.enc) (p+y.enc.rows)).1=vB at e2⊢;generalize (qS ((xs.drop (i+1)).map qA.enc) (p+y.enc.rows)).2=oB at e2⊢;generalize (qS ((mkL qA.mrk qA.ct (xs.take i) k).map qA.enc) 1).1=vA at e2 hA⊢;generalize (qS ((mkL qA.mrk qA.ct (xs.take i) k).map qA.enc) 1).2=oA at e2 hoA⊢;simp only [qy hA,zM hA,zF hlt,List.set_cons_zero,go_sem,nZa];refine qp (e':=.agg [.int .i64 (K),.int .i64 y.Value,.slice 1 (p) 0 y.Data.length false,.slice 4 (p+AV.rows (.lst 1 (y.Data.map qD) false)) 0 y.Kids.length false]) (by rfl) (by rfl) (qy hA) (by rfl) ?_;simp only [qy hA,zM hA,zF hlt,List.set_cons_zero,go_sem,nZa];rw [qr (n:=K+1) (by omega) (by omega)]
  try simp only [qy hA,zM hA,zF hlt,List.set_cons_zero,go_sem,nZa]
  refine qp (e':=.agg [.int .i64 (K),.int .i64 (K+1),.slice 1 (p) 0 y.Data.length false,.slice 4 (p+AV.rows (.lst 1 (y.Data.map qD) false)) 0 y.Kids.length false]) (by rfl) (by rfl) (qy hA) (by rfl) ?_;simp only [qy hA,zM hA,zF hlt,List.set_cons_zero,go_sem,nZa];rw [qr (n:=K+1+1) (by omega) (by omega)]
  try simp only [qy hA,zM hA,zF hlt,List.set_cons_zero,go_sem,nZa]
  refine zu (n:=p) (pre:=.row 4 (vA++.agg [.int .i64 (K),.int .i64 (K+1),.slice 1 (p) 0 y.Data.length false,.slice 4 (p+AV.rows (.lst 1 (y.Data.map qD) false)) 0 y.Kids.length false]::vB) true::(oA++[])) (post:=((lay (.lst 4 (y.Kids.map qA.enc) false) (p+AV.rows (.lst 1 (y.Data.map qD) false))).2++[])++oB) (t:=(.lst 1 (y.Data.map qD) false)) (t':=(.lst 1 ((mkL mkI ctI y.Data (K+1+1)).map qD) false)) (k90 y.Data (K+1+1) (by omega) (by omega) (by omega)) ?_ ?_ (by rw [zS,lMp]) ?_
  ·first | rfl | (simp only [lCo,lAp,lNi,hoA,qV,AV.rows,qT mkI ctI (enc:=qD) (fun _ _=>rfl)];done) | (simp only [lCo,lAp,lNi,hoA,qV,AV.rows,qT mkI ctI (enc:=qD) (fun _ _=>rfl)];omega)
  ·first | rfl | (simp only [lAa,List.nil_append,lAn,List.cons_append];done)
  simp only [qy hA,zM hA,zF hlt,List.set_cons_zero,List.cons_append,go_sem,nZa];refine zu (n:=p+AV.rows (.lst 1 (y.Data.map qD) false)) (pre:=.row 4 (vA++.agg [.int .i64 (K),.int .i64 (K+1),.slice 1 (p) 0 y.Data.length false,.slice 4 (p+AV.rows (.lst 1 (y.Data.map qD) false)) 0 y.Kids.length false]::vB) true::(oA++((lay (.lst 1 ((mkL mkI ctI y.Data (K+1+1)).map qD) false) (p)).2))) (post:=([])++oB) (t:=(.lst 4 (y.Kids.map qA.enc) false)) (t':=(.lst 4 ((mkL qA.mrk qA.ct y.Kids (K+1+1+((qE ctI y.Data:Nat):Int))).map qA.enc) false)) (ih y.Kids (K+1+1+((qE ctI y.Data:Nat):Int)) (by omega) (by omega) (by omega) (by omega)) ?_ ?_ (by rw [zS,lMp]) ?_
  ·first | rfl | (simp only [lCo,lAp,lNi,hoA,qV,AV.rows,qT mkI ctI (enc:=qD) (fun _ _=>rfl)];done) | (simp only [lCo,lAp,lNi,hoA,qV,AV.rows,qT mkI ctI (enc:=qD) (fun _ _=>rfl)];omega)
  ·first | rfl | (simp only [lAa,List.nil_append,lAn,List.cons_append];done)
  simp only [qy hA,zM hA,zF hlt,List.set_cons_zero,List.cons_append,go_sem,nZa];simp only [qq (show i<4611686018427387904 by omega)];refine qo (i+1) (by omega) (by omega) ?_;have e3:K+1+1+((qE ctI y.Data:Nat):Int)+((qE qA.ct y.Kids:Nat):Int)=k+((qE qA.ct (xs.take (i+1)):Nat):Int):=by first | (rw [hend];done) | (rw [hend];omega)
  rw [e3];rw [hmk,e2];simp only [qA.mrkK,qA.mrkV,qA.mrkD,qA.mrkC,jL,AV.rows,lAa,List.nil_append,lAn,List.cons_append,qT qA.mrk qA.ct (enc:=qA.enc) qA.rowsM,qT mkI ctI (enc:=qD) (fun _ _=>rfl)];exact Can.sub (by simp [go_sem]) (by simp [go_sem])
 ·have hge:i=xs.length:=by have:=odF hc;omega
  subst hge;refine JP (by rw [List.take_length]) ?_;rw [List.take_length,List.drop_length,lAn]
theorem V0 (xs:List qA) (k:Int) (h0:0≤k) (hk:k+(qE qA.ct xs:Nat)≤4611686018427387904) (hz:xs.length+qE qA.sz xs≤4194304):Mark Gm 347 (.lst 4 (xs.map qA.enc) false) (.lst 4 ((mkL qA.mrk qA.ct xs k).map qA.enc) false) k (k+(qE qA.ct xs:Nat)):=qWO _ xs k (Nat.lt_succ_self _) h0 hk hz
theorem k89 (x:qA) (k:Int) (h0:0≤k) (hk:k+(x.ctV:Nat)≤4611686018427387904) (hz:x.sz≤4194304):Mark Gm 89 x.enc (x.mkV k).enc k (k+(x.ctV:Nat)):=by
 refine Mark.intro g89 (by kernel_rfl) rfl (qA.plx x) (qA.plx _) (qA.rowsV x k) ?_;rw [qA.layE,qA.layE];simp only [F89,qP,go_sem,nZa];refine qW rfl ?_;simp only [go_sem,nZa];unfold qA.ctV at hk;rw [qA.sz_eq] at hz;refine zu (n:=0) (pre:=[]) (post:=(lay (.lst 4 (x.Kids.map qA.enc) false) (AV.rows (.lst 1 (x.Data.map qD) false))).2++[]) (t:=(.lst 1 (x.Data.map qD) false)) (t':=(.lst 1 ((mkL mkI ctI x.Data (k)).map qD) false)) (k90 x.Data (k) (by omega) (by omega) (by omega)) ?_ ?_ (by rw [zS,lMp]) ?_
 ·first | rfl | (simp only [lAp,lNi,qV,AV.rows,qT qA.mrk qA.ct (enc:=qA.enc) qA.rowsM,qT mkI ctI (enc:=qD) (fun _ _=>rfl)];done) | (simp only [lAp,lNi,qV,AV.rows,qT qA.mrk qA.ct (enc:=qA.enc) qA.rowsM,qT mkI ctI (enc:=qD) (fun _ _=>rfl)];omega)
 ·first | rfl | (simp only [lAa,List.nil_append,lAn];done)
 simp only [lAa,List.nil_append,lAn,go_sem,nZa];refine zu (n:=AV.rows (.lst 1 (x.Data.map qD) false)) (pre:=(lay (.lst 1 ((mkL mkI ctI x.Data (k)).map qD) false) (0)).2) (post:=[]) (t:=(.lst 4 (x.Kids.map qA.enc) false)) (t':=(.lst 4 ((mkL qA.mrk qA.ct x.Kids (k+((qE ctI x.Data:Nat):Int))).map qA.enc) false)) (V0 x.Kids (k+((qE ctI x.Data:Nat):Int)) (by omega) (by omega) (by omega)) ?_ ?_ (by rw [zS,lMp]) ?_
 ·first | rfl | (simp only [lAp,lNi,qV,AV.rows,qT qA.mrk qA.ct (enc:=qA.enc) qA.rowsM,qT mkI ctI (enc:=qD) (fun _ _=>rfl)];done) | (simp only [lAp,lNi,qV,AV.rows,qT qA.mrk qA.ct (enc:=qA.enc) qA.rowsM,qT mkI ctI (enc:=qD) (fun _ _=>rfl)];omega)
 ·first | rfl | (simp only [lAa,List.nil_append,lAn];done)
 simp only [lAa,List.nil_append,lAn,go_sem,nZa];refine JP (by first | rfl | (simp only [qA.ctV];done) | (simp only [qA.ctV];omega)) ?_;simp only [qA.mkVK,qA.mkVV,qA.mkVD,qA.mkVC,jL,AV.rows,nZa,lAa,List.nil_append,lAn,qT qA.mrk qA.ct (enc:=qA.enc) qA.rowsM,qT mkI ctI (enc:=qD) (fun _ _=>rfl)]
theorem k88 (x:qO) (k:Int) (h0:0≤k) (hk:k+(x.ctV:Nat)≤4611686018427387904) (hz:x.sz≤4194304):Mark Gm 88 x.enc (x.mkV k).enc k (k+(x.ctV:Nat)):=by
 refine Mark.intro g88 (by kernel_rfl) rfl (qO.plx x) (qO.plx _) (qO.rowsV x k) ?_;rw [qO.layE,qO.layE];simp only [F88,qP,go_sem,nZa];refine qW rfl ?_;simp only [go_sem,nZa];unfold qO.ctV at hk;simp only [qO.sz] at hz;refine zu (n:=0) (pre:=[]) (post:=[]) (t:=(.lst 4 (x.Defs.map qA.enc) false)) (t':=(.lst 4 ((mkL qA.mrk qA.ct x.Defs (k)).map qA.enc) false)) (V0 x.Defs (k) (by omega) (by omega) (by omega)) ?_ ?_ (by rw [zS,lMp]) ?_
 ·first | rfl | (simp only [lAp,lNi,qV,AV.rows,qT qA.mrk qA.ct (enc:=qA.enc) qA.rowsM];done) | (simp only [lAp,lNi,qV,AV.rows,qT qA.mrk qA.ct (enc:=qA.enc) qA.rowsM];omega)
 ·first | rfl | (simp only [lAa,List.nil_append,lAn];done)
 simp only [lAa,List.nil_append,lAn,go_sem,nZa];refine JP (by first | rfl | (simp only [qO.ctV];done) | (simp only [qO.ctV];omega)) ?_;simp only [qO.mkV,AV.rows,nZa,lAa,List.nil_append,lAn,qT qA.mrk qA.ct (enc:=qA.enc) qA.rowsM]
theorem q92 (xs:List Int) (k:Int) (h0:0≤k) (hk:k+(qE ctI xs:Nat)≤4611686018427387904) (hz:xs.length≤4194304):Pure Gm 92 [.lst 1 ((mkL mkI ctI xs k).map qD) false,.int .i64 k] (.int .i64 (k+(qE ctI xs:Nat))):=qWI g92 rfl xs k h0 hk hz
theorem qZE (n:Nat):∀(xs:List qA) (k:Int) (_:xs.length+qE qA.sz xs<n) (_:0≤k) (_:k+(qE qA.ct xs:Nat)≤4611686018427387904) (_:xs.length+qE qA.sz xs≤4194304),Pure Gm 348 [(.lst 4 ((mkL qA.mrk qA.ct xs k).map qA.enc) false),.int .i64 k] (.int .i64 (k+(qE qA.ct xs:Nat))):=by
 induction n with
 | zero=>intro xs k h;exact absurd h (by omega)
 | succ n ih=>
 intro xs k hn h0 hk hz;refine Pure.intro [] [] g348 (by kernel_rfl) rfl (by simp [AV.trees,AV.tree,zA qA.isSh.tree]) rfl ?_;simp only [Xg,qP,go_sem,nZa];refine Sem.loop (fun i:Nat=>i≤xs.length) (fun i=>(⟨[(0,(.lst 4 ((mkL qA.mrk qA.ct xs k).map qA.enc) false)),(1,.int .i64 (k+((qE qA.ct (xs.take i):Nat):Int))),(5,.int .i64 (i:Nat))],[],[]⟩:VSt)) (fun i=>xs.length-i) 0 (by kernel_rfl) (Nat.zero_le _) (by simp only [List.take_zero,qE,Int.ofNat_zero,Int.natCast_zero,Int.add_zero];exact Can.sub (by simp [go_sem]) (by simp [go_sem])) ?_;intro i hi;simp only [jL,go_sem,nZa];refine qM ?_ ?_<;>intro hc<;>simp only [hc,go_sem,nZa]
 ·have hlt:i<xs.length:=by have:=odT hc;omega
  have hct:=ZI qA.ct hlt;have hcl:=ZH qA.ct xs (i+1);have hget:=UK qA.mrk qA.ct hlt k;have hsz:qA.sz xs[i]≤qE qA.sz xs:=zP (f:=qA.sz) (gMm hlt);obtain ⟨K,hK⟩:∃K:Int,K=k+((qE qA.ct (xs.take i):Nat):Int):=⟨_,rfl⟩;have hend:k+((qE qA.ct (xs.take (i+1)):Nat):Int)=K+((qA.ct xs[i]:Nat):Int):=by rw [hct,hK];omega
  have hKb:0≤K∧K+((qA.ct xs[i]:Nat):Int)≤4611686018427387904:=by rw [←hend];omega
  rw [←hK] at hget⊢;obtain ⟨y,hy⟩:∃y,y=xs[i]:=⟨_,rfl⟩;rw [←hy] at hget hend hKb hsz;have hcy:qA.ct y=1+1+qE ctI y.Data+qE qA.ct y.Kids:=qA.ct_eq y;rw [hcy] at hend hKb;rw [qA.sz_eq] at hsz;simp only [gMp,hget,oMs,go_sem,nZa]
  try simp only [gMp,hget,oMs,qA.mrkK,qA.mrkV,qA.mrkD,qA.mrkC,go_sem,nZa]
  rw [qr (n:=K+1) (by omega) (by omega)]
  try simp only [gMp,hget,oMs,qA.mrkK,qA.mrkV,qA.mrkD,qA.mrkC,go_sem,nZa]
  try simp only [gMp,hget,oMs,qA.mrkK,qA.mrkV,qA.mrkD,qA.mrkC,go_sem,nZa]
  rw [qr (n:=K+1+1) (by omega) (by omega)]
  try simp only [gMp,hget,oMs,qA.mrkK,qA.mrkV,qA.mrkD,qA.mrkC,go_sem,nZa]
  try simp only [gMp,hget,oMs,qA.mrkK,qA.mrkV,qA.mrkD,qA.mrkC,go_sem,nZa]
  refine qK (q92 y.Data (K+1+1) (by omega) (by omega) (by omega)) ?_;simp only [gMp,hget,oMs,qA.mrkK,qA.mrkV,qA.mrkD,qA.mrkC,go_sem,nZa];rw [show decide (K+1+1+((qE ctI y.Data:Nat):Int)<0)=false from decide_eq_false (by omega)];simp only [gMp,hget,oMs,qA.mrkK,qA.mrkV,qA.mrkD,qA.mrkC,go_sem,nZa]
  try simp only [gMp,hget,oMs,qA.mrkK,qA.mrkV,qA.mrkD,qA.mrkC,go_sem,nZa]
  refine qK (ih y.Kids (K+1+1+((qE ctI y.Data:Nat):Int)) (by omega) (by omega) (by omega) (by omega)) ?_;simp only [gMp,hget,oMs,qA.mrkK,qA.mrkV,qA.mrkD,qA.mrkC,go_sem,nZa];rw [show decide (K+1+1+((qE ctI y.Data:Nat):Int)+((qE qA.ct y.Kids:Nat):Int)<0)=false from decide_eq_false (by omega)];simp only [gMp,hget,oMs,qA.mrkK,qA.mrkV,qA.mrkD,qA.mrkC,go_sem,nZa];simp only [qq (show i<4611686018427387904 by omega)];refine qo (i+1) (by omega) (by omega) ?_;have e3:K+1+1+((qE ctI y.Data:Nat):Int)+((qE qA.ct y.Kids:Nat):Int)=k+((qE qA.ct (xs.take (i+1)):Nat):Int):=by first | (rw [hend];done) | (rw [hend];omega)
  rw [e3];exact Can.sub (by simp [go_sem]) (by simp [go_sem])
 ·have hge:i=xs.length:=by have:=odF hc;omega
  subst hge;refine qJ rfl ?_;rw [List.take_length]
theorem q348 (xs:List qA) (k:Int) (h0:0≤k) (hk:k+(qE qA.ct xs:Nat)≤4611686018427387904) (hz:xs.length+qE qA.sz xs≤4194304):Pure Gm 348 [(.lst 4 ((mkL qA.mrk qA.ct xs k).map qA.enc) false),.int .i64 k] (.int .i64 (k+(qE qA.ct xs:Nat))):=qZE _ xs k (Nat.lt_succ_self _) h0 hk hz
theorem q91 (x:qA) (k:Int) (h0:0≤k) (hk:k+(x.ctV:Nat)≤4611686018427387904) (hz:x.sz≤4194304):Pure Gm 91 [(x.mkV k).enc,.int .i64 k] (.int .i64 (k+(x.ctV:Nat))):=by
 refine Pure.intro [] [] g91 (by kernel_rfl) rfl (by simp [AV.trees,AV.tree,qA.tr]) rfl ?_;simp only [F91,qP,go_sem,nZa];refine qW qA.ln ?_;simp only [go_sem,nZa];unfold qA.ctV at hk;rw [qA.sz_eq] at hz;refine qK (q92 x.Data (k) (by omega) (by omega) (by omega)) ?_;simp only [go_sem,nZa]
 try (rw [show decide (k+((qE ctI x.Data:Nat):Int)<0)=false from decide_eq_false (by omega)];simp only [go_sem,nZa])
 refine qK (q348 x.Kids (k+((qE ctI x.Data:Nat):Int)) (by omega) (by omega) (by omega)) ?_;simp only [go_sem,nZa]
 try (rw [show decide (k+((qE ctI x.Data:Nat):Int)+((qE qA.ct x.Kids:Nat):Int)<0)=false from decide_eq_false (by omega)];simp only [go_sem,nZa])
 refine qJ rfl ?_
 first | rfl | (simp only [qA.ctV,AV.int.injEq,true_and];done) | (simp only [qA.ctV,AV.int.injEq,true_and];omega)
attribute [local simp] jA zU JE
theorem qTC {E:Ev} {l:List qB} {ks:List Fr1} {s m:qb} {h:List qC} {Q:qX→VSt→Prop} {k w:Nat} {z v:AV} {e:Env} (hl:v.cells.length=w) (hr:R E (.ops l::ks) ⟨(k,.slice w h.length 0 1 false)::s,m,h++[.row w [v] true]⟩ Q):
  Bsl E (some k) w 1 (fil e w [z] 0 (some v) []) l ks ⟨s,m,h⟩ Q:=by
 rw [qU2 hl,qU1,qTD,qYK];exact hr
theorem n385 (x:qA):∀(_:x.sz≤1048576),Fresh Gm 385 [x.enc] x.enc:=by
 induction x using qA.ind with
 | _ x ih=>
 intro hz;have hL:=x.len_sz;have hse:=x.sz_eq;refine Fresh.intro [] [] g385 (by kernel_rfl) rfl (by simp [AV.trees,go_sem]) (qA.plx x) ?_;simp only [Xj,qP,go_sem];refine qW qA.ln ?_;simp only [go_sem];refine zp (n401 x.Data (by omega)) ?_;simp only [qWY,qWZ,List.nil_append,lNi,go_sem];refine qf (k:=4) (by rfl) (by rfl) (by exact ⟨_,rfl⟩) (by decide) ?_;simp only [go_sem];refine Sem.loop (fun i:Nat=>i≤x.Kids.length) (fun i=>(⟨[(15,.lst 4 (x.Kids.map qA.enc) false),(16,.int .i64 (x.Kids.length:Nat)),(17,.int .i64 (i:Nat))],[(1,x.enc),(3,.agg [.int .i64 x.Kind,.int .i64 x.Value,.slice 1 0 0 x.Data.length false,.slice 4 1 0 i false]),(2,.agg [.int .i64 0,.int .i64 0,.nils,.nils])],(qS [.lst 1 (x.Data.map qD) false] 0).2++.row 4 (qS ((x.Kids.take i).map qA.enc) 2).1 true::(qS ((x.Kids.take i).map qA.enc) 2).2⟩:VSt)) (fun i=>x.Kids.length-i) 0 (by kernel_rfl) (Nat.zero_le _) ?_ ?_
 ·refine Can.start (w:=4) (ps:=[.lst 1 (x.Data.map qD) false]) (b:=1) (by simp [AV.pls,AV.pl,zH (enc:=qD) (fun _=>rfl)]) (by simp [AV.rowss,AV.rows,Ue]) (by simp [qS,lay,lI]) ?_ ?_
  ·exact ⟨⟨_,rfl,.tree (by simp [AV.tree,go_sem])⟩,⟨_,rfl,.tree rfl⟩,⟨_,rfl,.tree rfl⟩,trivial⟩
  ·exact ⟨⟨_,rfl,.tree (by simp [go_sem])⟩,⟨_,rfl,.agg rfl (VR2s.cons (.tree rfl) (VR2s.cons (.tree rfl) (VR2s.cons (.slice (qR6 (by omega))) (VR2s.cons (.ph qaT) VR2s.nil)))).2⟩,⟨_,rfl,.tree rfl⟩,trivial⟩
 ·intro i hi;simp only [go_sem];refine qM ?_ ?_<;>intro hc<;>simp only [hc,go_sem]
  ·have hlt:i<x.Kids.length:=by have:=odT hc;omega
   have hm:=gMm hlt;have hk:=qA.kid_sz hm;simp only [gMp,gEg hlt,oMs,go_sem];refine qf (k:=4) (by rfl) (by simp [go_sem]) (qA.isAgg _) (by decide) ?_;simp only [go_sem];refine zp (ih _ hm (by omega)) ?_;simp only [go_sem];refine qTC (w:=4) ((Z0 (qA.plx x.Kids[i])).trans qA.ln) ?_;simp only [go_sem];have hA:(qS ((x.Kids.take i).map qA.enc) 2).1.length=i:=by rw [jQ];simp;omega
   have hps:(qS [AV.lst 1 (x.Data.map qD) false] 0).2=[.row 1 (x.Data.map qD) true]:=by simp [qS,lay,lI]
   refine qOC (len:=i) (el:=(qS ((x.Kids.take i).map qA.enc) 2).1) qWR (by rw [hps];rfl) hA (by omega) ?_;simp only [go_sem];simp only [qq (show i<4611686018427387904 by omega)];refine qo (i+1) (by omega) (by omega) ?_;have e:(x.Kids.take (i+1)).map qA.enc=(x.Kids.take i).map qA.enc++[qA.enc x.Kids[i]]:=by
    rw [List.take_succ_eq_append_getElem hlt,List.map_append];rfl
   refine Can.push (w:=4) (ps:=[.lst 1 (x.Data.map qD) false]) (A:=(x.Kids.take i).map qA.enc) (t:=x.Kids[i].enc) (b:=1) (by simp [AV.pls,AV.pl,zH (enc:=qD) (fun _=>rfl)]) (zH qA.plx _) (qA.plx _) (by simp [AV.rowss,AV.rows,Ue]) rfl ?_ ?_
    ⟨⟨_,rfl,.tree (by simp [AV.tree,go_sem])⟩,⟨_,rfl,.tree rfl⟩,⟨_,rfl,.tree rfl⟩,trivial⟩ ⟨⟨_,rfl,.tree (by simp [go_sem])⟩,⟨_,rfl,.agg rfl (VR2s.cons (.tree rfl) (VR2s.cons (.tree rfl) (VR2s.cons (.slice (qRI (by omega))) (VR2s.cons (.slice (qZX.trans ?_)) VR2s.nil)))).2⟩,⟨_,rfl,.tree rfl⟩,trivial⟩
   ·rw [hps];simp only [zO,List.cons_append,List.nil_append,List.set_cons_zero,List.set_cons_succ,lAa,lCo,lAp,lNi,nZa,Nat.add_comm 1,Nat.reduceAdd,show AV.rowss ((x.Kids.take i).map qA.enc)+1+1=2+AV.rowss ((x.Kids.take i).map qA.enc) by omega]
   ·rw [e]
   ·rw [hps];simp only [lAp,lCo,lNi,zO,qV];congr 2;omega
  ·obtain rfl:i=x.Kids.length:=by have:=odF hc;omega
   rw [List.take_length];refine qf (k:=4) (by rfl) (by rfl) (by exact ⟨_,rfl⟩) (by decide) ?_;simp only [go_sem];exact j4 (t:=x.enc) (pre:=[]) (post:=[]) (qA.plx x) (by simp [qz,qA.layE,qV,AV.rows,Ue]) (by simp [qA.layE,lay,qS,qV,lI,AV.rows,Ue])
inductive Bel:Int→qA→Prop
 | var {v n:Int} {d:List Int} (h:v<n):Bel n (.mk 1 v d [])
 | node {k v n:Int} {d:List Int} {ks:List qA} (hk:¬k=1) (h:∀(i:Nat) (hi:i<ks.length),Bel (n+qt k i) ks[i]):Bel n (.mk k v d ks)
theorem Bel.kid {n:Int} {x:qA} (h:Bel n x) {i:Nat} (hi:i<x.Kids.length):Bel (n+qt x.Kind i) x.Kids[i]:=by
 cases h with
 | var h=>simp [qA.Kids] at hi
 | node hk h=>exact h i hi
theorem qMX {α β:Type} {f:Nat→α→β}:∀(xs:List α) (k i:Nat) (h:i<xs.length),(z8 f xs k)[i]'(by rw [Qz];exact h)=f (k+i) xs[i]
 | x::xs,k,0,_=>rfl
 | x::xs,k,i+1,h=>by
  have:=qMX (f:=f) xs (k+1) i (by simpa using h);simp only [z8,List.getElem_cons_succ];rw [this,show k+1+i=k+(i+1) by omega]
theorem Bel.shift {m:Int} {x:qA} (h:Bel m x):∀(a f n:Int),m=n+f→0≤a→0≤n→Bel (n+a+f) (x.shift a f):=by
 induction h with
 | @var v m d h=>
  intro a f n hm ha hn;rw [qA.shift_eq];refine .var ?_;show wc 1 v a f<_;unfold wc;split<;>omega
 | @node k v m d ks hk h ih=>
  intro a f n hm ha hn;rw [qA.shift_eq];refine .node hk fun i hi=> ?_;have hi2:i<ks.length:=by rw [Qz] at hi;exact hi
  simp only [qA.Kids];rw [qMX _ _ _ hi2,nZa];have:=ih i hi2 a (f+qt k i) n (by omega) ha hn;show Bel (n+a+f+qt k i) (qA.shift a ks[i] (f+qt k i));rw [show n+a+f+qt k i=n+a+(f+qt k i) by omega];exact this
theorem Bel.put {m:Int} {x arg:qA} (h:Bel m x):∀(d n:Int),m=n+1+d→0≤d→0≤n→Bel n arg→Bel (n+d) (qA.put arg x d):=by
 induction h with
 | @var v m d h=>
  intro e n hm he hn ha;rw [qA.put_eq,if_pos (by rfl)];by_cases hv:v=e
  ·rw [if_pos (by exact hv)];have:=ha.shift e 0 n (by omega) he hn;rwa [Int.add_zero] at this
  ·rw [if_neg (by exact hv)];refine .var ?_;show UZ v e<_;unfold UZ;split<;>omega
 | @node k v m d ks hk h ih=>
  intro e n hm he hn ha;rw [qA.put_eq,if_neg (by exact hk)];refine .node hk fun i hi=> ?_;have hi2:i<ks.length:=by rw [Qz] at hi;exact hi
  have hb:=Qb k i;simp only [qA.Kids];rw [qMX _ _ _ hi2,nZa];have:=ih i hi2 (e+qt k i) n (by omega) (by omega) hn ha;show Bel (n+e+qt k i) (qA.put arg ks[i] (e+qt k i));rw [show n+e+qt k i=n+(e+qt k i) by omega];exact this
theorem Bel.sub {n:Int} {x y:qA} {i:Nat} (h:Bel n x) (hy:x.Kids[i]?=some y) (hb:qt x.Kind i=0):Bel n y:=by
 obtain ⟨hi,rfl⟩:=gSi.1 hy;have:=h.kid hi;rwa [hb,Int.add_zero] at this
theorem qQE {α:Type} {f:Nat→α→α}:∀{xs:List α} {k:Nat},(∀x∈xs,∀k,f k x=x)→z8 f xs k=xs
 |[],_,_=>rfl
 | x::xs,k,h=>by simp only [z8,h x (by simp) k,qQE (xs:=xs) fun y hy=>h y (by simp [hy])]
theorem qaQ:∀(x:qA) (f:Int),x.shift 0 f=x:=qA.ind fun x ih f=>by
 rw [qA.shift_eq,qQE fun y hy k=>ih y hy _];have:wc x.Kind x.Value 0 f=x.Value:=by unfold wc;split<;>omega
 rw [this,qA.eta]
theorem zY (x:qO) (n:Nat):(lay x.enc n).1.part 0 (some 1)=some (lay x.enc n).1:=qP6 (qO.plx x) ⟨_,rfl⟩ rfl
theorem qWX (x:qO) (n:Nat):(lay x.enc n).1.cells.length=1:=by rw [Z0 (qO.plx x)];rfl
theorem qWW (x:qO) (n:Nat):∃cs,(lay x.enc n).1=.agg cs:=⟨_,congrArg Prod.fst (qO.layE x n)⟩
end Go.Ab
namespace Go.Ab
open Go
set_option maxRecDepth 10000
set_option maxHeartbeats 2000000
attribute [local simp] jA zU JE
def qYO (n:Int) (x:qA):Bool:=inI x.Kids.length (shp x.Kind).1.1 (shp x.Kind).1.2&&inI x.Data.length (shp x.Kind).2.1 (shp x.Kind).2.2&&(if x.Kind=1 then decide (0≤x.Value) else jl x.Kind x.Value)&&x.Data.all jd&&
 (!(decide (x.Kind=11)&&decide (n≤x.Value))&&x.Data.all (fun k=>decide (k<n)))
def qA.ow (n:Int):qA→Bool:=qA.fold fun x rs=>qYO n x&&rs.all id
def Le (a b:List Int):Prop:=a.length≤b.length∧∀n∈a,n∈b
theorem Le.refl (a:List Int):Le a a:=⟨Nat.le_refl _,fun _ h=>h⟩
theorem Le.nil (a:List Int):Le [] a:=⟨Nat.zero_le _,fun _ h=>by cases h⟩
theorem Le.app {a b c d:List Int} (h:Le a b) (h2:Le c d):Le (a++c) (b++d):=by
 refine ⟨by rw [lAp,lAp];have:=h.1;have:=h2.1;omega,fun n hn=> ?_⟩;rcases List.mem_append.1 hn with q | q
 ·exact List.mem_append.2 (.inl (h.2 n q))
 ·exact List.mem_append.2 (.inr (h2.2 n q))
theorem Le.one {a:List Int} {l:Int} (h1:a.length≤1) (h2:∀n∈a,n=l) {g:Int→List Int}:Le (a.flatMap g) (g l):=by
 match a,h1,h2 with
 |[],_,_=>exact .nil _
 |[n],_,h2=>rw [h2 n (by simp)];simp only [List.flatMap_cons,List.flatMap_nil,lAn];exact .refl _
theorem Le.set {α:Type} {f:Nat→α→List Int} {y:α}:∀{xs:List α} {k i:Nat} (h:i<xs.length),Le (f (k+i) y) (f (k+i) xs[i])→Le (Qm f (xs.set i y) k) (Qm f xs k)
 | x::xs,k,0,_,hq=>by
  simp only [List.set_cons_zero,Qm];exact Le.app hq (.refl _)
 | x::xs,k,i+1,h,hq=>by
  simp only [List.set_cons_succ,Qm];refine Le.app (.refl _) (Le.set (by simpa using h) ?_);rw [show k+1+i=k+(i+1) by omega];simpa using hq
structure Good (n m:Int) (x r:qA) (l:Int):Prop where
 ow:r.ow n=true
 bel:Bel m r
 strat:r.strat l=true
 le:∀v,0≤v→Le (r.levels v l) (x.levels v l)
theorem Bel.mono {m:Int} {x:qA} (h:Bel m x):∀k,m≤k→Bel k x:=by
 induction h with
 | var h=>intro k hk;exact .var (by omega)
 | node hk h ih=>intro k hm;exact .node hk fun i hi=>ih i hi _ (by omega)
theorem plsI (k:List Int):AV.pls (k.map qD)=true:=zH (fun _=>rfl) k
theorem qW3 (k:List Int) (n:Nat):qS (k.map qD) n=(k.map qD,[]):=by
 induction k generalizing n with
 | nil=>rfl
 | cons x k ih=>simp [qS,lay,qD,ih]
end Go.Ab
namespace Go.Ab
open Go
set_option maxRecDepth 10000
set_option maxHeartbeats 2000000
theorem fil4 {e:Env} {z1 z2 z3 z4:Int}:fil e 1 (List.replicate 4 (AV.int .i64 0)) 0 (some (.int .i64 z1)) [(1,.c (.int .i64 z2)),(2,.c (.int .i64 z3)),(3,.c (.int .i64 z4))]=some [.int .i64 z1,.int .i64 z2,.int .i64 z3,.int .i64 z4]:=rfl
def j3 (xs:List Int):AV:=.lst 1 (xs.map qD) false
@[go_sem] theorem qsM {xs:List Int}:(j3 xs).part 0 none=some (j3 xs):=nr rfl
theorem qSD (xss:List (List Int)):AV.trees (xss.map j3)=true:=by
 induction xss with
 | nil=>rfl
 | cons a xs ih=>simp [AV.trees,j3,AV.tree,zA shI.tree,ih]
@[go_sem] theorem qvQ {xs:List Int}:Z4 (some (j3 xs))=some (.int .i64 (xs.length:Nat)):=by simp [j3,go_sem]
theorem Vv {α:Type} {xss:List (List α)} {i:Nat} (h:i<xss.length):(xss.take (i+1)).flatten=(xss.take i).flatten++xss[i]:=by rw [List.take_succ_eq_append_getElem h,List.flatten_append];rw [List.flatten_singleton]
theorem qPM {α:Type} {xss:List (List α)} {i:Nat}:(xss.take i).flatten.length≤xss.flatten.length:=by
 have:xss.flatten=(xss.take i).flatten++(xss.drop i).flatten:=by rw [←List.flatten_append,List.take_append_drop]
 rw [this,lAp];omega
theorem qQ2 (k:List Int):AV.pls (k.map qD)=true:=zH (fun _=>rfl) k
theorem qS3 {E:Ev} {l:List qB} {ks:List Fr1} {s m:qb} {h:List qC} {Q:qX→VSt→Prop} {w k id len:Nat} {b:AV} {xs js ys:List AV} (hy:Els h w b ys) (ho:h[id]?=some (.row w (xs++js) true)) (he:xs.length=len) (h0:0<ys.length) (hl:len+ys.length≤4294967296)
  (hr:R E (.ops l::ks) ⟨(k,.slice w h.length 0 (len+ys.length) false)::s,m,h.set id .dead++[.row w (xs++ys) true]⟩ Q):jU E w (some k) (some (.slice w id 0 len false)) (some b) l ks ⟨s,m,h⟩ Q:=by
 unfold jU;refine ⟨hy.1, ?_⟩;simp only [hy.2];refine ⟨rfl,by have:LIM=4294967296:=rfl;omega, ?_⟩;rw [ho];refine ⟨rfl,by simp;omega,.inr (.inl ⟨h0,rfl, ?_⟩)⟩;have e:((xs++js).drop 0).take len=xs:=by rw [List.drop_zero];exact List.take_left' he
 rw [e];exact hr
theorem qS1 {E:Ev} {l:List qB} {ks:List Fr1} {s m:qb} {h:List qC} {Q:qX→VSt→Prop} {w k id len:Nat} {b:AV} {xs js:List AV} (hy:Els h w b []) (ho:h[id]?=some (.row w (xs++js) true)) (he:xs.length=len) (hl:len≤4294967296)
  (hr:R E (.ops l::ks) ⟨(k,.slice w id 0 len false)::s,m,h⟩ Q):jU E w (some k) (some (.slice w id 0 len false)) (some b) l ks ⟨s,m,h⟩ Q:=by
 unfold jU;refine ⟨hy.1, ?_⟩;simp only [hy.2];refine ⟨rfl,by have:LIM=4294967296:=rfl;simp;omega, ?_⟩;rw [ho];exact ⟨rfl,by simp;omega,.inr (.inr (.inr ⟨rfl,hr⟩))⟩
theorem qaB {h:List qC} {K:AV→List qC→Prop} {n:Nat} (h0:0<n) (h1:n≤1000000) (hK:K (.slice 1 h.length 0 0 false) (h++[.row 1 (List.replicate n (.int .i64 0)) true])):SCall Gm 1138 [.nils,.int .i64 (n:Nat)] h K:=by
 refine SCall.run [] [] qVQ (by kernel_rfl) rfl ?_;simp only [Wp,qP,go_sem];refine qM ?_ ?_<;>intro hc<;>simp only [hc,go_sem]
 ·have:=odT hc;omega
 have e0:IntKind.i64.wrap ((0:Int)-0)=0:=by rw [qr (by omega) (by omega)];rfl
 have e1:IntKind.i64.wrap ((n:Int)-IntKind.i64.wrap (0-0))=(n:Nat):=by rw [e0,Int.sub_zero,qr (by omega) (by omega)]
 simp only [e1,decide_eq_true (show (0:Int)<(n:Nat) by omega),go_sem];refine qNB (v:=.nils) (by simp [val,go_sem,bnd,AV.isNil]) ?_
 try simp only [go_sem,e1]
 refine ⟨by omega,by have:LIM=4294967296:=rfl;omega, ?_⟩;simp only [go_sem,Int.toNat_natCast];refine qNB (v:=.slice 1 h.length 0 0 false) (by simp [val,go_sem,bnd]) ?_;simp only [go_sem];exact hK
theorem n786 {xss:List (List Int)} (h0:0<xss.flatten.length) (h1:xss.length≤1000) (h2:xss.flatten.length≤1000000):Fresh Gm 786 [.lst 1 (xss.map j3) false] (.lst 1 (xss.flatten.map qD) false):=by
 refine Fresh.intro [] [] g786 (by kernel_rfl) rfl (by simp [AV.trees,AV.tree,qSD]) (by simp only [AV.pl];exact qQ2 _) ?_;simp only [Ya,qP,go_sem];refine Sem.loop (fun i:Nat=>i≤xss.length) (fun i=>(⟨[(0,.lst 1 (xss.map j3) false),(9,.lst 1 (xss.map j3) false),(10,.int .i64 (xss.length:Nat)),(3,.int .i64 ((xss.take i).flatten.length:Nat)),(11,.int .i64 (i:Nat))],[],[]⟩:VSt)) (fun i=>xss.length-i) 0 (by kernel_rfl) (Nat.zero_le _) (Can.sub (by simp [go_sem]) (by simp [go_sem])) ?_;rintro i hi;simp only [go_sem];refine qM ?_ ?_<;>intro hc<;>simp only [hc,go_sem]
 ·have hlt:i<xss.length:=by have:=odT hc;omega
  simp only [gMp,gEg hlt,oMs,go_sem];have ht:(xss.take (i+1)).flatten.length=(xss.take i).flatten.length+xss[i].length:=by rw [Vv hlt,lAp]
  have hb:=qPM (xss:=xss) (i:=i+1);rw [qr (by omega) (by omega),show (((xss.take i).flatten.length:Nat):Int)+((xss[i].length:Nat):Int)=(((xss.take (i+1)).flatten.length:Nat):Int) by omega];refine qM ?_ ?_<;>intro hc<;>simp only [hc,go_sem]
  ·have:=odT hc;omega
  ·simp only [qq (show i<4611686018427387904 by omega)];exact qo (i+1) (by omega) (by omega) (Can.sub (by simp [go_sem]) (by simp [go_sem]))
 ·obtain rfl:i=xss.length:=by have:=odF hc;omega
  rw [List.take_length];refine qe (qaB h0 h2 ?_);simp only [go_sem];refine Sem.loop (fun q:Nat×List AV=>q.1≤xss.length∧(q.2=[]∨(xss.take q.1).flatten=[])) (fun q=>(⟨[(25,.lst 1 (xss.map j3) false),(26,.int .i64 (xss.length:Nat)),(27,.int .i64 (q.1:Nat)),(6,.slice 1 0 0 (xss.take q.1).flatten.length false)],[],[.row 1 ((xss.take q.1).flatten.map qD++q.2) true]⟩:VSt)) (fun q=>xss.length-q.1) (0,List.replicate xss.flatten.length (.int .i64 0)) (by kernel_rfl) ⟨Nat.zero_le _,.inr rfl⟩ (Can.sub (by simp [go_sem]) (by simp [go_sem])) ?_;rintro ⟨i,js⟩ ⟨hi,hjs⟩;simp only at hi hjs⊢;simp only [Yb,go_sem];refine qM ?_ ?_<;>intro hc<;>simp only [hc,go_sem]
  ·have hlt:i<xss.length:=by have:=odT hc;omega
   simp only [gMp,gEg hlt,oMs,go_sem];have hb:=qPM (xss:=xss) (i:=i+1);have ht:(xss.take (i+1)).flatten.length=(xss.take i).flatten.length+xss[i].length:=by rw [Vv hlt,lAp]
   rcases Nat.eq_zero_or_pos xss[i].length with h0 | h0
   ·have hn:=List.eq_nil_of_length_eq_zero h0;refine qS1 (xs:=(xss.take i).flatten.map qD) (js:=js) (by unfold j3;rw [hn];exact Els.lst) rfl (by rw [lMp]) (by omega) ?_;simp only [go_sem];simp only [qq (show i<4611686018427387904 by omega)];have e:(xss.take (i+1)).flatten=(xss.take i).flatten:=by rw [Vv hlt,hn,lAn]
    refine qo (i+1,js) ⟨by simp only;omega,by simp only [e];exact hjs⟩ (by simp only;omega) ?_;simp only [e];exact Can.sub (by simp [go_sem]) (by simp [go_sem])
   ·refine qS3 (ys:=xss[i].map qD) (xs:=(xss.take i).flatten.map qD) (js:=js) Els.lst rfl (by rw [lMp]) (by simpa using h0) (by rw [lMp];omega) ?_;simp only [go_sem];simp only [qq (show i<4611686018427387904 by omega)];refine qo (i+1,[]) ⟨by simp only;omega,.inl rfl⟩ (by simp only;omega) ?_;simp only [ht,lMp,lAn];refine Can.renum [some 1] rfl ⟨.row rfl ?_,trivial⟩ ⟨⟨_,rfl,.tree (by simp only [AV.tree];exact qSD _)⟩,⟨_,rfl,.tree rfl⟩,⟨_,rfl,.tree rfl⟩,⟨_,rfl,.slice rfl⟩,trivial⟩ trivial;rw [Vv hlt,List.map_append];have t:=zA shI.tree ((xss.take i).flatten++xss[i]);rw [List.map_append] at t;exact VR2s.trees t
  ·obtain rfl:i=xss.length:=by have:=odF hc;omega
   rw [List.take_length] at hjs⊢;have:js=[]:=by
    rcases hjs with h | h
    ·exact h
    ·rw [h] at h0;simp at h0
   subst this;clear hi;generalize xss.flatten=fl;exact j4 (pre:=[]) (post:=[]) (by simp only [AV.pl];exact qQ2 _) (by simp [qz,lay]) (by simp [lay,qS,lI])
section
variable {P:Nat→Prop} {w:Nat} {pre post:List AV} {id j:Nat} {h:List qC} {M:qG} {K:AV→List qC→Prop} {b:qO}
theorem qNO {α:Type} {h:List α} {x y:α}:(h++[x]).set h.length y=h++[y]:=by simp [List.set_append]
theorem qSR {g:List qC} {e1 e2:Nat} {v:Int} {env:List Int} (h1:g[e1]?=some (.row 1 [.int .i64 v] true)) (h2:g[e2]?=some (.row 1 [.slice 1 e1 0 1 false,.lst 1 (env.map qD) false] true)):Cv g (.slice 1 e2 0 2 false) (.lst 1 ([[v],env].map j3) false):=
 .slc h2 (by simp) (by decide) rfl (fun p hp=>by
  simp at hp;rcases hp with rfl | rfl
  ·exact Cv.row h1 rfl rfl (by decide)
  ·exact .refl (by simp only [AV.tree];exact zA shI.tree _))
theorem layZ {ks:List Int} {n:Nat}:lay (.lst 1 (ks.map qD) false) n=(.slice 1 n 0 ks.length false,[.row 1 (ks.map qD) true]):=by simp [lay,lI]
theorem qaD {ns:List Int} (hK:K (.fn 1406 [.ptr h.length 0 0]) (h++[.row 1 [.lst 1 (ns.map qD) false] true])):SCall Gm 1157 [.lst 1 (ns.map qD) false] h K:=by
 refine SCall.run [] [] qVY (by kernel_rfl) rfl ?_;simp only [W8,qP,go_sem];refine jh rfl ?_;simp only [go_sem];exact hK
theorem s829 (hj:pre.length=j) (hN:NSx P w pre post id h M) (hb:BI b) (hM:MI b M) (hv:M.Control.val=true) (hs:0<M.Stack.length)
  (hK:∀h',NSx P w pre post id h' M.meet.2→Keep P h h'→K (.int .i64 M.meet.1) h'):SCall Gm 829 [.ptr id 0 j] h K:=by
 have sl:=hM.sl;have ht:=hM.c.t;have hN1:NSx P w pre post id (h++[.dead]) M:=hN.out (P:=P) ⟨by simp,fun i hi _=>gAl hi⟩ fun i hi=>⟨.inl hi,by have:=hN.pl hi;simp;omega⟩;have hK1:Keep P h (h++[.dead]):=⟨by simp,fun i hi=>gAl (hN.pl hi)⟩;refine SCall.runW [1] [2] g829 (by kernel_rfl) rfl ?_;simp only [Yz];simp only [qP,go_sem];simp only [bitvec_to_nat,Nat.reduceBEq,go_sem];refine jh rfl ?_;simp only [bitvec_to_nat,Nat.reduceBEq,go_sem];simp only [Y1,List.getElem?_concat_length,go_sem];simp only [qNO];clear hN;have hN0:=hN1;generalize hh1:h++[qC.dead]=h1 at*;obtain ⟨si,hi,js,hN⟩:=hN1;simp only [bitvec_to_nat,Nat.reduceBEq,go_sem];simp only [hN.o,Nat.add_zero,ne0 hj,ne1 hj,ne2 hj,ne3 hj,ne4 hj,ne5 hj,ne6 hj,neT hj,neC hj,go_sem];simp only [Qp hs (show M.Stack.length≤1000000 by omega),hN.s,ZK hs,go_sem];refine qf (k:=4) rfl qA.ln ⟨_,qA.enc_eq _⟩ (by decide) ?_;simp only [bitvec_to_nat,Nat.reduceBEq,go_sem];refine qf (k:=8) rfl qF.ln ⟨_,rfl⟩ (by decide) ?_;simp only [Y2,Y0];simp only [bitvec_to_nat,Nat.reduceBEq,go_sem];refine qM ?_ ?_<;>intro hc<;>simp only [hc,go_sem]
 ·have q1:M.top.Kind=1:=odT hc;obtain ⟨a0,a1⟩:=(hM.s _ (wi hs).2).a (.inl q1);have a2:M.top.Value.toNat<M.Heap.length:=by omega
  have e3:M.meet=(3,({M with Heap:=M.Heap.set M.top.Value.toNat ⟨true,M.Control⟩}:qG).pop):=by unfold qG.meet;rw [if_pos q1];rfl
  rw [e3] at hK;simp only [Y7];simp only [bitvec_to_nat,Nat.reduceBEq,go_sem];simp only [hN.o,Nat.add_zero,ne0 hj,ne1 hj,ne2 hj,ne3 hj,ne4 hj,ne5 hj,ne6 hj,neT hj,neC hj,go_sem];simp only [ji a0 (show M.top.Value<(M.Heap.length:Int) by omega),go_sem];refine qp rfl hN.t (by rw [gMp,gEg a2];rfl) (wK (k:=6) qH.ln rfl ⟨fun _=>⟨_,rfl⟩,fun _=>⟨_,rfl⟩⟩ (by decide)) ?_;simp only [bitvec_to_nat,Nat.reduceBEq,go_sem];obtain ⟨n1,n2⟩:=hN.cell (M':={M with Heap:=M.Heap.set M.top.Value.toNat ⟨true,M.Control⟩}) rfl rfl (by simp);simp only [List.map_set] at n1 n2;refine qe (Jx Qn hj ⟨_,_,_,n1⟩ hs (show M.Stack.length≤1000000 by omega) fun h3 hN3 k3=> ?_);simp only [bitvec_to_nat,Nat.reduceBEq,go_sem];refine Sem.reg (by kernel_rfl) ?_;simp only [bitvec_to_nat,Nat.reduceBEq,go_sem];exact ⟨_,_,.refl _,.refl _,hK _ hN3 (hK1.trans (n2.trans k3))⟩
 have h1n:¬M.top.Kind=1:=odF hc;clear hc;have hkk:M.Control.Term.Kind=4∨M.Control.Term.Kind=2∨M.Control.Term.Kind=8:=by
  unfold qI.val at hv;split at hv
  ·rename_i q;rcases q with q | q<;>simp [q]
  ·split at hv
   ·rename_i q;simp [q]
   ·cases hv
 have pk:∀(h2:List qC),NSx P w pre post id h2 M.pop→Keep P h1 h2→Keep P h h2:=fun h2 _ k2=>hK1.trans k2;have hen:=hM.c.l;rcases hkk with hk | hk | hk
 ·simp only [QR,Y8];simp only [hk,Int.reduceEq,decide_true,decide_false,bitvec_to_nat,Nat.reduceBEq,go_sem];refine qM ?_ ?_<;>intro hc<;>simp only [hc,go_sem]
  ·have q2:M.top.Kind=2:=odT hc;clear hc;have em:M.meet=((4:Int),M.pop.ctl ⟨M.Control.Term.kid 0,M.top.Value::M.Control.Env⟩):=by unfold qG.meet;rw [if_neg h1n,if_pos ⟨hk,q2⟩]
   rw [em] at hK;simp only [bitvec_to_nat,Nat.reduceBEq,go_sem];refine qe (Jx Qn hj hN0 hs (by omega) fun h2 hN2 k2=> ?_);simp only [bitvec_to_nat,Nat.reduceBEq,go_sem];clear hN;obtain ⟨si2,hi2,js2,hN⟩:=hN2;obtain ⟨hl,_⟩:=ht.lam hk;simp only [gMp,gEg hl,oMs,go_sem];simp only [hN.o,Nat.add_zero,ne0 hj,ne1 hj,ne2 hj,ne3 hj,ne4 hj,ne5 hj,ne6 hj,neT hj,neC hj,go_sem];generalize hgA:h2++[qC.row 1 [AV.int IntKind.i64 M.top.Value] true]++[qC.row 1 [AV.slice 1 h2.length 0 1 false,AV.lst 1 (List.map qD M.Control.Env) false] true]=gA;have x1:gA[h2.length]?=some (.row 1 [.int .i64 M.top.Value] true):=by rw [←hgA,gAl (by simp),List.getElem?_concat_length]
   have x2:gA[h2.length+1]?=some (.row 1 [.slice 1 h2.length 0 1 false,.lst 1 (M.Control.Env.map qD) false] true):=by rw [←hgA,gAr (by simp)];simp
   have x3:gA.length=h2.length+2:=by rw [←hgA];simp
   have x4:∀i,i<h2.length→gA[i]?=h2[i]?:=fun i hi=>by rw [←hgA,gAl (by simp;omega),gAl hi]
   have x5:([[M.top.Value],M.Control.Env]:List (List Int)).flatten=M.top.Value::M.Control.Env:=by simp
   rw [show (h2++[qC.row 1 [AV.int IntKind.i64 M.top.Value] true]).length=h2.length+1 by simp];refine qLT (Cvs.cons (qSR x1 x2) Cvs.nil) (n786 (by rw [x5];simp) (by simp) (by rw [x5];simp;omega)) ?_;rw [x5,layZ];simp only;have g1:h2.length≤(gA++[qC.row 1 ((M.top.Value::M.Control.Env).map qD) true]).length:=by simp;omega
   have g2:∀i,i<h2.length→(gA++[qC.row 1 ((M.top.Value::M.Control.Env).map qD) true])[i]?=h2[i]?:=fun i hi=>by rw [gAl (by omega),x4 i hi]
   have g3:(gA++[qC.row 1 ((M.top.Value::M.Control.Env).map qD) true])[gA.length]?=some (.row 1 ((M.top.Value::M.Control.Env).map qD) true):=List.getElem?_concat_length;simp only [bitvec_to_nat,Nat.reduceBEq,go_sem];refine qp rfl ((g2 _ (qc hN.o)).trans hN.o) rfl (z9 hj rfl) ?_;simp only [bitvec_to_nat,Nat.reduceBEq,go_sem];obtain ⟨h3,c1,n1,n2⟩:=qPA (bb:=h.length) (t:=M.Control.Term.kid 0) hN g1 g2 g3 (by omega);rw [jC hl] at c1;refine Sem.can (c1 _ _) (Sem.reg (by kernel_rfl) ?_);simp only [bitvec_to_nat,Nat.reduceBEq,go_sem];exact ⟨_,_,.refl _,.refl _,hK _ n1 (hK1.trans (k2.trans n2))⟩
  ·have em:M.meet=((0:Int),M):=by
    have q2:¬M.top.Kind=2:=odF hc;unfold qG.meet;rw [if_neg h1n,if_neg (by omega),if_neg (by omega),if_neg (by omega),if_neg (by omega),if_neg (by omega)]
   rw [em] at hK;simp only [QS,QO,QT,QN,QP,QQ];simp only [hk,Int.reduceEq,decide_true,decide_false,bitvec_to_nat,Nat.reduceBEq,go_sem];refine Sem.reg (by kernel_rfl) ?_;simp only [bitvec_to_nat,Nat.reduceBEq,go_sem];exact ⟨_,_,.refl _,.refl _,hK _ hN0 hK1⟩
 ·simp only [QR,QS,QO];simp only [hk,Int.reduceEq,decide_true,decide_false,bitvec_to_nat,Nat.reduceBEq,go_sem];refine qM ?_ ?_<;>intro hc<;>simp only [hc,go_sem]
  ·have q2:M.top.Kind=3:=odT hc;clear hc;have em:M.meet=((1:Int),(M.pop.push ⟨4,M.top.Value,[M.Control.Term.Value],noC⟩).ctl M.top.Closure):=by unfold qG.meet;rw [if_neg h1n,if_neg (by omega),if_pos ⟨hk,q2⟩]
   rw [em] at hK;simp only [bitvec_to_nat,Nat.reduceBEq,go_sem];refine qe (Jx Qn hj hN0 hs (by omega) fun h2 hN2 k2=> ?_);simp only [Y9,VA];simp only [bitvec_to_nat,Nat.reduceBEq,go_sem];have x1:(h2++[qC.row 1 [AV.int .i64 M.Control.Term.Value] true])[h2.length]?=some (.row 1 ([M.Control.Term.Value].map qD) true):=List.getElem?_concat_length;have hpl:M.pop.Stack.length≤1000000:=by simp [qG.pop];omega
   have hN3:NSx P w pre post id (without [h2.length] (h2++[qC.row 1 [AV.int .i64 M.Control.Term.Value] true])) M.pop:=by
    refine hN2.out (P:=P) ⟨by rw [jO];simp,fun i hi _=>by rw [wA (by simp;omega),gAl hi]⟩ fun i hi=>⟨.inl hi,by have:=hN2.pl hi;rw [jO];simp;omega⟩
   have hK3:Keep P h2 (without [h2.length] (h2++[qC.row 1 [AV.int .i64 M.Control.Term.Value] true])):=⟨by rw [jO];simp,fun i hi=>by have:=hN2.pl hi;rw [wA (by simp;omega),gAl this]⟩;refine qe (SCall.giveH (vs':=[.ptr id 0 j,qF.enc ⟨4,M.top.Value,[M.Control.Term.Value],noC⟩]) [h2.length] (HCv.list (.same _) (HCv.list ?_ (HCv.refls []))) (Jy Jl hj hN3 hpl ⟨4,M.top.Value,[M.Control.Term.Value],noC⟩ fun h3 hN4 k3=> ?_))
   ·have q:=HCv.list (H:=only [h2.length] (h2++[qC.row 1 [AV.int .i64 M.Control.Term.Value] true])) (.same (.int .i64 4)) (HCv.list (.same (.int .i64 M.top.Value)) (HCv.list (U2 x1) (HCv.list (.same (.int .i64 0)) (HCv.list (.same (.int .i64 0))
     (HCv.list (.cv (.nils (w:=1) (c:=false)) rfl) (HCv.list (.cv (.nils (w:=4) (c:=false)) rfl) (HCv.list (.cv (.nils (w:=1) (c:=false)) rfl) (HCv.refls []))))))))
    exact .agg q.1 q.2
   simp only [bitvec_to_nat,Nat.reduceBEq,go_sem];clear hN;obtain ⟨si,hi,js,hN⟩:=hN4;refine qp rfl hN.o rfl (z9 hj rfl) ?_;simp only [bitvec_to_nat,Nat.reduceBEq,go_sem];refine Sem.reg (by kernel_rfl) ?_;obtain ⟨n2,k4⟩:=hN.struct (post':=post) (M':=(M.pop.push ⟨4,M.top.Value,[M.Control.Term.Value],noC⟩).ctl M.top.Closure) (js':=js) rfl rfl;simp only [bitvec_to_nat,Nat.reduceBEq,go_sem];exact ⟨_,_,.refl _,.refl _,hK _ ⟨_,_,_,n2⟩ (hK1.trans (k2.trans (hK3.trans (k3.trans k4))))⟩
  have n3:¬M.top.Kind=3:=odF hc;clear hc;simp only [QT,QN];simp only [hk,Int.reduceEq,decide_true,decide_false,bitvec_to_nat,Nat.reduceBEq,go_sem];refine qM ?_ ?_<;>intro hc<;>simp only [hc,go_sem]
  ·have q2:M.top.Kind=4:=odT hc;clear hc;have hd0:0<M.top.Data.length:=by have:=(hM.s _ (wi hs).2).d q2;omega
   have em:M.meet=((5:Int),M.pop.ctl ⟨.mk 2 (opI M.top.Value M.top.Data[0] M.Control.Term.Value) [] [],[]⟩):=by unfold qG.meet;rw [if_neg h1n,if_neg (by omega),if_neg (by omega),if_pos ⟨hk,q2⟩,zj hd0]
   rw [em] at hK;simp only [bitvec_to_nat,Nat.reduceBEq,go_sem];refine qe (Jx Qn hj hN0 hs (by omega) fun h2 hN2 k2=> ?_);simp only [VB];simp only [bitvec_to_nat,Nat.reduceBEq,go_sem];clear hN;obtain ⟨si2,hi2,js2,hN⟩:=hN2;simp only [gMp,gEg hd0,oMs,go_sem];simp only [qD];simp only [bitvec_to_nat,Nat.reduceBEq,go_sem];refine qK qTK ?_;simp only [bitvec_to_nat,Nat.reduceBEq,go_sem];refine qK c726 ?_;simp only [bitvec_to_nat,Nat.reduceBEq,go_sem];refine qp rfl hN.o rfl (z9 hj rfl) ?_;simp only [bitvec_to_nat,Nat.reduceBEq,go_sem];refine Sem.reg (by kernel_rfl) ?_;obtain ⟨n1,n2⟩:=hN.struct (post':=post) (M':=M.pop.ctl ⟨.mk 2 (opI M.top.Value M.top.Data[0] M.Control.Term.Value) [] [],[]⟩) (js':=js2) rfl rfl;simp only [bitvec_to_nat,Nat.reduceBEq,go_sem];exact ⟨_,_,.refl _,WkH.set JN,hK _ ⟨_,_,_,n1⟩ (hK1.trans (k2.trans n2))⟩
  have n4:¬M.top.Kind=4:=odF hc;clear hc;simp only [QP];simp only [hk,Int.reduceEq,decide_true,decide_false,bitvec_to_nat,Nat.reduceBEq,go_sem];refine qM ?_ ?_<;>intro hc<;>simp only [hc,go_sem]
  ·have q2:M.top.Kind=6:=odT hc;clear hc;have hd2:=(hM.s _ (wi hs).2).l q2;have hd0:0<M.top.Data.length:=by omega
   have hd1:1<M.top.Data.length:=by omega
   simp only [bitvec_to_nat,Nat.reduceBEq,go_sem];refine qe (Jx Qn hj hN0 hs (by omega) fun h2 hN2 k2=> ?_);simp only [Y3];simp only [bitvec_to_nat,Nat.reduceBEq,go_sem];clear hN;obtain ⟨si2,hi2,js2,hN⟩:=hN2;refine qK Vc ?_;simp only [bitvec_to_nat,Nat.reduceBEq,go_sem];by_cases hv0:M.Control.Term.Value=0
   ·have em:M.meet=((6:Int),M.pop.toRef M.top.Data[1]):=by
     unfold qG.meet;rw [if_neg h1n,if_neg (by omega),if_neg (by omega),if_neg (by omega),if_pos ⟨hk,q2⟩,if_pos hv0,zj hd1]
    rw [em] at hK;simp only [decide_eq_true hv0,if_true];simp only [gMp,gEg hd1,oMs,go_sem];simp only [qD];simp only [bitvec_to_nat,Nat.reduceBEq,go_sem];refine qK qLS ?_;simp only [bitvec_to_nat,Nat.reduceBEq,go_sem];refine qp rfl hN.o rfl (z9 hj rfl) ?_;simp only [bitvec_to_nat,Nat.reduceBEq,go_sem];refine Sem.reg (by kernel_rfl) ?_;obtain ⟨n1,n2⟩:=hN.struct (post':=post) (M':=M.pop.toRef M.top.Data[1]) (js':=js2) rfl rfl;simp only [bitvec_to_nat,Nat.reduceBEq,go_sem];exact ⟨_,_,.refl _,WkH.set JN,hK _ ⟨_,_,_,n1⟩ (hK1.trans (k2.trans n2))⟩
   ·have em:M.meet=((6:Int),M.pop.toRef M.top.Data[0]):=by
     unfold qG.meet;rw [if_neg h1n,if_neg (by omega),if_neg (by omega),if_neg (by omega),if_pos ⟨hk,q2⟩,if_neg hv0,zj hd0]
    rw [em] at hK;simp only [decide_eq_false hv0,bFt,if_false];simp only [gMp,gEg hd0,oMs,go_sem];simp only [qD];simp only [bitvec_to_nat,Nat.reduceBEq,go_sem];refine qK qLS ?_;simp only [bitvec_to_nat,Nat.reduceBEq,go_sem];refine qp rfl hN.o rfl (z9 hj rfl) ?_;simp only [bitvec_to_nat,Nat.reduceBEq,go_sem];refine Sem.reg (by kernel_rfl) ?_;obtain ⟨n1,n2⟩:=hN.struct (post':=post) (M':=M.pop.toRef M.top.Data[0]) (js':=js2) rfl rfl;simp only [bitvec_to_nat,Nat.reduceBEq,go_sem];exact ⟨_,_,.refl _,WkH.set JN,hK _ ⟨_,_,_,n1⟩ (hK1.trans (k2.trans n2))⟩
  ·have n6:¬M.top.Kind=6:=odF hc;have em:M.meet=((0:Int),M):=by
    unfold qG.meet;rw [if_neg h1n,if_neg (by omega),if_neg (by omega),if_neg (by omega),if_neg (by omega),if_neg (by omega)]
   rw [em] at hK;simp only [QQ];simp only [hk,Int.reduceEq,decide_true,decide_false,bitvec_to_nat,Nat.reduceBEq,go_sem];refine Sem.reg (by kernel_rfl) ?_;simp only [bitvec_to_nat,Nat.reduceBEq,go_sem];exact ⟨_,_,.refl _,.refl _,hK _ hN0 hK1⟩
 ·simp only [QR,QS,QO,QT,QN,QP,QQ];simp only [hk,Int.reduceEq,decide_true,decide_false,bitvec_to_nat,Nat.reduceBEq,go_sem];have none (em:M.meet=((0:Int),M)):K (.int .i64 0) h1:=by rw [em] at hK;exact hK _ hN0 hK1
  refine qY ?_ ?_<;>intro hc<;>simp only [hc,go_sem]
  ·have q2:M.top.Kind=5:=odT hc;clear hc;refine qM ?_ ?_<;>intro hc<;>simp only [hc,go_sem]
   ·have q3:M.Control.Term.Value<M.top.Data.length:=by simpa using hc
    clear hc;obtain ⟨v0,v1⟩:=ht.val8 hk;have hvl:M.Control.Term.Value.toNat<M.top.Data.length:=by omega
    have em:M.meet=((6:Int),({M.pop with Stack:=M.pop.Stack++(M.Control.Env.drop (M.Control.Env.length-M.Control.Env.length)).reverse.map (fr 2)}:qG).toRef M.top.Data[M.Control.Term.Value.toNat]):=by
     unfold qG.meet;rw [if_neg h1n,if_neg (by omega),if_neg (by omega),if_neg (by omega),if_neg (by omega),if_pos ⟨hk,q2,q3⟩,zj hvl,Nat.sub_self];rfl
    rw [em] at hK;simp only [bitvec_to_nat,Nat.reduceBEq,go_sem];refine qe (Jx Qn hj hN0 hs (by omega) fun h2 hN2 k2=> ?_);simp only [Y4,Y5,Y6];clear hN;have hN2':=hN2;obtain ⟨si2,hi2,js2,hN⟩:=hN2;simp only [bitvec_to_nat,Nat.reduceBEq,go_sem];simp only [hN.o,Nat.add_zero,ne0 hj,ne1 hj,ne2 hj,ne3 hj,ne4 hj,ne5 hj,ne6 hj,neT hj,neC hj,go_sem];refine qe (qaD ?_);simp only [bitvec_to_nat,Nat.reduceBEq,go_sem];clear hN;refine Sem.rng (bid:=h2.length) (ns:=M.Control.Env) (cl:=false) (v1:=.ept (.ptr id 0 j) 0) (fun k g=>NSx P w pre post id g {M.pop with Stack:=M.pop.Stack++(M.Control.Env.drop (M.Control.Env.length-k)).reverse.map (fr 2)}∧Keep P h2 g)
     ⟨by kernel_rfl,by kernel_rfl⟩ (by decide) rfl List.getElem?_concat_length (by have:LIM=4294967296:=rfl;omega) rfl ?_ ?_ ?_
    ·rw [qNO];refine ⟨?_,by simp,fun i hi=>gAl (hN2'.pl hi)⟩;simp only [Nat.sub_zero,List.drop_length,List.reverse_nil,List.map_nil,lAn];exact hN2'.out (P:=P) ⟨by simp,fun i hi _=>gAl hi⟩ fun i hi=>⟨.inl hi,by have:=hN2'.pl hi;simp;omega⟩
    ·rintro k n g ⟨gN,gK⟩ hk1 hk2;have hlt:M.Control.Env.length-1-k<M.Control.Env.length:=by omega
     have hn:n=M.Control.Env[M.Control.Env.length-1-k]:=by rw [gEg hlt] at hk2;exact (Option.some.inj hk2).symm
     have hsl:(M.pop.Stack++(M.Control.Env.drop (M.Control.Env.length-k)).reverse.map (fr 2)).length≤1000000:=by simp [qG.pop];omega
     simp only [go_sem];refine qe (SCall.arg (.same (.cons frW .nil)) (Jy Jl hj gN hsl (fr 2 n) fun h3 hN3 k3=> ?_));simp only [go_sem];refine ⟨trivial, ?_,gK.trans k3⟩;have e:M.Control.Env.drop (M.Control.Env.length-(k+1))=n::M.Control.Env.drop (M.Control.Env.length-k):=by
      have:=List.drop_eq_getElem_cons hlt;rw [show M.Control.Env.length-1-k+1=M.Control.Env.length-k by omega,←hn,show M.Control.Env.length-1-k=M.Control.Env.length-(k+1) by omega] at this;exact this
     rw [e];simpa using hN3
    ·rintro g ⟨gN,gK⟩;refine Sem.of (by kernel_rfl) ?_;obtain ⟨si,hi,js,hN⟩:=gN;simp only [bitvec_to_nat,Nat.reduceBEq,go_sem];rw [w7 v0];simp only [gMp,gEg hvl,oMs,go_sem];simp only [qD];simp only [bitvec_to_nat,Nat.reduceBEq,go_sem];refine qK qLS ?_;simp only [bitvec_to_nat,Nat.reduceBEq,go_sem];refine qp rfl hN.o rfl (z9 hj rfl) ?_;simp only [bitvec_to_nat,Nat.reduceBEq,go_sem];refine Sem.reg (by kernel_rfl) ?_;obtain ⟨n1,n2⟩:=hN.struct (post':=post) (M':=({M.pop with Stack:=M.pop.Stack++(M.Control.Env.drop (M.Control.Env.length-M.Control.Env.length)).reverse.map (fr 2)}:qG).toRef M.top.Data[M.Control.Term.Value.toNat]) (js':=js) rfl rfl;simp only [bitvec_to_nat,Nat.reduceBEq,go_sem];exact ⟨_,_,.refl _,WkH.set JN,hK _ ⟨_,_,_,n1⟩ (hK1.trans (k2.trans (gK.trans n2)))⟩
   ·have n5:¬M.Control.Term.Value<M.top.Data.length:=by simpa using hc
    simp only [bitvec_to_nat,Nat.reduceBEq,go_sem];refine Sem.reg (by kernel_rfl) ?_;simp only [bitvec_to_nat,Nat.reduceBEq,go_sem];exact ⟨_,_,.refl _,.refl _,none (by
     unfold qG.meet;rw [if_neg h1n,if_neg (by omega),if_neg (by omega),if_neg (by omega),if_neg (by omega),if_neg (fun q=>n5 q.2.2)])⟩
  ·have n5:¬M.top.Kind=5:=by simpa using hc
   simp only [bitvec_to_nat,Nat.reduceBEq,go_sem];refine Sem.reg (by kernel_rfl) ?_;simp only [bitvec_to_nat,Nat.reduceBEq,go_sem];exact ⟨_,_,.refl _,.refl _,none (by
    unfold qG.meet;rw [if_neg h1n,if_neg (by omega),if_neg (by omega),if_neg (by omega),if_neg (by omega),if_neg (by omega)])⟩
end
section
variable {P:Nat→Prop} {w:Nat} {pre post:List AV} {id j:Nat} {h:List qC} {M:qG} {K:AV→List qC→Prop} {b:qO}
theorem s830 (hj:pre.length=j) (hN:NSx P w pre post id h M) (hb:BI b) (hM:MI b M) (hv:M.Control.val=false)
  (hK:∀h',NSx P w pre post id h' (M.eval b).2→Keep P h h'→K (.int .i64 (M.eval b).1) h'):SCall Gm 830 [.ptr id 0 j,b.enc] h K:=by
 have hN0:=hN;obtain ⟨si,hi,js,hN⟩:=hN;have sl:=hM.sl;have hhl:=hM.hl;have ht:=hM.c.t;have hen:=hM.c.l;have hkn:=ht.kinds;have hlens:=WE ht.ok;have hcase:M.Control.Term.Kind=1∨M.Control.Term.Kind=5∨M.Control.Term.Kind=3∨M.Control.Term.Kind=9∨M.Control.Term.Kind=10∨M.Control.Term.Kind=11∨M.Control.Term.Kind=8:=by
  have h4:¬(M.Control.Term.Kind=4∨M.Control.Term.Kind=2):=fun q=>by unfold qI.val at hv;rw [if_pos q] at hv;cases hv
  omega
 have hMI0:∀{i:Nat} (hi:i<M.Control.Term.Kids.length),¬M.Control.Term.Kind=4→M.Control.Term.Kids[i].Kind=1→0≤M.Control.Term.Kids[i].Value∧M.Control.Term.Kids[i].Value.toNat<M.Control.Env.length:=fun hi h4 h1=>(ht.kid0 h4 hi).var h1;refine SCall.runW [] [] g830 (by kernel_rfl) rfl ?_;simp only [VC,qP,go_sem];refine qW rfl ?_;simp only [go_sem];simp only [hN.o,Nat.add_zero,ne0 hj,ne1 hj,ne2 hj,ne3 hj,ne4 hj,ne5 hj,ne6 hj,neT hj,neC hj,go_sem];refine qf (k:=4) rfl qA.ln ⟨_,qA.enc_eq _⟩ (by decide) ?_;simp only [go_sem];rcases hcase with hk | hk | hk | hk | hk | hk | hk
 ·obtain ⟨v0,v1⟩:=ht.var hk;obtain ⟨a0,a1⟩:=hM.c.e _ (gMm v1);have em:M.eval b=((2:Int),M.enter M.Control.Env[M.Control.Term.Value.toNat]):=by unfold qG.eval;simp only [hk,Int.reduceEq,if_false,if_true,zj v1]
  rw [em] at hK;simp only [hk,Int.reduceEq,decide_true,decide_false,bitvec_to_nat,Nat.reduceBEq,go_sem];simp only [hN.o,Nat.add_zero,ne0 hj,ne1 hj,ne2 hj,ne3 hj,ne4 hj,ne5 hj,ne6 hj,neT hj,neC hj,go_sem];rw [w7 v0];simp only [gMp,gEg v1,oMs,go_sem];simp only [qD];simp only [bitvec_to_nat,Nat.reduceBEq,go_sem];refine qe (qaE hj hN0 (by omega) _ a0 (by omega) fun h2 hN2 k2=> ?_);simp only [bitvec_to_nat,Nat.reduceBEq,go_sem];exact ⟨_,_,.refl _,.refl _,hK _ hN2 k2⟩
 ·have hl:=hlens.1 (.inr (.inl hk));have hl0:0<M.Control.Term.Kids.length:=by omega
  have hl1:1<M.Control.Term.Kids.length:=by omega
  have em:M.eval b=((1:Int),(((M.addr M.Control.Term.Kids[1]).2).push (fr 2 (M.addr M.Control.Term.Kids[1]).1)).ctl ⟨M.Control.Term.Kids[0],M.Control.Env⟩):=by
   unfold qG.eval;simp only [hk,Int.reduceEq,if_false,if_true,jC hl0,jC hl1]
  rw [em] at hK;simp only [hk,Int.reduceEq,decide_true,decide_false,bitvec_to_nat,Nat.reduceBEq,go_sem];simp only [gMp,gEg hl1,oMs,go_sem];obtain ⟨_,q2,_,q4,_,_,q7⟩:=hM.toMI0.addr (ht.kid0 (by omega) hl1);refine qe (qRU hj hN0 (by omega) M.Control.Term.Kids[1] (hMI0 hl1 (by omega)) fun h2 hN2 k2=> ?_);simp only [bitvec_to_nat,Nat.reduceBEq,go_sem];refine qe (SCall.arg (.same (.cons frW .nil)) (Jy Jl hj hN2 (by rw [q7];omega) (fr 2 (M.addr M.Control.Term.Kids[1]).1) fun h3 hN3 k3=> ?_));simp only [bitvec_to_nat,Nat.reduceBEq,go_sem];simp only [gMp,gEg hl0,oMs,go_sem];refine qe (Ul hj hN3 M.Control.Term.Kids[0] fun h4 hN4 k4=> ?_);simp only [bitvec_to_nat,Nat.reduceBEq,go_sem];simp only [q2] at hN4;exact ⟨_,_,.refl _,.refl _,hK _ hN4 (k2.trans (k3.trans k4))⟩
 ·have hl:=hlens.1 (.inl hk);have hl0:0<M.Control.Term.Kids.length:=by omega
  have hl1:1<M.Control.Term.Kids.length:=by omega
  have em:M.eval b=((1:Int),(M.push ⟨3,M.Control.Term.Value,[],⟨M.Control.Term.Kids[1],M.Control.Env⟩⟩).ctl ⟨M.Control.Term.Kids[0],M.Control.Env⟩):=by
   unfold qG.eval;simp only [hk,Int.reduceEq,if_false,if_true,jC hl0,jC hl1]
  rw [em] at hK;simp only [hk,Int.reduceEq,decide_true,decide_false,bitvec_to_nat,Nat.reduceBEq,go_sem];simp only [gMp,gEg hl1,oMs,go_sem];simp only [hN.o,Nat.add_zero,ne0 hj,ne1 hj,ne2 hj,ne3 hj,ne4 hj,ne5 hj,ne6 hj,neT hj,neC hj,go_sem];refine qe (SCall.arg (.same (.cons (.agg (.same (.same (.cons .nilL (.refl _))))) .nil)) (Jy Jl hj hN0 (by omega) ⟨3,M.Control.Term.Value,[],⟨M.Control.Term.Kids[1],M.Control.Env⟩⟩ fun h3 hN3 k3=> ?_));simp only [bitvec_to_nat,Nat.reduceBEq,go_sem];simp only [gMp,gEg hl0,oMs,go_sem];refine qe (Ul hj hN3 M.Control.Term.Kids[0] fun h4 hN4 k4=> ?_);simp only [bitvec_to_nat,Nat.reduceBEq,go_sem];exact ⟨_,_,.refl _,.refl _,hK _ hN4 (k3.trans k4)⟩
 ·have hl:=hlens.2 (.inr (.inr (.inl hk)));have hl0:0<M.Control.Term.Kids.length:=by omega
  have em:M.eval b=((1:Int),(M.push ⟨5,0,M.Control.Term.Data,noC⟩).ctl ⟨M.Control.Term.Kids[0],M.Control.Env⟩):=by
   unfold qG.eval;simp only [hk,Int.reduceEq,if_false,if_true,jC hl0]
  rw [em] at hK;simp only [hk,Int.reduceEq,decide_true,decide_false,bitvec_to_nat,Nat.reduceBEq,go_sem];refine qe (SCall.arg (.same (.cons Vw .nil)) (Jy Jl hj hN0 (by omega) ⟨5,0,M.Control.Term.Data,noC⟩ fun h3 hN3 k3=> ?_));simp only [bitvec_to_nat,Nat.reduceBEq,go_sem];simp only [gMp,gEg hl0,oMs,go_sem];refine qe (Ul hj hN3 M.Control.Term.Kids[0] fun h4 hN4 k4=> ?_);simp only [bitvec_to_nat,Nat.reduceBEq,go_sem];exact ⟨_,_,.refl _,.refl _,hK _ hN4 (k3.trans k4)⟩
 ·have hl:=hlens.2 (.inr (.inr (.inr hk)));have hl0:0<M.Control.Term.Kids.length:=by omega
  have em:M.eval b=((1:Int),(M.push ⟨6,0,M.Control.Term.Data,noC⟩).ctl ⟨M.Control.Term.Kids[0],M.Control.Env⟩):=by
   unfold qG.eval;simp only [hk,Int.reduceEq,if_false,if_true,jC hl0]
  rw [em] at hK;simp only [hk,Int.reduceEq,decide_true,decide_false,bitvec_to_nat,Nat.reduceBEq,go_sem];refine qe (SCall.arg (.same (.cons Vw .nil)) (Jy Jl hj hN0 (by omega) ⟨6,0,M.Control.Term.Data,noC⟩ fun h3 hN3 k3=> ?_));simp only [bitvec_to_nat,Nat.reduceBEq,go_sem];simp only [gMp,gEg hl0,oMs,go_sem];refine qe (Ul hj hN3 M.Control.Term.Kids[0] fun h4 hN4 k4=> ?_);simp only [bitvec_to_nat,Nat.reduceBEq,go_sem];exact ⟨_,_,.refl _,.refl _,hK _ hN4 (k3.trans k4)⟩
 ·obtain ⟨v0,v1⟩:=ht.ref hk;have hvl:M.Control.Term.Value.toNat<b.Defs.length:=by omega
  have em:M.eval b=((7:Int),M.ctl ⟨b.Defs[M.Control.Term.Value.toNat],[]⟩):=by
   unfold qG.eval;simp only [hk,Int.reduceEq,if_false,if_true,zj hvl]
  rw [em] at hK;simp only [hk,Int.reduceEq,decide_true,decide_false,bitvec_to_nat,Nat.reduceBEq,go_sem];rw [w7 v0];simp only [gMp,gEg hvl,oMs,go_sem];simp only [Nat.add_zero];refine qp rfl hN.o rfl (z9 hj rfl) ?_;simp only [bitvec_to_nat,Nat.reduceBEq,go_sem];obtain ⟨n1,n2⟩:=hN.struct (post':=post) (M':=M.ctl ⟨b.Defs[M.Control.Term.Value.toNat],[]⟩) (js':=js) rfl rfl;exact ⟨_,_,.refl _,WkH.set JN,hK _ ⟨_,_,_,n1⟩ n2⟩
 ·have em:M.eval b=((8:Int),M.build M.Control.Term):=by
   unfold qG.eval;simp only [hk,Int.reduceEq,if_false,if_true]
  rw [em] at hK;simp only [hk,Int.reduceEq,decide_true,decide_false,bitvec_to_nat,Nat.reduceBEq,go_sem];refine qe (qaF hj hN0 M.Control.Term (by have:=ht.lens;omega) (by omega) (fun k hk' h1=>by
   obtain ⟨i,hi,rfl⟩:=List.mem_iff_getElem.1 hk';exact hMI0 hi (by omega) h1) fun h2 hN2 k2=> ?_)
  simp only [bitvec_to_nat,Nat.reduceBEq,go_sem];exact ⟨_,_,.refl _,.refl _,hK _ hN2 k2⟩
theorem s466 (hj:pre.length=j) (hN:NSx P w pre post id h M) (hb:BI b) (hM:MI b M) (hd:M.done=false)
  (hK:∀h',NSx P w pre post id h' (M.step b).2.2→Keep P h h'→K (.tup [.int .i64 (M.step b).1,.int .i64 (M.step b).2.1]) h'):SCall Gm 466 [.ptr id 0 j,b.enc] h K:=by
 have hz:M.Control.sz≤1048576:=by have:=hM.c.t.sz;have:=hM.c.l;unfold qI.sz;omega
 refine SCall.run [] [] g466 (by kernel_rfl) rfl ?_;simp only [Xu,qP,go_sem];refine qW rfl ?_;simp only [go_sem];refine qe (s670 hj hN hz ?_);rw [hd];simp only [go_sem];have hN0:=hN;obtain ⟨si,hi,js,hN⟩:=hN;simp only [hN.o,Nat.add_zero,ne0 hj,ne1 hj,ne2 hj,ne3 hj,ne4 hj,ne5 hj,ne6 hj,neT hj,neC hj,go_sem];refine qK (c673 hz) ?_;simp only [go_sem];clear hN si hi js;have es:M.step b=if (M.move b).1=0 then (0,5,(M.move b).2) else if 2000<(M.move b).2.Heap.length∨400<(M.move b).2.Stack.length∨256<(M.move b).2.Control.Env.length then (0,4,(M.move b).2) else ((M.move b).1,0,(M.move b).2):=rfl;refine qM ?_ ?_<;>intro hc<;>simp only [hc,go_sem]
 ·have hv:M.Control.val=true:=hc;have hmv:M.move b=M.meet:=by unfold qG.move;rw [if_pos hv]
  rw [hmv] at es;refine qe (s829 hj hN0 hb hM hv (MI.pos hd hv) fun h2 hN2 k2=> ?_);generalize M.meet=r at*;simp only [go_sem];refine qM ?_ ?_<;>intro hc<;>simp only [hc,go_sem]
  ·rw [es,if_pos (odT hc)] at hK;exact hK _ hN2 k2
  have h0:=odF hc;rw [es,if_neg h0] at hK;obtain ⟨si,hi,js,hN⟩:=hN2;clear hmv;obtain ⟨k,M⟩:=r;simp only at hN hK;simp only [hN.o,Nat.add_zero,ne0 hj,ne1 hj,ne2 hj,ne3 hj,ne4 hj,ne5 hj,ne6 hj,neT hj,neC hj,go_sem];refine qY ?_ ?_<;>intro hc<;>simp only [hc,go_sem]
  ·have g1:=odF hc;simp only [hN.o,Nat.add_zero,ne0 hj,ne1 hj,ne2 hj,ne3 hj,ne4 hj,ne5 hj,ne6 hj,neT hj,neC hj,go_sem];refine qY ?_ ?_<;>intro hc<;>simp only [hc,go_sem]
   ·have g2:=odF hc;simp only [hN.o,Nat.add_zero,ne0 hj,ne1 hj,ne2 hj,ne3 hj,ne4 hj,ne5 hj,ne6 hj,neT hj,neC hj,go_sem];refine qM ?_ ?_<;>intro hc<;>simp only [hc,go_sem]
    ·have g3:=odT hc;rw [if_pos (by omega)] at hK;exact hK _ ⟨_,_,_,hN⟩ k2
    ·have g3:=odF hc;rw [if_neg (by omega)] at hK;exact hK _ ⟨_,_,_,hN⟩ k2
   ·have g2:=odT (by simpa using hc);rw [if_pos (by omega)] at hK;exact hK _ ⟨_,_,_,hN⟩ k2
  ·have g1:=odT (by simpa using hc);rw [if_pos (by omega)] at hK;exact hK _ ⟨_,_,_,hN⟩ k2
 ·have hv:M.Control.val=false:=hc;have hmv:M.move b=M.eval b:=JX hv;rw [hmv] at es;refine qe (s830 hj hN0 hb hM hv fun h2 hN2 k2=> ?_);generalize M.eval b=r at*;simp only [go_sem];refine qM ?_ ?_<;>intro hc<;>simp only [hc,go_sem]
  ·rw [es,if_pos (odT hc)] at hK;exact hK _ hN2 k2
  have h0:=odF hc;rw [es,if_neg h0] at hK;obtain ⟨si,hi,js,hN⟩:=hN2;clear hmv;obtain ⟨k,M⟩:=r;simp only at hN hK;simp only [hN.o,Nat.add_zero,ne0 hj,ne1 hj,ne2 hj,ne3 hj,ne4 hj,ne5 hj,ne6 hj,neT hj,neC hj,go_sem];refine qY ?_ ?_<;>intro hc<;>simp only [hc,go_sem]
  ·have g1:=odF hc;simp only [hN.o,Nat.add_zero,ne0 hj,ne1 hj,ne2 hj,ne3 hj,ne4 hj,ne5 hj,ne6 hj,neT hj,neC hj,go_sem];refine qY ?_ ?_<;>intro hc<;>simp only [hc,go_sem]
   ·have g2:=odF hc;simp only [hN.o,Nat.add_zero,ne0 hj,ne1 hj,ne2 hj,ne3 hj,ne4 hj,ne5 hj,ne6 hj,neT hj,neC hj,go_sem];refine qM ?_ ?_<;>intro hc<;>simp only [hc,go_sem]
    ·have g3:=odT hc;rw [if_pos (by omega)] at hK;exact hK _ ⟨_,_,_,hN⟩ k2
    ·have g3:=odF hc;rw [if_neg (by omega)] at hK;exact hK _ ⟨_,_,_,hN⟩ k2
   ·have g2:=odT (by simpa using hc);rw [if_pos (by omega)] at hK;exact hK _ ⟨_,_,_,hN⟩ k2
  ·have g1:=odT (by simpa using hc);rw [if_pos (by omega)] at hK;exact hK _ ⟨_,_,_,hN⟩ k2
end
structure IS (P:Nat→Prop) (ci cid nid id:Nat) (h:List qC) (M:qG) (cs:List Int) (l n:Nat):Prop where
 m:NSx (fun i=>P i∨i=ci∨i=cid∨i=nid) 7 [] [] id h M
 c:h[ci]?=some (.row 1 (cs.map qD) true)
 o:h[cid]?=some (.row 2 [.agg [.slice 1 ci 0 4 false,.int .i64 (l:Nat)]] true)
 q:h[nid]?=some (.row 1 [.int .i64 (n:Nat)] true)
 d1:ci≠cid
 d2:ci≠nid
 d3:cid≠nid
 p1:¬P ci
 p2:¬P cid
 p3:¬P nid
 k:cs.length=4
section
variable {P Q:Nat→Prop} {b:qO} {ci cid nid id:Nat} {h h':List qC} {M M':qG} {cs cs':List Int} {l n l' n':Nat} {K:AV→List qC→Prop}
theorem IS.pl (hF:IS P ci cid nid id h M cs l n) {i:Nat} (hi:P i):i<h.length:=hF.m.pl (.inl hi)
theorem IS.go (hF:IS P ci cid nid id h M cs l n) (hN:NSx (fun i=>P i∨i=ci∨i=cid∨i=nid) 7 [] [] id h' M') (hk:Keep (fun i=>P i∨i=ci∨i=cid∨i=nid) h h'):IS P ci cid nid id h' M' cs l n∧Keep P h h':=
 ⟨⟨hN,(hk.2 ci (.inr (.inl rfl))).trans hF.c,(hk.2 cid (.inr (.inr (.inl rfl)))).trans hF.o,(hk.2 nid (.inr (.inr (.inr rfl)))).trans hF.q,hF.d1,hF.d2,hF.d3,hF.p1,hF.p2,hF.p3,hF.k⟩,hk.sub fun _=>.inl⟩
theorem IS.out (hF:IS P ci cid nid id h M cs l n) (ho:Outs P h h') (hq:∀j,Q j→(P j∨h.length≤j)∧j<h'.length):IS Q ci cid nid id h' M cs l n:=by
 have c1:=qc hF.c;have c2:=qc hF.o;have c3:=qc hF.q;have hn:∀i,i<h.length→¬P i→¬Q i:=fun i hi hp q=>by
  rcases (hq _ q).1 with q | q
  ·exact hp q
  ·omega
 refine ⟨hF.m.out (P:=fun i=>P i∨i=ci∨i=cid∨i=nid) ⟨ho.1,fun j hj hnj=>ho.2 j hj fun q=>hnj (.inl q)⟩ fun j hj=> ?_,(ho.2 ci c1 hF.p1).trans hF.c,(ho.2 cid c2 hF.p2).trans hF.o,(ho.2 nid c3 hF.p3).trans hF.q,hF.d1,hF.d2,hF.d3,hn _ c1 hF.p1,hn _ c2 hF.p2,hn _ c3 hF.p3,hF.k⟩;have:=ho.1;rcases hj with hj | rfl | rfl | rfl
 ·obtain ⟨q1,q2⟩:=hq j hj;exact ⟨q1.elim (fun q=>.inl (.inl q)) .inr,q2⟩
 ·exact ⟨.inl (.inr (.inl rfl)),by omega⟩
 ·exact ⟨.inl (.inr (.inr (.inl rfl))),by omega⟩
 ·exact ⟨.inl (.inr (.inr (.inr rfl))),by omega⟩
theorem IS.mset (hF:IS P ci cid nid id h M cs l n) {x:Nat} {o:qC} (hx:x=ci∨x=cid∨x=nid):NSx (fun i=>P i∨i=ci∨i=cid∨i=nid) 7 [] [] id (h.set x o) M∧Keep P h (h.set x o):=by
 refine ⟨hF.m.out (P:=fun i=>P i∨i=ci∨i=cid∨i=nid) ⟨by simp,fun j hj hnj=>by rw [gSn];rintro rfl;exact hnj (.inr hx)⟩ fun j hj=>⟨.inl hj,by rw [List.length_set];exact hF.m.pl hj⟩,by simp,fun j hj=> ?_⟩;rw [gSn];rintro rfl;rcases hx with rfl | rfl | rfl
 ·exact hF.p1 hj
 ·exact hF.p2 hj
 ·exact hF.p3 hj
theorem IS.left (hF:IS P ci cid nid id h M cs l n) (l':Nat):IS P ci cid nid id (h.set cid (.row 2 [.agg [.slice 1 ci 0 4 false,.int .i64 (l':Nat)]] true)) M cs l' n∧Keep P h (h.set cid (.row 2 [.agg [.slice 1 ci 0 4 false,.int .i64 (l':Nat)]] true)):=by
 obtain ⟨n1,n2⟩:=hF.mset (x:=cid) (o:=.row 2 [.agg [.slice 1 ci 0 4 false,.int .i64 (l':Nat)]] true) (.inr (.inl rfl));exact ⟨⟨n1,by rw [gSn (Ne.symm hF.d1)];exact hF.c,by rw [List.getElem?_set,if_pos rfl,if_pos (qc hF.o)],by rw [gSn hF.d3];exact hF.q,hF.d1,hF.d2,hF.d3,hF.p1,hF.p2,hF.p3,hF.k⟩,n2⟩
theorem IS.nodes (hF:IS P ci cid nid id h M cs l n) (n':Nat):IS P ci cid nid id (h.set nid (.row 1 [.int .i64 (n':Nat)] true)) M cs l n'∧Keep P h (h.set nid (.row 1 [.int .i64 (n':Nat)] true)):=by
 obtain ⟨n1,n2⟩:=hF.mset (x:=nid) (o:=.row 1 [.int .i64 (n':Nat)] true) (.inr (.inr rfl));exact ⟨⟨n1,by rw [gSn (Ne.symm hF.d2)];exact hF.c,by rw [gSn (Ne.symm hF.d3)];exact hF.o,by rw [List.getElem?_set,if_pos rfl,if_pos (qc hF.q)],hF.d1,hF.d2,hF.d3,hF.p1,hF.p2,hF.p3,hF.k⟩,n2⟩
theorem IS.cnts (hF:IS P ci cid nid id h M cs l n) (hl:cs'.length=4):IS P ci cid nid id (h.set ci (.row 1 (cs'.map qD) true)) M cs' l n∧Keep P h (h.set ci (.row 1 (cs'.map qD) true)):=by
 obtain ⟨n1,n2⟩:=hF.mset (x:=ci) (o:=.row 1 (cs'.map qD) true) (.inl rfl);exact ⟨⟨n1,by rw [List.getElem?_set,if_pos rfl,if_pos (qc hF.c)],by rw [gSn hF.d1];exact hF.o,by rw [gSn hF.d2];exact hF.q,hF.d1,hF.d2,hF.d3,hF.p1,hF.p2,hF.p3,hl⟩,n2⟩
theorem IS.junk (hF:IS P ci cid nid id h M cs l n) {o:qC}:IS P ci cid nid id (h++[o]) M cs l n∧Keep P h (h++[o]):=
 ⟨hF.out ⟨by simp,fun j hj _=>gAl hj⟩ fun j hj=>⟨.inl hj,by have:=hF.pl hj;simp;omega⟩,by simp,fun j hj=>gAl (hF.pl hj)⟩
theorem qWK {kd:Int} (h:0≤kd∧kd≤8):jW (fun k=>decide (kd=k)) [4,5,6,7] 0=if 4≤kd∧kd≤7 then kd-4 else-1:=by
 have:kd=0∨kd=1∨kd=2∨kd=3∨kd=4∨kd=5∨kd=6∨kd=7∨kd=8:=by omega
 rcases this with rfl | rfl | rfl | rfl | rfl | rfl | rfl | rfl | rfl<;>rfl
end
section
variable {μ μ':List (Option Nat)} {h h':List qC}
theorem VR2s.hd {a b:AV} {as bs:List AV} (x:VR2s μ (a::as) (b::bs)):VR2 μ a b∧VR2s μ as bs:=
 ⟨x.2 (a,b) (by simp),by have:=x.1;simpa using this,fun p hp=>x.2 p (by simp only [List.zip_cons_cons];exact List.mem_cons_of_mem _ hp)⟩
theorem VR2.aggs {v:AV} {ds:List AV} (x:VR2 μ v (.agg ds)):∃cs,v=.agg cs∧VR2s μ cs ds:=by
 cases x with
 | tree ht=>exact ⟨ds,rfl,VR2s.trees (by simpa only [AV.tree] using ht)⟩
 | agg hl hc=>exact ⟨_,rfl,hl,hc⟩
theorem VR2.tups {v:AV} {ds:List AV} (x:VR2 μ v (.tup ds)):∃cs,v=.tup cs∧VR2s μ cs ds:=by
 cases x with
 | tree ht=>exact ⟨ds,rfl,VR2s.trees (by simpa only [AV.tree] using ht)⟩
 | tup hl hc=>exact ⟨_,rfl,hl,hc⟩
theorem VR2.slc0 {v:AV} {w a b n:Nat} (h:μ'[b]?=μ[a]?) (x:VR2 μ v (.slice w a 0 n false)):VR2 μ' v (.slice w b 0 n false):=by
 cases x with
 | tree ht=>simp [AV.tree] at ht
 | slice hm=>exact .slice (h.trans hm)
 | ph hm=>exact .ph (h.trans hm)
 | ph2 hm=>exact .ph2 (h.trans hm)
mutual
theorem VR2.move:∀(t:AV) (a b:Nat) (v:AV),t.pl=true→(∀i,i<t.rows→μ'[b+i]?=μ[a+i]?)→VR2 μ v (lay t a).1→VR2 μ' v (lay t b).1
 |.lst w xs c,a,b,v,hp,hm,hv=>by
  simp only [lay] at hv⊢;exact hv.slc0 (by have:=hm 0 (by simp only [AV.rows];omega);simpa using this)
 |.agg xs,a,b,v,hp,hm,hv=>by
  simp only [lay] at hv⊢;obtain ⟨cs,rfl,hc⟩:=hv.aggs;have:=VR2.moves xs a b cs hp hm hc;exact .agg this.1 this.2
 |.tup xs,a,b,v,hp,hm,hv=>by
  simp only [lay] at hv⊢;obtain ⟨cs,rfl,hc⟩:=hv.tups;have:=VR2.moves xs a b cs hp hm hc;exact .tup this.1 this.2
 |.bool _,_,_,_,_,_,hv |.int _ _,_,_,_,_,_,hv |.str _,_,_,_,_,_,hv |.nilp,_,_,_,_,_,hv |.nils,_,_,_,_,_,hv |.nilm,_,_,_,_,_,hv |.nilf,_,_,_,_,_,hv |.nili,_,_,_,_,_,hv=>by
  simp only [lay] at hv⊢;cases hv;exact .tree (by rfl)
 |.any,_,_,_,hp,_,_ |.ptr _ _ _,_,_,_,hp,_,_ |.slice _ _ _ _ _,_,_,_,hp,_,_ |.map _,_,_,_,hp,_,_ |.ept _ _,_,_,_,hp,_,_ |.fn _ _,_,_,_,hp,_,_ |.iface _ _,_,_,_,hp,_,_=>by cases hp
theorem VR2.moves:∀(xs:List AV) (a b:Nat) (vs:List AV),AV.pls xs=true→(∀i,i<AV.rowss xs→μ'[b+i]?=μ[a+i]?)→VR2s μ vs (qS xs a).1→VR2s μ' vs (qS xs b).1
 |[],a,b,vs,_,_,hv=>by
  have:vs=[]:=List.eq_nil_of_length_eq_zero hv.1;subst this;exact VR2s.nil
 | x::xs,a,b,vs,hp,hm,hv=>by
  simp only [AV.pls,bAt] at hp;simp only [AV.rowss] at hm;simp only [qS,qV] at hv⊢;cases vs with
  | nil=>have:=hv.1;simp at this
  | cons v vs=>
   obtain ⟨h1,h2⟩:=hv.hd;refine .cons (VR2.move x a b v hp.1 (fun i hi=>hm i (by omega)) h1) (VR2.moves xs _ _ vs hp.2 (fun i hi=> ?_) h2);rw [show b+x.rows+i=b+(x.rows+i) by omega,show a+x.rows+i=a+(x.rows+i) by omega];exact hm _ (by omega)
end
mutual
theorem OR2.move:∀(t:AV) (a b:Nat),t.pl=true→(∀i,i<t.rows→μ'[b+i]?=μ[a+i]?)→∀(i:Nat) (j:Option Nat) (o o':qC),(lay t a).2[i]?=some o→(lay t b).2[i]?=some o'→OR2 μ h j o→OR2 μ' h j o'
 |.lst w xs c,a,b,hp,hm,i,j,o,o',h1,h2,ho=>by
  simp only [lay] at h1 h2;simp only [AV.rows] at hm;have hm':∀i,i<AV.rowss xs→μ'[b+1+i]?=μ[a+1+i]?:=fun i hi=>by
   rw [show b+1+i=b+(i+1) by omega,show a+1+i=a+(i+1) by omega];exact hm _ (by omega)
  cases i with
  | zero=>
   simp only [List.getElem?_cons_zero,oSi] at h1 h2;subst h1 h2;generalize he:(qS xs (a+1)).1=el at ho;cases ho with
   | ph=>
    have:xs=[]:=List.eq_nil_of_length_eq_zero (by rw [←jQ xs (a+1),he];rfl);subst this;exact .ph
   | row hr hv=>
    rw [←he] at hv;exact .row hr (VR2.moves xs _ _ _ hp hm' hv)
  | succ i=>
   simp only [List.getElem?_cons_succ] at h1 h2;exact OR2.moves xs (a+1) (b+1) hp hm' i j o o' h1 h2 ho
 |.agg xs,a,b,hp,hm,i,j,o,o',h1,h2,ho=>by
  simp only [lay] at h1 h2;exact OR2.moves xs a b hp hm i j o o' h1 h2 ho
 |.tup xs,a,b,hp,hm,i,j,o,o',h1,h2,ho=>by
  simp only [lay] at h1 h2;exact OR2.moves xs a b hp hm i j o o' h1 h2 ho
 |.bool _,_,_,_,_,_,_,_,_,h1,_,_ |.int _ _,_,_,_,_,_,_,_,_,h1,_,_ |.str _,_,_,_,_,_,_,_,_,h1,_,_ |.nilp,_,_,_,_,_,_,_,_,h1,_,_ |.nils,_,_,_,_,_,_,_,_,h1,_,_ |.nilm,_,_,_,_,_,_,_,_,h1,_,_ |.nilf,_,_,_,_,_,_,_,_,h1,_,_ |.nili,_,_,_,_,_,_,_,_,h1,_,_=>by
  simp [lay] at h1
 |.any,_,_,hp,_,_,_,_,_,_,_,_ |.ptr _ _ _,_,_,hp,_,_,_,_,_,_,_,_ |.slice _ _ _ _ _,_,_,hp,_,_,_,_,_,_,_,_ |.map _,_,_,hp,_,_,_,_,_,_,_,_ |.ept _ _,_,_,hp,_,_,_,_,_,_,_,_ |.fn _ _,_,_,hp,_,_,_,_,_,_,_,_ |.iface _ _,_,_,hp,_,_,_,_,_,_,_,_=>by cases hp
theorem OR2.moves:∀(xs:List AV) (a b:Nat),AV.pls xs=true→(∀i,i<AV.rowss xs→μ'[b+i]?=μ[a+i]?)→∀(i:Nat) (j:Option Nat) (o o':qC),(qS xs a).2[i]?=some o→(qS xs b).2[i]?=some o'→OR2 μ h j o→OR2 μ' h j o'
 |[],_,_,_,_,_,_,_,_,h1,_,_=>by simp [qS] at h1
 | x::xs,a,b,hp,hm,i,j,o,o',h1,h2,ho=>by
  simp only [AV.pls,bAt] at hp;simp only [AV.rowss] at hm;simp only [qS,qV] at h1 h2;rcases Nat.lt_or_ge i x.rows with q | q
  ·rw [gAl (by rw [qV];exact q)] at h1 h2;exact OR2.move x a b hp.1 (fun i hi=>hm i (by omega)) i j o o' h1 h2 ho
  ·rw [gAr (by rw [qV];exact q),qV] at h1 h2;refine OR2.moves xs (a+x.rows) (b+x.rows) hp.2 (fun i hi=> ?_) (i-x.rows) j o o' h1 h2 ho;rw [show b+x.rows+i=b+(x.rows+i) by omega,show a+x.rows+i=a+(x.rows+i) by omega];exact hm _ (by omega)
end
theorem qYX {r:List (Option Nat)} {t:AV} {a b:Nat} (hp:t.pl=true) (hm:∀i,i<t.rows→μ'[b+i]?=μ[a+i]?) (ho:zy μ h r (lay t a).2):zy μ' h r (lay t b).2:=by
 have hl:=JZ ho;rw [qV] at hl;refine Q8 (by rw [hl,qV]) fun i j o' h1 h2=> ?_;have hi:i<(lay t a).2.length:=by have:=(gSi.1 h2).1;rw [qV] at this⊢;exact this
 obtain ⟨j',hj,hor⟩:=Q6 ho i _ (gEg hi);rw [h1] at hj;cases hj;exact OR2.move t a b hp hm i j _ o' (gEg hi) h2 hor
theorem US {r:List (Option Nat)} {xs:List AV} {a b:Nat} (hp:AV.pls xs=true) (hm:∀i,i<AV.rowss xs→μ'[b+i]?=μ[a+i]?) (ho:zy μ h r (qS xs a).2):zy μ' h r (qS xs b).2:=by
 have hl:=JZ ho;rw [zO] at hl;refine Q8 (by rw [hl,zO]) fun i j o' h1 h2=> ?_;have hi:i<(qS xs a).2.length:=by have:=(gSi.1 h2).1;rw [zO] at this⊢;exact this
 obtain ⟨j',hj,hor⟩:=Q6 ho i _ (gEg hi);rw [h1] at hj;cases hj;exact OR2.moves xs a b hp hm i j _ o' (gEg hi) h2 hor
theorem WC:∀{r:List (Option Nat)} {os:List qC},(∀j,some j∈r→h'[j]?=h[j]?)→zy μ h r os→zy μ h' r os
 |[],[],_,k=>k
 | j::r,o::os,hh,k=>by
  refine ⟨?_,WC (fun i hi=>hh i (List.mem_cons_of_mem _ hi)) k.2⟩;have k1:=k.1;cases k1 with
  | dead=>exact .dead
  | ph=>exact .ph
  | row ho he=>exact .row ((hh _ (by simp)).trans ho) he
  | map ho hk hv=>exact .map ((hh _ (by simp)).trans ho) hk hv
 |[],_::_,_,k=>k.elim
 | _::_,[],_,k=>k.elim
theorem Zr:∀{a b:List (Option Nat)},zW a=true→zW b=true→(∀j,some j∈a→some j∉b)→zW (a++b)=true
 |[],b,_,hb,_=>hb
 | none::a,b,ha,hb,hn=>by
  simp only [List.cons_append,zW] at ha⊢;exact Zr ha hb fun j hj=>hn j (List.mem_cons_of_mem _ hj)
 | some j::a,b,ha,hb,hn=>by
  simp only [List.cons_append,zW,bAt,List.all_eq_true] at ha⊢;refine ⟨fun x hx=> ?_,Zr ha.2 hb fun j hj=>hn j (List.mem_cons_of_mem _ hj)⟩;rcases List.mem_append.1 hx with hx | hx
  ·exact ha.1 x hx
  ·cases x with
   | none=>rfl
   | some k=>
    have:j≠k:=by rintro rfl;exact hn j (by simp) hx
    have hb:Nat.beq j k=false:=by rw [←Bool.not_eq_true];intro q;exact this (Nat.eq_of_beq_eq_true q)
    simp only [hb];rfl
theorem qUS {k:Nat} {b:List (Option Nat)} (hb:zW b=true) (hn:some k∉b):zW (some k::b)=true:=by
 have:=Zr (a:=[some k]) (b:=b) rfl hb (fun j hj=>by simp at hj;subst hj;exact hn);exact this
end
structure JJ (S:List (Option Nat)) (h:List qC) (v:AV) (t:qA):Prop where
 d:zW S=true
 o:zy S h S (lay t.enc 0).2
 v:VR2 S v (lay t.enc 0).1
section
variable {S:List (Option Nat)} {h h':List qC} {v:AV} {t:qA}
theorem JJ.heap (hO:JJ S h v t) (hh:∀j,some j∈S→h'[j]?=h[j]?):JJ S h' v t:=⟨hO.d,WC hh hO.o,hO.v⟩
theorem JJ.len (hO:JJ S h v t):S.length=t.enc.rows:=by rw [JZ hO.o,qV]
theorem JJ.leaf {k x:Int}:JJ [none,none] h (.agg [.int .i64 k,.int .i64 x,.nils,.nils]) (.mk k x [] []):=by
 have e:lay (qA.mk k x [] []).enc 0=(.agg [.int .i64 k,.int .i64 x,.slice 1 0 0 0 false,.slice 4 1 0 0 false],[.row 1 [] true,.row 4 [] true]):=by
  simp [qA.layE,qA.Kind,qA.Value,qA.Data,qA.Kids,AV.rows,AV.rowss,lay,qS]
 refine ⟨rfl,by rw [e];exact ⟨.ph,.ph,trivial⟩, ?_⟩;rw [e];exact .agg rfl (VR2s.cons (.tree rfl) (VR2s.cons (.tree rfl) (VR2s.cons (.ph rfl) (VR2s.cons (.ph rfl) VR2s.nil)))).2
end
structure wQ (SS:List (Option Nat)) (h:List qC) (vs:List AV) (ts:List qA):Prop where
 d:zW SS=true
 o:zy (none::none::SS) h SS (qS (ts.map qA.enc) 2).2
 v:VR2s (none::none::SS) vs (qS (ts.map qA.enc) 2).1
section
variable {SS S:List (Option Nat)} {h h':List qC} {vs:List AV} {ts:List qA} {v:AV} {t:qA}
theorem wQ.nil:wQ [] h [] []:=⟨rfl,trivial,VR2s.nil⟩
theorem wQ.heap (hO:wQ SS h vs ts) (hh:∀j,some j∈SS→h'[j]?=h[j]?):wQ SS h' vs ts:=⟨hO.d,WC hh hO.o,hO.v⟩
theorem wQ.len (hO:wQ SS h vs ts):SS.length=AV.rowss (ts.map qA.enc):=by rw [JZ hO.o,zO]
theorem VR2s.app {μ:List (Option Nat)}:∀{as bs cs ds:List AV},VR2s μ as bs→VR2s μ cs ds→VR2s μ (as++cs) (bs++ds)
 |[],[],_,_,_,k=>k
 | a::as,b::bs,_,_,j,k=>VR2s.cons j.hd.1 (VR2s.app j.hd.2 k)
 |[],_::_,_,_,j,_=>by have:=j.1;simp at this
 | _::_,[],_,_,j,_=>by have:=j.1;simp at this
theorem plsC (ts:List qA):AV.pls (ts.map qA.enc)=true:=zH qA.plx ts
theorem wQ.snoc (hK:wQ SS h vs ts) (hO:JJ S h v t) (hn:∀j,some j∈SS→some j∉S):wQ (SS++S) h (vs++[v]) (ts++[t]):=by
 have l1:=hK.len;have l2:=hO.len;have e:(ts++[t]).map qA.enc=ts.map qA.enc++[t.enc]:=by simp
 have m1:∀i,i<AV.rowss (ts.map qA.enc)→(none::none::(SS++S))[2+i]?=(none::none::SS)[2+i]?:=fun i hi=>by
  rw [show 2+i=i+1+1 by omega];simp only [List.getElem?_cons_succ];rw [gAl (by omega)]
 have m2:∀i,i<t.enc.rows→(none::none::(SS++S))[2+AV.rowss (ts.map qA.enc)+i]?=S[0+i]?:=fun i hi=>by
  rw [show 2+AV.rowss (ts.map qA.enc)+i=(AV.rowss (ts.map qA.enc)+i)+1+1 by omega];simp only [List.getElem?_cons_succ];rw [gAr (by omega)];congr 1;omega
 refine ⟨Zr hK.d hO.d hn, ?_, ?_⟩
 ·rw [e,w8];refine Js (US (plsC ts) m1 hK.o) ?_;simp only [qS,lAn];exact qYX (qA.plx t) m2 hO.o
 ·rw [e,w8];refine VR2s.app (VR2.moves _ _ _ _ (plsC ts) m1 hK.v) ?_;simp only [qS];exact VR2s.cons (VR2.move _ _ _ _ (qA.plx t) m2 hO.v) VR2s.nil
end
section
variable {P Q:Nat→Prop} {b:qO} {ci cid nid id:Nat} {h:List qC} {M:qG} {cs:List Int} {l n:Nat} {K:AV→List qC→Prop}
structure VP where
 i:Nat
 g:List qC
 kr:Nat
 SS:List (Option Nat)
 vs:List AV
 ts:List qA
 M:qG
 cs:List Int
 l:Nat
 n:Nat
end
attribute [local simp] jA zU JE
theorem V4 {t:AV} {n:Nat} {pre post h:List qC} (hp:t.pl=true) (hc:t.cn=true) (hn:pre.length=n) (hh:h=pre++((lay t n).2++post)):Cv h (lay t n).1 t:=by
 subst hn;exact qMO hp hc hh
def KL (k:List Int):AV:=.lst 1 (k.map qD) false
theorem qN6 {k:List Int}:(KL k).pl=true:=by simp [KL,AV.pl,plsI]
theorem qN5 {k:List Int}:(KL k).cn=true:=by simp [KL,AV.cn,jc (enc:=qD) (fun _=>rfl)]
theorem qO9 (k:List Int):qE ctI k≤k.length:=by rw [wx];exact Nat.le_refl _
theorem c86K {k:List Int} (hk:k.length≤5):Pure Gm 86 [KL k,.lst 1 (k.map qD) false] (.bool true):=c86 k (by omega)
theorem k90K {k:List Int} {m:Int} (h0:0≤m) (hm:m≤2305843009213693952) (hk:k.length≤5):Mark Gm 90 (KL k) (KL (mkL mkI ctI k m)) m (m+(qE ctI k:Nat)):=
 k90 k m h0 (by have:=qO9 k;omega) (by omega)
theorem q92K {k:List Int} {m:Int} (h0:0≤m) (hm:m≤2305843009213693952) (hk:k.length≤5):Pure Gm 92 [KL (mkL mkI ctI k m),.int .i64 m] (.int .i64 (m+(qE ctI k:Nat))):=
 q92 k m h0 (by have:=qO9 k;omega) (by omega)
theorem qW0 {k:List Int} {m:Int} (n:Nat):(lay (KL (mkL mkI ctI k m)) n).1=(lay (KL k) n).1:=by simp [KL,lay,jL]
end Go.Ab
