/- Texts Tm20 .. Pg12: the abstract machine, its laws and contracts of functions: lemmas for the statement. No condition. -/
import Derived.Test.YtnkciijhchfbdaaGreatDoorP8
set_option linter.unusedSimpArgs false
set_option linter.unusedVariables false
namespace Go.Ab
open Go
set_option maxRecDepth 10000
set_option maxHeartbeats 2000000
structure TB(x:qA):Prop where
 n:x.Name.length<=20000
 t:x.Typ.bd
 tn:x.Typ.nd<=1048576
 tk:x.Typ.Kids.length<=4194304
 s:∀s∈x.Names,s.length<=20000
 l:x.Names.length<=1048576
 k:x.Kids.length<=4194304
theorem qYR{t:qA}(B:TB t):Pure Gm 1105 [.ept t.enc 0] (.bool (qU t)):=by
 refine pJ Yx ?_;simp only[Yx,qM,go_sem];have B1:t.Name.length<=4611686018427387904:=by have:=B.n;omega
 have z0:decide ((0:Int)<((t.Names.length:Nat):Int))= !decide (t.Names.length=0):=by
  by_cases h:t.Names.length=0
  ·simp[h]
  ·simp[h];omega
 have z3:decide ((3:Int)<((t.Names.length:Nat):Int))= !decide (t.Names.length<=3):=by
  by_cases h:t.Names.length<=3
  ·simp[h];omega
  ·simp[h];omega
 rcases K7 t.Kind with hk | hk | hk | hk | hk | hk | hk | hk | hk | hk | hk | ⟨h1,h2,h3,h4,h5,h6,h7,h8,h9,h10,h11⟩
 ·simp only[hk,Int.reduceEq,decide_true,decide_false,Bool.not_true,Bool.not_false,ge_iff_le,gt_iff_lt,z0,z3,go_sem];refine qK (Qm B1) ?_;cases hL:zg t.Name
  ·simp only[hk,Int.reduceEq,decide_true,decide_false,Bool.not_true,Bool.not_false,ge_iff_le,gt_iff_lt,z0,z3,go_sem];exact qH rfl (by simp[qU,hk,hL])
  simp only[hk,Int.reduceEq,decide_true,decide_false,Bool.not_true,Bool.not_false,ge_iff_le,gt_iff_lt,z0,z3,go_sem];refine qK (JG) ?_;cases hT:zb t.Typ
  ·simp only[hk,Int.reduceEq,decide_true,decide_false,Bool.not_true,Bool.not_false,ge_iff_le,gt_iff_lt,z0,z3,go_sem];exact qH rfl (by simp[qU,hk,hL,hT])
  simp only[hk,Int.reduceEq,decide_true,decide_false,Bool.not_true,Bool.not_false,ge_iff_le,gt_iff_lt,z0,z3,go_sem];by_cases hN:t.Names.length=0
  case neg=>
   simp only[decide_eq_false hN,hk,Int.reduceEq,decide_true,decide_false,Bool.not_true,Bool.not_false,ge_iff_le,gt_iff_lt,z0,z3,go_sem];exact qH rfl (by simp only[qU,hk,hL,hT,hN];simp_all)
  simp only[decide_eq_true hN,hk,Int.reduceEq,decide_true,decide_false,Bool.not_true,Bool.not_false,ge_iff_le,gt_iff_lt,z0,z3,go_sem];exact qH rfl (by simp[qU,hk,hL,hT,hN])
 ·simp only[hk,Int.reduceEq,decide_true,decide_false,Bool.not_true,Bool.not_false,ge_iff_le,gt_iff_lt,z0,z3,go_sem];by_cases hL:t.Name=[]
  case neg=>
   simp only[decide_eq_false hL,hk,Int.reduceEq,decide_true,decide_false,Bool.not_true,Bool.not_false,ge_iff_le,gt_iff_lt,z0,z3,go_sem];exact qH rfl (by simp[qU,hk,hL])
  simp only[decide_eq_true hL,hk,Int.reduceEq,decide_true,decide_false,Bool.not_true,Bool.not_false,ge_iff_le,gt_iff_lt,z0,z3,go_sem];refine qK (JG) ?_;cases hT:zb t.Typ
  ·simp only[hk,Int.reduceEq,decide_true,decide_false,Bool.not_true,Bool.not_false,ge_iff_le,gt_iff_lt,z0,z3,go_sem];exact qH rfl (by simp[qU,hk,hL,hT])
  simp only[hk,Int.reduceEq,decide_true,decide_false,Bool.not_true,Bool.not_false,ge_iff_le,gt_iff_lt,z0,z3,go_sem];by_cases hN:t.Names.length=0
  case neg=>
   simp only[decide_eq_false hN,hk,Int.reduceEq,decide_true,decide_false,Bool.not_true,Bool.not_false,ge_iff_le,gt_iff_lt,z0,z3,go_sem];exact qH rfl (by simp only[qU,hk,hL,hT,hN];simp_all)
  simp only[decide_eq_true hN,hk,Int.reduceEq,decide_true,decide_false,Bool.not_true,Bool.not_false,ge_iff_le,gt_iff_lt,z0,z3,go_sem];refine qK ZW ?_;simp only[hk,Int.reduceEq,decide_true,decide_false,Bool.not_true,Bool.not_false,ge_iff_le,gt_iff_lt,z0,z3,go_sem];exact qH rfl (by simp[qU,hk,hL,hT,hN])
 ·simp only[hk,Int.reduceEq,decide_true,decide_false,Bool.not_true,Bool.not_false,ge_iff_le,gt_iff_lt,z0,z3,go_sem];by_cases hL:t.Name=[]
  case neg=>
   simp only[decide_eq_false hL,hk,Int.reduceEq,decide_true,decide_false,Bool.not_true,Bool.not_false,ge_iff_le,gt_iff_lt,z0,z3,go_sem];exact qH rfl (by simp[qU,hk,hL])
  simp only[decide_eq_true hL,hk,Int.reduceEq,decide_true,decide_false,Bool.not_true,Bool.not_false,ge_iff_le,gt_iff_lt,z0,z3,go_sem];refine qK (JG) ?_;cases hT:zb t.Typ
  ·simp only[hk,Int.reduceEq,decide_true,decide_false,Bool.not_true,Bool.not_false,ge_iff_le,gt_iff_lt,z0,z3,go_sem];exact qH rfl (by simp[qU,hk,hL,hT])
  simp only[hk,Int.reduceEq,decide_true,decide_false,Bool.not_true,Bool.not_false,ge_iff_le,gt_iff_lt,z0,z3,go_sem];by_cases hN:t.Names.length=0
  case neg=>
   simp only[decide_eq_false hN,hk,Int.reduceEq,decide_true,decide_false,Bool.not_true,Bool.not_false,ge_iff_le,gt_iff_lt,z0,z3,go_sem];exact qH rfl (by simp only[qU,hk,hL,hT,hN];simp_all)
  simp only[decide_eq_true hN,hk,Int.reduceEq,decide_true,decide_false,Bool.not_true,Bool.not_false,ge_iff_le,gt_iff_lt,z0,z3,go_sem];refine qK ZW ?_;simp only[hk,Int.reduceEq,decide_true,decide_false,Bool.not_true,Bool.not_false,ge_iff_le,gt_iff_lt,z0,z3,go_sem];exact qH rfl (by simp[qU,hk,hL,hT,hN])
 ·simp only[hk,Int.reduceEq,decide_true,decide_false,Bool.not_true,Bool.not_false,ge_iff_le,gt_iff_lt,z0,z3,go_sem];refine qK (Qm B1) ?_;cases hL:zg t.Name
  ·simp only[hk,Int.reduceEq,decide_true,decide_false,Bool.not_true,Bool.not_false,ge_iff_le,gt_iff_lt,z0,z3,go_sem];exact qH rfl (by simp[qU,hk,hL])
  simp only[hk,Int.reduceEq,decide_true,decide_false,Bool.not_true,Bool.not_false,ge_iff_le,gt_iff_lt,z0,z3,go_sem];refine qK (KW B.t B.tn) ?_;cases hT:jn t.Typ
  ·simp only[hk,Int.reduceEq,decide_true,decide_false,Bool.not_true,Bool.not_false,ge_iff_le,gt_iff_lt,z0,z3,go_sem];exact qH rfl (by simp[qU,hk,hL,hT])
  simp only[hk,Int.reduceEq,decide_true,decide_false,Bool.not_true,Bool.not_false,ge_iff_le,gt_iff_lt,z0,z3,go_sem];by_cases hN:t.Names.length=0
  case neg=>
   simp only[decide_eq_false hN,hk,Int.reduceEq,decide_true,decide_false,Bool.not_true,Bool.not_false,ge_iff_le,gt_iff_lt,z0,z3,go_sem];exact qH rfl (by simp only[qU,hk,hL,hT,hN];simp_all)
  simp only[decide_eq_true hN,hk,Int.reduceEq,decide_true,decide_false,Bool.not_true,Bool.not_false,ge_iff_le,gt_iff_lt,z0,z3,go_sem];exact qH rfl (by simp[qU,hk,hL,hT,hN])
 ·simp only[hk,Int.reduceEq,decide_true,decide_false,Bool.not_true,Bool.not_false,ge_iff_le,gt_iff_lt,z0,z3,go_sem];by_cases hL:t.Name=[]
  case neg=>
   simp only[decide_eq_false hL,hk,Int.reduceEq,decide_true,decide_false,Bool.not_true,Bool.not_false,ge_iff_le,gt_iff_lt,z0,z3,go_sem];exact qH rfl (by simp[qU,hk,hL])
  simp only[decide_eq_true hL,hk,Int.reduceEq,decide_true,decide_false,Bool.not_true,Bool.not_false,ge_iff_le,gt_iff_lt,z0,z3,go_sem];refine qK (JG) ?_;cases hT:zb t.Typ
  ·simp only[hk,Int.reduceEq,decide_true,decide_false,Bool.not_true,Bool.not_false,ge_iff_le,gt_iff_lt,z0,z3,go_sem];exact qH rfl (by simp[qU,hk,hL,hT])
  simp only[hk,Int.reduceEq,decide_true,decide_false,Bool.not_true,Bool.not_false,ge_iff_le,gt_iff_lt,z0,z3,go_sem];by_cases hN:t.Names.length=0
  case neg=>
   simp only[decide_eq_false hN,hk,Int.reduceEq,decide_true,decide_false,Bool.not_true,Bool.not_false,ge_iff_le,gt_iff_lt,z0,z3,go_sem];exact qH rfl (by simp only[qU,hk,hL,hT,hN];simp_all)
  simp only[decide_eq_true hN,hk,Int.reduceEq,decide_true,decide_false,Bool.not_true,Bool.not_false,ge_iff_le,gt_iff_lt,z0,z3,go_sem];exact qH rfl (by simp[qU,hk,hL,hT,hN])
 ·simp only[hk,Int.reduceEq,decide_true,decide_false,Bool.not_true,Bool.not_false,ge_iff_le,gt_iff_lt,z0,z3,go_sem];by_cases hL:t.Name=[]
  case neg=>
   simp only[decide_eq_false hL,hk,Int.reduceEq,decide_true,decide_false,Bool.not_true,Bool.not_false,ge_iff_le,gt_iff_lt,z0,z3,go_sem];exact qH rfl (by simp[qU,hk,hL])
  simp only[decide_eq_true hL,hk,Int.reduceEq,decide_true,decide_false,Bool.not_true,Bool.not_false,ge_iff_le,gt_iff_lt,z0,z3,go_sem];refine qK (JG) ?_;cases hT:zb t.Typ
  ·simp only[hk,Int.reduceEq,decide_true,decide_false,Bool.not_true,Bool.not_false,ge_iff_le,gt_iff_lt,z0,z3,go_sem];exact qH rfl (by simp[qU,hk,hL,hT])
  simp only[hk,Int.reduceEq,decide_true,decide_false,Bool.not_true,Bool.not_false,ge_iff_le,gt_iff_lt,z0,z3,go_sem];by_cases hN:t.Names.length=0
  case neg=>
   simp only[decide_eq_false hN,hk,Int.reduceEq,decide_true,decide_false,Bool.not_true,Bool.not_false,ge_iff_le,gt_iff_lt,z0,z3,go_sem];exact qH rfl (by simp only[qU,hk,hL,hT,hN];simp_all)
  simp only[decide_eq_true hN,hk,Int.reduceEq,decide_true,decide_false,Bool.not_true,Bool.not_false,ge_iff_le,gt_iff_lt,z0,z3,go_sem];exact qH rfl (by simp[qU,hk,hL,hT,hN])
 ·simp only[hk,Int.reduceEq,decide_true,decide_false,Bool.not_true,Bool.not_false,ge_iff_le,gt_iff_lt,z0,z3,go_sem];refine qK (Qm B1) ?_;cases hL:zg t.Name
  ·simp only[hk,Int.reduceEq,decide_true,decide_false,Bool.not_true,Bool.not_false,ge_iff_le,gt_iff_lt,z0,z3,go_sem];exact qH rfl (by simp[qU,hk,hL])
  simp only[hk,Int.reduceEq,decide_true,decide_false,Bool.not_true,Bool.not_false,ge_iff_le,gt_iff_lt,z0,z3,go_sem];refine qK (JG) ?_;cases hT:zb t.Typ
  ·simp only[hk,Int.reduceEq,decide_true,decide_false,Bool.not_true,Bool.not_false,ge_iff_le,gt_iff_lt,z0,z3,go_sem];exact qH rfl (by simp[qU,hk,hL,hT])
  simp only[hk,Int.reduceEq,decide_true,decide_false,Bool.not_true,Bool.not_false,ge_iff_le,gt_iff_lt,z0,z3,go_sem];by_cases hN:t.Names.length=0
  case neg=>
   simp only[decide_eq_false hN,hk,Int.reduceEq,decide_true,decide_false,Bool.not_true,Bool.not_false,ge_iff_le,gt_iff_lt,z0,z3,go_sem];exact qH rfl (by simp only[qU,hk,hL,hT,hN];simp_all)
  simp only[decide_eq_true hN,hk,Int.reduceEq,decide_true,decide_false,Bool.not_true,Bool.not_false,ge_iff_le,gt_iff_lt,z0,z3,go_sem];exact qH rfl (by simp[qU,hk,hL,hT,hN])
 ·simp only[hk,Int.reduceEq,decide_true,decide_false,Bool.not_true,Bool.not_false,ge_iff_le,gt_iff_lt,z0,z3,go_sem];refine qK (Jq B1) ?_;cases hL:za t.Name
  ·simp only[hk,Int.reduceEq,decide_true,decide_false,Bool.not_true,Bool.not_false,ge_iff_le,gt_iff_lt,z0,z3,go_sem];exact qH rfl (by simp[qU,hk,hL])
  simp only[hk,Int.reduceEq,decide_true,decide_false,Bool.not_true,Bool.not_false,ge_iff_le,gt_iff_lt,z0,z3,go_sem];refine qK (JG) ?_;cases hT:zb t.Typ
  ·simp only[hk,Int.reduceEq,decide_true,decide_false,Bool.not_true,Bool.not_false,ge_iff_le,gt_iff_lt,z0,z3,go_sem];exact qH rfl (by simp[qU,hk,hL,hT])
  simp only[hk,Int.reduceEq,decide_true,decide_false,Bool.not_true,Bool.not_false,ge_iff_le,gt_iff_lt,z0,z3,go_sem];by_cases hN:t.Names.length=0
  case neg=>
   simp only[decide_eq_false hN,hk,Int.reduceEq,decide_true,decide_false,Bool.not_true,Bool.not_false,ge_iff_le,gt_iff_lt,z0,z3,go_sem];exact qH rfl (by simp only[qU,hk,hL,hT,hN];simp_all)
  simp only[decide_eq_true hN,hk,Int.reduceEq,decide_true,decide_false,Bool.not_true,Bool.not_false,ge_iff_le,gt_iff_lt,z0,z3,go_sem];exact qH rfl (by simp[qU,hk,hL,hT,hN])
 ·simp only[hk,Int.reduceEq,decide_true,decide_false,Bool.not_true,Bool.not_false,ge_iff_le,gt_iff_lt,z0,z3,go_sem];by_cases hL:t.Name=[]
  case neg=>
   simp only[decide_eq_false hL,hk,Int.reduceEq,decide_true,decide_false,Bool.not_true,Bool.not_false,ge_iff_le,gt_iff_lt,z0,z3,go_sem];exact qH rfl (by simp[qU,hk,hL])
  simp only[decide_eq_true hL,hk,Int.reduceEq,decide_true,decide_false,Bool.not_true,Bool.not_false,ge_iff_le,gt_iff_lt,z0,z3,go_sem];refine qK (JG) ?_;cases hT:zb t.Typ
  ·simp only[hk,Int.reduceEq,decide_true,decide_false,Bool.not_true,Bool.not_false,ge_iff_le,gt_iff_lt,z0,z3,go_sem];exact qH rfl (by simp[qU,hk,hL,hT])
  simp only[hk,Int.reduceEq,decide_true,decide_false,Bool.not_true,Bool.not_false,ge_iff_le,gt_iff_lt,z0,z3,go_sem];by_cases hN:t.Names.length=0
  case neg=>
   simp only[decide_eq_false hN,hk,Int.reduceEq,decide_true,decide_false,Bool.not_true,Bool.not_false,ge_iff_le,gt_iff_lt,z0,z3,go_sem];exact qH rfl (by simp only[qU,hk,hL,hT,hN];simp_all)
  simp only[decide_eq_true hN,hk,Int.reduceEq,decide_true,decide_false,Bool.not_true,Bool.not_false,ge_iff_le,gt_iff_lt,z0,z3,go_sem];exact qH rfl (by simp[qU,hk,hL,hT,hN])
 ·simp only[hk,Int.reduceEq,decide_true,decide_false,Bool.not_true,Bool.not_false,ge_iff_le,gt_iff_lt,z0,z3,go_sem];refine qK (Jq B1) ?_;cases hL:za t.Name
  ·simp only[hk,Int.reduceEq,decide_true,decide_false,Bool.not_true,Bool.not_false,ge_iff_le,gt_iff_lt,z0,z3,go_sem];exact qH rfl (by simp[qU,hk,hL])
  simp only[hk,Int.reduceEq,decide_true,decide_false,Bool.not_true,Bool.not_false,ge_iff_le,gt_iff_lt,z0,z3,go_sem];refine qK (JG) ?_;cases hT:zb t.Typ
  ·simp only[hk,Int.reduceEq,decide_true,decide_false,Bool.not_true,Bool.not_false,ge_iff_le,gt_iff_lt,z0,z3,go_sem];exact qH rfl (by simp[qU,hk,hL,hT])
  simp only[hk,Int.reduceEq,decide_true,decide_false,Bool.not_true,Bool.not_false,ge_iff_le,gt_iff_lt,z0,z3,go_sem];by_cases hN:t.Names.length<=3
  case neg=>
   simp only[decide_eq_false hN,hk,Int.reduceEq,decide_true,decide_false,Bool.not_true,Bool.not_false,ge_iff_le,gt_iff_lt,z0,z3,go_sem];exact qH rfl (by simp[qU,hk,hL,hT,hN])
  simp only[decide_eq_true hN,hk,Int.reduceEq,decide_true,decide_false,Bool.not_true,Bool.not_false,ge_iff_le,gt_iff_lt,z0,z3,go_sem];refine qK (qY2 (by have:=B.l;omega) B.s) ?_;cases hD:wY [] t.Names
  ·simp only[hk,Int.reduceEq,decide_true,decide_false,Bool.not_true,Bool.not_false,ge_iff_le,gt_iff_lt,z0,z3,go_sem];exact qH rfl (by simp[qU,hk,hL,hT,hN,hD])
  simp only[hk,Int.reduceEq,decide_true,decide_false,Bool.not_true,Bool.not_false,ge_iff_le,gt_iff_lt,z0,z3,go_sem];exact qH rfl (by simp[qU,hk,hL,hT,hN,hD])
 ·simp only[hk,Int.reduceEq,decide_true,decide_false,Bool.not_true,Bool.not_false,ge_iff_le,gt_iff_lt,z0,z3,go_sem];by_cases hL:t.Name=[]
  case neg=>
   simp only[decide_eq_false hL,hk,Int.reduceEq,decide_true,decide_false,Bool.not_true,Bool.not_false,ge_iff_le,gt_iff_lt,z0,z3,go_sem];exact qH rfl (by simp[qU,hk,hL])
  simp only[decide_eq_true hL,hk,Int.reduceEq,decide_true,decide_false,Bool.not_true,Bool.not_false,ge_iff_le,gt_iff_lt,z0,z3,go_sem];refine qK (JG) ?_;cases hT:zb t.Typ
  ·simp only[hk,Int.reduceEq,decide_true,decide_false,Bool.not_true,Bool.not_false,ge_iff_le,gt_iff_lt,z0,z3,go_sem];exact qH rfl (by simp[qU,hk,hL,hT])
  simp only[hk,Int.reduceEq,decide_true,decide_false,Bool.not_true,Bool.not_false,ge_iff_le,gt_iff_lt,z0,z3,go_sem];by_cases hN:t.Names.length=0
  case neg=>
   simp only[decide_eq_false hN,hk,Int.reduceEq,decide_true,decide_false,Bool.not_true,Bool.not_false,ge_iff_le,gt_iff_lt,z0,z3,go_sem];exact qH rfl (by simp only[qU,hk,hL,hT,hN];simp_all)
  simp only[decide_eq_true hN,hk,Int.reduceEq,decide_true,decide_false,Bool.not_true,Bool.not_false,ge_iff_le,gt_iff_lt,z0,z3,go_sem];exact qH rfl (by simp[qU,hk,hL,hT,hN])
 ·simp only[h1,h2,h3,h4,h5,h6,h7,h8,h9,h10,h11,Int.reduceEq,decide_true,decide_false,Bool.not_true,Bool.not_false,ge_iff_le,gt_iff_lt,z0,z3,go_sem];by_cases hL:t.Name=[]
  case neg=>
   simp only[decide_eq_false hL,h1,h2,h3,h4,h5,h6,h7,h8,h9,h10,h11,Int.reduceEq,decide_true,decide_false,Bool.not_true,Bool.not_false,ge_iff_le,gt_iff_lt,z0,z3,go_sem];exact qH rfl (by simp[qU,h1,h2,h3,h4,h5,h6,h7,h8,h9,h10,h11,hL])
  simp only[decide_eq_true hL,h1,h2,h3,h4,h5,h6,h7,h8,h9,h10,h11,Int.reduceEq,decide_true,decide_false,Bool.not_true,Bool.not_false,ge_iff_le,gt_iff_lt,z0,z3,go_sem];refine qK (JG) ?_;cases hT:zb t.Typ
  ·simp only[h1,h2,h3,h4,h5,h6,h7,h8,h9,h10,h11,Int.reduceEq,decide_true,decide_false,Bool.not_true,Bool.not_false,ge_iff_le,gt_iff_lt,z0,z3,go_sem];exact qH rfl (by simp[qU,h1,h2,h3,h4,h5,h6,h7,h8,h9,h10,h11,hL,hT])
  simp only[h1,h2,h3,h4,h5,h6,h7,h8,h9,h10,h11,Int.reduceEq,decide_true,decide_false,Bool.not_true,Bool.not_false,ge_iff_le,gt_iff_lt,z0,z3,go_sem];by_cases hN:t.Names.length=0
  case neg=>
   simp only[decide_eq_false hN,h1,h2,h3,h4,h5,h6,h7,h8,h9,h10,h11,Int.reduceEq,decide_true,decide_false,Bool.not_true,Bool.not_false,ge_iff_le,gt_iff_lt,z0,z3,go_sem];exact qH rfl (by simp only[qU,h1,h2,h3,h4,h5,h6,h7,h8,h9,h10,h11,hL,hT,hN];simp_all)
  simp only[decide_eq_true hN,h1,h2,h3,h4,h5,h6,h7,h8,h9,h10,h11,Int.reduceEq,decide_true,decide_false,Bool.not_true,Bool.not_false,ge_iff_le,gt_iff_lt,z0,z3,go_sem];exact qH rfl (by simp[qU,h1,h2,h3,h4,h5,h6,h7,h8,h9,h10,h11,hL,hT,hN])
end Go.Ab
namespace Go.Ab
open Go
set_option maxRecDepth 10000
set_option maxHeartbeats 2000000
theorem qc9{t:qA}(h:qi t=true):kLo t.Kind<=t.Kids.length/\(t.Kids.length:Int)<=kHi t.Kind:=by
 simp only[qi,bAt,dTe]at h;exact h.1
theorem We{t:qA}{lo hi:Int}(h1:kLo t.Kind=lo)(h2:kHi t.Kind=hi)(h:¬(lo<=t.Kids.length/\(t.Kids.length:Int)<=hi)):false=qi t:=by
 cases e:qi t
 ·rfl
 ·have:=qc9 e;rw[h1,h2]at this;exact absurd this h
theorem c807{t:qA}(B:TB t):Pure Gm 807 [t.enc] (.bool (qi t)):=by
 refine pJ Uq ?_;simp only[Uq,qM,go_sem];have B1:t.Name.length<=4611686018427387904:=by have:=B.n;omega
 have z0:decide ((0:Int)<((t.Names.length:Nat):Int))= !decide (t.Names.length=0):=by
  by_cases h:t.Names.length=0
  ·simp[h]
  ·simp[h];omega
 have zn:t.Names.length=0↔t.Names=[]:=List.length_eq_zero_iff;refine zJ qA.ln ?_;simp only[go_sem];refine qK (qYU B.tk) ?_;simp only[go_sem];rcases K7 t.Kind with hk | hk | hk | hk | hk | hk | hk | hk | hk | hk | hk | ⟨h1,h2,h3,h4,h5,h6,h7,h8,h9,h10,h11⟩
 ·simp only[hk,Int.reduceEq,decide_true,decide_false,Bool.not_true,Bool.not_false,ge_iff_le,gt_iff_lt,z0,go_sem];by_cases hN:t.Names.length=0
  case neg=>
   simp only[decide_eq_false hN,hk,Int.reduceEq,decide_true,decide_false,Bool.not_true,Bool.not_false,ge_iff_le,gt_iff_lt,z0,go_sem];have hN:¬t.Names=[]:=fun q=>hN (zn.2 q);exact qH rfl (congrArg AV.bool (by rw[Bool.eq_iff_iff];simp[qi,kLo,kHi,qU,hk,hN]))
  simp only[decide_eq_true hN,hk,Int.reduceEq,decide_true,decide_false,Bool.not_true,Bool.not_false,ge_iff_le,gt_iff_lt,z0,go_sem];have hN:t.Names=[]:=zn.1 hN;cases hT:zb t.Typ
  case false=>
   simp only[hk,Int.reduceEq,decide_true,decide_false,Bool.not_true,Bool.not_false,ge_iff_le,gt_iff_lt,z0,go_sem];exact qH rfl (congrArg AV.bool (by rw[Bool.eq_iff_iff];simp[qi,kLo,kHi,qU,hk,hN,hT]))
  simp only[hk,Int.reduceEq,decide_true,decide_false,Bool.not_true,Bool.not_false,ge_iff_le,gt_iff_lt,z0,go_sem];by_cases hM:t.Num=0
  case neg=>
   simp only[decide_eq_false hM,hk,Int.reduceEq,decide_true,decide_false,Bool.not_true,Bool.not_false,ge_iff_le,gt_iff_lt,z0,go_sem];exact qH rfl (congrArg AV.bool (by rw[Bool.eq_iff_iff];simp[qi,kLo,kHi,qU,hk,hN,hT,hM]))
  simp only[decide_eq_true hM,hk,Int.reduceEq,decide_true,decide_false,Bool.not_true,Bool.not_false,ge_iff_le,gt_iff_lt,z0,go_sem];refine qK (wI B1) ?_;simp only[hk,Int.reduceEq,decide_true,decide_false,Bool.not_true,Bool.not_false,ge_iff_le,gt_iff_lt,z0,go_sem];refine qK (jy B1) ?_;simp only[hk,Int.reduceEq,decide_true,decide_false,Bool.not_true,Bool.not_false,ge_iff_le,gt_iff_lt,z0,go_sem];cases hL:zg t.Name
  case false=>
   simp only[hk,Int.reduceEq,decide_true,decide_false,Bool.not_true,Bool.not_false,ge_iff_le,gt_iff_lt,z0,go_sem];exact qH rfl (congrArg AV.bool (by rw[Bool.eq_iff_iff];simp[qi,kLo,kHi,qU,hk,hN,hT,hM,hL]))
  simp only[hk,Int.reduceEq,decide_true,decide_false,Bool.not_true,Bool.not_false,ge_iff_le,gt_iff_lt,z0,go_sem];exact qH rfl (congrArg AV.bool (by rw[Bool.eq_iff_iff];simp[qi,kLo,kHi,qU,hk,hN,hT,hM,hL]<;>omega))
 ·simp only[hk,Int.reduceEq,decide_true,decide_false,Bool.not_true,Bool.not_false,ge_iff_le,gt_iff_lt,z0,go_sem];by_cases hN:t.Names.length=0
  case neg=>
   simp only[decide_eq_false hN,hk,Int.reduceEq,decide_true,decide_false,Bool.not_true,Bool.not_false,ge_iff_le,gt_iff_lt,z0,go_sem];have hN:¬t.Names=[]:=fun q=>hN (zn.2 q);exact qH rfl (congrArg AV.bool (by rw[Bool.eq_iff_iff];simp[qi,kLo,kHi,qU,hk,hN]))
  simp only[decide_eq_true hN,hk,Int.reduceEq,decide_true,decide_false,Bool.not_true,Bool.not_false,ge_iff_le,gt_iff_lt,z0,go_sem];have hN:t.Names=[]:=zn.1 hN;cases hT:zb t.Typ
  case false=>
   simp only[hk,Int.reduceEq,decide_true,decide_false,Bool.not_true,Bool.not_false,ge_iff_le,gt_iff_lt,z0,go_sem];exact qH rfl (congrArg AV.bool (by rw[Bool.eq_iff_iff];simp[qi,kLo,kHi,qU,hk,hN,hT]))
  simp only[hk,Int.reduceEq,decide_true,decide_false,Bool.not_true,Bool.not_false,ge_iff_le,gt_iff_lt,z0,go_sem];refine qK (wI B1) ?_;simp only[hk,Int.reduceEq,decide_true,decide_false,Bool.not_true,Bool.not_false,ge_iff_le,gt_iff_lt,z0,go_sem];refine qK (jy B1) ?_;simp only[hk,Int.reduceEq,decide_true,decide_false,Bool.not_true,Bool.not_false,ge_iff_le,gt_iff_lt,z0,go_sem];by_cases hL:t.Name=[]
  case neg=>
   simp only[decide_eq_false hL,hk,Int.reduceEq,decide_true,decide_false,Bool.not_true,Bool.not_false,ge_iff_le,gt_iff_lt,z0,go_sem];exact qH rfl (congrArg AV.bool (by rw[Bool.eq_iff_iff];simp[qi,kLo,kHi,qU,hk,hN,hT,hL]))
  simp only[decide_eq_true hL,hk,Int.reduceEq,decide_true,decide_false,Bool.not_true,Bool.not_false,ge_iff_le,gt_iff_lt,z0,go_sem];by_cases hC:((t.Kids.length:Nat):Int)=0
  case neg=>
   simp only[decide_eq_false hC,hk,Int.reduceEq,decide_true,decide_false,Bool.not_true,Bool.not_false,ge_iff_le,gt_iff_lt,z0,go_sem];exact qH rfl (congrArg AV.bool (We (lo:=0) (hi:=0) (by rw[hk];decide) (by rw[hk];decide) (by omega)))
  simp only[decide_eq_true hC,hk,Int.reduceEq,decide_true,decide_false,Bool.not_true,Bool.not_false,ge_iff_le,gt_iff_lt,z0,go_sem];refine qK (qSW) ?_;simp only[hk,Int.reduceEq,decide_true,decide_false,Bool.not_true,Bool.not_false,ge_iff_le,gt_iff_lt,z0,go_sem];exact qH rfl (congrArg AV.bool (by rw[Bool.eq_iff_iff];simp[qi,kLo,kHi,qU,hk,hN,hT,hL,hC]))
 ·simp only[hk,Int.reduceEq,decide_true,decide_false,Bool.not_true,Bool.not_false,ge_iff_le,gt_iff_lt,z0,go_sem];by_cases hN:t.Names.length=0
  case neg=>
   simp only[decide_eq_false hN,hk,Int.reduceEq,decide_true,decide_false,Bool.not_true,Bool.not_false,ge_iff_le,gt_iff_lt,z0,go_sem];have hN:¬t.Names=[]:=fun q=>hN (zn.2 q);exact qH rfl (congrArg AV.bool (by rw[Bool.eq_iff_iff];simp[qi,kLo,kHi,qU,hk,hN]))
  simp only[decide_eq_true hN,hk,Int.reduceEq,decide_true,decide_false,Bool.not_true,Bool.not_false,ge_iff_le,gt_iff_lt,z0,go_sem];have hN:t.Names=[]:=zn.1 hN;cases hT:zb t.Typ
  case false=>
   simp only[hk,Int.reduceEq,decide_true,decide_false,Bool.not_true,Bool.not_false,ge_iff_le,gt_iff_lt,z0,go_sem];exact qH rfl (congrArg AV.bool (by rw[Bool.eq_iff_iff];simp[qi,kLo,kHi,qU,hk,hN,hT]))
  simp only[hk,Int.reduceEq,decide_true,decide_false,Bool.not_true,Bool.not_false,ge_iff_le,gt_iff_lt,z0,go_sem];refine qK (wI B1) ?_;simp only[hk,Int.reduceEq,decide_true,decide_false,Bool.not_true,Bool.not_false,ge_iff_le,gt_iff_lt,z0,go_sem];refine qK (jy B1) ?_;simp only[hk,Int.reduceEq,decide_true,decide_false,Bool.not_true,Bool.not_false,ge_iff_le,gt_iff_lt,z0,go_sem];by_cases hL:t.Name=[]
  case neg=>
   simp only[decide_eq_false hL,hk,Int.reduceEq,decide_true,decide_false,Bool.not_true,Bool.not_false,ge_iff_le,gt_iff_lt,z0,go_sem];exact qH rfl (congrArg AV.bool (by rw[Bool.eq_iff_iff];simp[qi,kLo,kHi,qU,hk,hN,hT,hL]))
  simp only[decide_eq_true hL,hk,Int.reduceEq,decide_true,decide_false,Bool.not_true,Bool.not_false,ge_iff_le,gt_iff_lt,z0,go_sem];by_cases hC:((t.Kids.length:Nat):Int)=2
  case neg=>
   simp only[decide_eq_false hC,hk,Int.reduceEq,decide_true,decide_false,Bool.not_true,Bool.not_false,ge_iff_le,gt_iff_lt,z0,go_sem];exact qH rfl (congrArg AV.bool (We (lo:=2) (hi:=2) (by rw[hk];decide) (by rw[hk];decide) (by omega)))
  simp only[decide_eq_true hC,hk,Int.reduceEq,decide_true,decide_false,Bool.not_true,Bool.not_false,ge_iff_le,gt_iff_lt,z0,go_sem];refine qK (qSV) ?_;simp only[hk,Int.reduceEq,decide_true,decide_false,Bool.not_true,Bool.not_false,ge_iff_le,gt_iff_lt,z0,go_sem];exact qH rfl (congrArg AV.bool (by rw[Bool.eq_iff_iff];simp[qi,kLo,kHi,qU,hk,hN,hT,hL,hC]))
 ·simp only[hk,Int.reduceEq,decide_true,decide_false,Bool.not_true,Bool.not_false,ge_iff_le,gt_iff_lt,z0,go_sem];by_cases hN:t.Names.length=0
  case neg=>
   simp only[decide_eq_false hN,hk,Int.reduceEq,decide_true,decide_false,Bool.not_true,Bool.not_false,ge_iff_le,gt_iff_lt,z0,go_sem];have hN:¬t.Names=[]:=fun q=>hN (zn.2 q);exact qH rfl (congrArg AV.bool (by rw[Bool.eq_iff_iff];simp[qi,kLo,kHi,qU,hk,hN]))
  simp only[decide_eq_true hN,hk,Int.reduceEq,decide_true,decide_false,Bool.not_true,Bool.not_false,ge_iff_le,gt_iff_lt,z0,go_sem];have hN:t.Names=[]:=zn.1 hN;by_cases hM:t.Num=0
  case neg=>
   simp only[decide_eq_false hM,hk,Int.reduceEq,decide_true,decide_false,Bool.not_true,Bool.not_false,ge_iff_le,gt_iff_lt,z0,go_sem];exact qH rfl (congrArg AV.bool (by rw[Bool.eq_iff_iff];simp[qi,kLo,kHi,qU,hk,hN,hM]))
  simp only[decide_eq_true hM,hk,Int.reduceEq,decide_true,decide_false,Bool.not_true,Bool.not_false,ge_iff_le,gt_iff_lt,z0,go_sem];refine qK (wI B1) ?_;simp only[hk,Int.reduceEq,decide_true,decide_false,Bool.not_true,Bool.not_false,ge_iff_le,gt_iff_lt,z0,go_sem];refine qK (jy B1) ?_;simp only[hk,Int.reduceEq,decide_true,decide_false,Bool.not_true,Bool.not_false,ge_iff_le,gt_iff_lt,z0,go_sem];cases hL:zg t.Name
  case false=>
   simp only[hk,Int.reduceEq,decide_true,decide_false,Bool.not_true,Bool.not_false,ge_iff_le,gt_iff_lt,z0,go_sem];exact qH rfl (congrArg AV.bool (by rw[Bool.eq_iff_iff];simp[qi,kLo,kHi,qU,hk,hN,hM,hL]))
  simp only[hk,Int.reduceEq,decide_true,decide_false,Bool.not_true,Bool.not_false,ge_iff_le,gt_iff_lt,z0,go_sem];by_cases hC:((t.Kids.length:Nat):Int)=1
  case neg=>
   simp only[decide_eq_false hC,hk,Int.reduceEq,decide_true,decide_false,Bool.not_true,Bool.not_false,ge_iff_le,gt_iff_lt,z0,go_sem];exact qH rfl (congrArg AV.bool (We (lo:=1) (hi:=1) (by rw[hk];decide) (by rw[hk];decide) (by omega)))
  simp only[decide_eq_true hC,hk,Int.reduceEq,decide_true,decide_false,Bool.not_true,Bool.not_false,ge_iff_le,gt_iff_lt,z0,go_sem];refine qK (c74 B.t B.tn) ?_;simp only[hk,Int.reduceEq,decide_true,decide_false,Bool.not_true,Bool.not_false,ge_iff_le,gt_iff_lt,z0,go_sem];exact qH rfl (congrArg AV.bool (by rw[Bool.eq_iff_iff];simp[qi,kLo,kHi,qU,hk,hN,hM,hL,hC]))
 ·simp only[hk,Int.reduceEq,decide_true,decide_false,Bool.not_true,Bool.not_false,ge_iff_le,gt_iff_lt,z0,go_sem];by_cases hN:t.Names.length=0
  case neg=>
   simp only[decide_eq_false hN,hk,Int.reduceEq,decide_true,decide_false,Bool.not_true,Bool.not_false,ge_iff_le,gt_iff_lt,z0,go_sem];have hN:¬t.Names=[]:=fun q=>hN (zn.2 q);exact qH rfl (congrArg AV.bool (by rw[Bool.eq_iff_iff];simp[qi,kLo,kHi,qU,hk,hN]))
  simp only[decide_eq_true hN,hk,Int.reduceEq,decide_true,decide_false,Bool.not_true,Bool.not_false,ge_iff_le,gt_iff_lt,z0,go_sem];have hN:t.Names=[]:=zn.1 hN;cases hT:zb t.Typ
  case false=>
   simp only[hk,Int.reduceEq,decide_true,decide_false,Bool.not_true,Bool.not_false,ge_iff_le,gt_iff_lt,z0,go_sem];exact qH rfl (congrArg AV.bool (by rw[Bool.eq_iff_iff];simp[qi,kLo,kHi,qU,hk,hN,hT]))
  simp only[hk,Int.reduceEq,decide_true,decide_false,Bool.not_true,Bool.not_false,ge_iff_le,gt_iff_lt,z0,go_sem];by_cases hM:t.Num=0
  case neg=>
   simp only[decide_eq_false hM,hk,Int.reduceEq,decide_true,decide_false,Bool.not_true,Bool.not_false,ge_iff_le,gt_iff_lt,z0,go_sem];exact qH rfl (congrArg AV.bool (by rw[Bool.eq_iff_iff];simp[qi,kLo,kHi,qU,hk,hN,hT,hM]))
  simp only[decide_eq_true hM,hk,Int.reduceEq,decide_true,decide_false,Bool.not_true,Bool.not_false,ge_iff_le,gt_iff_lt,z0,go_sem];refine qK (wI B1) ?_;simp only[hk,Int.reduceEq,decide_true,decide_false,Bool.not_true,Bool.not_false,ge_iff_le,gt_iff_lt,z0,go_sem];refine qK (jy B1) ?_;simp only[hk,Int.reduceEq,decide_true,decide_false,Bool.not_true,Bool.not_false,ge_iff_le,gt_iff_lt,z0,go_sem];by_cases hL:t.Name=[]
  case neg=>
   simp only[decide_eq_false hL,hk,Int.reduceEq,decide_true,decide_false,Bool.not_true,Bool.not_false,ge_iff_le,gt_iff_lt,z0,go_sem];exact qH rfl (congrArg AV.bool (by rw[Bool.eq_iff_iff];simp[qi,kLo,kHi,qU,hk,hN,hT,hM,hL]))
  simp only[decide_eq_true hL,hk,Int.reduceEq,decide_true,decide_false,Bool.not_true,Bool.not_false,ge_iff_le,gt_iff_lt,z0,go_sem];exact qH rfl (congrArg AV.bool (by rw[Bool.eq_iff_iff];simp[qi,kLo,kHi,qU,hk,hN,hT,hM,hL]<;>omega))
 ·simp only[hk,Int.reduceEq,decide_true,decide_false,Bool.not_true,Bool.not_false,ge_iff_le,gt_iff_lt,z0,go_sem];by_cases hN:t.Names.length=0
  case neg=>
   simp only[decide_eq_false hN,hk,Int.reduceEq,decide_true,decide_false,Bool.not_true,Bool.not_false,ge_iff_le,gt_iff_lt,z0,go_sem];have hN:¬t.Names=[]:=fun q=>hN (zn.2 q);exact qH rfl (congrArg AV.bool (by rw[Bool.eq_iff_iff];simp[qi,kLo,kHi,qU,hk,hN]))
  simp only[decide_eq_true hN,hk,Int.reduceEq,decide_true,decide_false,Bool.not_true,Bool.not_false,ge_iff_le,gt_iff_lt,z0,go_sem];have hN:t.Names=[]:=zn.1 hN;cases hT:zb t.Typ
  case false=>
   simp only[hk,Int.reduceEq,decide_true,decide_false,Bool.not_true,Bool.not_false,ge_iff_le,gt_iff_lt,z0,go_sem];exact qH rfl (congrArg AV.bool (by rw[Bool.eq_iff_iff];simp[qi,kLo,kHi,qU,hk,hN,hT]))
  simp only[hk,Int.reduceEq,decide_true,decide_false,Bool.not_true,Bool.not_false,ge_iff_le,gt_iff_lt,z0,go_sem];by_cases hM:t.Num=0
  case neg=>
   simp only[decide_eq_false hM,hk,Int.reduceEq,decide_true,decide_false,Bool.not_true,Bool.not_false,ge_iff_le,gt_iff_lt,z0,go_sem];exact qH rfl (congrArg AV.bool (by rw[Bool.eq_iff_iff];simp[qi,kLo,kHi,qU,hk,hN,hT,hM]))
  simp only[decide_eq_true hM,hk,Int.reduceEq,decide_true,decide_false,Bool.not_true,Bool.not_false,ge_iff_le,gt_iff_lt,z0,go_sem];refine qK (wI B1) ?_;simp only[hk,Int.reduceEq,decide_true,decide_false,Bool.not_true,Bool.not_false,ge_iff_le,gt_iff_lt,z0,go_sem];refine qK (jy B1) ?_;simp only[hk,Int.reduceEq,decide_true,decide_false,Bool.not_true,Bool.not_false,ge_iff_le,gt_iff_lt,z0,go_sem];by_cases hL:t.Name=[]
  case neg=>
   simp only[decide_eq_false hL,hk,Int.reduceEq,decide_true,decide_false,Bool.not_true,Bool.not_false,ge_iff_le,gt_iff_lt,z0,go_sem];exact qH rfl (congrArg AV.bool (by rw[Bool.eq_iff_iff];simp[qi,kLo,kHi,qU,hk,hN,hT,hM,hL]))
  simp only[decide_eq_true hL,hk,Int.reduceEq,decide_true,decide_false,Bool.not_true,Bool.not_false,ge_iff_le,gt_iff_lt,z0,go_sem];exact qH rfl (congrArg AV.bool (by rw[Bool.eq_iff_iff];simp[qi,kLo,kHi,qU,hk,hN,hT,hM,hL]<;>omega))
 ·simp only[hk,Int.reduceEq,decide_true,decide_false,Bool.not_true,Bool.not_false,ge_iff_le,gt_iff_lt,z0,go_sem];by_cases hN:t.Names.length=0
  case neg=>
   simp only[decide_eq_false hN,hk,Int.reduceEq,decide_true,decide_false,Bool.not_true,Bool.not_false,ge_iff_le,gt_iff_lt,z0,go_sem];have hN:¬t.Names=[]:=fun q=>hN (zn.2 q);exact qH rfl (congrArg AV.bool (by rw[Bool.eq_iff_iff];simp[qi,kLo,kHi,qU,hk,hN]))
  simp only[decide_eq_true hN,hk,Int.reduceEq,decide_true,decide_false,Bool.not_true,Bool.not_false,ge_iff_le,gt_iff_lt,z0,go_sem];have hN:t.Names=[]:=zn.1 hN;cases hT:zb t.Typ
  case false=>
   simp only[hk,Int.reduceEq,decide_true,decide_false,Bool.not_true,Bool.not_false,ge_iff_le,gt_iff_lt,z0,go_sem];exact qH rfl (congrArg AV.bool (by rw[Bool.eq_iff_iff];simp[qi,kLo,kHi,qU,hk,hN,hT]))
  simp only[hk,Int.reduceEq,decide_true,decide_false,Bool.not_true,Bool.not_false,ge_iff_le,gt_iff_lt,z0,go_sem];by_cases hM:t.Num=0
  case neg=>
   simp only[decide_eq_false hM,hk,Int.reduceEq,decide_true,decide_false,Bool.not_true,Bool.not_false,ge_iff_le,gt_iff_lt,z0,go_sem];exact qH rfl (congrArg AV.bool (by rw[Bool.eq_iff_iff];simp[qi,kLo,kHi,qU,hk,hN,hT,hM]))
  simp only[decide_eq_true hM,hk,Int.reduceEq,decide_true,decide_false,Bool.not_true,Bool.not_false,ge_iff_le,gt_iff_lt,z0,go_sem];refine qK (wI B1) ?_;simp only[hk,Int.reduceEq,decide_true,decide_false,Bool.not_true,Bool.not_false,ge_iff_le,gt_iff_lt,z0,go_sem];refine qK (jy B1) ?_;simp only[hk,Int.reduceEq,decide_true,decide_false,Bool.not_true,Bool.not_false,ge_iff_le,gt_iff_lt,z0,go_sem];cases hL:zg t.Name
  case false=>
   simp only[hk,Int.reduceEq,decide_true,decide_false,Bool.not_true,Bool.not_false,ge_iff_le,gt_iff_lt,z0,go_sem];exact qH rfl (congrArg AV.bool (by rw[Bool.eq_iff_iff];simp[qi,kLo,kHi,qU,hk,hN,hT,hM,hL]))
  simp only[hk,Int.reduceEq,decide_true,decide_false,Bool.not_true,Bool.not_false,ge_iff_le,gt_iff_lt,z0,go_sem];exact qH rfl (congrArg AV.bool (by rw[Bool.eq_iff_iff];simp[qi,kLo,kHi,qU,hk,hN,hT,hM,hL]<;>omega))
 ·simp only[hk,Int.reduceEq,decide_true,decide_false,Bool.not_true,Bool.not_false,ge_iff_le,gt_iff_lt,z0,go_sem];by_cases hN:t.Names.length=0
  case neg=>
   simp only[decide_eq_false hN,hk,Int.reduceEq,decide_true,decide_false,Bool.not_true,Bool.not_false,ge_iff_le,gt_iff_lt,z0,go_sem];have hN:¬t.Names=[]:=fun q=>hN (zn.2 q);exact qH rfl (congrArg AV.bool (by rw[Bool.eq_iff_iff];simp[qi,kLo,kHi,qU,hk,hN]))
  simp only[decide_eq_true hN,hk,Int.reduceEq,decide_true,decide_false,Bool.not_true,Bool.not_false,ge_iff_le,gt_iff_lt,z0,go_sem];have hN:t.Names=[]:=zn.1 hN;cases hT:zb t.Typ
  case false=>
   simp only[hk,Int.reduceEq,decide_true,decide_false,Bool.not_true,Bool.not_false,ge_iff_le,gt_iff_lt,z0,go_sem];exact qH rfl (congrArg AV.bool (by rw[Bool.eq_iff_iff];simp[qi,kLo,kHi,qU,hk,hN,hT]))
  simp only[hk,Int.reduceEq,decide_true,decide_false,Bool.not_true,Bool.not_false,ge_iff_le,gt_iff_lt,z0,go_sem];by_cases hM:t.Num=0
  case neg=>
   simp only[decide_eq_false hM,hk,Int.reduceEq,decide_true,decide_false,Bool.not_true,Bool.not_false,ge_iff_le,gt_iff_lt,z0,go_sem];exact qH rfl (congrArg AV.bool (by rw[Bool.eq_iff_iff];simp[qi,kLo,kHi,qU,hk,hN,hT,hM]))
  simp only[decide_eq_true hM,hk,Int.reduceEq,decide_true,decide_false,Bool.not_true,Bool.not_false,ge_iff_le,gt_iff_lt,z0,go_sem];refine qK (wI B1) ?_;simp only[hk,Int.reduceEq,decide_true,decide_false,Bool.not_true,Bool.not_false,ge_iff_le,gt_iff_lt,z0,go_sem];refine qK (jy B1) ?_;simp only[hk,Int.reduceEq,decide_true,decide_false,Bool.not_true,Bool.not_false,ge_iff_le,gt_iff_lt,z0,go_sem];cases hL:za t.Name
  case false=>
   simp only[hk,Int.reduceEq,decide_true,decide_false,Bool.not_true,Bool.not_false,ge_iff_le,gt_iff_lt,z0,go_sem];exact qH rfl (congrArg AV.bool (by rw[Bool.eq_iff_iff];simp[qi,kLo,kHi,qU,hk,hN,hT,hM,hL]))
  simp only[hk,Int.reduceEq,decide_true,decide_false,Bool.not_true,Bool.not_false,ge_iff_le,gt_iff_lt,z0,go_sem];exact qH rfl (congrArg AV.bool (by rw[Bool.eq_iff_iff];simp[qi,kLo,kHi,qU,hk,hN,hT,hM,hL]<;>omega))
 ·simp only[hk,Int.reduceEq,decide_true,decide_false,Bool.not_true,Bool.not_false,ge_iff_le,gt_iff_lt,z0,go_sem];by_cases hN:t.Names.length=0
  case neg=>
   simp only[decide_eq_false hN,hk,Int.reduceEq,decide_true,decide_false,Bool.not_true,Bool.not_false,ge_iff_le,gt_iff_lt,z0,go_sem];have hN:¬t.Names=[]:=fun q=>hN (zn.2 q);exact qH rfl (congrArg AV.bool (by rw[Bool.eq_iff_iff];simp[qi,kLo,kHi,qU,hk,hN]))
  simp only[decide_eq_true hN,hk,Int.reduceEq,decide_true,decide_false,Bool.not_true,Bool.not_false,ge_iff_le,gt_iff_lt,z0,go_sem];have hN:t.Names=[]:=zn.1 hN;cases hT:zb t.Typ
  case false=>
   simp only[hk,Int.reduceEq,decide_true,decide_false,Bool.not_true,Bool.not_false,ge_iff_le,gt_iff_lt,z0,go_sem];exact qH rfl (congrArg AV.bool (by rw[Bool.eq_iff_iff];simp[qi,kLo,kHi,qU,hk,hN,hT]))
  simp only[hk,Int.reduceEq,decide_true,decide_false,Bool.not_true,Bool.not_false,ge_iff_le,gt_iff_lt,z0,go_sem];by_cases hM:t.Num=0
  case neg=>
   simp only[decide_eq_false hM,hk,Int.reduceEq,decide_true,decide_false,Bool.not_true,Bool.not_false,ge_iff_le,gt_iff_lt,z0,go_sem];exact qH rfl (congrArg AV.bool (by rw[Bool.eq_iff_iff];simp[qi,kLo,kHi,qU,hk,hN,hT,hM]))
  simp only[decide_eq_true hM,hk,Int.reduceEq,decide_true,decide_false,Bool.not_true,Bool.not_false,ge_iff_le,gt_iff_lt,z0,go_sem];refine qK (wI B1) ?_;simp only[hk,Int.reduceEq,decide_true,decide_false,Bool.not_true,Bool.not_false,ge_iff_le,gt_iff_lt,z0,go_sem];refine qK (jy B1) ?_;simp only[hk,Int.reduceEq,decide_true,decide_false,Bool.not_true,Bool.not_false,ge_iff_le,gt_iff_lt,z0,go_sem];by_cases hL:t.Name=[]
  case neg=>
   simp only[decide_eq_false hL,hk,Int.reduceEq,decide_true,decide_false,Bool.not_true,Bool.not_false,ge_iff_le,gt_iff_lt,z0,go_sem];exact qH rfl (congrArg AV.bool (by rw[Bool.eq_iff_iff];simp[qi,kLo,kHi,qU,hk,hN,hT,hM,hL]))
  simp only[decide_eq_true hL,hk,Int.reduceEq,decide_true,decide_false,Bool.not_true,Bool.not_false,ge_iff_le,gt_iff_lt,z0,go_sem];by_cases hC:(2:Int)<=((t.Kids.length:Nat):Int)
  case neg=>
   simp only[decide_eq_false hC,hk,Int.reduceEq,decide_true,decide_false,Bool.not_true,Bool.not_false,ge_iff_le,gt_iff_lt,z0,go_sem];exact qH rfl (congrArg AV.bool (We (lo:=2) (hi:=5) (by rw[hk];decide) (by rw[hk];decide) (by omega)))
  simp only[decide_eq_true hC,hk,Int.reduceEq,decide_true,decide_false,Bool.not_true,Bool.not_false,ge_iff_le,gt_iff_lt,z0,go_sem];exact qH rfl (congrArg AV.bool (by rw[Bool.eq_iff_iff];simp[qi,kLo,kHi,qU,hk,hN,hT,hM,hL,hC]))
 ·simp only[hk,Int.reduceEq,decide_true,decide_false,Bool.not_true,Bool.not_false,ge_iff_le,gt_iff_lt,z0,go_sem];cases hT:zb t.Typ
  case false=>
   simp only[hk,Int.reduceEq,decide_true,decide_false,Bool.not_true,Bool.not_false,ge_iff_le,gt_iff_lt,z0,go_sem];exact qH rfl (congrArg AV.bool (by rw[Bool.eq_iff_iff];simp[qi,kLo,kHi,qU,hk,hT]))
  simp only[hk,Int.reduceEq,decide_true,decide_false,Bool.not_true,Bool.not_false,ge_iff_le,gt_iff_lt,z0,go_sem];by_cases hM:t.Num=0
  case neg=>
   simp only[decide_eq_false hM,hk,Int.reduceEq,decide_true,decide_false,Bool.not_true,Bool.not_false,ge_iff_le,gt_iff_lt,z0,go_sem];exact qH rfl (congrArg AV.bool (by rw[Bool.eq_iff_iff];simp[qi,kLo,kHi,qU,hk,hT,hM]))
  simp only[decide_eq_true hM,hk,Int.reduceEq,decide_true,decide_false,Bool.not_true,Bool.not_false,ge_iff_le,gt_iff_lt,z0,go_sem];refine qK (wI B1) ?_;simp only[hk,Int.reduceEq,decide_true,decide_false,Bool.not_true,Bool.not_false,ge_iff_le,gt_iff_lt,z0,go_sem];refine qK (jy B1) ?_;simp only[hk,Int.reduceEq,decide_true,decide_false,Bool.not_true,Bool.not_false,ge_iff_le,gt_iff_lt,z0,go_sem];cases hL:za t.Name
  case false=>
   simp only[hk,Int.reduceEq,decide_true,decide_false,Bool.not_true,Bool.not_false,ge_iff_le,gt_iff_lt,z0,go_sem];exact qH rfl (congrArg AV.bool (by rw[Bool.eq_iff_iff];simp[qi,kLo,kHi,qU,hk,hT,hM,hL]))
  simp only[hk,Int.reduceEq,decide_true,decide_false,Bool.not_true,Bool.not_false,ge_iff_le,gt_iff_lt,z0,go_sem];by_cases hC:((t.Kids.length:Nat):Int)=1
  case neg=>
   simp only[decide_eq_false hC,hk,Int.reduceEq,decide_true,decide_false,Bool.not_true,Bool.not_false,ge_iff_le,gt_iff_lt,z0,go_sem];exact qH rfl (congrArg AV.bool (We (lo:=1) (hi:=1) (by rw[hk];decide) (by rw[hk];decide) (by omega)))
  simp only[decide_eq_true hC,hk,Int.reduceEq,decide_true,decide_false,Bool.not_true,Bool.not_false,ge_iff_le,gt_iff_lt,z0,go_sem];refine qK (qYV B.l B.s) ?_;simp only[hk,Int.reduceEq,decide_true,decide_false,Bool.not_true,Bool.not_false,ge_iff_le,gt_iff_lt,z0,go_sem];exact qH rfl (congrArg AV.bool (by rw[Bool.eq_iff_iff];simp[qi,kLo,kHi,qU,hk,hT,hM,hL,hC]))
 ·simp only[hk,Int.reduceEq,decide_true,decide_false,Bool.not_true,Bool.not_false,ge_iff_le,gt_iff_lt,z0,go_sem];by_cases hN:t.Names.length=0
  case neg=>
   simp only[decide_eq_false hN,hk,Int.reduceEq,decide_true,decide_false,Bool.not_true,Bool.not_false,ge_iff_le,gt_iff_lt,z0,go_sem];have hN:¬t.Names=[]:=fun q=>hN (zn.2 q);exact qH rfl (congrArg AV.bool (by rw[Bool.eq_iff_iff];simp[qi,kLo,kHi,qU,hk,hN]))
  simp only[decide_eq_true hN,hk,Int.reduceEq,decide_true,decide_false,Bool.not_true,Bool.not_false,ge_iff_le,gt_iff_lt,z0,go_sem];have hN:t.Names=[]:=zn.1 hN;cases hT:zb t.Typ
  case false=>
   simp only[hk,Int.reduceEq,decide_true,decide_false,Bool.not_true,Bool.not_false,ge_iff_le,gt_iff_lt,z0,go_sem];exact qH rfl (congrArg AV.bool (by rw[Bool.eq_iff_iff];simp[qi,kLo,kHi,qU,hk,hN,hT]))
  simp only[hk,Int.reduceEq,decide_true,decide_false,Bool.not_true,Bool.not_false,ge_iff_le,gt_iff_lt,z0,go_sem];by_cases hM:t.Num=0
  case neg=>
   simp only[decide_eq_false hM,hk,Int.reduceEq,decide_true,decide_false,Bool.not_true,Bool.not_false,ge_iff_le,gt_iff_lt,z0,go_sem];exact qH rfl (congrArg AV.bool (by rw[Bool.eq_iff_iff];simp[qi,kLo,kHi,qU,hk,hN,hT,hM]))
  simp only[decide_eq_true hM,hk,Int.reduceEq,decide_true,decide_false,Bool.not_true,Bool.not_false,ge_iff_le,gt_iff_lt,z0,go_sem];refine qK (wI B1) ?_;simp only[hk,Int.reduceEq,decide_true,decide_false,Bool.not_true,Bool.not_false,ge_iff_le,gt_iff_lt,z0,go_sem];refine qK (jy B1) ?_;simp only[hk,Int.reduceEq,decide_true,decide_false,Bool.not_true,Bool.not_false,ge_iff_le,gt_iff_lt,z0,go_sem];by_cases hL:t.Name=[]
  case neg=>
   simp only[decide_eq_false hL,hk,Int.reduceEq,decide_true,decide_false,Bool.not_true,Bool.not_false,ge_iff_le,gt_iff_lt,z0,go_sem];exact qH rfl (congrArg AV.bool (by rw[Bool.eq_iff_iff];simp[qi,kLo,kHi,qU,hk,hN,hT,hM,hL]))
  simp only[decide_eq_true hL,hk,Int.reduceEq,decide_true,decide_false,Bool.not_true,Bool.not_false,ge_iff_le,gt_iff_lt,z0,go_sem];exact qH rfl (congrArg AV.bool (by rw[Bool.eq_iff_iff];simp[qi,kLo,kHi,qU,hk,hN,hT,hM,hL]<;>omega))
 ·simp only[h1,h2,h3,h4,h5,h6,h7,h8,h9,h10,h11,Int.reduceEq,decide_true,decide_false,Bool.not_true,Bool.not_false,ge_iff_le,gt_iff_lt,z0,go_sem];by_cases hN:t.Names.length=0
  case neg=>
   simp only[decide_eq_false hN,h1,h2,h3,h4,h5,h6,h7,h8,h9,h10,h11,Int.reduceEq,decide_true,decide_false,Bool.not_true,Bool.not_false,ge_iff_le,gt_iff_lt,z0,go_sem];have hN:¬t.Names=[]:=fun q=>hN (zn.2 q);exact qH rfl (congrArg AV.bool (by rw[Bool.eq_iff_iff];simp[qi,kLo,kHi,qU,h1,h2,h3,h4,h5,h6,h7,h8,h9,h10,h11,hN]))
  simp only[decide_eq_true hN,h1,h2,h3,h4,h5,h6,h7,h8,h9,h10,h11,Int.reduceEq,decide_true,decide_false,Bool.not_true,Bool.not_false,ge_iff_le,gt_iff_lt,z0,go_sem];have hN:t.Names=[]:=zn.1 hN;cases hT:zb t.Typ
  case false=>
   simp only[h1,h2,h3,h4,h5,h6,h7,h8,h9,h10,h11,Int.reduceEq,decide_true,decide_false,Bool.not_true,Bool.not_false,ge_iff_le,gt_iff_lt,z0,go_sem];exact qH rfl (congrArg AV.bool (by rw[Bool.eq_iff_iff];simp[qi,kLo,kHi,qU,h1,h2,h3,h4,h5,h6,h7,h8,h9,h10,h11,hN,hT]))
  simp only[h1,h2,h3,h4,h5,h6,h7,h8,h9,h10,h11,Int.reduceEq,decide_true,decide_false,Bool.not_true,Bool.not_false,ge_iff_le,gt_iff_lt,z0,go_sem];by_cases hM:t.Num=0
  case neg=>
   simp only[decide_eq_false hM,h1,h2,h3,h4,h5,h6,h7,h8,h9,h10,h11,Int.reduceEq,decide_true,decide_false,Bool.not_true,Bool.not_false,ge_iff_le,gt_iff_lt,z0,go_sem];exact qH rfl (congrArg AV.bool (by rw[Bool.eq_iff_iff];simp[qi,kLo,kHi,qU,h1,h2,h3,h4,h5,h6,h7,h8,h9,h10,h11,hN,hT,hM]))
  simp only[decide_eq_true hM,h1,h2,h3,h4,h5,h6,h7,h8,h9,h10,h11,Int.reduceEq,decide_true,decide_false,Bool.not_true,Bool.not_false,ge_iff_le,gt_iff_lt,z0,go_sem];refine qK (wI B1) ?_;simp only[h1,h2,h3,h4,h5,h6,h7,h8,h9,h10,h11,Int.reduceEq,decide_true,decide_false,Bool.not_true,Bool.not_false,ge_iff_le,gt_iff_lt,z0,go_sem];refine qK (jy B1) ?_;simp only[h1,h2,h3,h4,h5,h6,h7,h8,h9,h10,h11,Int.reduceEq,decide_true,decide_false,Bool.not_true,Bool.not_false,ge_iff_le,gt_iff_lt,z0,go_sem];exact qH rfl (congrArg AV.bool (by rw[Bool.eq_iff_iff];simp only[qi,kLo,kHi,h1,h2,h3,h4,h5,h6,h7,h8,h9,h10,h11];simp;omega))
end Go.Ab
namespace Go.Ab
open Go
set_option maxRecDepth 10000
set_option maxHeartbeats 2000000
mutual
def qA.shp:qA->Nat×Nat×Bool
 |.mk k v n t ns ks=>match (if qi (.mk k v n t ns ks)then qA.shps (decide (k=9)) ks false 1 1 else none)with
  | none=>(0,0,false)
  | some (d,s)=>(d,s,true)
def qA.shps(m:Bool):List qA->Bool->Nat->Nat->Option (Nat×Nat)
 |[],_,d,s=>some (d,s)
 | x::xs,p,d,s=>if (decide (x.Kind=10)==(m&&p))then(match x.shp with
   | (d',s',ok)=>if ok then qA.shps m xs true (max d (d'+1)) (s+s')else none)
  else none
end
theorem qA.shp_eq(x:qA):x.shp=match (if qi x then qA.shps (decide (x.Kind=9)) x.Kids false 1 1 else none)with
  | none=>(0,0,false)
  | some (d,s)=>(d,s,true):=by cases x;rw[qA.shp];rfl
theorem qA.shps_eq{m p:Bool}{x:qA}{xs:List qA}{d s:Nat}:qA.shps m (x::xs) p d s=if (decide (x.Kind=10)==(m&&p))then(if x.shp.2.2 then qA.shps m xs true (max d (x.shp.1+1)) (s+x.shp.2.1)else none)else none:=by
 rw[qA.shps]
theorem qA.shps_le{m:Bool}:∀{xs:List qA}{p:Bool}{d s d1 s1:Nat},(∀y∈xs,y.shp.1<=y.shp.2.1/\y.shp.2.1<=y.nd/\(y.shp.2.2=true->1<=y.shp.2.1))->qA.shps m xs p d s=some (d1,s1)->d<=d1/\s<=s1/\s1<=s+qE qA.nd xs/\(d<=s->1<=s->d1<=s1)
 |[],p,d,s,d1,s1,_,h=>by simp only[qA.shps,oSi,Prod.mk.injEq]at h;simp only[qE];omega
 | x::xs,p,d,s,d1,s1,ih,h=>by
  rw[qA.shps_eq]at h;split at h
  ·split at h
   ·rename_i h2;have hx:=ih x (by simp);have:=qA.shps_le (fun y hy=>ih y (by simp[hy])) h;simp only[qE];have:=hx.2.2 h2;omega
   ·cases h
  ·cases h
theorem qA.shp_le:∀(x:qA),x.shp.1<=x.shp.2.1/\x.shp.2.1<=x.nd/\(x.shp.2.2=true->1<=x.shp.2.1):=qA.ind fun x ih=>by
 rw[qA.shp_eq,qA.nd_eq];split
 ·simp
 ·rename_i d s h;split at h
  ·have:=qA.shps_le ih h;simp only;omega
  ·cases h
mutual
def qA.nod:qA->Nat->Bool->Nat->Option Nat
 |.mk k v n t ns ks,d,c,l=>if d=0\/l=0 then none else if (decide (k=10)==c)then(if qi (.mk k v n t ns ks)then qA.nods (decide (k=9)) ks false (d-1) l 1 else none)else none
def qA.nods(m:Bool):List qA->Bool->Nat->Nat->Nat->Option Nat
 |[],_,_,_,n=>some n
 | x::xs,p,d,l,n=>match x.nod d (m&&p) (l-n)with
  | none=>none
  | some k=>qA.nods m xs true d l (n+k)
end
theorem qA.nod_eq(x:qA)(d:Nat)(c:Bool)(l:Nat):x.nod d c l=if d=0\/l=0 then none else if (decide (x.Kind=10)==c)then(if qi x then qA.nods (decide (x.Kind=9)) x.Kids false (d-1) l 1 else none)else none:=by cases x;rw[qA.nod];rfl
theorem qA.nods_shps{m:Bool}{e l:Nat}:∀{xs:List qA},(∀y∈xs,∀(c:Bool)(l:Nat),y.nod e c l=if y.shp.2.2=true/\y.shp.1<=e/\y.shp.2.1<=l/\(decide (y.Kind=10)==c)=true then some y.shp.2.1 else none)->∀{p:Bool}{d s:Nat},d<=e+1->s<=l->
  qA.nods m xs p e l s=match qA.shps m xs p d s with
   | none=>none
   | some (d1,s1)=>if d1<=e+1/\s1<=l then some s1 else none
 |[],_,p,d,s,hd,hs=>by simp[qA.nods,qA.shps,hd,hs]
 | x::xs,ih,p,d,s,hd,hs=>by
  have hx:=ih x (by simp);have hxs:=fun(d s:Nat)(q:d<=e+1)(q2:s<=l)=>qA.nods_shps (m:=m) (l:=l) (xs:=xs) (fun y hy=>ih y (by simp[hy])) (p:=true) (d:=d) (s:=s) q q2;have hq:∀{d s d1 s1},qA.shps m xs true d s=some (d1,s1)->d<=d1/\s<=s1:=fun h=>by
   have:=qA.shps_le (fun y _=>qA.shp_le y) h;omega
  simp only[qA.nods,qA.shps_eq,hx];generalize x.shp=pp;obtain⟨d',s',ok⟩:=pp;cases hc:(decide (x.Kind=10)==(m&&p))
  ·simp
  ·cases ok with
   | false=>simp
   | true=>
    simp only[true_and,if_true,and_true];by_cases h:d'<=e/\s'<=l-s
    ·rw[if_pos h];exact hxs _ _ (by omega) (by omega)
    ·rw[if_neg h];cases hz:qA.shps m xs true (max d (d'+1)) (s+s')with
     | none=>rfl
     | some p=>
      obtain⟨d1,s1⟩:=p;have:=hq hz;simp only;rw[if_neg (by omega)]
theorem qA.nod_shp:∀(x:qA)(d:Nat)(c:Bool)(l:Nat),x.nod d c l=if x.shp.2.2=true/\x.shp.1<=d/\x.shp.2.1<=l/\(decide (x.Kind=10)==c)=true then some x.shp.2.1 else none:=qA.ind fun x ih d c l=>by
 rw[qA.nod_eq];have hle:=qA.shp_le x;by_cases h0:d=0\/l=0
 ·rw[if_pos h0,if_neg];rintro⟨q1,q2,q3,_⟩;have:=hle.2.2 q1;rw[qA.shp_eq]at q1 q2 q3 this;split at q1
  ·cases q1
  ·rename_i d1 s1 h;rw[h]at q2 q3;split at h
   ·have:=qA.shps_le (fun y _=>qA.shp_le y) h;simp only at q2 q3;omega
   ·cases h
 rw[if_neg h0];cases hc:(decide (x.Kind=10)==c)
 ·simp
 rw[qA.shp_eq];cases hn:qi x
 ·simp
 simp only[if_true,and_true];rw[qA.nods_shps (d:=1) (fun y hy=>ih y hy (d-1)) (by omega) (by omega)];cases hz:qA.shps (decide (x.Kind=9)) x.Kids false 1 1 with
 | none=>simp
 | some p=>
  obtain⟨d1,s1⟩:=p;simp only[true_and];congr 1;apply propext;omega
def JX(x:qA):Bool:=x.shp.2.2&&(!decide (x.Kind=10)&&(decide (x.shp.1<=24)&&decide (x.shp.2.1<=160)))
theorem qfX(x:qA):JX x=decide (0<jI (x.nod 24 false 160)):=by
 rw[qA.nod_shp,JX];have:=qA.shp_le x;by_cases h1:x.shp.2.2=true
 ·have h2:=this.2.2 h1;by_cases h3:x.Kind=10
  ·simp[h1,h3,jI]
  ·by_cases h4:x.shp.1<=24/\x.shp.2.1<=160
   ·rw[if_pos ⟨h1,h4.1,h4.2,by simp[h3]⟩];simp[h1,h3,h4,jI];omega
   ·rw[if_neg fun q=>h4 ⟨q.2.1,q.2.2.1⟩];simp[h1,h3,jI];omega
 ·rw[if_neg fun q=>h1 q.1];simp[h1,jI]
theorem qc8{x:qA}{d l n:Nat}{c:Bool}(h:x.nod d c l=some n):1<=n/\n<=l:=by
 rw[qA.nod_shp]at h;split at h
 ·rename_i q;cases h;exact⟨(qA.shp_le x).2.2 q.1,q.2.2.1⟩
 ·cases h
theorem qXF{x:qA}(hb:x.bd)(hw:x.wz<=1048575):TB x/\(∀y∈x.Kids,y.bd/\y.wz<=1048575)/\x.Kids.length+qE qA.wz x.Kids<=1048575:=by
 rw[qA.bd_eq]at hb;rw[qA.wz_eq]at hw;have h1:=qB.nd_wz x.Typ;have h2:=qB.wz_eq x.Typ;have h3:∀xs:List qA,∀y∈xs,y.wz<=qE qA.wz xs:=fun xs=>by
  induction xs with
  | nil=>intro y hy;cases hy
  | cons z zs ih=>
   intro y hy;simp only[qE];rcases List.mem_cons.1 hy with rfl | hy
   ·omega
   ·have:=ih y hy;omega
 exact⟨⟨hb.1,hb.2.1,by omega,by omega,hb.2.2.1,by omega,by omega⟩,fun y hy=>⟨hb.2.2.2 y hy,by have:=h3 _ y hy;omega⟩,by omega⟩
theorem c445(x:qA):∀(hb:x.bd)(hn:x.wz<=1048575),Pure Gm 445 [x.enc] (.tup [.int .i64 (x.shp.1:Nat),.int .i64 (x.shp.2.1:Nat),.bool x.shp.2.2]):=by
 induction x using qA.ind with
 | _ x ih=>
 intro hb hn;refine pJ UL ?_;simp only[UL,qM,go_sem];obtain⟨B,hk,hs⟩:=qXF hb hn;refine zJ qA.ln ?_;simp only[go_sem];have hq:=qA.shp_eq x;refine qK (c807 B) ?_;simp only[go_sem];cases ho:qi x
 ·simp only[Bool.not_false,go_sem];rw[ho]at hq;simp only[bFt,if_false]at hq;exact zX rfl (by rw[hq];rfl)
 simp only[Bool.not_true,go_sem];rw[ho,if_pos rfl]at hq;have e0:x.Kids.length<=1048575:=by omega
 have el:x.nd<=1048576:=by have:=qA.nd_wz x;omega
 have hnd:=qA.nd_eq x;refine Sem.loop (fun a:Nat×Nat×Nat=>a.1<=x.Kids.length/\a.2.1<=a.2.2/\1<=a.2.2/\a.2.2+qE qA.nd (x.Kids.drop a.1)<=1048576/\qA.shps (decide (x.Kind=9)) x.Kids false 1 1=qA.shps (decide (x.Kind=9)) (x.Kids.drop a.1) (decide (0<a.1)) a.2.1 a.2.2)
  (fun a=>(⟨[(2,.int .i64 (a.2.1:Nat)),(3,.int .i64 (a.2.2:Nat)),(14,.lst 8 (x.Kids.map qA.enc) false),(15,.int .i64 x.Kids.length),(16,.int .i64 (a.1:Nat))],[(1,x.enc)],[]⟩:VSt)) (fun a=>x.Kids.length-a.1) (0,1,1) (by kernel_rfl) ⟨nZl _,nLr _,nLr _,by simp only[List.drop_zero];omega,rfl⟩ (Can.sub (by simp[go_sem]) (by simp[go_sem])) ?_
 rintro⟨i,d,s⟩ ⟨hi,h1,h2,h3,hI⟩;simp only at hi h1 h2 h3 hI;simp only[go_sem];apply zN<;>intro hc<;>simp only[hc,go_sem]
 ·have hlt:i<x.Kids.length:=by have:=odT hc;omega
  simp only[gMp,gEg hlt,oMs,go_sem];refine qO rfl qA.ln (by exact⟨_,qA.enc_eq _⟩) (by decide) ?_;simp only[go_sem];have hm:=gMm hlt;have hd:x.Kids.drop i=x.Kids[i]::x.Kids.drop (i+1):=by simp
  rw[hd]at h3;simp only[qE]at h3;rw[hd,qA.shps_eq]at hI;have hi0:decide ((0:Int)<((i:Nat):Int))=decide (0<i):=by rw[decide_eq_decide];omega
  cases hc:(decide (x.Kids[i].Kind=10)==(decide (x.Kind=9)&&decide (0<i)))
  ·have hbad:qA.shps (decide (x.Kind=9)) x.Kids false 1 1=none:=by rw[hI,hc];rfl
   rw[hbad]at hq;by_cases k9:x.Kind=9
   ·simp only[decide_eq_true k9,gt_iff_lt,hi0,Bool.true_and,go_sem]at hc|-;simp only[hc,Bool.not_false,go_sem];exact zX rfl (by rw[hq];rfl)
   ·simp only[decide_eq_false k9,Bool.false_and,go_sem]at hc|-;simp only[hc,Bool.not_false,go_sem];exact zX rfl (by rw[hq];rfl)
  ·rw[hc,if_pos rfl]at hI;have hle:=qA.shp_le x.Kids[i];by_cases k9:x.Kind=9
   case' pos=>
    simp only[decide_eq_true k9,gt_iff_lt,hi0,Bool.true_and,go_sem]at hc|-
   case' neg=>
    simp only[decide_eq_false k9,Bool.false_and,go_sem]at hc|-
   all_goals
    simp only[hc,Bool.not_true,go_sem];refine qK (ih _ hm (hk _ hm).1 (hk _ hm).2) ?_;simp only[go_sem];cases hg:x.Kids[i].shp.2.2
    ·simp only[Bool.not_false];simp only[go_sem];rw[hg,if_neg (by decide)]at hI;rw[hI]at hq;exact zX rfl (by rw[hq];rfl)
    ·rw[hg,if_pos rfl]at hI;simp only[Bool.not_true];simp only[go_sem];simp only[qg (n:=((x.Kids[i].shp.1:Nat):Int)+1) (by omega) (by omega),qg (n:=(s:Int)+((x.Kids[i].shp.2.1:Nat):Int)) (by omega) (by omega)];have em:max ((d:Nat):Int) (((x.Kids[i].shp.1:Nat):Int)+1)=((max d (x.Kids[i].shp.1+1):Nat):Int):=by omega
     have es:(s:Int)+((x.Kids[i].shp.2.1:Nat):Int)=((s+x.Kids[i].shp.2.1:Nat):Int):=by omega
     rw[em,es];simp only[qz (show i<4611686018427387904 by omega)];have hp:=hle.2.2 hg;refine qa (i+1,max d (x.Kids[i].shp.1+1),s+x.Kids[i].shp.2.1) ⟨by simp only;omega,by simp only;omega,by simp only;omega,by simp only;omega, ?_⟩ (by simp only;omega) (Can.sub (by simp[go_sem]) (by simp[go_sem]))
     first | (rw[decide_eq_true k9]at*;rw[hI];simp) | (rw[decide_eq_false k9]at*;rw[hI];simp)
 ·obtain rfl:i=x.Kids.length:=by have:=odF hc;omega
  rw[List.drop_length,qA.shps]at hI;rw[hI]at hq;exact zX rfl (by rw[hq])
theorem c144{x:qA}(hb:x.bd)(hn:x.wz<=1048575):Pure Gm 144 [x.enc] (.bool (JX x)):=by
 refine pJ VZ ?_;simp only[VZ,qM,go_sem];refine zJ qA.ln ?_;simp only[go_sem];refine qK (c445 x hb hn) ?_;simp only[go_sem];have z1:decide (((x.shp.1:Nat):Int)<=24)=decide (x.shp.1<=24):=by rw[decide_eq_decide];omega
 have z2:decide (((x.shp.2.1:Nat):Int)<=160)=decide (x.shp.2.1<=160):=by rw[decide_eq_decide];omega
 cases h1:x.shp.2.2
 ·simp only[go_sem];exact qH rfl (by simp[JX,h1])
 simp only[go_sem];by_cases h2:x.Kind=10
 ·simp only[h2,decide_true,Bool.not_true,go_sem];exact qH rfl (by simp[JX,h2])
 simp only[decide_eq_false h2,Bool.not_false,z1,go_sem];by_cases h3:x.shp.1<=24
 ·simp only[decide_eq_true h3,z2,go_sem];exact qH rfl (by simp[JX,h1,h2,h3])
 ·simp only[decide_eq_false h3,go_sem];exact qH rfl (by simp[JX,h1,h2,h3])
end Go.Ab
namespace Go.Ab
open Go
set_option maxRecDepth 10000
set_option maxHeartbeats 2000000
def fzp(n id:Nat)(o:Option qD)(st:VSt):VSt:=match o with
 | some (.row w [v] true)=>if w=0 then st else{s:=(n,.ept v 0)::st.s,l:=st.l,h:=st.h.set id .dead}
 | _=>st
def fzo(n:Nat)(v:Option AV)(st:VSt):VSt:=match v with
 | none=>st
 | some (.ept _ _)=>st
 | some (.lst _ _ _)=>st
 | some (.int _ _)=>st
 | some (.bool _)=>st
 | some .nils=>st
 | some (.agg _)=>st
 | some (.ptr id 0 0)=>fzp n id st.h[id]? st
 | _=>Ju n st
section
variable {n id:Nat} {s m:qo} {h:List qD} {v x:AV} {st:VSt}
@[go_sem] theorem qg9:Ju n ⟨s,m,h⟩=fzo n (get s n) ⟨s,m,h⟩:=by
 unfold fzo;split<;>rename_i e<;>try (simp only[Ju,e];done)
 ·simp only[Ju,e,fzp];split<;>rename_i e2<;>simp only[e2]
  ·split<;>split<;>first | rfl | omega
@[go_sem] theorem qhF:get [] n=none:=nr rfl
@[go_sem] theorem qhB:fzo n none st=st:=nr rfl
@[go_sem] theorem qhA{j:Nat}:fzo n (some (.ept v j)) st=st:=nr rfl
@[go_sem] theorem qhC:fzo n (some (.ptr id 0 0)) ⟨s,m,h⟩=fzp n id h[id]? ⟨s,m,h⟩:=nr rfl
@[go_sem] theorem qhD{w:Nat}:fzp n id (some (.row w [v] true)) ⟨s,m,h⟩=if w=0 then⟨s,m,h⟩else⟨(n,.ept v 0)::s,m,h.set id .dead⟩:=nr rfl
end
theorem c728(x:qA):∀(d:Nat)(c:Bool)(l:Nat)(hd:d<=24)(hl:l<=160)(hb:x.bd)(hn:x.wz<=1048575),Pure Gm 728 [.ept x.enc 0,.int .i64 (d:Nat),.bool c,.int .i64 (l:Nat)] (.int .i64 (jI (x.nod d c l))):=by
 induction x using qA.ind with
 | _ x ih=>
 intro d c l hd hl hb hn;refine pJ Uj ?_;simp only[Uj,qM,go_sem];obtain⟨B,hk,hs⟩:=qXF hb hn;have hq:=qA.nod_eq x d c l;refine qK qYQ ?_;simp only[go_sem];by_cases h0:d=0
 ·have e0:decide (((d:Nat):Int)<1)=true:=decide_eq_true (by omega);simp only[e0,go_sem];exact qH rfl (by rw[hq,if_pos (.inl h0)];rfl)
 have e0:decide (((d:Nat):Int)<1)=false:=decide_eq_false (by omega);simp only[e0,go_sem];by_cases h1:l=0
 ·have e1:decide (((l:Nat):Int)<1)=true:=decide_eq_true (by omega);simp only[e1,go_sem];exact qH rfl (by rw[hq,if_pos (.inr h1)];rfl)
 have e1:decide (((l:Nat):Int)<1)=false:=decide_eq_false (by omega);simp only[e1,go_sem];rw[if_neg (by omega)]at hq;cases hc:(decide (x.Kind=10)==c)
 ·simp only[Bool.not_false,go_sem];exact qH rfl (by rw[hq,hc];rfl)
 rw[hc,if_pos rfl]at hq;simp only[Bool.not_true,go_sem];refine qK ZW ?_;simp only[go_sem];cases hki:(decide (kLo x.Kind<=((x.Kids.length:Nat):Int))&&decide (((x.Kids.length:Nat):Int)<=kHi x.Kind))
 ·simp only[Bool.not_false,go_sem];exact qH rfl (by rw[hq,qi,hki];rfl)
 simp only[Bool.not_true,go_sem];refine qK (qYR B) ?_;simp only[go_sem];rw[qi,hki,Bool.true_and]at hq;cases hf:qU x
 ·simp only[Bool.not_false,go_sem];exact qH rfl (by rw[hq,hf];rfl)
 rw[hf,if_pos rfl]at hq;simp only[Bool.not_true,go_sem];have e2:x.Kids.length<=1048575:=by omega
 refine Sem.loop (fun a:Nat×Nat=>a.1<=x.Kids.length/\1<=a.2/\a.2<=l/\qA.nods (decide (x.Kind=9)) x.Kids false (d-1) l 1=qA.nods (decide (x.Kind=9)) (x.Kids.drop a.1) (decide (0<a.1)) (d-1) l a.2)
  (fun a=>(⟨[(0,.ept x.enc 0),(1,.int .i64 (d:Nat)),(3,.int .i64 (l:Nat)),(11,.int .i64 (a.2:Nat)),(12,.int .i64 (a.1:Nat))],[],[]⟩:VSt)) (fun a=>x.Kids.length-a.1) (0,1) (by kernel_rfl) ⟨nZl _,nLr _,by simp only;omega,rfl⟩ (Can.sub (by simp[go_sem]) (by simp[go_sem])) ?_
 rintro⟨i,n⟩ ⟨hi,h2,h3,hI⟩;simp only at hi h2 h3 hI;simp only[lMp,go_sem];by_cases hlt:i<x.Kids.length
 ·have e3:decide ((i:Int)<(x.Kids.length:Nat))=true:=decide_eq_true (by omega);simp only[e3,gMp,gEg hlt,oMs,go_sem];have hm:=gMm hlt;have hdr:x.Kids.drop i=x.Kids[i]::x.Kids.drop (i+1):=by simp
  rw[hdr,qA.nods]at hI;have hi0:decide ((0:Int)<((i:Nat):Int))=decide (0<i):=by rw[decide_eq_decide];omega
  have ed:((d:Nat):Int)-1=((d-1:Nat):Int):=by omega
  have el:((l:Nat):Int)-((n:Nat):Int)=((l-n:Nat):Int):=by omega
  have IH:=ih _ hm (d-1) (decide (x.Kind=9)&&decide (0<i)) (l-n) (by omega) (by omega) (hk _ hm).1 (hk _ hm).2;by_cases k9:x.Kind=9
  case' pos=>
   simp only[decide_eq_true k9,gt_iff_lt,hi0,Bool.true_and,go_sem]at hI IH|-
  case' neg=>
   simp only[decide_eq_false k9,Bool.false_and,go_sem]at hI IH|-
  all_goals
   simp only[ed,el,qg (n:=((d-1:Nat):Int)) (by omega) (by omega),qg (n:=((l-n:Nat):Int)) (by omega) (by omega),go_sem];refine qK IH ?_;generalize hr:x.Kids[i].nod (d-1) _ (l-n)=r at hI|-;cases r with
   | none=>
    simp only at hI;have e4:decide ((-1:Int)<0)=true:=rfl;simp only[jI,e4,go_sem];exact qH rfl (by rw[hq];first | rw[hI] | (rw[decide_eq_true k9,hI]) | (rw[decide_eq_false k9,hI]))
   | some k=>
    have hin:=qc8 hr;simp only at hI;have e4:decide (((k:Nat):Int)<0)=false:=decide_eq_false (by omega);have es:((n:Nat):Int)+((k:Nat):Int)=((n+k:Nat):Int):=by omega
    simp only[jI,e4,es,qg (n:=((n+k:Nat):Int)) (by omega) (by omega),qz (show i<4611686018427387904 by omega),go_sem];refine qa (i+1,n+k) ⟨by simp only;omega,by simp only;omega,by simp only;omega, ?_⟩ (by simp only;omega) (Can.sub (by simp[go_sem]) (by simp[go_sem]))
    first | (rw[decide_eq_true k9]at*;rw[hI];simp) | (rw[decide_eq_false k9]at*;rw[hI];simp)
 ·have e3:decide ((i:Int)<(x.Kids.length:Nat))=false:=decide_eq_false (by omega);simp only[e3,go_sem];obtain rfl:i=x.Kids.length:=by omega
  rw[List.drop_length,qA.nods]at hI;exact qH rfl (by rw[hq,hI];rfl)
theorem c350{x:qA}(hb:x.bd)(hn:x.wz<=1048575):Pure Gm 350 [.ept x.enc 0] (.bool (JX x)):=by
 refine pJ UF ?_;simp only[UF,qM,go_sem];refine qK (c728 x 24 false 160 (by decide) (by decide) hb hn) ?_;simp only[go_sem];exact qH rfl (by rw[qfX])
end Go.Ab
namespace Go.Ab
open Go
set_option maxRecDepth 10000
set_option maxHeartbeats 2000000
theorem qfG{t:Str}{i:Nat}(hk:(zM t i).1≠0):ZT (jQ t i):=by
 intro h4;by_cases hp:0<(qk t i).length
 ·have e:=qAR hp;have ets:wR t i=jQ t i:=by unfold wR;rw[if_neg hk]
  rw[ets]at e;have et:(jQ t i).Text=qk t i:=by rw[e]
  rw[et];have ee:=YM hp;have h4':(zM t i).1=4:=h4;refine⟨?_,fun q=>by rw[q]at hp;simp at hp⟩;rw[ee]at h4';split at h4'
  ·simp at h4'
  ·split at h4'
   ·simp at h4'
   ·split at h4'
    ·simp at h4'
    ·split at h4'
     ·assumption
     ·simp at h4'
 ·exfalso;have h4':(zM t i).1=4:=h4;unfold zM at h4';rw[if_neg hp]at h4';split at h4'
  ·simp at h4'
  ·split at h4'<;>simp at h4'
theorem qAT{t:Str}:∀(f:Nat){i:Nat}{acc l:List qN},jm t f i acc=.ok l->(∀x∈acc,ZT x)->∀x∈l,ZT x
 | 0,i,acc,l,h,hx=>by simp only[jm,Except.ok.injEq]at h;subst h;exact hx
 | f+1,i,acc,l,h,hx=>by
  simp only[jm]at h;split at h
  ·split at h
   ·exact qAT f h hx
   ·split at h
    ·cases h
    ·rename_i hk;refine qAT f h fun x hm=> ?_;rcases jd.1 hm with hm | hm
     ·exact hx x hm
     ·simp only[lMg]at hm;subst hm;exact qfG hk
  ·simp only[Except.ok.injEq]at h;subst h;exact hx
theorem qfJ{t:Str}:∀x∈(qw t).1,ZT x:=by
 unfold qw;split
 ·exact fun x hx=>by simp at hx
 ·split
  ·exact fun x hx=>by simp at hx
  ·rename_i l h;exact qAT _ h (fun x hx=>by simp at hx)
theorem ka{t:Str}:zD (qw t).1:=⟨by have:=YN (t:=t);omega,qfL,qfJ,qfK⟩
theorem Km:∀{xs:List Str},AV.pls (xs.map qP)=true
 |[]=>rfl
 | x::xs=>by simp only[lMc,AV.pls,qP,AV.pl,Km (xs:=xs),Bool.and_self]
theorem Kl:∀{xs:List Str},AV.cns (xs.map qP)=true
 |[]=>rfl
 | x::xs=>by simp only[lMc,AV.cns,qP,AV.cn,Kl (xs:=xs),Bool.and_self]
theorem qA.plx:∀x:qA,x.enc.pl=true:=qA.ind fun x ih=>by
 rw[qA.enc_eq];simp[AV.pl,AV.pls,X3 ih,Km,X3 (fun y _=>qB.plx y)]
theorem qA.cnx:∀x:qA,x.enc.cn=true:=qA.ind fun x ih=>by
 rw[qA.enc_eq];simp[AV.cn,AV.cns,XM ih,Kl,XM (fun y _=>qB.cnx y)]
end Go.Ab
namespace Go.Ab
open Go
set_option maxRecDepth 10000
set_option maxHeartbeats 4000000
def mkS(_:Str)(k:Int):Str:=qe k
def ctS(_:Str):Nat:=1
theorem WK(xs:List Str):qE ctS xs=xs.length:=by
 induction xs with
 | nil=>rfl
 | cons x xs ih=>simp only[qE,ih,ctS,lCo];omega
theorem lS(xs:List Str)(n:Nat):qS (xs.map qP) n=(xs.map qP,[]):=by
 induction xs with
 | nil=>rfl
 | cons x xs ih=>simp only[lMc,qS];rw[show lay (qP x) n=(qP x,[])from rfl];simp only[lNi,nAz,ih,lNa]
theorem k514(xs:List Str)(k:Int)(h0:0<=k)(hk:k+(qE ctS xs:Nat)<=4611686018427387904)(hz:xs.length<=4194304):
  Mark Gm 514 (.lst 1 (xs.map qP) false) (.lst 1 ((mkL mkS ctS xs k).map qP) false) k (k+(qE ctS xs:Nat)):=by
 rw[WK]at hk|-;refine Mark.intro (gk _ UP) (by kernel_rfl) rfl (jb (fun _=>rfl) xs) (jb (fun _=>rfl) _) (by simp only[AV.rows,qW mkS ctS (enc:=qP) (fun _ _=>rfl)]) ?_;simp only[UP,qM,lay,lS,go_sem,lMp];refine Sem.loop (fun i:Nat=>i<=xs.length) (fun i=>(⟨[(0,.slice 1 0 0 xs.length false),(1,.int .i64 (k+(i:Nat))),(5,.int .i64 (i:Nat))],[],[.row 1 ((mkL mkS ctS (xs.take i) k).map qP++(xs.drop i).map qP) true]⟩:VSt)) (fun i=>xs.length-i) 0
  (by kernel_rfl) (nZl _) (by simp only[List.take_zero,mkL,List.map_nil,lNa,List.drop_zero,Int.ofNat_zero,Int.natCast_zero,Int.add_zero];exact Can.sub (by simp[go_sem]) (by simp[go_sem])) ?_
 intro i hi;simp only[go_sem];apply zN<;>intro hc<;>simp only[hc,go_sem]
 ·have hlt:i<xs.length:=by have:=odT hc;omega
  have hA:((mkL mkS ctS (xs.take i) k).map qP).length=i:=by rw[lMp,jR];simp;omega
  rw[lDc hlt,lMc];refine qK (jS (by omega)) ?_;simp only[qq hlt,nZa,go_sem];refine zT (v:=.str (qe (k+(i:Nat)))) (e':=.str (qe (k+(i:Nat)))) (by rfl) (by rfl) (qZ hA) (by rfl) ?_;simp only[lSz,qu hA,go_sem];rw[qg (n:=k+(i:Nat)+1) (by omega) (by omega)];simp only[qz (show i<4611686018427387904 by omega),go_sem];refine qa (i+1) (by omega) (by omega) ?_;have e:mkL mkS ctS (xs.take (i+1)) k=mkL mkS ctS (xs.take i) k++[qe (k+(i:Nat))]:=by
   rw[Zl _ _ hlt,WK,lLt,show min i xs.length=i by omega];rfl
  rw[e,lMa,lAa];simp only[Int.natCast_add,Int.cast_ofNat_Int,<-Int.add_assoc];exact Can.sub (by simp[go_sem]) (by simp[go_sem])
 ·have hge:i=xs.length:=by have:=odF hc;omega
  subst hge;refine Qq rfl ?_;rw[lTl,List.drop_length,List.map_nil,lAn]
theorem q516(xs:List Str)(k:Int)(h0:0<=k)(hk:k+(qE ctS xs:Nat)<=4611686018427387904)(hz:xs.length<=4194304):
  Pure Gm 516 [.lst 1 ((mkL mkS ctS xs k).map qP) false,.int .i64 k] (.int .i64 (k+(qE ctS xs:Nat))):=by
 rw[WK]at hk|-;refine pI UR (by simp[AV.trees,AV.tree,zH shS.tree]) rfl ?_;simp only[UR,qM,go_sem,lMp];refine Sem.loop (fun i:Nat=>i<=xs.length) (fun i=>(⟨[(0,.lst 1 ((mkL mkS ctS xs k).map qP) false),(1,.int .i64 (k+(i:Nat))),(5,.int .i64 (i:Nat))],[],[]⟩:VSt)) (fun i=>xs.length-i) 0
  (by kernel_rfl) (nZl _) (by simp only[Int.ofNat_zero,Int.natCast_zero,Int.add_zero];exact Can.sub (by simp[go_sem]) (by simp[go_sem])) ?_
 intro i hi;simp only[go_sem,lMp,jR];apply zN<;>intro hc<;>simp only[hc,go_sem]
 ·have hlt:i<xs.length:=by have:=odT hc;omega
  have hget:=Zk mkS ctS hlt k;rw[WK,lLt,show min i xs.length=i by omega]at hget;simp only[gMp,hget,oMs,mkS,qP,go_sem,decide_true,Bool.not_true];refine qK (jS (by omega)) ?_;simp only[gMp,hget,oMs,mkS,qP,go_sem,decide_true,Bool.not_true];rw[qg (n:=k+(i:Nat)+1) (by omega) (by omega)];simp only[qz (show i<4611686018427387904 by omega),go_sem];refine qa (i+1) (by omega) (by omega) ?_;simp only[Int.natCast_add,Int.cast_ofNat_Int,<-Int.add_assoc];exact Can.sub (by simp[go_sem]) (by simp[go_sem])
 ·have hge:i=xs.length:=by have:=odF hc;omega
  subst hge;exact qH rfl rfl
theorem qA.layE(x:qA)(n:Nat):lay x.enc n=(.agg [.int .i64 x.Kind,.int .i64 x.Num,.str x.Name,.int .i64 x.Typ.Kind,.str x.Typ.Name,.slice 3 (n) 0 x.Typ.Kids.length false,.slice 1 (n+AV.rows (.lst 3 (x.Typ.Kids.map qB.enc) false)) 0 x.Names.length false,.slice 8 (n+AV.rows (.lst 3 (x.Typ.Kids.map qB.enc) false)+AV.rows (.lst 1 (x.Names.map qP) false)) 0 x.Kids.length false],(lay (.lst 3 (x.Typ.Kids.map qB.enc) false) (n)).2++((lay (.lst 1 (x.Names.map qP) false) (n+AV.rows (.lst 3 (x.Typ.Kids.map qB.enc) false))).2++((lay (.lst 8 (x.Kids.map qA.enc) false) (n+AV.rows (.lst 3 (x.Typ.Kids.map qB.enc) false)+AV.rows (.lst 1 (x.Names.map qP) false))).2++[]))):=by
 rw[qA.enc_eq];simp[lay,qS,jY,AV.rows,Nat.add_assoc,Nat.add_comm,Nat.add_left_comm]
theorem qA.rowsE(x:qA):x.enc.rows=AV.rows (.lst 3 (x.Typ.Kids.map qB.enc) false)+AV.rows (.lst 1 (x.Names.map qP) false)+AV.rows (.lst 8 (x.Kids.map qA.enc) false):=by rw[qA.enc_eq];simp[AV.rows,AV.rowss,Nat.add_assoc]
mutual
def qA.ct:qA->Nat
 |.mk _ _ _ t ns ks=>1+1+1+1+1+qE qB.ct t.Kids+qE ctS ns+qA.cts ks
def qA.cts:List qA->Nat
 |[]=>0
 | x::xs=>x.ct+qA.cts xs
end
theorem qA.cts_eq:∀xs,qA.cts xs=qE qA.ct xs
 |[]=>rfl
 | x::xs=>by simp only[qA.cts,qE,qA.cts_eq xs]
theorem qA.ct_eq(x:qA):x.ct=1+1+1+1+1+qE qB.ct x.Typ.Kids+qE ctS x.Names+qE qA.ct x.Kids:=by
 cases x;rw[qA.ct,qA.cts_eq];rfl
theorem Kd(xs:List qB):qE qB.ct xs=2*(xs.length+qE qB.wz xs):=by
 induction xs with
 | nil=>rfl
 | cons x xs ih=>have:=x.nd_wz;simp only[qE,ih,lCo];unfold qB.ct;omega
theorem qA.ctle:∀x:qA,x.ct<=5+5*x.wz:=qA.ind fun x ih=>by
 have h:∀xs:List qA,(∀y∈xs,y.ct<=5+5*y.wz)->qE qA.ct xs<=5*(xs.length+qE qA.wz xs):=fun xs=>by
  induction xs with
  | nil=>intro _;simp[qE]
  | cons y ys ihy=>intro h;have:=ihy fun z hz=>h z (by simp[hz]);have:=h y (by simp);simp only[qE,lCo];omega
 have h1:=h x.Kids ih;have h2:=Kd x.Typ.Kids;have h3:=qB.wz_eq x.Typ;rw[qA.ct_eq,qA.wz_eq,WK];omega
mutual
def qA.mrk:qA->Int->qA
 |.mk _ _ _ t ns ks,k=>.mk k (k+1) (qe (k+1+1)) (.mk (k+1+1+1) (qe (k+1+1+1+1)) (mkL qB.mrk qB.ct t.Kids (k+1+1+1+1+1))) (mkL mkS ctS ns (k+1+1+1+1+1+((qE qB.ct t.Kids:Nat):Int))) (qA.mrks ks (k+1+1+1+1+1+((qE qB.ct t.Kids:Nat):Int)+((qE ctS ns:Nat):Int)))
def qA.mrks:List qA->Int->List qA
 |[],_=>[]
 | x::xs,k=>x.mrk k::qA.mrks xs (k+x.ct)
end
theorem qA.mrks_eq:∀xs k,qA.mrks xs k=mkL qA.mrk qA.ct xs k
 |[],k=>by simp[qA.mrks,mkL]
 | x::xs,k=>by simp[qA.mrks,mkL,qA.mrks_eq xs]
theorem qA.mrk_eq(x:qA)(k:Int):x.mrk k=.mk k (k+1) (qe (k+1+1)) (.mk (k+1+1+1) (qe (k+1+1+1+1)) (mkL qB.mrk qB.ct x.Typ.Kids (k+1+1+1+1+1))) (mkL mkS ctS x.Names (k+1+1+1+1+1+((qE qB.ct x.Typ.Kids:Nat):Int))) (mkL qA.mrk qA.ct x.Kids (k+1+1+1+1+1+((qE qB.ct x.Typ.Kids:Nat):Int)+((qE ctS x.Names:Nat):Int))):=by
 cases x;simp[qA.mrk,qA.mrks_eq,qA.Kids,qA.Typ,qA.Names]
theorem qA.mrkK(x:qA)(k:Int):(x.mrk k).Kind=k:=by rw[qA.mrk_eq];rfl
theorem qA.mrkN(x:qA)(k:Int):(x.mrk k).Num=k+1:=by rw[qA.mrk_eq];rfl
theorem qA.mrkV(x:qA)(k:Int):(x.mrk k).Name=qe (k+1+1):=by rw[qA.mrk_eq];rfl
theorem qA.mrkTK(x:qA)(k:Int):(x.mrk k).Typ.Kind=k+1+1+1:=by rw[qA.mrk_eq];rfl
theorem qA.mrkTV(x:qA)(k:Int):(x.mrk k).Typ.Name=qe (k+1+1+1+1):=by rw[qA.mrk_eq];rfl
theorem qA.mrkTC(x:qA)(k:Int):(x.mrk k).Typ.Kids=mkL qB.mrk qB.ct x.Typ.Kids (k+1+1+1+1+1):=by rw[qA.mrk_eq];rfl
theorem qA.mrkS(x:qA)(k:Int):(x.mrk k).Names=mkL mkS ctS x.Names (k+1+1+1+1+1+((qE qB.ct x.Typ.Kids:Nat):Int)):=by rw[qA.mrk_eq];rfl
theorem qA.mrkC(x:qA)(k:Int):(x.mrk k).Kids=mkL qA.mrk qA.ct x.Kids (k+1+1+1+1+1+((qE qB.ct x.Typ.Kids:Nat):Int)+((qE ctS x.Names:Nat):Int)):=by rw[qA.mrk_eq];rfl
theorem qA.rowsM:∀(x:qA)(k:Int),(x.mrk k).enc.rows=x.enc.rows:=qA.ind fun x ih k=>by
 rw[qA.rowsE,qA.rowsE,qA.mrkC,qA.mrkS,qA.mrkTC];simp only[AV.rows,qAH _ ih,qW mkS ctS (enc:=qP) (fun _ _=>rfl),qW qB.mrk qB.ct (enc:=qB.enc) qB.rowsM]
def qA.mkV(x:qA)(k:Int):qA:=.mk x.Kind x.Num x.Name (.mk x.Typ.Kind x.Typ.Name (mkL qB.mrk qB.ct x.Typ.Kids (k))) (mkL mkS ctS x.Names (k+((qE qB.ct x.Typ.Kids:Nat):Int))) (mkL qA.mrk qA.ct x.Kids (k+((qE qB.ct x.Typ.Kids:Nat):Int)+((qE ctS x.Names:Nat):Int)))
def qA.ctV(x:qA):Nat:=qE qB.ct x.Typ.Kids+qE ctS x.Names+qE qA.ct x.Kids
theorem qA.mkVTC(x:qA)(k:Int):(x.mkV k).Typ.Kids=mkL qB.mrk qB.ct x.Typ.Kids (k):=rfl
theorem qA.mkVS(x:qA)(k:Int):(x.mkV k).Names=mkL mkS ctS x.Names (k+((qE qB.ct x.Typ.Kids:Nat):Int)):=rfl
theorem qA.mkVC(x:qA)(k:Int):(x.mkV k).Kids=mkL qA.mrk qA.ct x.Kids (k+((qE qB.ct x.Typ.Kids:Nat):Int)+((qE ctS x.Names:Nat):Int)):=rfl
theorem qA.rowsV(x:qA)(k:Int):(x.mkV k).enc.rows=x.enc.rows:=by
 rw[qA.rowsE,qA.rowsE,qA.mkVC,qA.mkVS,qA.mkVTC];simp only[AV.rows,qW qA.mrk qA.ct (enc:=qA.enc) qA.rowsM,qW mkS ctS (enc:=qP) (fun _ _=>rfl),qW qB.mrk qB.ct (enc:=qB.enc) qB.rowsM]
theorem qA.ctVle(x:qA):x.ctV<=5*x.wz:=by
 have h0:=x.ct_eq;have h1:=x.ctle;unfold qA.ctV;omega
theorem qb2(n:Nat):∀(xs:List qA)(k:Int)(_:xs.length+qE qA.wz xs<n)(_:0<=k)(_:k+(qE qA.ct xs:Nat)<=4611686018427387904)(_:xs.length+qE qA.wz xs<=4194304),Mark Gm 515 (.lst 8 (xs.map qA.enc) false) (.lst 8 ((mkL qA.mrk qA.ct xs k).map qA.enc) false) k (k+(qE qA.ct xs:Nat)):=by
 induction n with
 | zero=>intro xs k h;exact absurd h (by omega)
 | succ n ih=>
 intro xs k hn h0 hk hz;refine Mark.intro (gk _ UQ) (by kernel_rfl) rfl (jb qA.plx xs) (jb qA.plx _) (by simp only[AV.rows,qW qA.mrk qA.ct (enc:=qA.enc) qA.rowsM]) ?_;simp only[UQ,qM,js,go_sem,Nat.reduceEqDiff,reduceIte,Nat.reduceAdd,nZa];refine Sem.loop (fun i:Nat=>i<=xs.length) (fun i=>(⟨[(0,.slice 8 0 0 xs.length false),(1,.int .i64 (k+((qE qA.ct (xs.take i):Nat):Int))),(5,.int .i64 (i:Nat))],[],(lay (.lst 8 ((mkL qA.mrk qA.ct (xs.take i) k++xs.drop i).map qA.enc) false) 0).2⟩:VSt)) (fun i=>xs.length-i) 0 (by kernel_rfl) (nZl _) (by simp only[List.take_zero,mkL,lNa,List.drop_zero,qE,Int.ofNat_zero,Int.natCast_zero,Int.add_zero];exact Can.sub (by simp[go_sem]) (by simp[go_sem])) ?_;intro i hi;simp only[go_sem,Nat.reduceEqDiff,reduceIte,Nat.reduceAdd,nZa];apply zN<;>intro hc<;>simp only[hc,go_sem,Nat.reduceEqDiff,reduceIte,Nat.reduceAdd,nZa]
 ·have hlt:i<xs.length:=by have:=odT hc;omega
  have hct:=Jm qA.ct hlt;have hcl:=Jl qA.ct xs (i+1);have hrow:=qA.rowsM;rw[lDc hlt,Jf];have hsz:qA.wz xs[i]<=qE qA.wz xs:=jK (f:=qA.wz) (gMm hlt);obtain⟨K,hK⟩:∃K:Int,K=k+((qE qA.ct (xs.take i):Nat):Int):=⟨_,rfl⟩;have hend:k+((qE qA.ct (xs.take (i+1)):Nat):Int)=K+((qA.ct xs[i]:Nat):Int):=by rw[hct,hK];omega
  have hKb:0<=K/\K+((qA.ct xs[i]:Nat):Int)<=4611686018427387904:=by rw[<-hend];omega
  have hmk:(mkL qA.mrk qA.ct (xs.take (i+1)) k++xs.drop (i+1))=mkL qA.mrk qA.ct (xs.take i) k++qA.mrk xs[i] K::xs.drop (i+1):=by rw[Zl qA.mrk qA.ct hlt,<-hK,lAa];rfl
  have hrx:=hrow xs[i] K;rw[<-hK];obtain⟨y,hy⟩:∃y,y=xs[i]:=⟨_,rfl⟩;rw[<-hy]at hmk hend hKb hrx hsz|-;have hcy:qA.ct y=1+1+1+1+1+qE qB.ct y.Typ.Kids+qE ctS y.Names+qE qA.ct y.Kids:=qA.ct_eq y;rw[hcy]at hend hKb;rw[qA.wz_eq,qB.wz_eq]at hsz;have hA:(qS ((mkL qA.mrk qA.ct (xs.take i) k).map qA.enc) 1).1.length=i:=by rw[jZ,lMp,jR];simp;omega
  have hoA:=jY ((mkL qA.mrk qA.ct (xs.take i) k).map qA.enc) 1;have e2:=Jf (enc:=qA.enc) (w:=8) (c:=false) (A:=mkL qA.mrk qA.ct (xs.take i) k) (B:=xs.drop (i+1)) (z:=qA.mrk y K);rw[hrx]at e2;rw[qA.layE]at e2|-;obtain⟨p,hp⟩:∃p,p=1+AV.rowss ((mkL qA.mrk qA.ct (xs.take i) k).map qA.enc):=⟨_,rfl⟩;rw[<-hp]at e2|-;generalize (qS ((xs.drop (i+1)).map qA.enc) (p+y.enc.rows)).1=vB at e2|-;generalize (qS ((xs.drop (i+1)).map qA.enc) (p+y.enc.rows)).2=oB at e2|-;generalize (qS ((mkL qA.mrk qA.ct (xs.take i) k).map qA.enc) 1).1=vA at e2 hA|-;generalize (qS ((mkL qA.mrk qA.ct (xs.take i) k).map qA.enc) 1).2=oA at e2 hoA|-;simp only[qZ hA,qu hA,qq hlt,lSz,go_sem,Nat.reduceEqDiff,reduceIte,Nat.reduceAdd,nZa];refine zT (e':=.agg [.int .i64 (K),.int .i64 y.Num,.str y.Name,.int .i64 y.Typ.Kind,.str y.Typ.Name,.slice 3 (p) 0 y.Typ.Kids.length false,.slice 1 (p+AV.rows (.lst 3 (y.Typ.Kids.map qB.enc) false)) 0 y.Names.length false,.slice 8 (p+AV.rows (.lst 3 (y.Typ.Kids.map qB.enc) false)+AV.rows (.lst 1 (y.Names.map qP) false)) 0 y.Kids.length false]) (by rfl) (by rfl) (qZ hA) (by rfl) ?_;simp only[qZ hA,qu hA,qq hlt,lSz,go_sem,Nat.reduceEqDiff,reduceIte,Nat.reduceAdd,nZa];rw[qg (n:=K+1) (by omega) (by omega)]
  try simp only[qZ hA,qu hA,qq hlt,lSz,go_sem,Nat.reduceEqDiff,reduceIte,Nat.reduceAdd,nZa]
  refine zT (e':=.agg [.int .i64 (K),.int .i64 (K+1),.str y.Name,.int .i64 y.Typ.Kind,.str y.Typ.Name,.slice 3 (p) 0 y.Typ.Kids.length false,.slice 1 (p+AV.rows (.lst 3 (y.Typ.Kids.map qB.enc) false)) 0 y.Names.length false,.slice 8 (p+AV.rows (.lst 3 (y.Typ.Kids.map qB.enc) false)+AV.rows (.lst 1 (y.Names.map qP) false)) 0 y.Kids.length false]) (by rfl) (by rfl) (qZ hA) (by rfl) ?_;simp only[qZ hA,qu hA,qq hlt,lSz,go_sem,Nat.reduceEqDiff,reduceIte,Nat.reduceAdd,nZa];rw[qg (n:=K+1+1) (by omega) (by omega)]
  try simp only[qZ hA,qu hA,qq hlt,lSz,go_sem,Nat.reduceEqDiff,reduceIte,Nat.reduceAdd,nZa]
  refine qK (jS (by omega)) ?_;simp only[qZ hA,qu hA,qq hlt,lSz,go_sem,Nat.reduceEqDiff,reduceIte,Nat.reduceAdd,nZa];refine zT (e':=.agg [.int .i64 (K),.int .i64 (K+1),.str (qe (K+1+1)),.int .i64 y.Typ.Kind,.str y.Typ.Name,.slice 3 (p) 0 y.Typ.Kids.length false,.slice 1 (p+AV.rows (.lst 3 (y.Typ.Kids.map qB.enc) false)) 0 y.Names.length false,.slice 8 (p+AV.rows (.lst 3 (y.Typ.Kids.map qB.enc) false)+AV.rows (.lst 1 (y.Names.map qP) false)) 0 y.Kids.length false]) (by rfl) (by rfl) (qZ hA) (by rfl) ?_;simp only[qZ hA,qu hA,qq hlt,lSz,go_sem,Nat.reduceEqDiff,reduceIte,Nat.reduceAdd,nZa];rw[qg (n:=K+1+1+1) (by omega) (by omega)]
  try simp only[qZ hA,qu hA,qq hlt,lSz,go_sem,Nat.reduceEqDiff,reduceIte,Nat.reduceAdd,nZa]
  refine zT (e':=.agg [.int .i64 (K),.int .i64 (K+1),.str (qe (K+1+1)),.int .i64 (K+1+1+1),.str y.Typ.Name,.slice 3 (p) 0 y.Typ.Kids.length false,.slice 1 (p+AV.rows (.lst 3 (y.Typ.Kids.map qB.enc) false)) 0 y.Names.length false,.slice 8 (p+AV.rows (.lst 3 (y.Typ.Kids.map qB.enc) false)+AV.rows (.lst 1 (y.Names.map qP) false)) 0 y.Kids.length false]) (by rfl) (by rfl) (qZ hA) (by rfl) ?_;simp only[qZ hA,qu hA,qq hlt,lSz,go_sem,Nat.reduceEqDiff,reduceIte,Nat.reduceAdd,nZa];rw[qg (n:=K+1+1+1+1) (by omega) (by omega)]
  try simp only[qZ hA,qu hA,qq hlt,lSz,go_sem,Nat.reduceEqDiff,reduceIte,Nat.reduceAdd,nZa]
  refine qK (jS (by omega)) ?_;simp only[qZ hA,qu hA,qq hlt,lSz,go_sem,Nat.reduceEqDiff,reduceIte,Nat.reduceAdd,nZa];refine zT (e':=.agg [.int .i64 (K),.int .i64 (K+1),.str (qe (K+1+1)),.int .i64 (K+1+1+1),.str (qe (K+1+1+1+1)),.slice 3 (p) 0 y.Typ.Kids.length false,.slice 1 (p+AV.rows (.lst 3 (y.Typ.Kids.map qB.enc) false)) 0 y.Names.length false,.slice 8 (p+AV.rows (.lst 3 (y.Typ.Kids.map qB.enc) false)+AV.rows (.lst 1 (y.Names.map qP) false)) 0 y.Kids.length false]) (by rfl) (by rfl) (qZ hA) (by rfl) ?_;simp only[qZ hA,qu hA,qq hlt,lSz,go_sem,Nat.reduceEqDiff,reduceIte,Nat.reduceAdd,nZa];rw[qg (n:=K+1+1+1+1+1) (by omega) (by omega)]
  try simp only[qZ hA,qu hA,qq hlt,lSz,go_sem,Nat.reduceEqDiff,reduceIte,Nat.reduceAdd,nZa]
  refine wh (n:=p) (pre:=.row 8 (vA++.agg [.int .i64 (K),.int .i64 (K+1),.str (qe (K+1+1)),.int .i64 (K+1+1+1),.str (qe (K+1+1+1+1)),.slice 3 (p) 0 y.Typ.Kids.length false,.slice 1 (p+AV.rows (.lst 3 (y.Typ.Kids.map qB.enc) false)) 0 y.Names.length false,.slice 8 (p+AV.rows (.lst 3 (y.Typ.Kids.map qB.enc) false)+AV.rows (.lst 1 (y.Names.map qP) false)) 0 y.Kids.length false]::vB) true::(oA++[])) (post:=((lay (.lst 1 (y.Names.map qP) false) (p+AV.rows (.lst 3 (y.Typ.Kids.map qB.enc) false))).2++((lay (.lst 8 (y.Kids.map qA.enc) false) (p+AV.rows (.lst 3 (y.Typ.Kids.map qB.enc) false)+AV.rows (.lst 1 (y.Names.map qP) false))).2++[]))++oB) (t:=(.lst 3 (y.Typ.Kids.map qB.enc) false)) (t':=(.lst 3 ((mkL qB.mrk qB.ct y.Typ.Kids (K+1+1+1+1+1)).map qB.enc) false)) (Xb y.Typ.Kids (K+1+1+1+1+1) (by omega) (by omega) (by omega)) ?_ ?_ (by rw[js,lMp]) ?_
  ·first | rfl | (simp only[lCo,lAp,lNi,hoA,qx,AV.rows,qW qB.mrk qB.ct (enc:=qB.enc) qB.rowsM,qW mkS ctS (enc:=qP) (fun _ _=>rfl)];done) | (simp only[lCo,lAp,lNi,hoA,qx,AV.rows,qW qB.mrk qB.ct (enc:=qB.enc) qB.rowsM,qW mkS ctS (enc:=qP) (fun _ _=>rfl)];omega)
  ·first | rfl | (simp only[lAa,lNa,lAn,lCa];done)
  simp only[qZ hA,qu hA,qq hlt,lSz,lCa,go_sem,Nat.reduceEqDiff,reduceIte,Nat.reduceAdd,nZa];refine wh (n:=p+AV.rows (.lst 3 (y.Typ.Kids.map qB.enc) false)) (pre:=.row 8 (vA++.agg [.int .i64 (K),.int .i64 (K+1),.str (qe (K+1+1)),.int .i64 (K+1+1+1),.str (qe (K+1+1+1+1)),.slice 3 (p) 0 y.Typ.Kids.length false,.slice 1 (p+AV.rows (.lst 3 (y.Typ.Kids.map qB.enc) false)) 0 y.Names.length false,.slice 8 (p+AV.rows (.lst 3 (y.Typ.Kids.map qB.enc) false)+AV.rows (.lst 1 (y.Names.map qP) false)) 0 y.Kids.length false]::vB) true::(oA++((lay (.lst 3 ((mkL qB.mrk qB.ct y.Typ.Kids (K+1+1+1+1+1)).map qB.enc) false) (p)).2))) (post:=((lay (.lst 8 (y.Kids.map qA.enc) false) (p+AV.rows (.lst 3 (y.Typ.Kids.map qB.enc) false)+AV.rows (.lst 1 (y.Names.map qP) false))).2++[])++oB) (t:=(.lst 1 (y.Names.map qP) false)) (t':=(.lst 1 ((mkL mkS ctS y.Names (K+1+1+1+1+1+((qE qB.ct y.Typ.Kids:Nat):Int))).map qP) false)) (k514 y.Names (K+1+1+1+1+1+((qE qB.ct y.Typ.Kids:Nat):Int)) (by omega) (by omega) (by omega)) ?_ ?_ (by rw[js,lMp]) ?_
  ·first | rfl | (simp only[lCo,lAp,lNi,hoA,qx,AV.rows,qW qB.mrk qB.ct (enc:=qB.enc) qB.rowsM,qW mkS ctS (enc:=qP) (fun _ _=>rfl)];done) | (simp only[lCo,lAp,lNi,hoA,qx,AV.rows,qW qB.mrk qB.ct (enc:=qB.enc) qB.rowsM,qW mkS ctS (enc:=qP) (fun _ _=>rfl)];omega)
  ·first | rfl | (simp only[lAa,lNa,lAn,lCa];done)
  simp only[qZ hA,qu hA,qq hlt,lSz,lCa,go_sem,Nat.reduceEqDiff,reduceIte,Nat.reduceAdd,nZa];refine wh (n:=p+AV.rows (.lst 3 (y.Typ.Kids.map qB.enc) false)+AV.rows (.lst 1 (y.Names.map qP) false)) (pre:=.row 8 (vA++.agg [.int .i64 (K),.int .i64 (K+1),.str (qe (K+1+1)),.int .i64 (K+1+1+1),.str (qe (K+1+1+1+1)),.slice 3 (p) 0 y.Typ.Kids.length false,.slice 1 (p+AV.rows (.lst 3 (y.Typ.Kids.map qB.enc) false)) 0 y.Names.length false,.slice 8 (p+AV.rows (.lst 3 (y.Typ.Kids.map qB.enc) false)+AV.rows (.lst 1 (y.Names.map qP) false)) 0 y.Kids.length false]::vB) true::(oA++((lay (.lst 3 ((mkL qB.mrk qB.ct y.Typ.Kids (K+1+1+1+1+1)).map qB.enc) false) (p)).2++(lay (.lst 1 ((mkL mkS ctS y.Names (K+1+1+1+1+1+((qE qB.ct y.Typ.Kids:Nat):Int))).map qP) false) (p+AV.rows (.lst 3 (y.Typ.Kids.map qB.enc) false))).2))) (post:=([])++oB) (t:=(.lst 8 (y.Kids.map qA.enc) false)) (t':=(.lst 8 ((mkL qA.mrk qA.ct y.Kids (K+1+1+1+1+1+((qE qB.ct y.Typ.Kids:Nat):Int)+((qE ctS y.Names:Nat):Int))).map qA.enc) false)) (ih y.Kids (K+1+1+1+1+1+((qE qB.ct y.Typ.Kids:Nat):Int)+((qE ctS y.Names:Nat):Int)) (by omega) (by omega) (by omega) (by omega)) ?_ ?_ (by rw[js,lMp]) ?_
  ·first | rfl | (simp only[lCo,lAp,lNi,hoA,qx,AV.rows,qW qB.mrk qB.ct (enc:=qB.enc) qB.rowsM,qW mkS ctS (enc:=qP) (fun _ _=>rfl)];done) | (simp only[lCo,lAp,lNi,hoA,qx,AV.rows,qW qB.mrk qB.ct (enc:=qB.enc) qB.rowsM,qW mkS ctS (enc:=qP) (fun _ _=>rfl)];omega)
  ·first | rfl | (simp only[lAa,lNa,lAn,lCa];done)
  simp only[qZ hA,qu hA,qq hlt,lSz,lCa,go_sem,Nat.reduceEqDiff,reduceIte,Nat.reduceAdd,nZa];simp only[qz (show i<4611686018427387904 by omega)];refine qa (i+1) (by omega) (by omega) ?_;have e3:K+1+1+1+1+1+((qE qB.ct y.Typ.Kids:Nat):Int)+((qE ctS y.Names:Nat):Int)+((qE qA.ct y.Kids:Nat):Int)=k+((qE qA.ct (xs.take (i+1)):Nat):Int):=by first | (rw[hend];done) | (rw[hend];omega)
  rw[e3];rw[hmk,e2];simp only[qA.mrkK,qA.mrkN,qA.mrkV,qA.mrkTK,qA.mrkTV,qA.mrkTC,qA.mrkS,qA.mrkC,jR,AV.rows,lAa,lNa,lAn,lCa,qW qA.mrk qA.ct (enc:=qA.enc) qA.rowsM,qW qB.mrk qB.ct (enc:=qB.enc) qB.rowsM,qW mkS ctS (enc:=qP) (fun _ _=>rfl)];exact Can.sub (by simp[go_sem]) (by simp[go_sem])
 ·have hge:i=xs.length:=by have:=odF hc;omega
  subst hge;refine Qq (by rw[lTl]) ?_;rw[lTl,List.drop_length,lAn]
theorem k515(xs:List qA)(k:Int)(h0:0<=k)(hk:k+(qE qA.ct xs:Nat)<=4611686018427387904)(hz:xs.length+qE qA.wz xs<=4194304):Mark Gm 515 (.lst 8 (xs.map qA.enc) false) (.lst 8 ((mkL qA.mrk qA.ct xs k).map qA.enc) false) k (k+(qE qA.ct xs:Nat)):=qb2 _ xs k (Nat.lt_succ_self _) h0 hk hz
theorem qd0(n:Nat):∀(xs:List qA)(k:Int)(_:xs.length+qE qA.wz xs<n)(_:0<=k)(_:k+(qE qA.ct xs:Nat)<=4611686018427387904)(_:xs.length+qE qA.wz xs<=4194304),Pure Gm 517 [(.lst 8 ((mkL qA.mrk qA.ct xs k).map qA.enc) false),.int .i64 k] (.int .i64 (k+(qE qA.ct xs:Nat))):=by
 induction n with
 | zero=>intro xs k h;exact absurd h (by omega)
 | succ n ih=>
 intro xs k hn h0 hk hz;refine pI US (by simp[AV.trees,AV.tree,zH qA.isSh.tree]) rfl ?_;simp only[US,qM,go_sem,Nat.reduceEqDiff,reduceIte,Nat.reduceAdd,nZa];refine Sem.loop (fun i:Nat=>i<=xs.length) (fun i=>(⟨[(0,(.lst 8 ((mkL qA.mrk qA.ct xs k).map qA.enc) false)),(1,.int .i64 (k+((qE qA.ct (xs.take i):Nat):Int))),(5,.int .i64 (i:Nat))],[],[]⟩:VSt)) (fun i=>xs.length-i) 0 (by kernel_rfl) (nZl _) (by simp only[List.take_zero,qE,Int.ofNat_zero,Int.natCast_zero,Int.add_zero];exact Can.sub (by simp[go_sem]) (by simp[go_sem])) ?_;intro i hi;simp only[jR,go_sem,Nat.reduceEqDiff,reduceIte,Nat.reduceAdd,nZa];apply zN<;>intro hc<;>simp only[hc,go_sem,Nat.reduceEqDiff,reduceIte,Nat.reduceAdd,nZa]
 ·have hlt:i<xs.length:=by have:=odT hc;omega
  have hct:=Jm qA.ct hlt;have hcl:=Jl qA.ct xs (i+1);have hget:=Zk qA.mrk qA.ct hlt k;have hsz:qA.wz xs[i]<=qE qA.wz xs:=jK (f:=qA.wz) (gMm hlt);obtain⟨K,hK⟩:∃K:Int,K=k+((qE qA.ct (xs.take i):Nat):Int):=⟨_,rfl⟩;have hend:k+((qE qA.ct (xs.take (i+1)):Nat):Int)=K+((qA.ct xs[i]:Nat):Int):=by rw[hct,hK];omega
  have hKb:0<=K/\K+((qA.ct xs[i]:Nat):Int)<=4611686018427387904:=by rw[<-hend];omega
  rw[<-hK]at hget|-;obtain⟨y,hy⟩:∃y,y=xs[i]:=⟨_,rfl⟩;rw[<-hy]at hget hend hKb hsz;have hcy:qA.ct y=1+1+1+1+1+qE qB.ct y.Typ.Kids+qE ctS y.Names+qE qA.ct y.Kids:=qA.ct_eq y;rw[hcy]at hend hKb;rw[qA.wz_eq,qB.wz_eq]at hsz;simp only[gMp,hget,oMs,go_sem,Nat.reduceEqDiff,reduceIte,Nat.reduceAdd,nZa]
  try simp only[gMp,hget,oMs,qA.mrkK,qA.mrkN,qA.mrkV,qA.mrkTK,qA.mrkTV,qA.mrkTC,qA.mrkS,qA.mrkC,go_sem,Nat.reduceEqDiff,reduceIte,Nat.reduceAdd,nZa]
  rw[qg (n:=K+1) (by omega) (by omega)]
  try simp only[gMp,hget,oMs,qA.mrkK,qA.mrkN,qA.mrkV,qA.mrkTK,qA.mrkTV,qA.mrkTC,qA.mrkS,qA.mrkC,go_sem,Nat.reduceEqDiff,reduceIte,Nat.reduceAdd,nZa]
  try simp only[gMp,hget,oMs,qA.mrkK,qA.mrkN,qA.mrkV,qA.mrkTK,qA.mrkTV,qA.mrkTC,qA.mrkS,qA.mrkC,go_sem,Nat.reduceEqDiff,reduceIte,Nat.reduceAdd,nZa]
  rw[qg (n:=K+1+1) (by omega) (by omega)]
  try simp only[gMp,hget,oMs,qA.mrkK,qA.mrkN,qA.mrkV,qA.mrkTK,qA.mrkTV,qA.mrkTC,qA.mrkS,qA.mrkC,go_sem,Nat.reduceEqDiff,reduceIte,Nat.reduceAdd,nZa]
  try simp only[gMp,hget,oMs,qA.mrkK,qA.mrkN,qA.mrkV,qA.mrkTK,qA.mrkTV,qA.mrkTC,qA.mrkS,qA.mrkC,go_sem,Nat.reduceEqDiff,reduceIte,Nat.reduceAdd,nZa]
  refine qK (jS (by omega)) ?_
  try simp only[gMp,hget,oMs,qA.mrkK,qA.mrkN,qA.mrkV,qA.mrkTK,qA.mrkTV,qA.mrkTC,qA.mrkS,qA.mrkC,go_sem,Nat.reduceEqDiff,reduceIte,Nat.reduceAdd,nZa]
  rw[qg (n:=K+1+1+1) (by omega) (by omega)]
  try simp only[gMp,hget,oMs,qA.mrkK,qA.mrkN,qA.mrkV,qA.mrkTK,qA.mrkTV,qA.mrkTC,qA.mrkS,qA.mrkC,go_sem,Nat.reduceEqDiff,reduceIte,Nat.reduceAdd,nZa]
  try simp only[gMp,hget,oMs,qA.mrkK,qA.mrkN,qA.mrkV,qA.mrkTK,qA.mrkTV,qA.mrkTC,qA.mrkS,qA.mrkC,go_sem,Nat.reduceEqDiff,reduceIte,Nat.reduceAdd,nZa]
  rw[qg (n:=K+1+1+1+1) (by omega) (by omega)]
  try simp only[gMp,hget,oMs,qA.mrkK,qA.mrkN,qA.mrkV,qA.mrkTK,qA.mrkTV,qA.mrkTC,qA.mrkS,qA.mrkC,go_sem,Nat.reduceEqDiff,reduceIte,Nat.reduceAdd,nZa]
  try simp only[gMp,hget,oMs,qA.mrkK,qA.mrkN,qA.mrkV,qA.mrkTK,qA.mrkTV,qA.mrkTC,qA.mrkS,qA.mrkC,go_sem,Nat.reduceEqDiff,reduceIte,Nat.reduceAdd,nZa]
  refine qK (jS (by omega)) ?_
  try simp only[gMp,hget,oMs,qA.mrkK,qA.mrkN,qA.mrkV,qA.mrkTK,qA.mrkTV,qA.mrkTC,qA.mrkS,qA.mrkC,go_sem,Nat.reduceEqDiff,reduceIte,Nat.reduceAdd,nZa]
  rw[qg (n:=K+1+1+1+1+1) (by omega) (by omega)]
  try simp only[gMp,hget,oMs,qA.mrkK,qA.mrkN,qA.mrkV,qA.mrkTK,qA.mrkTV,qA.mrkTC,qA.mrkS,qA.mrkC,go_sem,Nat.reduceEqDiff,reduceIte,Nat.reduceAdd,nZa]
  try simp only[gMp,hget,oMs,qA.mrkK,qA.mrkN,qA.mrkV,qA.mrkTK,qA.mrkTV,qA.mrkTC,qA.mrkS,qA.mrkC,go_sem,Nat.reduceEqDiff,reduceIte,Nat.reduceAdd,nZa]
  refine qK (X4 y.Typ.Kids (K+1+1+1+1+1) (by omega) (by omega) (by omega)) ?_;simp only[gMp,hget,oMs,qA.mrkK,qA.mrkN,qA.mrkV,qA.mrkTK,qA.mrkTV,qA.mrkTC,qA.mrkS,qA.mrkC,go_sem,Nat.reduceEqDiff,reduceIte,Nat.reduceAdd,nZa];rw[show decide (K+1+1+1+1+1+((qE qB.ct y.Typ.Kids:Nat):Int)<0)=false from decide_eq_false (by omega)];simp only[gMp,hget,oMs,qA.mrkK,qA.mrkN,qA.mrkV,qA.mrkTK,qA.mrkTV,qA.mrkTC,qA.mrkS,qA.mrkC,go_sem,Nat.reduceEqDiff,reduceIte,Nat.reduceAdd,nZa]
  try simp only[gMp,hget,oMs,qA.mrkK,qA.mrkN,qA.mrkV,qA.mrkTK,qA.mrkTV,qA.mrkTC,qA.mrkS,qA.mrkC,go_sem,Nat.reduceEqDiff,reduceIte,Nat.reduceAdd,nZa]
  refine qK (q516 y.Names (K+1+1+1+1+1+((qE qB.ct y.Typ.Kids:Nat):Int)) (by omega) (by omega) (by omega)) ?_;simp only[gMp,hget,oMs,qA.mrkK,qA.mrkN,qA.mrkV,qA.mrkTK,qA.mrkTV,qA.mrkTC,qA.mrkS,qA.mrkC,go_sem,Nat.reduceEqDiff,reduceIte,Nat.reduceAdd,nZa];rw[show decide (K+1+1+1+1+1+((qE qB.ct y.Typ.Kids:Nat):Int)+((qE ctS y.Names:Nat):Int)<0)=false from decide_eq_false (by omega)];simp only[gMp,hget,oMs,qA.mrkK,qA.mrkN,qA.mrkV,qA.mrkTK,qA.mrkTV,qA.mrkTC,qA.mrkS,qA.mrkC,go_sem,Nat.reduceEqDiff,reduceIte,Nat.reduceAdd,nZa]
  try simp only[gMp,hget,oMs,qA.mrkK,qA.mrkN,qA.mrkV,qA.mrkTK,qA.mrkTV,qA.mrkTC,qA.mrkS,qA.mrkC,go_sem,Nat.reduceEqDiff,reduceIte,Nat.reduceAdd,nZa]
  refine qK (ih y.Kids (K+1+1+1+1+1+((qE qB.ct y.Typ.Kids:Nat):Int)+((qE ctS y.Names:Nat):Int)) (by omega) (by omega) (by omega) (by omega)) ?_;simp only[gMp,hget,oMs,qA.mrkK,qA.mrkN,qA.mrkV,qA.mrkTK,qA.mrkTV,qA.mrkTC,qA.mrkS,qA.mrkC,go_sem,Nat.reduceEqDiff,reduceIte,Nat.reduceAdd,nZa];rw[show decide (K+1+1+1+1+1+((qE qB.ct y.Typ.Kids:Nat):Int)+((qE ctS y.Names:Nat):Int)+((qE qA.ct y.Kids:Nat):Int)<0)=false from decide_eq_false (by omega)];simp only[gMp,hget,oMs,qA.mrkK,qA.mrkN,qA.mrkV,qA.mrkTK,qA.mrkTV,qA.mrkTC,qA.mrkS,qA.mrkC,go_sem,Nat.reduceEqDiff,reduceIte,Nat.reduceAdd,nZa];simp only[qz (show i<4611686018427387904 by omega)];refine qa (i+1) (by omega) (by omega) ?_;have e3:K+1+1+1+1+1+((qE qB.ct y.Typ.Kids:Nat):Int)+((qE ctS y.Names:Nat):Int)+((qE qA.ct y.Kids:Nat):Int)=k+((qE qA.ct (xs.take (i+1)):Nat):Int):=by first | (rw[hend];done) | (rw[hend];omega)
  rw[e3];exact Can.sub (by simp[go_sem]) (by simp[go_sem])
 ·have hge:i=xs.length:=by have:=odF hc;omega
  subst hge;refine qH rfl ?_;rw[lTl]
theorem q517(xs:List qA)(k:Int)(h0:0<=k)(hk:k+(qE qA.ct xs:Nat)<=4611686018427387904)(hz:xs.length+qE qA.wz xs<=4194304):Pure Gm 517 [(.lst 8 ((mkL qA.mrk qA.ct xs k).map qA.enc) false),.int .i64 k] (.int .i64 (k+(qE qA.ct xs:Nat))):=qd0 _ xs k (Nat.lt_succ_self _) h0 hk hz
end Go.Ab
namespace Go.Ab
open Go
set_option maxRecDepth 10000
set_option maxHeartbeats 2000000
end Go.Ab
namespace Go.Ab
open Go
set_option maxRecDepth 10000
structure qJ where
 Name:Str
 Fields:List qB
def qJ.enc(x:qJ):AV:=.agg [.str x.Name,.lst 3 (x.Fields.map qB.enc) false]
theorem qJ.isSh:Sh qJ.enc 2 (some 2):=⟨fun x=>by simp[qJ.enc,AV.tree,AV.trees,zH qB.isSh.tree],fun _=>rfl,fun _=>rfl,by decide,fun x=>by simp[qJ.enc]⟩
section
variable {x:qJ}
@[go_sem] theorem qJ.tr:x.enc.tree=true:=qJ.isSh.tree x
@[go_sem] theorem qJ.ln:x.enc.cells.length=2:=nr rfl
@[go_sem] theorem qJ.all:x.enc.part 0 (some 2)=some x.enc:=nr rfl
@[go_sem] theorem qJ.p0:x.enc.part 0 none=some (.str x.Name):=nr rfl
@[go_sem] theorem qJ.p1:x.enc.part 1 none=some (.lst 3 (x.Fields.map qB.enc) false):=nr rfl
end
structure qG where
 Name:Str
 Cons:List qJ
def qG.enc(x:qG):AV:=.agg [.str x.Name,.lst 2 (x.Cons.map qJ.enc) false]
theorem qG.isSh:Sh qG.enc 2 (some 2):=⟨fun x=>by simp[qG.enc,AV.tree,AV.trees,zH qJ.isSh.tree],fun _=>rfl,fun _=>rfl,by decide,fun x=>by simp[qG.enc]⟩
section
variable {x:qG}
@[go_sem] theorem qG.tr:x.enc.tree=true:=qG.isSh.tree x
@[go_sem] theorem qG.ln:x.enc.cells.length=2:=nr rfl
@[go_sem] theorem qG.all:x.enc.part 0 (some 2)=some x.enc:=nr rfl
@[go_sem] theorem qG.p0:x.enc.part 0 none=some (.str x.Name):=nr rfl
@[go_sem] theorem qG.p1:x.enc.part 1 none=some (.lst 2 (x.Cons.map qJ.enc) false):=nr rfl
end
structure qF where
 Name:Str
 Typ:qB
 Body:qA
def qF.enc(x:qF):AV:=.agg [.str x.Name,.int .i64 x.Typ.Kind,.str x.Typ.Name,.lst 3 (x.Typ.Kids.map qB.enc) false,.int .i64 x.Body.Kind,.int .i64 x.Body.Num,.str x.Body.Name,.int .i64 x.Body.Typ.Kind,.str x.Body.Typ.Name,.lst 3 (x.Body.Typ.Kids.map qB.enc) false,.lst 1 (x.Body.Names.map qP) false,.lst 8 (x.Body.Kids.map qA.enc) false]
theorem qF.isSh:Sh qF.enc 12 (some 12):=⟨fun x=>by simp[qF.enc,AV.tree,AV.trees,zH qA.isSh.tree,zH qB.isSh.tree,zH shS.tree],fun _=>rfl,fun _=>rfl,by decide,fun x=>by simp[qF.enc]⟩
section
variable {x:qF}
@[go_sem] theorem qF.tr:x.enc.tree=true:=qF.isSh.tree x
@[go_sem] theorem qF.ln:x.enc.cells.length=12:=nr rfl
@[go_sem] theorem qF.all:x.enc.part 0 (some 12)=some x.enc:=nr rfl
@[go_sem] theorem qF.p0:x.enc.part 0 none=some (.str x.Name):=nr rfl
@[go_sem] theorem qF.p1:x.enc.part 1 none=some (.int .i64 x.Typ.Kind):=nr rfl
@[go_sem] theorem qF.p2:x.enc.part 2 none=some (.str x.Typ.Name):=nr rfl
@[go_sem] theorem qF.p3:x.enc.part 3 none=some (.lst 3 (x.Typ.Kids.map qB.enc) false):=nr rfl
@[go_sem] theorem qF.p4:x.enc.part 4 none=some (.int .i64 x.Body.Kind):=nr rfl
@[go_sem] theorem qF.p5:x.enc.part 5 none=some (.int .i64 x.Body.Num):=nr rfl
@[go_sem] theorem qF.p6:x.enc.part 6 none=some (.str x.Body.Name):=nr rfl
@[go_sem] theorem qF.p7:x.enc.part 7 none=some (.int .i64 x.Body.Typ.Kind):=nr rfl
@[go_sem] theorem qF.p8:x.enc.part 8 none=some (.str x.Body.Typ.Name):=nr rfl
@[go_sem] theorem qF.p9:x.enc.part 9 none=some (.lst 3 (x.Body.Typ.Kids.map qB.enc) false):=nr rfl
@[go_sem] theorem qF.p10:x.enc.part 10 none=some (.lst 1 (x.Body.Names.map qP) false):=nr rfl
@[go_sem] theorem qF.p11:x.enc.part 11 none=some (.lst 8 (x.Body.Kids.map qA.enc) false):=nr rfl
@[go_sem] theorem qF.q1:x.enc.part 1 (some 3)=some x.Typ.enc:=nr (by rw[qB.enc_eq];rfl)
@[go_sem] theorem qF.q4:x.enc.part 4 (some 8)=some x.Body.enc:=nr (by rw[qA.enc_eq];rfl)
end
structure qQ where
 Datas:List qG
 Defs:List qF
def qQ.enc(x:qQ):AV:=.agg [.lst 2 (x.Datas.map qG.enc) false,.lst 12 (x.Defs.map qF.enc) false]
theorem qQ.isSh:Sh qQ.enc 2 (some 2):=⟨fun x=>by simp[qQ.enc,AV.tree,AV.trees,zH qG.isSh.tree,zH qF.isSh.tree],fun _=>rfl,fun _=>rfl,by decide,fun x=>by simp[qQ.enc]⟩
section
variable {x:qQ}
@[go_sem] theorem qQ.tr:x.enc.tree=true:=qQ.isSh.tree x
@[go_sem] theorem qQ.ln:x.enc.cells.length=2:=nr rfl
@[go_sem] theorem qQ.all:x.enc.part 0 (some 2)=some x.enc:=nr rfl
@[go_sem] theorem qQ.p0:x.enc.part 0 none=some (.lst 2 (x.Datas.map qG.enc) false):=nr rfl
@[go_sem] theorem qQ.p1:x.enc.part 1 none=some (.lst 12 (x.Defs.map qF.enc) false):=nr rfl
end
def qJ.wz(x:qJ):Nat:=x.Fields.length+qE qB.wz x.Fields
def qG.wz(x:qG):Nat:=x.Cons.length+qE qJ.wz x.Cons
def qF.wz(x:qF):Nat:=x.Typ.wz+x.Body.wz
def qQ.wz(x:qQ):Nat:=(x.Datas.length+qE qG.wz x.Datas)+(x.Defs.length+qE qF.wz x.Defs)
def qJ.bd(x:qJ):Prop:=x.Name.length<=20000/\∀y∈x.Fields,y.bd
def qG.bd(x:qG):Prop:=x.Name.length<=20000/\∀y∈x.Cons,y.bd
def qF.bd(x:qF):Prop:=x.Name.length<=20000/\x.Typ.bd/\x.Body.bd
def qQ.bd(x:qQ):Prop:=(∀y∈x.Datas,y.bd)/\∀y∈x.Defs,y.bd
theorem qJ.plx(x:qJ):x.enc.pl=true:=by simp[qJ.enc,AV.pl,AV.pls,jb qB.plx]
theorem qJ.cnx(x:qJ):x.enc.cn=true:=by simp[qJ.enc,AV.cn,AV.cns,Qo qB.cnx]
theorem qG.plx(x:qG):x.enc.pl=true:=by simp[qG.enc,AV.pl,AV.pls,jb qJ.plx]
theorem qG.cnx(x:qG):x.enc.cn=true:=by simp[qG.enc,AV.cn,AV.cns,Qo qJ.cnx]
theorem qF.plx(x:qF):x.enc.pl=true:=by simp[qF.enc,AV.pl,AV.pls,jb qB.plx,jb qA.plx,Km]
theorem qF.cnx(x:qF):x.enc.cn=true:=by simp[qF.enc,AV.cn,AV.cns,Qo qB.cnx,Qo qA.cnx,Kl]
theorem qQ.plx(x:qQ):x.enc.pl=true:=by simp[qQ.enc,AV.pl,AV.pls,jb qG.plx,jb qF.plx]
theorem qQ.cnx(x:qQ):x.enc.cn=true:=by simp[qQ.enc,AV.cn,AV.cns,Qo qG.cnx,Qo qF.cnx]
def ju(toks:List qN):Nat->List qB->Nat->Except Nat (List qB×Nat)
 | 0,_,a=>.error a
 | n+1,acc,a=>exB (pT toks (zr toks false a) false a) fun t b=>if isP toks b [44]then ju toks n (acc++[t]) (b+1)else exB (qV toks [93] b) fun _ b=>.ok (acc++[t],b)
def wS(toks:List qN)(a:Nat):Except Nat (List qB×Nat):=if isP toks a [91]then ju toks (toks.length-a) [] (a+1)else .ok ([],a)
def wJ(toks:List qN)(a:Nat):Except Nat (qJ×Nat):=exB (zU toks 2 a) fun s b=>exB (wS toks b) fun fs b=>.ok (⟨s,fs⟩,b)
def jX(toks:List qN):Nat->List qJ->Nat->Except Nat (List qJ×Nat)
 | 0,_,a=>.error a
 | n+1,acc,a=>exB (wJ toks a) fun c b=>if isP toks b [124]then jX toks n (acc++[c]) (b+1)else .ok (acc++[c],b)
def QD(toks:List qN)(a:Nat):Except Nat (qG×Nat):=exB (zU toks 2 a) fun s b=>exB (qV toks [61] b) fun _ b=>exB (jX toks (toks.length+1-b) [] b) fun cs b=>.ok (⟨s,cs⟩,b)
def jz(toks:List qN):Nat->List qG->Nat->Except Nat (List qG×Nat)
 | 0,acc,a=>.ok (acc,a)
 | n+1,acc,a=>if isP toks a [100,97,116,97]then exB (QD toks (a+1)) fun d b=>jz toks n (acc++[d]) b else .ok (acc,a)
def JI(toks:List qN)(a:Nat):Except Nat (qF×Nat):=exB (zU toks 1 a) fun s b=>exB (qV toks [58] b) fun _ b=>exB (pT toks (zr toks false b) false b) fun t b=>exB (qV toks [61] b) fun _ b=>exB (pM toks (mJ toks .term b) .term b) fun x b=>.ok (⟨s,t,x⟩,b)
def wV(toks:List qN):Nat->List qF->Nat->Except Nat (List qF×Nat)
 | 0,acc,a=>.ok (acc,a)
 | n+1,acc,a=>if isP toks a [100,101,102]then exB (JI toks (a+1)) fun d b=>wV toks n (acc++[d]) b else .ok (acc,a)
def jO(toks:List qN)(a:Nat):Except Nat (qQ×Nat):=exB (jz toks (toks.length-a) [] a) fun ds b=>exB (wV toks (toks.length-b) [] b) fun fs b=>.ok (⟨ds,fs⟩,b)
end Go.Ab
namespace Go.Ab
open Go
set_option maxRecDepth 10000
set_option maxHeartbeats 2000000
theorem Ow.shape3{b u:Nat}{h:List qD}{v:AV}{t:qB}(x:Ow b u h v t.enc):∃a0 a1 a2,v=.agg [a0,a1,a2]:=by
 obtain⟨v2,rfl,_⟩:=x.shapeT;exact⟨_,_,_,rfl⟩
theorem kT{toks:List qN}{e:Int}{id a:Nat}{h:List qD}(hl:toks.length<=1048576)(ha:a<=toks.length)(ho:h[id]?=some (prI toks a e)):
  SCallX Gm 335 [.ptr id 0 0] h (fun v h'=>∃t b,pT toks (zr toks false a) false a=.ok (t,b)/\PS h id (prI toks b e) h'/\Ow h.length h'.length h' v t.enc) (fun v _=>∃b,pT toks (zr toks false a) false a=.error b/\v=wP (nxt toks b e).At):=
 (qVD hl (zr toks false a) false a h (nLr _) ha ho).mono (fun _ _ ⟨t,b,S,q1,q2,q3,q4⟩=>⟨t,b,q1,q2,Ow.of S q3 q4⟩) fun _ _ q=>q
structure Cy(toks:List qN)(e:Int)(id pb sb B:Nat)(h0:List qD)(a:Nat)(s:Str)(v7:AV)(h:List qD):Prop where
 p:h[id]?=some (prI toks a e)
 f:∀j,j≠id->j<h0.length->h[j]?=h0[j]?
 b1:h[pb]?=some (.row 1 [.ptr id 0 0] true)
 b2:h[sb]?=some (.row 2 [.agg [.str s,v7]] true)
 l:B<=h.length
section
variable {toks:List qN} {e:Int} {id pb sb B f a b:Nat} {h0 h h':List qD} {s:Str} {v7 w7:AV}
theorem Cy.ps(C:Cy toks e id pb sb B h0 a s v7 h)(G:Cg id pb sb B h0)(q:PS h id (prI toks b e) h'):Cy toks e id pb sb B h0 b s v7 h':=by
 have:=C.l;have:=G.i;have:=G.p;have:=G.s;have:=G.pB;have:=G.sB;have:=q.len;exact⟨q.at',fun j hj hl=>(q.old j hj (by omega)).trans (C.f j hj hl),(q.old pb (by omega) (by omega)).trans C.b1,(q.old sb (by omega) (by omega)).trans C.b2,by omega⟩
theorem Cy.low(C:Cy toks e id pb sb B h0 a s v7 h)(G:Cg id pb sb B h0)(q:∀j,j<B->h'[j]?=h[j]?)(ql:h.length<=h'.length):Cy toks e id pb sb B h0 a s v7 h':=by
 have:=C.l;have:=G.i;have:=G.p;have:=G.s;have:=G.pB;have:=G.sB;exact⟨(q id (by omega)).trans C.p,fun j hj hl=>(q j (by omega)).trans (C.f j hj hl),(q pb (by omega)).trans C.b1,(q sb (by omega)).trans C.b2,by omega⟩
theorem Cy.box(C:Cy toks e id pb sb B h0 a s v7 h)(G:Cg id pb sb B h0):Cy toks e id pb sb B h0 a s w7 (h.set sb (.row 2 [.agg [.str s,w7]] true)):=by
 have:=C.l;have:=G.i;have:=G.p;have:=G.s;have:=G.ps;have:=G.pB;have:=G.sB;exact⟨by rw[gSn (by omega)];exact C.p,fun j hj hl=>by rw[gSn (by omega)];exact C.f j hj hl,by rw[gSn (by omega)];exact C.b1,gSs (by omega),by simp;omega⟩
theorem Cy.fin(C:Cy toks e id pb sb B h0 a s v7 h)(G:Cg id pb sb B h0):PS h0 id (prI toks a e) h:=by
 have:=C.l;have:=G.p;have:=G.pB;exact⟨C.p,by omega,C.f⟩
theorem qU9{ks:List qB}(K:zD toks)(ha:a<=toks.length)(G:Cg id pb sb B h0)(C:Cy toks e id pb sb B h0 a s v7 h)(hK:KL B h.length h v7 3 (ks.map qB.enc))(hks:ks.length<=1048576):
  SCallX Gm 1328 [.ptr sb 0 0,.ptr pb 0 0] h (fun _ h'=>∃t b w7,pT toks (zr toks false a) false a=.ok (t,b)/\Cy toks e id pb sb B h0 b s w7 h'/\KL B h'.length h' w7 3 ((ks++[t]).map qB.enc)) (fun v _=>∃b,pT toks (zr toks false a) false a=.error b/\v=wP (nxt toks b e).At):=by
 have hB:=C.l;have hsB:=G.sB;have hiB:id<B:=by have:=G.i;have:=G.p;have:=G.pB;omega
 refine xI VI ?_;simp only[VI,qM,go_sem,C.b1,C.b2];rcases hK with⟨hk0,rfl⟩ | ⟨kk,vs,rfl,x2,x3,x4,x5,x6⟩
 ·simp only[go_sem];refine WH ((kT K.l ha C.p).mono ?_ ?_)
  case refine_2=>
   rintro v h1 ⟨b,q1,rfl⟩;exact⟨rfl,b,q1,rfl⟩
  rintro v h1 ⟨t,b,q1,q2,q3⟩;have C1:=C.ps G q2;have hl:=q2.len;obtain⟨a0,a1,a2,rfl⟩:=q3.shape3;refine⟨⟨⟨rfl,.nils,by simp only[go_sem],Wx (by simp only[go_sem];rfl) C1.b2 rfl,trivial⟩,trivial⟩, ?_⟩;simp only[go_sem];refine KJ (Els.lst) (by simp) ?_;have C2:=C1.low G (h':=h1++[.row 3 [.agg [.int .i64 0,.str [],.nils]] true]) (fun j hj=>gAl (by omega)) (by simp);simp only[lCo,lNi,go_sem];have ix:idx 3 (some (.slice 3 h1.length 0 1 false)) (some (.int .i64 0))=some (.ptr h1.length 0 0):=by simp[idx]
  simp only[ix,go_sem];refine zT (el:=[.agg [.int .i64 0,.str [],.nils]]) (e:=.agg [.int .i64 0,.str [],.nils]) (e':=.agg [a0,a1,a2]) rfl gCl rfl (QY (k:=3) rfl rfl ⟨fun _=>⟨_,rfl⟩,fun _=>⟨_,rfl⟩⟩ (by decide)) ?_;rw[Wp,lSz];have C3:=C1.low G (h':=h1++[.row 3 [.agg [a0,a1,a2]] true]) (fun j hj=>gAl (by omega)) (by simp);simp only[go_sem];refine YI (by omega) (by simp[WS]) rfl C3.b2 rfl rfl ?_;simp only[go_sem];refine⟨t,b,.slice 3 h1.length 0 1 false,q1,C3.box G, ?_⟩;rw[lLs];have k3:=JO (w:=3) (B:=B) (k:=h1.length) ((q3.push (o:=.row 3 [.agg [a0,a1,a2]] true) (nLr _)).mono hB (nLr _)) (by simp) (nLr _) (by omega);have k4:=k3.set (id:=sb) (o:=.row 2 [.agg [.str s,.slice 3 h1.length 0 1 false]] true) hsB;rw[lMa,hk0];simpa using k4
 ·simp only[go_sem];refine WH ((kT K.l ha C.p).mono ?_ ?_)
  case refine_2=>
   rintro v h1 ⟨b,q1,rfl⟩;exact⟨rfl,b,q1,rfl⟩
  rintro v h1 ⟨t,b,q1,q2,q3⟩;have C1:=C.ps G q2;have hl:=q2.len;obtain⟨a0,a1,a2,rfl⟩:=q3.shape3;rw[lMp]at C1;refine⟨⟨⟨rfl,.slice 3 kk 0 ks.length false,by simp only[go_sem],Wx (by simp only[go_sem];rfl) C1.b2 rfl,fun q=>x6 (by rw[lEz q.2];rfl)⟩,trivial⟩, ?_⟩;simp only[go_sem];have hc:vs.length=ks.length:=by simpa using x3.cnt
  have x2':h1[kk]?=some (.row 3 vs true):=(q2.old kk (by omega) x5).trans x2;refine KM Els.lst x2' hc (by simp only[lCo,lNi];omega) ?_;have g:∀(o:qD)(j:Nat),j<h1.length->j≠kk->(h1.set kk qD.dead++[o])[j]?=h1[j]?:=fun o j hj hne=>by
   rw[gAl (by simp;omega),gSn (Ne.symm hne)]
  have el:(h1.set kk qD.dead).length=h1.length:=by simp
  simp only[lCo,lNi,go_sem];have ix:idx 3 (some (.slice 3 h1.length 0 (ks.length+(0+1)) false)) (some (.int .i64 (ks.length:Nat)))=some (.ptr h1.length ks.length 0):=by simp[idx];omega
  simp only[ix,go_sem];refine zT (el:=vs++[.agg [.int .i64 0,.str [],.nils]]) (e:=.agg [.int .i64 0,.str [],.nils]) (e':=.agg [a0,a1,a2]) rfl (by rw[gAr (by omega),el,nSs];rfl) (by rw[gAr (by omega),hc,nSs];rfl) (QY (k:=3) rfl rfl ⟨fun _=>⟨_,rfl⟩,fun _=>⟨_,rfl⟩⟩ (by decide)) ?_;have es:(h1.set kk qD.dead++[qD.row 3 (vs++[AV.agg [.int .i64 0,.str [],.nils]]) true]).set h1.length (qD.row 3 ((vs++[AV.agg [.int .i64 0,.str [],.nils]]).set ks.length (.agg [a0,a1,a2])) true)=h1.set kk qD.dead++[qD.row 3 (vs++[.agg [a0,a1,a2]]) true]:=by
   have e1:(vs++[AV.agg [.int .i64 0,.str [],.nils]]).set ks.length (.agg [a0,a1,a2])=vs++[.agg [a0,a1,a2]]:=by
    rw[<-hc,lSr _ _ (nLr _),nSs];rfl
   rw[e1,lSr _ _ (by omega),el,nSs];rfl
  rw[es];have C3:=C1.low G (h':=h1.set kk qD.dead++[qD.row 3 (vs++[.agg [a0,a1,a2]]) true]) (fun j hj=>g _ j (by omega) (by omega)) (by simp);simp only[go_sem];refine YI (by omega) (by rw[gAr (by omega),el,nSs];rfl) rfl C3.b2 rfl rfl ?_;simp only[go_sem];refine⟨t,b,_,q1,C3.box G, ?_⟩;rw[lLs];have k3:=K8 (w:=3) (k:=h1.length) (n:=ks.length+(0+1)) (x3.to (h1:=h1.set kk qD.dead++[qD.row 3 (vs++[.agg [a0,a1,a2]]) true]) fun j h3 h4=>(g _ j (by omega) (by omega)).trans (q2.old j (by omega) (by omega))) ((q3.to (h1:=h1.set kk qD.dead++[qD.row 3 (vs++[.agg [a0,a1,a2]]) true]) fun j h3 h4=>g _ j (by omega) (by omega)).mono (b':=kk) (by omega) (nLr _)) (by rw[gAr (by omega),el,nSs];rfl) x4 (by omega) (by omega) (by simp);have k4:=k3.set (id:=sb) (o:=.row 2 [.agg [.str s,.slice 3 h1.length 0 (ks.length+(0+1)) false]] true) hsB;rw[lMa];have e3:(h1.set kk qD.dead++[qD.row 3 (vs++[.agg [a0,a1,a2]]) true]).length=h1.length+1:=by simp
  rw[e3];exact k4
theorem qXS{n:Nat}{acc:List qB}{t:qB}(hw:pT toks (zr toks false a) false a=.ok (t,b)):ju toks (n+1) acc a=if isP toks b [44]then ju toks n (acc++[t]) (b+1)else exB (qV toks [93] b) fun _ b=>.ok (acc++[t],b):=by
 simp only[ju,hw,qj]
theorem qc3(K:zD toks)(G:Cg id pb sb B h0)(C:Cy toks e id pb sb B h0 a s .nils h)(ha:a<=toks.length):
  SCallX Gm 1327 [.ptr id 0 0,.fn 1328 [.ptr sb 0 0,.ptr pb 0 0]] h (fun _ h'=>∃ks b w7,wS toks a=.ok (ks,b)/\Cy toks e id pb sb B h0 b s w7 h'/\KL B h'.length h' w7 3 (ks.map qB.enc)) (fun v _=>∃b,wS toks a=.error b/\v=wP (nxt toks b e).At):=by
 have hB:=C.l;have hiB:id<B:=by have:=G.i;have:=G.p;have:=G.pB;omega
 refine xI Qh ?_;simp only[Qh,qM,go_sem];refine qh rfl (jH C.p K.l (by decide)) ?_;rw[qn (by decide)];simp only[go_sem];cases hb:isP toks a [91]
 ·simp only[Bool.not_false,bFt,if_false,go_sem];exact⟨[],a,.nils,by simp only[wS,hb,bFt,if_false],C,.inl ⟨rfl,rfl⟩⟩
 have hlt:=qb hb;simp only[Bool.not_true,if_true,go_sem];have C1:=C.ps G (PS.set C.p (o:=prI toks (a+1) e));obtain⟨n,hn⟩:∃n,toks.length-a=n+1:=⟨toks.length-a-1,by omega⟩;have eP:wS toks a=ju toks (n+1) [] (a+1):=by simp only[wS,hb,if_true,hn]
 refine qY ((qU9 (ks:=[]) K hlt G C1 (.inl ⟨rfl,rfl⟩) (by simp)).mono ?_ ?_)
 case refine_2=>
  rintro v h1 ⟨b,q1,rfl⟩;exact⟨rfl,b,by rw[eP];simp only[ju,q1,qv],rfl⟩
 rintro v h1 ⟨t,b,w7,q1,C2,k2⟩;have e0:=qXS (n:=n) (acc:=[]) q1;rw[<-eP]at e0;obtain⟨p1,p2⟩:=ja _ _ _ q1;simp only[lNa]at e0 k2;simp only[go_sem];refine Sem.loop (fun z:Nat×List qB×AV×Nat×List qD=>wS toks a=(if isP toks z.2.2.2.1 [44]then ju toks z.1 z.2.1 (z.2.2.2.1+1)else exB (qV toks [93] z.2.2.2.1) fun _ b=>.ok (z.2.1,b))/\toks.length<=z.1+z.2.2.2.1/\Cy toks e id pb sb B h0 z.2.2.2.1 s z.2.2.1 z.2.2.2.2/\KL B z.2.2.2.2.length z.2.2.2.2 z.2.2.1 3 (z.2.1.map qB.enc)/\z.2.1.length<=z.2.2.2.1/\z.2.2.2.1<=toks.length)
  (fun z=>(⟨[(0,.ptr id 0 0),(1,.fn 1328 [.ptr sb 0 0,.ptr pb 0 0])],[],z.2.2.2.2⟩:VSt)) (fun z=>toks.length-z.2.2.2.1) (n,[t],w7,b,h1) (by kernel_rfl) ⟨e0,by simp only;omega,C2,k2,by simp;omega,p2⟩ (Can.sub (by simp[go_sem]) (by simp[go_sem])) ?_
 clear e0 k2 C2 C1 C hB q1;rintro⟨m,ks,w7,c,g⟩ ⟨i1,i2,i3,i4,i5,i6⟩;simp only at i1 i2 i3 i4 i5 i6;simp only[go_sem];refine qh rfl (jH i3.p K.l (by decide)) ?_;rw[qn (by decide)];simp only[go_sem];cases hc:isP toks c [44]
 ·simp only[bFt,if_false,go_sem];rw[hc,if_neg (by decide)]at i1;refine qY ((jf i3.p K.l (by decide)).mono ?_ ?_)
  case refine_2=>
   rintro v2 h2 ⟨e1,rfl,rfl⟩;rw[qn (by decide)]at e1;exact⟨rfl,c,by rw[i1];simp only[qV,e1,bFt,if_false,qv],rfl⟩
  rintro v2 h2 ⟨e1,rfl⟩;rw[qn (by decide)]at e1;simp only[go_sem];refine⟨ks,c+1,w7,by rw[i1];simp only[qV,e1,if_true,qj],i3.ps G (PS.set i3.p), ?_⟩;rw[lLs];exact i4.set hiB
 ·have hlt:=qb hc;simp only[if_true,go_sem];rw[hc,if_pos rfl]at i1;obtain⟨m,rfl⟩:∃x,m=x+1:=⟨m-1,by omega⟩;have C1:=i3.ps G (PS.set i3.p (o:=prI toks (c+1) e));have i4':=i4.set (id:=id) (o:=prI toks (c+1) e) hiB;refine qY ((qU9 K hlt G C1 (by rw[lLs];exact i4') (by have:=K.l;omega)).mono ?_ ?_)
  case refine_2=>
   rintro v h1 ⟨b,q1,rfl⟩;exact⟨rfl,b,by rw[i1];simp only[ju,q1,qv],rfl⟩
  rintro v h1 ⟨t,d,w7',q1,C2,k2⟩;obtain⟨p1,p2⟩:=ja _ _ _ q1;simp only[go_sem];refine qa (m,ks++[t],w7',d,h1) ⟨by simp only;rw[i1,qXS q1],by simp only;omega,C2,k2,by simp;omega,p2⟩ (by simp only;omega) (Can.sub (by simp[go_sem]) (by simp[go_sem]))
end
end Go.Ab
namespace Go.Ab
open Go
set_option maxRecDepth 10000
set_option maxHeartbeats 2000000
section
variable {b m u m1 m2:Nat} {h:List qD} {v v1 v2:AV} {vs vs' ts ts':List AV}
theorem Ow.cells(x:Ow b u h (.agg vs) (.agg ts)):Ows b u h vs ts:=by
 obtain⟨S,x,hb⟩:=x;obtain⟨ws,e,y⟩:=x.aggs;cases e;exact⟨S,y,hb⟩
theorem Ows.app2(x:Ows b m h vs ts)(y:Ows m u h vs' ts')(h1:b<=m)(h2:m<=u):Ows b u h (vs++vs') (ts++ts'):=by
 obtain⟨S,x,hx⟩:=x;obtain⟨S',y,hy⟩:=y;refine⟨S++S',x.app y fun j hj hj'=>by have:=hx j hj;have:=hy j hj';omega,fun j hj=> ?_⟩;rcases jd.1 hj with hj | hj
 ·have:=hx j hj;omega
 ·have:=hy j hj;omega
theorem Ows.agg(x:Ows b u h vs ts):Ow b u h (.agg vs) (.agg ts):=by
 obtain⟨S,x,hb⟩:=x;exact⟨S,x.agg,hb⟩
theorem kj{s:Str}{fs:List qB}(x:Ow b u h v (.lst 3 (fs.map qB.enc) false))(h1:b<=u):Ow b u h (.agg [.str s,v]) (qJ.mk s fs).enc:=
 ((Ows.nil.scal (a:=.str s) (fun _=>rfl) rfl rfl).snoc (b:=b) (m:=b) x (nLr _) h1).agg
theorem qV2{s:Str}{cs:List qJ}(x:Ow b u h v (.lst 2 (cs.map qJ.enc) false))(h1:b<=u):Ow b u h (.agg [.str s,v]) (qG.mk s cs).enc:=
 ((Ows.nil.scal (a:=.str s) (fun _=>rfl) rfl rfl).snoc (b:=b) (m:=b) x (nLr _) h1).agg
theorem kp{ds:List qG}{fs:List qF}(x:Ow b m h v1 (.lst 2 (ds.map qG.enc) false))(y:Ow m u h v2 (.lst 12 (fs.map qF.enc) false))(h1:b<=m)(h2:m<=u):Ow b u h (.agg [v1,v2]) (qQ.mk ds fs).enc:=
 (x.one.snoc y h1 h2).agg
theorem qV3{s:Str}{t:qB}{x:qA}(p:Ow b m h v (.lst 3 (t.Kids.map qB.enc) false))(q:Ow m u h (.agg vs) x.enc)(h1:b<=m)(h2:m<=u):Ow b u h (.agg ([.str s,.int .i64 t.Kind,.str t.Name,v]++vs)) (qF.mk s t x).enc:=by
 have a0:Ows b b h [.str s,.int .i64 t.Kind,.str t.Name] [.str s,.int .i64 t.Kind,.str t.Name]:=
  ((Ows.nil.scal (a:=.str s) (fun _=>rfl) rfl rfl).scal (a:=.int .i64 t.Kind) (fun _=>rfl) rfl rfl).scal (a:=.str t.Name) (fun _=>rfl) rfl rfl
 rw[qA.enc_eq]at q;exact((a0.snoc p (nLr _) h1).app2 q.cells h1 h2).agg
theorem Ow.shapeC{c:qJ}(x:Ow b u h v c.enc):∃v1,v=.agg [.str c.Name,v1]/\Ow b u h v1 (.lst 3 (c.Fields.map qB.enc) false):=by
 obtain⟨S,x,hb⟩:=x;unfold qJ.enc at x;obtain⟨vs,rfl,y⟩:=x.aggs;have:=y.cnt
 match vs,this with
 |[a,b],_=>
  obtain⟨S1,S2,rfl,p1,p2⟩:=y.uncons;obtain⟨rfl,rfl⟩:=p1.strT;obtain⟨S5,S6,rfl,p5,p6⟩:=p2.uncons;exact⟨b,rfl,S5,p5,fun j hj=>hb j (by simp[hj])⟩
end
section
variable {toks:List qN} {e:Int} {id a:Nat} {h:List qD}
theorem qU8(K:zD toks)(ho:h[id]?=some (prI toks a e)):
  SCallX Gm 1009 [.ptr id 0 0] h (fun v h'=>∃c b,wJ toks a=.ok (c,b)/\PS h id (prI toks b e) h'/\Ow h.length h'.length h' v c.enc) (fun v _=>∃b,wJ toks a=.error b/\v=wP (nxt toks b e).At):=by
 have hid:=zS ho;refine xI Ya ?_;simp only[Ya,qM,go_sem];refine Je rfl ?_;simp only[gCl,go_sem];have q0:=(PS.refl ho).push (x:=.row 1 [.ptr id 0 0] true);refine qY ((Jj (k:=2) q0.at' K.l (by decide)).mono ?_ ?_)
 case refine_2=>
  rintro v h1 ⟨hk,rfl,rfl⟩;exact⟨rfl,a,by simp only[wJ,Wz hk,qv],rfl⟩
 rintro v h1 ⟨hk,rfl,rfl⟩;have hw:=W0 (by decide) hk;have hlt:=(jw hw).2.1;generalize (nxt toks a e).Text=s at hw|-;simp only[go_sem];refine zT (el:=[.agg [.str [],.nils]]) (e:=.agg [.str [],.nils]) (e':=.agg [.str s,.nils]) rfl gCl rfl (QY (k:=2) rfl rfl ⟨fun _=>⟨_,rfl⟩,fun _=>⟨_,rfl⟩⟩ (by decide)) ?_;rw[Wp];simp only[lSz,go_sem];have G:Cg id h.length (h.length+1) (h.length+2) h:=⟨hid,nLr _,by omega,by omega,by omega,by omega⟩;have e1:((h++[qD.row 1 [.ptr id 0 0] true]).set id (prI toks (a+1) e)).length=h.length+1:=by simp
 have C:Cy toks e id h.length (h.length+1) (h.length+2) h (a+1) s .nils ((h++[qD.row 1 [.ptr id 0 0] true]).set id (prI toks (a+1) e)++[.row 2 [.agg [.str s,.nils]] true]):=by
  refine⟨?_,fun j hj hl=> ?_, ?_, ?_, ?_⟩
  ·rw[gAl (by omega),gSs (by simp;omega)]
  ·rw[gAl (by omega),gSn (by omega),gAl hl]
  ·rw[gAl (by omega),gSn (by omega),gCl]
  ·rw[<-e1];exact gCl
  ·simp
 rw[e1];generalize ((h++[qD.row 1 [.ptr id 0 0] true]).set id (prI toks (a+1) e)++[.row 2 [.agg [.str s,.nils]] true])=g0 at C|-;simp only[C.b1,go_sem];refine qY ((qc3 K G C (by omega)).mono ?_ ?_)
 case refine_2=>
  rintro v h1 ⟨b,q1,rfl⟩;exact⟨rfl,b,by simp only[wJ,hw,qj,q1,qv],rfl⟩
 rintro v g1 ⟨fs,b,w7,q1,C1,k1⟩;simp only[C1.b2,go_sem];refine qO rfl rfl ⟨_,rfl⟩ (by decide) ?_;simp only[go_sem];have hl:=C1.l;exact⟨⟨s,fs⟩,b,by simp only[wJ,hw,qj,q1],C1.fin G,(kj k1.ow hl).mono (by omega) (nLr _)⟩
theorem qTI{c:qJ}{b:Nat}(h:wJ toks a=.ok (c,b)):a<b/\b<=toks.length:=by
 unfold wJ at h;obtain⟨s,b1,e1,h⟩:=qt h;obtain⟨fs,b2,e2,h⟩:=qt h;cases h;have hw:=jw e1;have:b1<=b/\b<=toks.length:=by
  unfold wS at e2;split at e2
  ·rename_i hb;have hlt:=qb hb;have:∀(n:Nat){acc:List qB}{a:Nat}{x:List qB}{b:Nat},ju toks n acc a=.ok (x,b)->a<=b/\b<=toks.length:=by
    intro n
    induction n with
    | zero=>intro acc a x b h;cases h
    | succ n ih=>
     intro acc a x b h;simp only[ju]at h;obtain⟨t,c,e,h⟩:=qt h;have:=ja _ _ _ e;split at h
     ·have:=ih h;omega
     ·obtain⟨_,d,e,h⟩:=qt h;cases h;have:=jg e;omega
   have:=this _ e2;omega
  ·cases e2;omega
 omega
end
end Go.Ab
namespace Go.Ab
open Go
set_option maxRecDepth 10000
set_option maxHeartbeats 2000000
theorem PS.low{h h1 h2:List qD}{id B:Nat}{o:qD}(q:PS h id o h1)(hid:id<h.length)(hB:h.length<=B)(g1:∀j,j<B->h2[j]?=h1[j]?)(g2:h1.length<=h2.length):PS h id o h2:=
 ⟨(g1 id (by omega)).trans q.at',nLt q.len g2,fun j hj hl=>(g1 j (by omega)).trans (q.old j hj hl)⟩
theorem PS.pushl{h h1:List qD}{id B:Nat}{o x:qD}{h2:List qD}(q:PS h id o h1)(hid:id<h.length)(hB:h.length<=B)(g1:∀j,j<B->h2[j]?=(h1++[x])[j]?)(g2:h1.length+1<=h2.length):PS h id o h2:=
 q.push.low hid hB g1 (by simpa using g2)
section
variable {toks:List qN} {e:Int} {id a:Nat} {h:List qD}
theorem qTL{n b:Nat}{acc:List qJ}{t:qJ}(hw:wJ toks a=.ok (t,b)):jX toks (n+1) acc a=if isP toks b [124]then jX toks n (acc++[t]) (b+1)else .ok (acc++[t],b):=by
 simp only[jX,hw,qj]
theorem n629(K:zD toks)(ha:a<=toks.length)(ho:h[id]?=some (prI toks a e)):
  SCallX Gm 629 [.ptr id 0 0] h (fun v h'=>∃x b,jO toks a=.ok (x,b)/\PS h id (prI toks b e) h'/\Ow h.length h'.length h' v x.enc) (fun v _=>∃b,jO toks a=.error b/\v=wP (nxt toks b e).At):=by
 have hid:=zS ho;refine xI UX ?_;simp only[UX,qM,go_sem];refine Sem.loop (fun s:Nat×List qG×AV×Nat×List qD=>jz toks (toks.length-a) [] a=jz toks s.1 s.2.1 s.2.2.2.1/\toks.length<=s.1+s.2.2.2.1/\s.2.2.2.1<=toks.length/\PS h id (prI toks s.2.2.2.1 e) s.2.2.2.2/\KL h.length s.2.2.2.2.length s.2.2.2.2 s.2.2.1 2 (s.2.1.map qG.enc)/\s.2.1.length<=s.2.2.2.1)
  (fun s=>(⟨[(0,.ptr id 0 0)],[(2,.agg [.nils,.nils]),(3,.agg [s.2.2.1,.nils])],s.2.2.2.2⟩:VSt)) (fun s=>toks.length-s.2.2.2.1) (toks.length-a,[],.nils,a,h) (by kernel_rfl) ⟨rfl,by simp only;omega,ha,PS.refl ho,.inl ⟨rfl,rfl⟩,nZl _⟩ (Can.sub (by simp[go_sem]) (by simp[go_sem])) ?_
 rintro⟨n,ds,v0,c,g⟩ ⟨i1,i2,i3,i4,i5,i6⟩;simp only at i1 i2 i3 i4 i5 i6;have hlg:=i4.len;simp only[go_sem];refine qh rfl (jH i4.at' K.l (by decide)) ?_;rw[qn (by decide)];simp only[go_sem];cases hb:isP toks c [100,97,116,97]
 case true=>
  have hlt:=qb hb;simp only[if_true,go_sem];obtain⟨n,rfl⟩:∃m,n=m+1:=⟨n-1,by omega⟩;simp only[jz,hb,if_true]at i1;have q1:=i4.trans (PS.set i4.at' (o:=prI toks (c+1) e));have k1:=i5.set (id:=id) (o:=prI toks (c+1) e) hid;refine qY ((Jj (k:=2) q1.at' K.l (by decide)).mono ?_ ?_)
  case refine_2=>
   rintro v h1 ⟨hk,rfl,rfl⟩;exact⟨rfl,c+1,by simp only[jO,i1,QD,Wz hk,qv],rfl⟩
  rintro v h1 ⟨hk,rfl,rfl⟩;have hw:=W0 (by decide) hk;have hlw:=(jw hw).2.1;generalize (nxt toks (c+1) e).Text=s at hw|-;have q2:=q1.trans (PS.set q1.at' (o:=prI toks (c+1+1) e));have k2:=k1.set (id:=id) (o:=prI toks (c+1+1) e) hid;simp only[go_sem];refine qO rfl rfl ⟨_,rfl⟩ (by decide) ?_;simp only[go_sem];refine qY ((jf q2.at' K.l (by decide)).mono ?_ ?_)
  case refine_2=>
   rintro v2 h2 ⟨e2,rfl,rfl⟩;rw[qn (by decide)]at e2;exact⟨rfl,c+1+1,by simp only[jO,i1,QD,hw,qj,qV,e2,bFt,if_false,qv],rfl⟩
  rintro v2 h2 ⟨e2,rfl⟩;rw[qn (by decide)]at e2;have hlt2:=qb e2;have q3:=q2.trans (PS.set q2.at' (o:=prI toks (c+1+1+1) e));have k3:=k2.set (id:=id) (o:=prI toks (c+1+1+1) e) hid;have i1:jz toks (toks.length-a) [] a=exB (jX toks (toks.length+1-(c+1+1+1)) [] (c+1+1+1)) fun cs b=>jz toks n (ds++[⟨s,cs⟩]) b:=by
   rw[i1];simp only[QD,hw,qj,qV,e2,if_true];generalize jX toks (toks.length+1-(c+1+1+1)) [] (c+1+1+1)=r;cases r<;>rfl
  generalize hg3:((g.set id (prI toks (c+1) e)).set id (prI toks (c+1+1) e)).set id (prI toks (c+1+1+1) e)=g3 at q3 k3|-;have hl3:g3.length=g.length:=by rw[<-hg3];simp
  clear hg3 q1 q2 k1 k2 i4 i5;simp only[go_sem];refine qY ((qU8 K q3.at').mono ?_ ?_)
  case refine_2=>
   rintro v h1 ⟨b,r1,rfl⟩;obtain⟨m,hm⟩:∃m,toks.length+1-(c+1+1+1)=m+1:=⟨toks.length+1-(c+1+1+1)-1,by omega⟩;exact⟨rfl,b,by simp only[jO,i1,hm,jX,r1,qv],rfl⟩
  rintro v g4 ⟨t,b,r1,r2,r3⟩;obtain⟨m,hm⟩:∃m,toks.length+1-(c+1+1+1)=m+1:=⟨toks.length+1-(c+1+1+1)-1,by omega⟩;have e0:=qTL (n:=m) (acc:=[]) r1;rw[<-hm]at e0;obtain⟨p1,p2⟩:=qTI r1;have hl4:=r2.len;have q4:=q3.trans r2;have k4:=k3.ps (by omega) hid r2;obtain⟨w1,rfl,_⟩:=r3.shapeC;simp only[go_sem];refine zP (v:=.agg [.str t.Name,w1]) rfl rfl ?_;simp only[go_sem];refine jF (KL.nil (B:=g3.length) (u:=g3.length)) (r3.push (o:=.row 2 [.agg [.str t.Name,w1]] true) (nLr _)) (by simp) (nLr _) hl4 (by simp) (by simp) ?_;intro kk nn g5 k5 y5 z5;rw[zR]at z5;have q5:=q4.pushl hid (B:=g3.length) (by omega) y5 z5;have k5':KL h.length g.length g5 v0 2 (ds.map qG.enc):=(k4.push (o:=.row 2 [.agg [.str t.Name,w1]] true) (by omega)).to fun j h1 h2=>y5 j (by omega);simp only[lNa,lMc,List.map_nil]at e0 k5;simp only[go_sem];refine Sem.loop (fun z:Nat×List qJ×AV×Nat×List qD=>jX toks (toks.length+1-(c+1+1+1)) [] (c+1+1+1)=(if isP toks z.2.2.2.1 [124]then jX toks z.1 z.2.1 (z.2.2.2.1+1)else .ok (z.2.1,z.2.2.2.1))/\toks.length<=z.1+z.2.2.2.1/\z.2.2.2.1<=toks.length/\c+1<z.2.2.2.1/\PS h id (prI toks z.2.2.2.1 e) z.2.2.2.2/\g.length<=z.2.2.2.2.length/\KL g.length z.2.2.2.2.length z.2.2.2.2 z.2.2.1 2 (z.2.1.map qJ.enc)/\KL h.length g.length z.2.2.2.2 v0 2 (ds.map qG.enc)/\z.2.1.length<=z.2.2.2.1/\∃kk nn,z.2.2.1=.slice 2 kk 0 nn false)
   (fun z=>(⟨[(0,.ptr id 0 0)],[(2,.agg [.nils,.nils]),(3,.agg [v0,.nils]),(4,.agg [.str s,z.2.2.1])],z.2.2.2.2⟩:VSt)) (fun z=>toks.length-z.2.2.2.1) (m,[t],.slice 2 kk 0 nn false,b,g5) (by kernel_rfl) ⟨e0,by simp only;omega,p2,by simp only;omega,q5,by simp only;omega,by rw[hl3]at k5;exact k5,k5',by simp;omega,_,_,rfl⟩ (Can.sub (by simp[go_sem]) (by simp[go_sem])) ?_
  clear e0 k5 k5' q5 y5 z5 k4 q4 r3 r2 k3 q3 hm;rintro⟨m,cs,v1,d,gg⟩ ⟨j1,j2,j3,j4,j5,hlgg',j6,j7,j8,kk,nn,rfl⟩;simp only at j1 j2 j3 j4 j5 hlgg' j6 j7 j8;have hlgg:=j5.len;simp only[go_sem];refine qh rfl (jH j5.at' K.l (by decide)) ?_;rw[qn (by decide)];simp only[go_sem];cases hd:isP toks d [124]
  case true=>
   have hltd:=qb hd;simp only[if_true,go_sem];rw[hd,if_pos rfl]at j1;obtain⟨m,rfl⟩:∃x,m=x+1:=⟨m-1,by omega⟩;have q6:=j5.trans (PS.set j5.at' (o:=prI toks (d+1) e));have k6:=j6.set (id:=id) (o:=prI toks (d+1) e) (by omega);have k7:=j7.set (id:=id) (o:=prI toks (d+1) e) hid;refine qY ((qU8 K q6.at').mono ?_ ?_)
   case refine_2=>
    rintro v h1 ⟨b,r1,rfl⟩;exact⟨rfl,b,by simp only[jO,i1,j1,jX,r1,qv],rfl⟩
   rintro v g7 ⟨t,b,r1,r2,r3⟩;obtain⟨p1,p2⟩:=qTI r1;have hl7:=r2.len;rw[lLs]at hl7 r3;have q7:=q6.trans r2;have k6:=k6.ps (by simp) (by omega) r2;have k7:=k7.ps (by simp;omega) hid r2;obtain⟨w1,rfl,_⟩:=r3.shapeC;simp only[go_sem];refine zP (v:=.agg [.str t.Name,w1]) rfl rfl ?_;simp only[go_sem];have hlk:(cs.map qJ.enc).length<4294967296:=by rw[lMp];have:=K.l;omega
   refine jF ((k6.mono (u2:=gg.length) (nLr _)).push hl7) (r3.push (o:=.row 2 [.agg [.str t.Name,w1]] true) (nLr _)) (by simp) hlgg' hl7 (by simp) hlk ?_;intro kk nn g8 k8 y8 z8;rw[zR]at z8;have q8:=q7.pushl hid (B:=g.length) hlg y8 z8;have k8':KL h.length g.length g8 v0 2 (ds.map qG.enc):=(k7.push (o:=.row 2 [.agg [.str t.Name,w1]] true) (by omega)).to fun j h1 h2=>y8 j (by omega);simp only[go_sem];refine qa (m,cs++[t],.slice 2 kk 0 nn false,b,g8) ⟨by simp only;rw[j1,qTL r1],by simp only;omega,p2,by simp only;omega,q8,by simp only;omega,by simpa using k8,k8',by simp only[lAp,lCo,lNi];omega,_,_,rfl⟩ (by simp only;omega) (Can.sub (by simp[go_sem]) (by simp[go_sem]))
  simp only[bFt,if_false,go_sem];rw[hd,if_neg (by decide)]at j1;have x1:=qV2 (s:=s) j6.ow hlgg';refine zP (v:=.agg [.str s,.slice 2 kk 0 nn false]) rfl rfl ?_;simp only[go_sem];have hlk:(ds.map qG.enc).length<4294967296:=by rw[lMp];have:=K.l;omega
  refine jF (j7.push (by omega)) (x1.push (o:=.row 2 [.agg [.str s,.slice 2 kk 0 nn false]] true) (nLr _)) (by simp) hlg hlgg' (by simp) hlk ?_;intro kk nn g8 k8 y8 z8;rw[zR]at z8;have q8:=j5.pushl hid (B:=h.length) (nLr _) y8 z8;simp only[go_sem];refine qa (n,ds++[⟨s,cs⟩],.slice 2 kk 0 nn false,d,g8) ⟨by simp only;rw[i1,j1];simp only[qj],by simp only;omega,by simp only;omega,q8,by simpa using k8,by simp only[lAp,lCo,lNi];omega⟩ (by simp only;omega) (Can.sub (by simp[go_sem]) (by simp[go_sem]))
 simp only[bFt,if_false,go_sem];have e1:jz toks (toks.length-a) [] a=.ok (ds,c):=by
  rw[i1];cases n with
  | zero=>rfl
  | succ n=>simp only[jz,hb,bFt,if_false]
 clear i1;refine Sem.loop (fun s:Nat×List qF×AV×Nat×List qD=>wV toks (toks.length-c) [] c=wV toks s.1 s.2.1 s.2.2.2.1/\toks.length<=s.1+s.2.2.2.1/\s.2.2.2.1<=toks.length/\PS h id (prI toks s.2.2.2.1 e) s.2.2.2.2/\KL h.length g.length s.2.2.2.2 v0 2 (ds.map qG.enc)/\KL g.length s.2.2.2.2.length s.2.2.2.2 s.2.2.1 12 (s.2.1.map qF.enc)/\g.length<=s.2.2.2.2.length/\s.2.1.length<=s.2.2.2.1)
  (fun s=>(⟨[(0,.ptr id 0 0)],[(2,.agg [.nils,.nils]),(3,.agg [v0,s.2.2.1])],s.2.2.2.2⟩:VSt)) (fun s=>toks.length-s.2.2.2.1) (toks.length-c,[],.nils,c,g) (by kernel_rfl) ⟨rfl,by simp only;omega,i3,i4,i5,.inl ⟨rfl,rfl⟩,nLr _,nZl _⟩ (Can.sub (by simp[go_sem]) (by simp[go_sem])) ?_
 rintro⟨n,fs,v1,d,gg⟩ ⟨j1,j2,j3,j4,j5,j6,j7,j8⟩;simp only at j1 j2 j3 j4 j5 j6 j7 j8;simp only[go_sem];refine qh rfl (jH j4.at' K.l (by decide)) ?_;rw[qn (by decide)];simp only[go_sem];cases hd:isP toks d [100,101,102]
 case true=>
  have hlt:=qb hd;simp only[if_true,go_sem];obtain⟨n,rfl⟩:∃m,n=m+1:=⟨n-1,by omega⟩;simp only[wV,hd,if_true]at j1;have q1:=j4.trans (PS.set j4.at' (o:=prI toks (d+1) e));have k1:=j5.set (id:=id) (o:=prI toks (d+1) e) hid;have l1:=j6.set (id:=id) (o:=prI toks (d+1) e) (by omega);refine qY ((Jj (k:=1) q1.at' K.l (by decide)).mono ?_ ?_)
  case refine_2=>
   rintro v h1 ⟨hk,rfl,rfl⟩;exact⟨rfl,d+1,by simp only[jO,e1,qj,j1,JI,Wz hk,qv],rfl⟩
  rintro v h1 ⟨hk,rfl,rfl⟩;have hw:=W0 (by decide) hk;have hlw:=(jw hw).2.1;generalize (nxt toks (d+1) e).Text=s at hw|-;have q2:=q1.trans (PS.set q1.at' (o:=prI toks (d+1+1) e));have k2:=k1.set (id:=id) (o:=prI toks (d+1+1) e) hid;have l2:=l1.set (id:=id) (o:=prI toks (d+1+1) e) (by omega);simp only[go_sem];refine qO rfl rfl ⟨_,rfl⟩ (by decide) ?_;simp only[go_sem];refine qY ((jf q2.at' K.l (by decide)).mono ?_ ?_)
  case refine_2=>
   rintro v2 h2 ⟨e2,rfl,rfl⟩;rw[qn (by decide)]at e2;exact⟨rfl,d+1+1,by simp only[jO,e1,j1,JI,hw,qj,qV,e2,bFt,if_false,qv],rfl⟩
  rintro v2 h2 ⟨e2,rfl⟩;rw[qn (by decide)]at e2;have hlt2:=qb e2;have q3:=q2.trans (PS.set q2.at' (o:=prI toks (d+1+1+1) e));have k3:=k2.set (id:=id) (o:=prI toks (d+1+1+1) e) hid;have l3:=l2.set (id:=id) (o:=prI toks (d+1+1+1) e) (by omega);generalize hg3:((gg.set id (prI toks (d+1) e)).set id (prI toks (d+1+1) e)).set id (prI toks (d+1+1+1) e)=g3 at q3 k3 l3|-;have hl3:g3.length=gg.length:=by rw[<-hg3];simp
  clear hg3 q1 q2 k1 k2 l1 l2 j4 j5;simp only[go_sem];refine qY ((kT K.l hlt2 q3.at').mono ?_ ?_)
  case refine_2=>
   rintro v h1 ⟨b,r1,rfl⟩;exact⟨rfl,b,by simp only[jO,e1,j1,JI,hw,qj,qV,e2,if_true,r1,qv],rfl⟩
  rintro v g4 ⟨ty,b,r1,r2,r3⟩;have hpt:=ja _ _ _ r1;have hl4:=r2.len;have q4:=q3.trans r2;have k4:=k3.ps (by omega) hid r2;have l4:=l3.ps (by omega) (by omega) r2;obtain⟨v5,rfl,x5⟩:=r3.shapeT;simp only[go_sem];refine Q2 (c':=.agg [.str s,.int .i64 ty.Kind,.str ty.Name,v5,.int .i64 0,.int .i64 0,.str [],.int .i64 0,.str [],.nils,.nils,.nils]) rfl rfl ?_;simp only[go_sem];refine qY ((jf q4.at' K.l (by decide)).mono ?_ ?_)
  case refine_2=>
   rintro v2 h2 ⟨e3,rfl,rfl⟩;rw[qn (by decide)]at e3;exact⟨rfl,b,by simp only[jO,e1,j1,JI,hw,qj,qV,e2,if_true,r1,e3,bFt,if_false,qv],rfl⟩
  rintro v2 h2 ⟨e3,rfl⟩;rw[qn (by decide)]at e3;have hlt3:=qb e3;have q5:=q4.trans (PS.set q4.at' (o:=prI toks (b+1) e));have k5:=k4.set (id:=id) (o:=prI toks (b+1) e) hid;have l5:=l4.set (id:=id) (o:=prI toks (b+1) e) (by omega);have x5:=x5.set (id:=id) (o:=prI toks (b+1) e) (.inl (by omega));simp only[go_sem];refine qY (((allI (e:=e) (id:=id) K _).term (b+1) _ (nLr _) hlt3 q5.at').mono ?_ ?_)
  case refine_2=>
   rintro v h1 ⟨b',r1',rfl⟩;exact⟨rfl,b',by simp only[jO,e1,j1,JI,hw,qj,qV,e2,if_true,r1,e3,r1',qv],rfl⟩
  rintro v g6 ⟨x,f,t1,t2,t3⟩;obtain⟨p1,p2,_,_⟩:=jk K.x _ .term _ trivial hlt3 t1;simp only[Jb.str]at p1;have hl6:=t2.len;rw[lLs]at hl6 t3;have q6:=q5.trans t2;have k6:=k5.ps (by simp;omega) hid t2;have l6:=l5.ps (by simp;omega) (by omega) t2;have x6:=x5.ps (by simp) (by omega) t2;obtain⟨a0,a1,a2,a3,a4,a5,a6,a7,rfl⟩:=t3.shape;simp only[go_sem];refine Q2 (c':=.agg [.str s,.int .i64 ty.Kind,.str ty.Name,v5,a0,a1,a2,a3,a4,a5,a6,a7]) rfl rfl ?_;simp only[go_sem];have x7:=qV3 (s:=s) x6 t3 hl4 hl6;simp only[lCa,lNa]at x7;refine zP (v:=.agg [.str s,.int .i64 ty.Kind,.str ty.Name,v5,a0,a1,a2,a3,a4,a5,a6,a7]) rfl rfl ?_;simp only[go_sem];have hlk:(fs.map qF.enc).length<4294967296:=by rw[lMp];have:=K.l;omega
  refine jF ((l6.mono (u2:=g3.length) (by omega)).push (by omega)) (x7.push (o:=.row 12 [.agg [.str s,.int .i64 ty.Kind,.str ty.Name,v5,a0,a1,a2,a3,a4,a5,a6,a7]] true) (nLr _)) (by simp) (by omega) (by omega) (by simp) hlk ?_;intro kk nn g8 k8 y8 z8;rw[zR]at z8;have q8:=q6.pushl hid (B:=g.length) hlg y8 z8;have k8':KL h.length g.length g8 v0 2 (ds.map qG.enc):=(k6.push (o:=.row 12 [.agg [.str s,.int .i64 ty.Kind,.str ty.Name,v5,a0,a1,a2,a3,a4,a5,a6,a7]] true) (by omega)).to fun j h1 h2=>y8 j (by omega);simp only[go_sem];refine qa (n,fs++[⟨s,ty,x⟩],.slice 12 kk 0 nn false,f,g8) ⟨by simp only;rw[j1];simp only[JI,hw,qj,qV,e2,if_true,r1,e3,t1],by simp only;omega,p2,q8,k8',by simpa using k8,by simp only;omega,by simp only[lAp,lCo,lNi];omega⟩ (by simp only;omega) (Can.sub (by simp[go_sem]) (by simp[go_sem]))
 simp only[bFt,if_false,go_sem];have e2:wV toks (toks.length-c) [] c=.ok (fs,d):=by
  rw[j1];cases n with
  | zero=>rfl
  | succ n=>simp only[wV,hd,bFt,if_false]
 refine qO rfl rfl ⟨_,rfl⟩ (by decide) ?_;simp only[go_sem];exact⟨⟨ds,fs⟩,d,by simp only[jO,e1,qj,e2],j4,kp j5.ow j6.ow hlg j7⟩
end
end Go.Ab
namespace Go.Ab
open Go
set_option maxRecDepth 10000
set_option maxHeartbeats 2000000
theorem q9.lst0{h:List qD}{w:Nat}:q9 [none] h (.lst w [] true) (.lst w [] false):=by
 refine⟨rfl,rfl, ?_, ?_⟩
 ·simp only[lay,qS];exact⟨.ph,trivial⟩
 ·simp only[lay,qS,lNi];exact .ph2 rfl
theorem Ow.lst0{b u w:Nat}{h:List qD}:Ow b u h (.lst w [] true) (.lst w [] false):=⟨[none],q9.lst0,fun j hj=>by simp at hj⟩
section
variable {E:Ev} {l:List qC} {ks:List Fr1} {s m:qo} {h:List qD} {Q:qX->VSt->Prop}
theorem qX8{B u u2 w id2 d:Nat}{c2:Bool}{X t:AV}(hX:Ow u u2 h X t)(h2:h[id2]?=some (.row w [X] true))(b1:B<=u)(b2:u<=u2)(b3:u2<=h.length)
  (hr:∀k' n' h',KL B h'.length h' (.slice w k' 0 n' false) w [t]->(∀j,j<B->h'[j]?=h[j]?)->h.length<=h'.length->R E (.ops l::ks) ⟨(d,.slice w k' 0 n' false)::s,m,h'⟩ Q):
  JY E w (some d) (some (.lst w [] true)) (some (.slice w id2 0 1 c2)) l ks ⟨s,m,h⟩ Q:=by
 refine qSH (Els.row h2 rfl) (by simp) (hr _ _ _ ?_ (fun j hj=>gAl (by omega)) (by simp));have:=JO (w:=w) (B:=B) (k:=h.length) ((hX.push (o:=.row w [X] true) b3).mono b1 (nLr _)) (by simp) b3 (by omega);simpa using this
end
theorem Ow.cell1{b u w:Nat}{h:List qD}{v:AV}{xs:List AV}(x:Ow b u h v (.lst w xs false)):v.cells=[v]:=by
 obtain⟨S,x,_⟩:=x;have q:=x.v;simp only[lay]at q;generalize xs.length=n at q;generalize (0:Nat)=z at q;cases q<;>rfl
section
variable {h:List qD} {id a b f:Nat} {toks:List qN} {bad:Bool}
def RSa{α:Type}(enc:α->AV)(toks:List qN)(id:Nat)(h:List qD)(r:Except Nat (α×Nat))(a:Nat)(v:AV)(h':List qD):Prop:=
 ∃t b bad',SPr r t b bad'/\a<=b/\b<=toks.length/\PS h id (prS toks b bad') h'/\Ow h.length h'.length h' v (enc t)
theorem qXB(K:zD toks)(ha:a<=toks.length)(ho:h[id]?=some (prS toks a bad)):SCall Gm 1332 [.ptr id 0 0] h (fun v h'=>RSa (fun fs:List qB=>.lst 3 (fs.map qB.enc) false) toks id h (gd bad a (wS toks a)) a v h'):=by
 have hid:=zS ho;refine sI VL ?_;simp only[VL,qM,go_sem];refine qT ((wQ (s:=[91]) K (.inl rfl) ho).mono ?_);rintro v0 h0 (⟨rfl,hb,rfl,r0⟩ | ⟨hb,rfl,rfl⟩)
 case inr=>
  simp only[go_sem];refine⟨[],a,bad, ?_,nLr _,ha,PS.refl ho,Ow.lst0⟩;cases bad
  ·have hb:isP toks a [91]=false:=hb;simp only[wS,hb,bFt,if_false];exact SPr.ret
  ·exact SPr.bd
 have hlt:=qb hb;have hl0:=r0.len;simp only[go_sem];refine qT ((YK K hlt r0.at').mono ?_);rintro v g1 ⟨t1,b1,bad1,s1,m1,l1,r1,o1⟩;have hl1:=r1.len;have q1:=r0.trans r1;obtain⟨a0,a1,a2,rfl⟩:=o1.shape3;simp only[go_sem];refine zP (v:=.agg [a0,a1,a2]) rfl rfl ?_;simp only[go_sem];refine qX8 (B:=h.length) (o1.push (o:=.row 3 [.agg [a0,a1,a2]] true) (nLr _)) (by simp) hl0 hl1 (by simp) ?_;intro kk nn g2 k2 y2 z2;rw[zR]at z2;have q2:=q1.pushl hid (B:=h.length) (nLr _) y2 z2;simp only[go_sem];have e0:∀y c bad',SPr (gd bad1 b1 (if isP toks b1 [44]then ju toks (toks.length-a-1) [t1] (b1+1)else exB (qV toks [93] b1) fun _ b=>.ok ([t1],b))) y c bad'->SPr (gd false a (wS toks a)) y c bad':=fun y c bad' q=>by
  obtain⟨n,hn⟩:∃n,toks.length-a=n+1:=⟨toks.length-a-1,by omega⟩;rw[hn,Nat.add_sub_cancel]at q;simp only[wS,hb,if_true,hn,ju,lNa];rw[qy,<-qy (a:=a+1) (r:=exB _ _)];exact s1.bind q
 refine Sem.loop (fun z:Nat×List qB×AV×Nat×Bool×List qD=>(∀y c bad',SPr (gd z.2.2.2.2.1 z.2.2.2.1 (if isP toks z.2.2.2.1 [44]then ju toks z.1 z.2.1 (z.2.2.2.1+1)else exB (qV toks [93] z.2.2.2.1) fun _ b=>.ok (z.2.1,b))) y c bad'->SPr (gd false a (wS toks a)) y c bad')/\toks.length<=z.1+z.2.2.2.1/\PS h id (prS toks z.2.2.2.1 z.2.2.2.2.1) z.2.2.2.2.2/\KL h.length z.2.2.2.2.2.length z.2.2.2.2.2 z.2.2.1 3 (z.2.1.map qB.enc)/\z.2.1.length<=z.2.2.2.1/\z.2.2.2.1<=toks.length/\a+1<=z.2.2.2.1/\∃kk nn,z.2.2.1=.slice 3 kk 0 nn false)
  (fun z=>(⟨[(0,.ptr id 0 0),(3,z.2.2.1)],[],z.2.2.2.2.2⟩:VSt)) (fun z=>toks.length-z.2.2.2.1) (toks.length-a-1,[t1],.slice 3 kk 0 nn false,b1,bad1,g2) (by kernel_rfl) ⟨e0,by simp only;omega,q2,by simpa using k2,by simp;omega,l1,by simp only;omega,_,_,rfl⟩ (Can.sub (by simp[go_sem]) (by simp[go_sem])) ?_
 clear e0 k2 y2 z2 q2 o1 r1 s1 q1;rintro⟨n,ks,w7,d,bd,g⟩ ⟨i1,i2,i3,i4,i5,i6,i7,kk,nn,rfl⟩;simp only at i1 i2 i3 i4 i5 i6 i7;have hl3:=i3.len;simp only[go_sem];refine qT ((wQ (s:=[44]) K (.inl rfl) i3.at').mono ?_);rintro v0 h4 (⟨rfl,hc,rfl,r0⟩ | ⟨hc,rfl,rfl⟩)
 case inl=>
  have hlt:=qb hc;have hl4:=r0.len;simp only[go_sem];rw[hc,if_pos rfl,qy]at i1;obtain⟨n,rfl⟩:∃m,n=m+1:=⟨n-1,by omega⟩;have q0:=i3.trans r0;have i4:=i4.ps (nLr _) hid r0;refine qT ((YK K hlt q0.at').mono ?_);rintro v g5 ⟨t5,b5,bad5,s5,m5,l5,r5,o5⟩;have hl5:=r5.len;have q5:=q0.trans r5;have i4:=i4.ps hl4 hid r5;obtain⟨a0,a1,a2,rfl⟩:=o5.shape3;simp only[go_sem];refine zP (v:=.agg [a0,a1,a2]) rfl rfl ?_;simp only[go_sem];have hlk:(ks.map qB.enc).length<4294967296:=by rw[lMp];have:=K.l;omega
  refine jF ((i4.mono (u2:=h4.length) hl4).push hl5) (o5.push (o:=.row 3 [.agg [a0,a1,a2]] true) (nLr _)) (by simp) (by omega) hl5 (by simp) hlk ?_;intro kk nn g6 k6 y6 z6;rw[zR]at z6;have q6:=q5.pushl hid (B:=h.length) (nLr _) y6 z6;simp only[go_sem];refine qa (n,ks++[t5],.slice 3 kk 0 nn false,b5,bad5,g6) ⟨fun y c bad' q=>i1 y c bad' ?_,by simp only;omega,q6,by simpa using k6,by simp;omega,l5,by simp only;omega,_,_,rfl⟩ (by simp only;omega) (Can.sub (by simp[go_sem]) (by simp[go_sem]));simp only[ju];rw[<-qy (a:=d+1) (r:=exB _ _)];exact s5.bind q
 simp only[go_sem];refine qT ((jV (s:=[93]) K (.inl rfl) i6 i3.at').mono ?_);rintro w5 g5 ⟨b5,bad5,s5,m5,l5,r5⟩;simp only[go_sem];have hl5:=r5.len;refine⟨ks,b5,bad5,i1 _ _ _ ?_,by omega,l5,i3.trans r5,((i4.ps (nLr _) hid r5).mono hl5).ow⟩;cases bd
 ·have hc:isP toks d [44]=false:=hc;rw[hc,if_neg (by decide)];exact s5.bind SPr.ret
 ·have:=s5;obtain⟨rfl,rfl⟩:=this;exact SPr.bd
theorem qe6(K:zD toks)(ha:a<=toks.length)(ho:h[id]?=some (prS toks a bad)):SCall Gm 1016 [.ptr id 0 0] h (fun v h'=>RSa qG.enc toks id h (gd bad a (QD toks a)) a v h'):=by
 have hid:=zS ho;refine sI Yg ?_;simp only[Yg,qM,go_sem];refine qT ((JT (k:=2) K ha ho).mono ?_);rintro w1 g1 ⟨x1,b1,bad1,s1,m1,l1,rfl,r1⟩;have hl1:=r1.len;simp only[go_sem];refine qO rfl rfl ⟨_,rfl⟩ (by decide) ?_;simp only[go_sem];refine qT ((jV (s:=[61]) K (.inl rfl) l1 r1.at').mono ?_);rintro w2 g2 ⟨b2,bad2,s2,m2,l2,r2⟩;have hl2:=r2.len;have q2:=r1.trans r2;simp only[go_sem];refine qT ((JT (k:=2) K l2 q2.at').mono ?_);rintro wc gc1 ⟨xc,bc1,badc1,sc1,mc1,lc1,rfl,rc1⟩;have hlc1:=rc1.len;simp only[go_sem];refine qT ((qXB K lc1 (q2.trans rc1).at').mono ?_);rintro vc gc ⟨fc,bc,badc,sc2,mc2,lc,rc2,oc2⟩;have hlc2:=rc2.len;have qc:=(q2.trans rc1).trans rc2;have oc:Ow g2.length gc.length gc (.agg [.str xc,vc]) (qJ.mk xc fc).enc:=(kj oc2 hlc2).mono hlc1 (nLr _);have sc:SPr (gd bad2 b2 (wJ toks b2)) ⟨xc,fc⟩ bc badc:=by unfold wJ;exact sc1.bind (sc2.bind SPr.ret)
 simp only[go_sem];have hv:=oc2.cell1;simp only[hv,lCo,lNi,if_true,go_sem];refine zP (v:=.agg [.str xc,vc]) rfl rfl ?_;simp only[go_sem];refine jF (KL.nil (B:=h.length) (u:=g2.length)) (oc.push (o:=.row 2 [.agg [.str xc,vc]] true) (nLr _)) (by simp) (by omega) (by omega) (by simp) (by simp) ?_;intro kk nn g5 k5 y5 z5;rw[zR]at z5;have q5:=qc.pushl hid (B:=h.length) (nLr _) y5 z5;simp only[lNa]at k5;simp only[go_sem];have e0:∀y c bad',SPr (gd badc bc (if isP toks bc [124]then jX toks (toks.length-b2) [⟨xc,fc⟩] (bc+1)else .ok ([⟨xc,fc⟩],bc))) y c bad'->SPr (gd bad2 b2 (jX toks (toks.length+1-b2) [] b2)) y c bad':=fun y c bad' q=>by
  obtain⟨n,hn⟩:∃n,toks.length+1-b2=n+1:=⟨toks.length-b2,by omega⟩;have hn2:toks.length-b2=n:=by omega
  rw[hn2]at q;rw[hn];simp only[jX,lNa];exact sc.bind q
 refine Sem.loop (fun z:Nat×List qJ×AV×Nat×Bool×List qD=>(∀y c bad',SPr (gd z.2.2.2.2.1 z.2.2.2.1 (if isP toks z.2.2.2.1 [124]then jX toks z.1 z.2.1 (z.2.2.2.1+1)else .ok (z.2.1,z.2.2.2.1))) y c bad'->SPr (gd bad2 b2 (jX toks (toks.length+1-b2) [] b2)) y c bad')/\toks.length<=z.1+z.2.2.2.1/\PS h id (prS toks z.2.2.2.1 z.2.2.2.2.1) z.2.2.2.2.2/\KL h.length z.2.2.2.2.2.length z.2.2.2.2.2 z.2.2.1 2 (z.2.1.map qJ.enc)/\z.2.1.length<=z.2.2.2.1+1/\z.2.2.2.1<=toks.length/\b2<=z.2.2.2.1/\∃kk nn,z.2.2.1=.slice 2 kk 0 nn false)
  (fun z=>(⟨[(0,.ptr id 0 0)],[(2,.agg [.str [],.nils]),(3,.agg [.str x1,z.2.2.1])],z.2.2.2.2.2⟩:VSt)) (fun z=>toks.length-z.2.2.2.1) (toks.length-b2,[⟨xc,fc⟩],.slice 2 kk 0 nn false,bc,badc,g5) (by kernel_rfl) ⟨e0,by simp only;omega,q5,by simpa using k5,by simp,lc,by simp only;omega,_,_,rfl⟩ (Can.sub (by simp[go_sem]) (by simp[go_sem])) ?_
 clear e0 k5 y5 z5 q5 oc qc sc;rintro⟨n,ks,w7,d,bd,g⟩ ⟨i1,i2,i3,i4,i5,i6,i7,kk,nn,rfl⟩;simp only at i1 i2 i3 i4 i5 i6 i7;have hl3:=i3.len;simp only[go_sem];refine qT ((wQ (s:=[124]) K (.inl rfl) i3.at').mono ?_);rintro v0 h4 (⟨rfl,hc,rfl,r0⟩ | ⟨hc,rfl,rfl⟩)
 case inl=>
  have hlt:=qb hc;have hl4:=r0.len;simp only[go_sem];rw[hc,if_pos rfl,qy]at i1;obtain⟨n,rfl⟩:∃m,n=m+1:=⟨n-1,by omega⟩;have q0:=i3.trans r0;have i4:=i4.ps (nLr _) hid r0;refine qT ((JT (k:=2) K hlt q0.at').mono ?_);rintro wc gc1 ⟨xc,bc1,badc1,sc1,mc1,lc1,rfl,rc1⟩;have hlc1:=rc1.len;simp only[go_sem];refine qT ((qXB K lc1 (q0.trans rc1).at').mono ?_);rintro vc gc ⟨fc,bc,badc,sc2,mc2,lc,rc2,oc2⟩;have hlc2:=rc2.len;have qc:=(q0.trans rc1).trans rc2;have oc:Ow h4.length gc.length gc (.agg [.str xc,vc]) (qJ.mk xc fc).enc:=(kj oc2 hlc2).mono hlc1 (nLr _);have sc:SPr (gd false (d+1) (wJ toks (d+1))) ⟨xc,fc⟩ bc badc:=by unfold wJ;exact sc1.bind (sc2.bind SPr.ret)
  simp only[go_sem];have hv:=oc2.cell1;simp only[hv,lCo,lNi,if_true,go_sem];refine zP (v:=.agg [.str xc,vc]) rfl rfl ?_;simp only[go_sem];have i4:=(i4.ps hl4 hid rc1).ps (by omega) hid rc2;have hlk:(ks.map qJ.enc).length<4294967296:=by rw[lMp];have:=K.l;omega
  refine jF ((i4.mono (u2:=h4.length) hl4).push (by omega)) (oc.push (o:=.row 2 [.agg [.str xc,vc]] true) (nLr _)) (by simp) (by omega) (by omega) (by simp) hlk ?_;intro kk nn g6 k6 y6 z6;rw[zR]at z6;have q6:=qc.pushl hid (B:=h.length) (nLr _) y6 z6;simp only[go_sem];refine qa (n,ks++[⟨xc,fc⟩],.slice 2 kk 0 nn false,bc,badc,g6) ⟨fun y c bad' q=>i1 y c bad' ?_,by simp only;omega,q6,by simpa using k6,by simp;omega,lc,by simp only;omega,_,_,rfl⟩ (by simp only;omega) (Can.sub (by simp[go_sem]) (by simp[go_sem]));simp only[jX];rw[<-qy (a:=d+1) (r:=exB _ _)];exact sc.bind q
 simp only[go_sem];refine qO rfl rfl ⟨_,rfl⟩ (by decide) ?_;simp only[go_sem];refine⟨⟨x1,ks⟩,d,bd, ?_,by omega,i6,i3,qV2 i4.ow hl3⟩;unfold QD;refine s1.bind (s2.bind (SPr.bind (i1 _ _ _ ?_) SPr.ret));cases bd
 ·have hc:isP toks d [124]=false:=hc;rw[hc,if_neg (by decide)];exact SPr.ret
 ·exact SPr.bd
end
end Go.Ab
namespace Go.Ab
open Go
set_option maxRecDepth 10000
set_option maxHeartbeats 2000000
theorem Ow.shapeD{b u:Nat}{h:List qD}{v:AV}{t:qG}(x:Ow b u h v t.enc):∃a0 a1,v=.agg [a0,a1]:=by
 obtain⟨S,x,_⟩:=x;unfold qG.enc at x;obtain⟨vs,rfl,y⟩:=x.aggs;have:=y.cnt
 match vs,this with
 |[a,b],_=>exact⟨a,b,rfl⟩
theorem Ow.shapeF{b u:Nat}{h:List qD}{v:AV}{t:qF}(x:Ow b u h v t.enc):∃a0 a1 a2 a3 a4 a5 a6 a7 a8 a9 a10 a11,v=.agg [a0,a1,a2,a3,a4,a5,a6,a7,a8,a9,a10,a11]:=by
 obtain⟨S,x,_⟩:=x;unfold qF.enc at x;obtain⟨vs,rfl,y⟩:=x.aggs;have:=y.cnt
 match vs,this with
 |[a,b,c,d,e,f,g,h,i,j,k,l],_=>exact⟨a,b,c,d,e,f,g,h,i,j,k,l,rfl⟩
section
variable {h:List qD} {id a b f:Nat} {toks:List qN} {bad:Bool}
theorem qe7(K:zD toks)(ha:a<=toks.length)(ho:h[id]?=some (prS toks a bad)):SCall Gm 1017 [.ptr id 0 0] h (fun v h'=>RSa qF.enc toks id h (gd bad a (JI toks a)) a v h'):=by
 have hid:=zS ho;refine sI Yh ?_;simp only[Yh,qM,go_sem];refine qT ((JT (k:=1) K ha ho).mono ?_);rintro w1 g1 ⟨x1,b1,bad1,s1,m1,l1,rfl,r1⟩;have hl1:=r1.len;simp only[go_sem];refine qO rfl rfl ⟨_,rfl⟩ (by decide) ?_;simp only[go_sem];refine qT ((jV (s:=[58]) K (.inl rfl) l1 r1.at').mono ?_);rintro w2 g2 ⟨b2,bad2,s2,m2,l2,r2⟩;have hl2:=r2.len;have q2:=r1.trans r2;simp only[go_sem];refine qT ((YK K l2 q2.at').mono ?_);rintro v g3 ⟨ty,b3,bad3,s3,m3,l3,r3,o3⟩;have hl3:=r3.len;have q3:=q2.trans r3;obtain⟨v5,rfl,x5⟩:=o3.shapeT;simp only[go_sem];refine Q2 (c':=.agg [.str x1,.int .i64 ty.Kind,.str ty.Name,v5,.int .i64 0,.int .i64 0,.str [],.int .i64 0,.str [],.nils,.nils,.nils]) rfl rfl ?_;simp only[go_sem];refine qT ((jV (s:=[61]) K (.inl rfl) l3 q3.at').mono ?_);rintro w4 g4 ⟨b4,bad4,s4,m4,l4,r4⟩;have hl4:=r4.len;have q4:=q3.trans r4;have x5:=x5.ps (nLr _) (by omega) r4;simp only[go_sem];refine qT ((YJ (f:=mJ toks .term b4) K (allS K _).term (fun _=>nLr _) l4 q4.at').mono ?_);rintro v g6 ⟨x,b6,bad6,s6,m6,l6,r6,o6⟩;have hl6:=r6.len;have q6:=q4.trans r6;have x5:=x5.ps (by omega) (by omega) r6;obtain⟨a0,a1,a2,a3,a4,a5,a6,a7,rfl⟩:=o6.shape;simp only[go_sem];refine Q2 (c':=.agg [.str x1,.int .i64 ty.Kind,.str ty.Name,v5,a0,a1,a2,a3,a4,a5,a6,a7]) rfl rfl ?_;simp only[go_sem];refine qO rfl rfl ⟨_,rfl⟩ (by decide) ?_;simp only[go_sem];have x7:=qV3 (s:=x1) (x5.mono (u':=g4.length) (nLr _) (by omega)) o6 (by omega) hl6;simp only[lCa,lNa]at x7;exact⟨⟨x1,ty,x⟩,b6,bad6,by unfold JI;exact s1.bind (s2.bind (s3.bind (s4.bind (s6.bind SPr.ret)))),by omega,l6,q6,x7.mono (by omega) (nLr _)⟩
theorem t633(K:zD toks)(ha:a<=toks.length)(ho:h[id]?=some (prS toks a bad)):SCall Gm 633 [.ptr id 0 0] h (fun v h'=>RSa qQ.enc toks id h (gd bad a (jO toks a)) a v h'):=by
 have hid:=zS ho;refine sI UZ ?_;simp only[UZ,qM,go_sem];refine qO rfl rfl ⟨_,rfl⟩ (by decide) ?_;simp only[go_sem];refine Sem.loop (fun s:Nat×List qG×AV×Nat×Bool×List qD=>(∀y c bad',SPr (gd s.2.2.2.2.1 s.2.2.2.1 (jz toks s.1 s.2.1 s.2.2.2.1)) y c bad'->SPr (gd bad a (jz toks (toks.length-a) [] a)) y c bad')/\toks.length<=s.1+s.2.2.2.1/\s.2.2.2.1<=toks.length/\a<=s.2.2.2.1/\PS h id (prS toks s.2.2.2.1 s.2.2.2.2.1) s.2.2.2.2.2/\KL h.length s.2.2.2.2.2.length s.2.2.2.2.2 s.2.2.1 2 (s.2.1.map qG.enc)/\s.2.1.length<=s.2.2.2.1)
  (fun s=>(⟨[(0,.ptr id 0 0)],[(2,.agg [.nils,.nils]),(3,.agg [s.2.2.1,.nils])],s.2.2.2.2.2⟩:VSt)) (fun s=>toks.length-s.2.2.2.1) (toks.length-a,[],.nils,a,bad,h) (by kernel_rfl) ⟨fun y c bad' q=>q,by simp only;omega,ha,nLr _,PS.refl ho,.inl ⟨rfl,rfl⟩,nZl _⟩ (Can.sub (by simp[go_sem]) (by simp[go_sem])) ?_
 rintro⟨n,ds,v0,c,bd,g⟩ ⟨i1,i2,i3,i4,i5,i6,i7⟩;simp only at i1 i2 i3 i4 i5 i6 i7;have hlg:=i5.len;simp only[go_sem];refine qT ((wQ (s:=[100,97,116,97]) K (.inr rfl) i5.at').mono ?_);rintro v1 h4 (⟨rfl,hb,rfl,r0⟩ | ⟨hb,rfl,rfl⟩)
 case inl=>
  have hlt:=qb hb;have hl4:=r0.len;simp only[go_sem];obtain⟨n,rfl⟩:∃m,n=m+1:=⟨n-1,by omega⟩;simp only[jz,hb,if_true,qy]at i1;have q0:=i5.trans r0;have i6:=i6.ps (nLr _) hid r0;refine qT ((qe6 K hlt q0.at').mono ?_);rintro v g5 ⟨t5,b5,bad5,s5,m5,l5,r5,o5⟩;have hl5:=r5.len;have q5:=q0.trans r5;have i6:=i6.ps hl4 hid r5;obtain⟨w0,w1,rfl⟩:=o5.shapeD;simp only[go_sem];refine zP (v:=.agg [w0,w1]) rfl rfl ?_;simp only[go_sem];have hlk:(ds.map qG.enc).length<4294967296:=by rw[lMp];have:=K.l;omega
  refine jF ((i6.mono (u2:=h4.length) hl4).push hl5) (o5.push (o:=.row 2 [.agg [w0,w1]] true) (nLr _)) (by simp) (by omega) hl5 (by simp) hlk ?_;intro kk nn g6 k6 y6 z6;rw[zR]at z6;have q6:=q5.pushl hid (B:=h.length) (nLr _) y6 z6;simp only[go_sem];refine qa (n,ds++[t5],.slice 2 kk 0 nn false,b5,bad5,g6) ⟨fun y c bad' q=>i1 y c bad' ?_,by simp only;omega,l5,by simp only;omega,q6,by simpa using k6,by simp;omega⟩ (by simp only;omega) (Can.sub (by simp[go_sem]) (by simp[go_sem]));rw[<-qy (a:=c+1) (r:=exB _ _)];exact s5.bind q
 simp only[go_sem];have e1:SPr (gd bad a (jz toks (toks.length-a) [] a)) ds c bd:=i1 _ _ _ (by
  cases bd
  ·have hb:isP toks c [100,97,116,97]=false:=hb;cases n with
   | zero=>exact SPr.ret
   | succ n=>simp only[jz,hb,bFt,if_false];exact SPr.ret
  ·exact SPr.bd)
 clear i1;refine Sem.loop (fun s:Nat×List qF×AV×Nat×Bool×List qD=>(∀y c' bad',SPr (gd s.2.2.2.2.1 s.2.2.2.1 (wV toks s.1 s.2.1 s.2.2.2.1)) y c' bad'->SPr (gd bd c (wV toks (toks.length-c) [] c)) y c' bad')/\toks.length<=s.1+s.2.2.2.1/\s.2.2.2.1<=toks.length/\c<=s.2.2.2.1/\PS h id (prS toks s.2.2.2.1 s.2.2.2.2.1) s.2.2.2.2.2/\KL h.length g.length s.2.2.2.2.2 v0 2 (ds.map qG.enc)/\KL g.length s.2.2.2.2.2.length s.2.2.2.2.2 s.2.2.1 12 (s.2.1.map qF.enc)/\g.length<=s.2.2.2.2.2.length/\s.2.1.length<=s.2.2.2.1)
  (fun s=>(⟨[(0,.ptr id 0 0)],[(2,.agg [.nils,.nils]),(3,.agg [v0,s.2.2.1])],s.2.2.2.2.2⟩:VSt)) (fun s=>toks.length-s.2.2.2.1) (toks.length-c,[],.nils,c,bd,g) (by kernel_rfl) ⟨fun y c bad' q=>q,by simp only;omega,i3,nLr _,i5,i6,.inl ⟨rfl,rfl⟩,nLr _,nZl _⟩ (Can.sub (by simp[go_sem]) (by simp[go_sem])) ?_
 rintro⟨n,fs,v1,d,bd2,gg⟩ ⟨j1,j2,j3,j4,j5,j6,j7,j8,j9⟩;simp only at j1 j2 j3 j4 j5 j6 j7 j8 j9;simp only[go_sem];refine qT ((wQ (s:=[100,101,102]) K (.inr rfl) j5.at').mono ?_);rintro v2 h4 (⟨rfl,hd,rfl,r0⟩ | ⟨hd,rfl,rfl⟩)
 case inl=>
  have hlt:=qb hd;have hl4:=r0.len;simp only[go_sem];obtain⟨n,rfl⟩:∃m,n=m+1:=⟨n-1,by omega⟩;simp only[wV,hd,if_true,qy]at j1;have q0:=j5.trans r0;have j6:=j6.ps (by omega) hid r0;have j7:=j7.ps (nLr _) (by omega) r0;refine qT ((qe7 K hlt q0.at').mono ?_);rintro v g5 ⟨t5,b5,bad5,s5,m5,l5,r5,o5⟩;have hl5:=r5.len;have q5:=q0.trans r5;have j6:=j6.ps (by omega) hid r5;have j7:=j7.ps hl4 (by omega) r5;obtain⟨w0,w1,w2,w3,w4,w5,w6,w7,w8,w9,w10,w11,rfl⟩:=o5.shapeF;simp only[go_sem];refine zP (v:=.agg [w0,w1,w2,w3,w4,w5,w6,w7,w8,w9,w10,w11]) rfl rfl ?_;simp only[go_sem];have hlk:(fs.map qF.enc).length<4294967296:=by rw[lMp];have:=K.l;omega
  refine jF ((j7.mono (u2:=h4.length) hl4).push hl5) (o5.push (o:=.row 12 [.agg [w0,w1,w2,w3,w4,w5,w6,w7,w8,w9,w10,w11]] true) (nLr _)) (by simp) (by omega) hl5 (by simp) hlk ?_;intro kk nn g6 k6 y6 z6;rw[zR]at z6;have q6:=q5.pushl hid (B:=g.length) hlg y6 z6;have k6':KL h.length g.length g6 v0 2 (ds.map qG.enc):=(j6.push (o:=.row 12 [.agg [w0,w1,w2,w3,w4,w5,w6,w7,w8,w9,w10,w11]] true) (by omega)).to fun j h1 h2=>y6 j (by omega);simp only[go_sem];refine qa (n,fs++[t5],.slice 12 kk 0 nn false,b5,bad5,g6) ⟨fun y c bad' q=>j1 y c bad' ?_,by simp only;omega,l5,by simp only;omega,q6,k6',by simpa using k6,by simp only;omega,by simp;omega⟩ (by simp only;omega) (Can.sub (by simp[go_sem]) (by simp[go_sem]));rw[<-qy (a:=d+1) (r:=exB _ _)];exact s5.bind q
 simp only[go_sem];have e2:SPr (gd bd c (wV toks (toks.length-c) [] c)) fs d bd2:=j1 _ _ _ (by
  cases bd2
  ·have hd:isP toks d [100,101,102]=false:=hd;cases n with
   | zero=>exact SPr.ret
   | succ n=>simp only[wV,hd,bFt,if_false];exact SPr.ret
  ·exact SPr.bd)
 refine qO rfl rfl ⟨_,rfl⟩ (by decide) ?_;simp only[go_sem];exact⟨⟨ds,fs⟩,d,bd2,by unfold jO;exact e1.bind (e2.bind SPr.ret),by omega,j3,j5,kp j6.ow j7.ow hlg j8⟩
end
end Go.Ab
namespace Go.Ab
open Go
set_option maxRecDepth 10000
set_option maxHeartbeats 2000000
def nmD(s:Str)(d:qG):Bool:=decide (d.Name=s)
def nmF(s:Str)(d:qF):Bool:=decide (d.Name=s)
mutual
def qB.kn(ds:List qG):qB->Bool
 |.mk k n ks=>(!(decide (k=2)&& !(ds.any (nmD n))))&& !qB.kns ds ks
def qB.kns(ds:List qG):List qB->Bool
 |[]=>false
 | x::xs=> !x.kn ds || qB.kns ds xs
end
theorem qB.kns_eq(ds:List qG):∀xs:List qB,qB.kns ds xs=xs.any fun y=> !y.kn ds
 |[]=>rfl
 | x::xs=>by rw[qB.kns,qB.kns_eq ds xs];rfl
theorem qB.kn_eq(ds:List qG)(x:qB):x.kn ds=((!(decide (x.Kind=2)&& !(ds.any (nmD x.Name))))&& !(x.Kids.any fun y=> !y.kn ds)):=by
 cases x;rw[qB.kn,qB.kns_eq];rfl
mutual
def qB.kr(ds:List qG):qB->Bool
 |.mk k n ks=>if k=2 then ds.any (nmD n)else !qB.krs ds ks
def qB.krs(ds:List qG):List qB->Bool
 |[]=>false
 | x::xs=> !x.kr ds || qB.krs ds xs
end
theorem qB.krs_eq(ds:List qG):∀xs:List qB,qB.krs ds xs=xs.any fun y=> !y.kr ds
 |[]=>rfl
 | x::xs=>by rw[qB.krs,qB.krs_eq ds xs];rfl
theorem qB.kr_eq(ds:List qG)(x:qB):x.kr ds=if x.Kind=2 then ds.any (nmD x.Name)else !(x.Kids.any fun y=> !y.kr ds):=by
 cases x;rw[qB.kr,qB.krs_eq];rfl
theorem qW5:∀{xs:List qB}{d s d1 s1:Nat},qB.shps xs d s=some (d1,s1)->∀y∈xs,y.shp.2.2=true
 |[],_,_,_,_,_,y,hy=>by cases hy
 | x::xs,d,s,d1,s1,h,y,hy=>by
  rw[qB.shps]at h;split at h
  ·rename_i he;rcases List.mem_cons.1 hy with rfl | hy
   ·rw[he]
   ·exact qW5 h y hy
  ·cases h
theorem qB.kr_kn(ds:List qG):∀x:qB,x.shp.2.2=true->x.kr ds=x.kn ds:=qB.ind fun x ih h=>by
 rw[qB.shp_eq]at h;split at h
 ·cases h
 rename_i d s he;simp only at h;have hk:=qW5 he;rw[qB.kr_eq,qB.kn_eq];by_cases k2:x.Kind=2
 ·have:x.Kids.length=0:=by
   unfold okT at h;rw[if_neg (by omega),if_pos k2]at h;simp only[bAt,dTe]at h;exact h.2.2
  have hn:x.Kids=[]:=List.length_eq_zero_iff.1 this;simp[k2,hn]
 ·simp only[if_neg k2,decide_eq_false k2,Bool.false_and,Bool.not_false,Bool.true_and];congr 1;rw[Bool.eq_iff_iff,List.any_eq_true,List.any_eq_true];constructor<;>rintro⟨y,hy,q⟩<;>refine⟨y,hy, ?_⟩<;>simpa[ih y hy (hk y hy)]using q
def JZ(ds:List qG)(y:qB):Bool:= !jn y || !y.kn ds
def wU(ds:List qG)(c:qJ):Bool:=za c.Name&&(decide (c.Fields.length<=3)&& !(c.Fields.any (JZ ds)))
def Jc(ds:List qG):List qJ->List Str->Option (List Str)
 |[],sn=>some sn
 | c::cs,sn=>if wU ds c&& !decide (c.Name∈sn)then Jc ds cs (sn++[c.Name])else none
def jq(ds:List qG)(i:Nat)(d:qG):Bool:=za d.Name&&(!decide (d.Name=[73,110,116])&&(!((ds.take i).any (nmD d.Name))&&(decide (1<=d.Cons.length)&&decide (d.Cons.length<=4))))
def wu(ds:List qG):List qG->Nat->List Str->Bool
 |[],_,_=>true
 | d::r,i,sn=>jq ds i d&&match Jc ds d.Cons sn with
  | none=>false
  | some sn'=>wu ds r (i+1) sn'
def wK(ds:List qG):Bool:=decide (ds.length<=4)&&wu ds ds 0 []
def wL(fs:List qF)(i:Nat)(d:qF):Bool:=zg d.Name&&(!decide (zE (nmF d.Name) fs 0<(i:Nat))&&(jn d.Typ&&JX d.Body))
def wv(fs:List qF):List qF->Nat->Bool
 |[],_=>true
 | d::r,i=>wL fs i d&&wv fs r (i+1)
def jc(p:qQ):Bool:=wK p.Datas&&(decide (1<=p.Defs.length)&&(decide (p.Defs.length<=8)&&wv p.Defs p.Defs 0))
theorem K0{α:Type}(p:α->Bool):∀(xs:List α)(k i:Nat),decide (k<=i)=true->i<k+xs.length->(∀(h:i-k<xs.length),p xs[i-k]=true)->zE p xs k<=(i:Nat)/\0<=zE p xs k
 |[],k,i,h1,h2,h3=>by have:=odT h1;simp at h2;omega
 | x::xs,k,i,h1,h2,h3=>by
  have h1:=odT h1;rw[zE];by_cases hp:p x=true
  ·rw[if_pos hp];omega
  ·rw[if_neg hp];rcases Nat.lt_or_ge k i with q | q
   ·refine K0 p xs (k+1) i (decide_eq_true (by omega)) (by simp at h2;omega) fun h=> ?_;have:=h3 (by simp;omega);simpa[show i-k=(i-(k+1))+1 by omega]using this
   ·obtain rfl:k=i:=by omega
    have:=h3 (by simp);simp at this;exact absurd this hp
theorem qUF{α:Type}{p:α->Bool}{xs:List α}{i:Nat}(h:i<xs.length)(hp:p xs[i]=true):decide (zE p xs 0=(i:Nat))= !decide (zE p xs 0<(i:Nat)):=by
 have:=(K0 p xs 0 i (decide_eq_true (by omega)) (by omega) fun _=>hp);by_cases q:zE p xs 0<(i:Nat)
 ·rw[decide_eq_true q,decide_eq_false (by omega)];rfl
 ·rw[decide_eq_false q,decide_eq_true (by omega)];rfl
theorem qUG{α:Type}{p:α->Bool}:∀{xs:List α}{i k:Nat},i<xs.length->decide (zE p xs k<((k+i:Nat):Int)/\0<=zE p xs k)=(xs.take i).any p
 |[],i,k,h=>by simp at h
 | x::xs,0,k,_=>by
  have:∀(xs:List α)(k:Nat),¬(zE p xs k<(k:Nat)/\0<=zE p xs k):=by
   intro xs
   induction xs with
   | nil=>intro k;simp[zE]
   | cons y ys ih=>
    intro k;rw[zE];split
    ·omega
    ·have:=ih (k+1);omega
  simpa using this (x::xs) k
 | x::xs,i+1,k,h=>by
  rw[List.take_succ_cons,List.any_cons,zE];by_cases hp:p x=true
  ·rw[if_pos hp,hp,Bool.true_or];exact decide_eq_true (by omega)
  ·rw[if_neg hp,Bool.eq_false_iff.2 hp,Bool.false_or,<-qUG (xs:=xs) (i:=i) (k:=k+1) (by simpa using h),show k+1+i=k+(i+1) by omega]
theorem qbQ{α:Type}{p:α->Bool}{xs:List α}{i:Nat}(h:i<xs.length)(hp:p xs[i]=true):decide (zE p xs 0=(i:Nat))= !((xs.take i).any p):=by
 rw[qUF h hp,<-qUG (k:=0) h];have:=(K0 p xs 0 i (decide_eq_true (by omega)) (by omega) fun _=>hp);congr 1;rw[decide_eq_decide,nZa];omega
theorem qB.kids_nd{x y:qB}(h:y∈x.Kids)(hn:x.nd<=1048576):y.nd<=1048576:=by
 have:=jK (f:=qB.nd) h;rw[qB.nd_eq]at hn;omega
theorem qB.kids_len{x:qB}(hn:x.nd<=1048576):x.Kids.length<=1048575:=by
 rw[qB.nd_wz,qB.wz_eq]at hn;omega
theorem qY7{d:qG}{s:Str}:Pure Gm 1430 [d.enc,.ept (.str s) 0] (.bool (nmD s d)):=by
 refine pJ VW ?_;simp only[VW,qM,go_sem];refine zJ rfl ?_;simp only[go_sem];exact qH rfl rfl
theorem qY6{f:AV}(p:qG->Bool)(hft:f.tree=true)(xs:List qG)(hf:∀x∈xs,WB Gm f [x.enc] (.bool (p x)))(hl:xs.length<=1048576):Pure Gm 1429 [.lst 2 (xs.map qG.enc) false,f] (.int .i64 (zE p xs 0)):=
 Kz qG.isSh (gk _ qFT) f p hft xs hf hl
theorem qS1{f:AV}(p:qB->Bool)(hft:f.tree=true)(xs:List qB)(hf:∀x∈xs,WB Gm f [x.enc] (.bool (p x)))(hl:xs.length<=1048576):Pure Gm 1208 [.lst 3 (xs.map qB.enc) false,f] (.bool (xs.any p)):=
 qZ1 qB.isSh (gc:=1432) (gk _ qD4) (gk _ qFW) f p hft xs hf hl
theorem c891{f:AV}(p:qF->Bool)(hft:f.tree=true)(xs:List qF)(hf:∀x∈xs,WB Gm f [x.enc] (.bool (p x)))(hl:xs.length<=1048576):Pure Gm 891 [.lst 12 (xs.map qF.enc) false,f] (.int .i64 (zE p xs 0)):=
 Kz qF.isSh (gk _ F891) f p hft xs hf hl
theorem qSZ{ds:List qG}{s:Str}(hd:ds.length<=1048576):Pure Gm 1204 [.lst 2 (ds.map qG.enc) false,.str s] (.int .i64 (zE (nmD s) ds 0)):=by
 refine Pure.intro [3] [] (gk _ Y9) (by kernel_rfl) rfl (by simp[AV.trees,AV.tree,go_sem,zH qG.isSh.tree]) rfl ?_;simp only[Y9,qM,go_sem];refine Je rfl ?_;simp only[go_sem];simp only[go_sem,lNa,lCa,lSz,List.set_cons_succ];refine qK (qY6 (nmD s) (by simp[AV.tree,AV.trees]) _ (fun b _=>⟨1430,_,rfl,qY7⟩) hd) ?_;simp only[go_sem];exact qH rfl rfl
theorem qYY{ds:List qG}{y:qB}{b:Bool}(H:Pure Gm 892 [.lst 2 (ds.map qG.enc) false,y.enc] (.bool b)):Pure Gm 1209 [y.enc,.ept (.lst 2 (ds.map qG.enc) false) 0] (.bool (!b)):=by
 refine pI VD (by simp[AV.trees,AV.tree,go_sem,zH qG.isSh.tree]) rfl ?_;simp only[VD,qM,go_sem];refine zJ qB.ln ?_;simp only[go_sem];refine qK H ?_;simp only[go_sem];exact qH rfl rfl
theorem c892(x:qB):∀(ds:List qG)(hd:ds.length<=1048576)(hn:x.nd<=1048576),Pure Gm 892 [.lst 2 (ds.map qG.enc) false,x.enc] (.bool (x.kn ds)):=by
 induction x using qB.ind with
 | _ x ih=>
 intro ds hd hn;refine Pure.intro [2] [] (gk _ U0) (by kernel_rfl) rfl (by simp[AV.trees,AV.tree,go_sem,zH qG.isSh.tree]) rfl ?_;simp only[U0,qM,go_sem];refine Je rfl ?_;simp only[go_sem];simp only[go_sem,lNa,lCa,lSz,List.set_cons_succ];refine zJ qB.ln ?_;simp only[go_sem];have hq:=qB.kn_eq ds x;have hl:=qB.kids_len hn;have tl:∀{h:List qD},(x.kn ds= !(x.Kids.any fun y=> !y.kn ds))->Fin (some [.bool (!(x.Kids.any fun y=> !y.kn ds))]) h (.bool (x.kn ds)):=fun e=>qH rfl (by rw[e]);have K:=qS1 (f:=.fn 1209 [.ept (.lst 2 (ds.map qG.enc) false) 0]) (fun y=> !y.kn ds) (by simp[AV.tree,AV.trees,zH qG.isSh.tree]) x.Kids (fun y hy=>⟨1209,_,rfl,qYY (ih y hy ds hd (qB.kids_nd hy hn))⟩) (by omega);by_cases k2:x.Kind=2
 ·simp only[decide_eq_true k2,go_sem];refine qK (qSZ hd) ?_;simp only[go_sem];have e:decide (zE (nmD x.Name) ds 0<0)= !(ds.any (nmD x.Name)):=by
   rw[<-Zc (nmD x.Name) ds 0];by_cases q:zE (nmD x.Name) ds 0<0
   ·rw[decide_eq_true q,decide_eq_false (by omega)];rfl
   ·rw[decide_eq_false q,decide_eq_true (by omega)];rfl
  simp only[e];cases ha:ds.any (nmD x.Name)
  ·simp only[Bool.not_false,go_sem];exact qH rfl (by rw[hq,ha];simp[k2])
  ·simp only[Bool.not_true,go_sem];refine qK K ?_;simp only[go_sem];exact tl (by rw[hq,ha];simp)
 ·simp only[decide_eq_false k2,go_sem];refine qK K ?_;simp only[go_sem];exact tl (by rw[hq];simp[k2])
theorem qY8{ds:List qG}{y:qB}(hd:ds.length<=1048576)(hb:y.bd)(hn:y.nd<=1048576):Pure Gm 1431 [y.enc,.ept (.lst 2 (ds.map qG.enc) false) 0] (.bool (JZ ds y)):=by
 refine pI VX (by simp[AV.trees,AV.tree,go_sem,zH qG.isSh.tree]) rfl ?_;simp only[VX,qM,go_sem];refine zJ qB.ln ?_;simp only[go_sem];refine qK (c74 hb hn) ?_;simp only[go_sem];cases hv:jn y
 ·simp only[Bool.not_false,go_sem];exact qH rfl (by rw[JZ,hv];rfl)
 ·simp only[Bool.not_true,go_sem];refine qK (c892 y ds hd hn) ?_;simp only[go_sem];exact qH rfl (by rw[JZ,hv];rfl)
theorem qYW{ds:List qG}{c:qJ}(hd:ds.length<=1048576)(hs:c.Name.length<=20000)(hl:c.Fields.length<=1048576)(hf:∀y∈c.Fields,y.bd/\y.nd<=1048576):Pure Gm 1205 [.lst 2 (ds.map qG.enc) false,c.enc] (.bool (wU ds c)):=by
 refine Pure.intro [2] [] (gk _ VA) (by kernel_rfl) rfl (by simp[AV.trees,AV.tree,go_sem,zH qG.isSh.tree]) rfl ?_;simp only[VA,qM,go_sem];refine Je rfl ?_;simp only[go_sem];simp only[go_sem,lNa,lCa,lSz,List.set_cons_succ];refine zJ qJ.ln ?_;simp only[go_sem];refine qK (jy (by omega)) ?_;simp only[go_sem];cases hu:za c.Name
 ·simp only[Bool.not_false,go_sem];exact qH rfl (by rw[wU,hu];rfl)
 simp only[Bool.not_true,lMp,go_sem];by_cases h3:c.Fields.length<=3
 ·have e3:decide ((3:Int)<(c.Fields.length:Nat))=false:=decide_eq_false (by omega);simp only[gt_iff_lt,e3,go_sem];refine qK (qS1 (f:=.fn 1431 [.ept (.lst 2 (ds.map qG.enc) false) 0]) (JZ ds) (by simp[AV.tree,AV.trees,zH qG.isSh.tree]) c.Fields (fun y hy=>⟨1431,_,rfl,qY8 hd (hf y hy).1 (hf y hy).2⟩) (by omega)) ?_;simp only[go_sem];exact qH rfl (by rw[wU,hu,decide_eq_true h3];rfl)
 ·have e3:decide ((3:Int)<(c.Fields.length:Nat))=true:=decide_eq_true (by omega);simp only[gt_iff_lt,e3,go_sem];exact qH rfl (by rw[wU,hu,decide_eq_false h3];rfl)
theorem qYX{d:qF}{s:Str}:Pure Gm 1207 [d.enc,.ept (.str s) 0] (.bool (nmF s d)):=by
 refine pJ VC ?_;simp only[VC,qM,go_sem];refine zJ qF.ln ?_;simp only[go_sem];exact qH rfl rfl
theorem c890{p:qQ}{s:Str}(hd:p.Defs.length<=1048576):Pure Gm 890 [p.enc,.str s] (.int .i64 (zE (nmF s) p.Defs 0)):=by
 refine Pure.intro [3] [] (gk _ Uz) (by kernel_rfl) rfl (by simp[AV.trees,AV.tree,go_sem]) rfl ?_;simp only[Uz,qM,go_sem];refine zJ qQ.ln ?_;simp only[go_sem];refine Je rfl ?_;simp only[go_sem];simp only[go_sem,lNa,lCa,lSz,List.set_cons_succ];refine qK (c891 (nmF s) (by simp[AV.tree,AV.trees]) _ (fun b _=>⟨1207,_,rfl,qYX⟩) hd) ?_;simp only[go_sem];exact qH rfl rfl
end Go.Ab
namespace Go.Ab
open Go
set_option maxRecDepth 10000
set_option maxHeartbeats 2000000
def sE(sn:List Str):List (AV×AV):=sn.map fun k=>(AV.str k,AV.bool true)
theorem qcS{h:List qD}{id:Nat}{sn:List Str}{n:Str}(ho:h[id]?=some (.map (sE sn))):Xj h (.bool false) false (some (.map id)) (some (.str n))=some (.bool (decide (n∈sn))):=by
 rw[qcR ho,kH];by_cases q:n∈sn
 ·obtain⟨j,e⟩:=qT5 (v:=fun _=>AV.bool true) (i:=0) q;rw[sE,e,decide_eq_true q];rfl
 ·rw[sE,Kq (v:=fun _=>AV.bool true) q,decide_eq_false q];rfl
def DB(ds:List qG):Prop:=ds.length<=1048576/\∀d∈ds,d.Name.length<=20000/\d.Cons.length<=1048576/\∀c∈d.Cons,c.Name.length<=20000/\c.Fields.length<=1048576/\∀y∈c.Fields,y.bd/\y.nd<=1048576
theorem qQ.db{p:qQ}(hb:p.bd)(hn:p.wz<=1048575):DB p.Datas:=by
 unfold qQ.wz at hn;refine⟨by omega,fun d hd=> ?_⟩;have h1:=jK (f:=qG.wz) hd;have b1:=hb.1 d hd;have w1:d.wz=d.Cons.length+qE qJ.wz d.Cons:=rfl;refine⟨b1.1,by omega,fun c hc=> ?_⟩;have h2:=jK (f:=qJ.wz) hc;have b2:=b1.2 c hc;have w2:c.wz=c.Fields.length+qE qB.wz c.Fields:=rfl;refine⟨b2.1,by omega,fun y hy=>⟨b2.2 y hy, ?_⟩⟩;have h3:=jK (f:=qB.wz) hy;rw[qB.nd_wz];omega
theorem c888{ds:List qG}(B:DB ds):Pure Gm 888 [.lst 2 (ds.map qG.enc) false] (.bool (wK ds)):=by
 refine pI Ux (by simp[AV.trees,AV.tree,go_sem,zH qG.isSh.tree]) rfl ?_;simp only[Ux,qM,go_sem];by_cases h4:ds.length<=4
 case neg=>
  have e4:decide ((4:Int)<(ds.length:Nat))=true:=decide_eq_true (by omega);simp only[gt_iff_lt,e4,go_sem];exact qH rfl (by rw[wK,decide_eq_false h4];rfl)
 have e4:decide ((4:Int)<(ds.length:Nat))=false:=decide_eq_false (by omega);simp only[gt_iff_lt,e4,go_sem];have hq:wK ds=wu ds ds 0 []:=by rw[wK,decide_eq_true h4,Bool.true_and]
 refine Sem.loop (fun a:Nat×List Str=>a.1<=ds.length/\wu ds ds 0 []=wu ds (ds.drop a.1) a.1 a.2)
  (fun a=>(⟨[(0,.lst 2 (ds.map qG.enc) false),(3,.map 0),(12,.lst 2 (ds.map qG.enc) false),(13,.int .i64 ds.length),(14,.int .i64 (a.1:Nat))],[],[.map (sE a.2)]⟩:VSt)) (fun a=>ds.length-a.1) (0,[]) (by kernel_rfl) ⟨nZl _,by simp⟩ (Can.sub (by simp[go_sem]) (by simp[go_sem,sE])) ?_
 rintro⟨i,sn⟩ ⟨hi,hI⟩;simp only at hi hI;simp only[go_sem];apply zN<;>intro hc<;>simp only[hc,go_sem]
 ·have hlt:i<ds.length:=by have:=odT hc;omega
  simp only[gMp,gEg hlt,oMs,go_sem];refine qO rfl qG.ln (by exact⟨_,rfl⟩) (by decide) ?_;simp only[go_sem];have hm:=gMm hlt;have hdr:ds.drop i=ds[i]::ds.drop (i+1):=by simp
  rw[hdr,wu]at hI;obtain⟨b1,b2,b3⟩:=B.2 _ hm;generalize hdd:ds[i]=d at*;have bad:∀{h:List qD},jq ds i d=false->Fin (some [.bool false]) h (.bool (wK ds)):=fun e=>qH rfl (by rw[hq,hI,e];rfl);refine qK (jy (by omega)) ?_;simp only[go_sem];cases hu:za d.Name
  ·simp only[Bool.not_false,go_sem];exact bad (by rw[jq,hu];rfl)
  simp only[Bool.not_true,go_sem];by_cases hi2:d.Name=[73,110,116]
  ·simp only[decide_eq_true hi2,go_sem];exact bad (by rw[jq,decide_eq_true hi2,hu];rfl)
  simp only[decide_eq_false hi2,go_sem];refine qAC (xs:=ds.map qG.enc) (i:=i) rfl rfl (by simp;omega) ?_;simp only[<-List.map_take,go_sem];refine qK (qSZ (ds:=ds.take i) (by simp;omega)) ?_;simp only[go_sem];simp only[Zc];cases ha:(ds.take i).any (nmD d.Name)
  case true=>
   simp only[go_sem];exact bad (by rw[jq,ha,hu,decide_eq_false hi2];rfl)
  simp only[lMp,go_sem];by_cases h1:1<=d.Cons.length
  case neg=>
   have e1:decide (((d.Cons.length:Nat):Int)<1)=true:=decide_eq_true (by omega);simp only[e1,go_sem];exact bad (by rw[jq,ha,hu,decide_eq_false hi2,decide_eq_false h1];rfl)
  have e1:decide (((d.Cons.length:Nat):Int)<1)=false:=decide_eq_false (by omega);simp only[e1,go_sem];by_cases h5:d.Cons.length<=4
  case neg=>
   have e5:decide ((4:Int)<(d.Cons.length:Nat))=true:=decide_eq_true (by omega);simp only[gt_iff_lt,e5,go_sem];exact bad (by rw[jq,ha,hu,decide_eq_false hi2,decide_eq_true h1,decide_eq_false h5];rfl)
  have e5:decide ((4:Int)<(d.Cons.length:Nat))=false:=decide_eq_false (by omega);simp only[gt_iff_lt,e5,go_sem];have hok:jq ds i d=true:=by rw[jq,ha,hu,decide_eq_false hi2,decide_eq_true h1,decide_eq_true h5];rfl
  rw[hok,Bool.true_and]at hI;clear bad;refine Sem.loop (fun a:Nat×List Str=>a.1<=d.Cons.length/\Jc ds d.Cons sn=Jc ds (d.Cons.drop a.1) a.2)
   (fun a=>(⟨[(0,.lst 2 (ds.map qG.enc) false),(3,.map 0),(12,.lst 2 (ds.map qG.enc) false),(13,.int .i64 ds.length),(14,.int .i64 (i:Nat)),(50,.lst 2 (d.Cons.map qJ.enc) false),(51,.int .i64 d.Cons.length),(52,.int .i64 (a.1:Nat))],[],[.map (sE a.2)]⟩:VSt)) (fun a=>d.Cons.length-a.1) (0,sn) (by kernel_rfl) ⟨nZl _,by simp⟩ (Can.sub (by simp[go_sem]) (by simp[go_sem])) ?_
  rintro⟨j,s2⟩ ⟨hj,hJ⟩;simp only at hj hJ;simp only[go_sem];apply zN<;>intro hc<;>simp only[hc,go_sem]
  ·have hlj:j<d.Cons.length:=by have:=odT hc;omega
   simp only[gMp,gEg hlj,oMs,go_sem];refine qO rfl qJ.ln (by exact⟨_,rfl⟩) (by decide) ?_;simp only[go_sem];have hmc:=gMm hlj;have hcr:d.Cons.drop j=d.Cons[j]::d.Cons.drop (j+1):=by simp
   rw[hcr,Jc]at hJ;obtain⟨q1,q2,q3⟩:=b3 _ hmc;generalize hcc:d.Cons[j]=c at*;have bad:∀{h:List qD},(wU ds c&& !decide (c.Name∈s2))=false->Fin (some [.bool false]) h (.bool (wK ds)):=fun e=>by
    rw[e,if_neg (by decide)]at hJ;exact qH rfl (by rw[hq,hI,hJ])
   refine qK (qYW B.1 q1 q2 q3) ?_;simp only[go_sem];cases ho:wU ds c
   ·simp only[Bool.not_false,go_sem];exact bad (by rw[ho];rfl)
   simp only[Bool.not_true,go_sem];rw[qcS (sn:=s2) rfl];simp only[go_sem];by_cases hs:c.Name∈s2
   ·simp only[decide_eq_true hs,go_sem];exact bad (by rw[ho,decide_eq_true hs];rfl)
   simp only[decide_eq_false hs,go_sem];refine qcZ rfl (Kq (v:=fun _=>AV.bool true) hs) ?_;simp only[go_sem];rw[ho,decide_eq_false hs,Bool.not_false,Bool.and_self,if_pos rfl]at hJ;simp only[qz (show j<4611686018427387904 by omega)];have eh:[qD.map (sE s2)].set 0 (qD.map (sE s2++[(AV.str c.Name,AV.bool true)]))=[qD.map (sE (s2++[c.Name]))]:=by simp[sE]
   rw[eh];exact qa (j+1,s2++[c.Name]) ⟨by simp only;omega,hJ⟩ (by simp only;omega) (Can.sub (by simp[go_sem]) (by simp[go_sem]))
  ·obtain rfl:j=d.Cons.length:=by have:=odF hc;omega
   rw[List.drop_length,Jc]at hJ;rw[hJ]at hI;simp only[qz (show i<4611686018427387904 by omega)];exact qa (i+1,s2) ⟨by simp only;omega,hI⟩ (by simp only;omega) (Can.sub (by simp[go_sem]) (by simp[go_sem,sE]))
 ·obtain rfl:i=ds.length:=by have:=odF hc;omega
  rw[List.drop_length,wu]at hI;exact qH rfl (by rw[hq,hI])
end Go.Ab
namespace Go.Ab
open Go
set_option maxRecDepth 10000
set_option maxHeartbeats 2000000
theorem badR{ds:List qG}{y:qB}:(!jn y || !y.kr ds)=JZ ds y:=by
 unfold JZ;cases hv:jn y
 ·rfl
 ·rw[qB.kr_kn ds y];unfold jn at hv;rw[bAt]at hv;exact hv.1
def SnL(h:List qD)(v:AV)(sn:List Str):Prop:=(sn=[]/\v=.lst 1 [] true)\/∃k,v=.slice 1 k 0 sn.length false/\h[k]?=some (.row 1 (sn.map qP) true)/\sn≠[]
theorem qS2{ds:List qG}{s:Str}(hd:ds.length<=1048576):Pure Gm 1238 [.lst 2 (ds.map qG.enc) false,.str s] (.int .i64 (zE (nmD s) ds 0)):=by
 refine pI VG (by simp[AV.trees,AV.tree,go_sem,zH qG.isSh.tree]) rfl ?_;simp only[VG,qM,go_sem];refine Sem.loop (fun i:Nat=>i<=ds.length/\zE (nmD s) ds 0=zE (nmD s) (ds.drop i) i) (fun i=>(⟨[(0,.lst 2 (ds.map qG.enc) false),(1,.str s),(5,.int .i64 (i:Nat))],[],[]⟩:VSt)) (fun i=>ds.length-i) 0 (by kernel_rfl) ⟨nZl _,by simp⟩ (Can.sub (by simp[go_sem]) (by simp[go_sem])) ?_;rintro i ⟨hi,hI⟩;simp only[go_sem];apply zN<;>intro hc<;>simp only[hc,go_sem]
 ·have hlt:i<ds.length:=by have:=odT hc;omega
  simp only[gMp,gEg hlt,oMs,go_sem];have hdr:ds.drop i=ds[i]::ds.drop (i+1):=by simp
  rw[hdr,zE]at hI;generalize hdd:ds[i]=d at*;by_cases hn:d.Name=s
  ·simp only[decide_eq_true hn,go_sem];exact qH rfl (by rw[hI,nmD,decide_eq_true hn];rfl)
  ·simp only[decide_eq_false hn,go_sem];simp only[qz (show i<4611686018427387904 by omega)];refine qa (i+1) ⟨by omega, ?_⟩ (by omega) (Can.sub (by simp[go_sem]) (by simp[go_sem]));rw[hI,nmD,decide_eq_false hn];rfl
 ·obtain rfl:i=ds.length:=by have:=odF hc;omega
  exact qH rfl (by rw[hI];simp[zE])
theorem c916{ds:List qF}{s:Str}(hd:ds.length<=1048576):Pure Gm 916 [.lst 12 (ds.map qF.enc) false,.str s] (.int .i64 (zE (nmF s) ds 0)):=by
 refine pI U4 (by simp[AV.trees,AV.tree,go_sem,zH qF.isSh.tree]) rfl ?_;simp only[U4,qM,go_sem];refine Sem.loop (fun i:Nat=>i<=ds.length/\zE (nmF s) ds 0=zE (nmF s) (ds.drop i) i) (fun i=>(⟨[(0,.lst 12 (ds.map qF.enc) false),(1,.str s),(5,.int .i64 (i:Nat))],[],[]⟩:VSt)) (fun i=>ds.length-i) 0 (by kernel_rfl) ⟨nZl _,by simp⟩ (Can.sub (by simp[go_sem]) (by simp[go_sem])) ?_;rintro i ⟨hi,hI⟩;simp only[go_sem];apply zN<;>intro hc<;>simp only[hc,go_sem]
 ·have hlt:i<ds.length:=by have:=odT hc;omega
  simp only[gMp,gEg hlt,oMs,go_sem];have hdr:ds.drop i=ds[i]::ds.drop (i+1):=by simp
  rw[hdr,zE]at hI;generalize hdd:ds[i]=d at*;by_cases hn:d.Name=s
  ·simp only[decide_eq_true hn,go_sem];exact qH rfl (by rw[hI,nmF,decide_eq_true hn];rfl)
  ·simp only[decide_eq_false hn,go_sem];simp only[qz (show i<4611686018427387904 by omega)];refine qa (i+1) ⟨by omega, ?_⟩ (by omega) (Can.sub (by simp[go_sem]) (by simp[go_sem]));rw[hI,nmF,decide_eq_false hn];rfl
 ·obtain rfl:i=ds.length:=by have:=odF hc;omega
  exact qH rfl (by rw[hI];simp[zE])
theorem c917(x:qB):∀(ds:List qG)(hd:ds.length<=1048576)(hn:x.nd<=1048576),Pure Gm 917 [.lst 2 (ds.map qG.enc) false,x.enc] (.bool (x.kr ds)):=by
 induction x using qB.ind with
 | _ x ih=>
 intro ds hd hn;refine pI U5 (by simp[AV.trees,AV.tree,go_sem,zH qG.isSh.tree]) rfl ?_;simp only[U5,qM,go_sem];refine zJ qB.ln ?_;simp only[go_sem];have hq:=qB.kr_eq ds x;have hl:=qB.kids_len hn;by_cases k2:x.Kind=2
 ·simp only[decide_eq_true k2,go_sem];refine qK (qS2 hd) ?_;simp only[go_sem];exact qH rfl (by rw[hq,if_pos k2,Zc])
 simp only[decide_eq_false k2,go_sem];rw[if_neg k2]at hq;refine Sem.loop (fun i:Nat=>i<=x.Kids.length/\(x.Kids.any fun y=> !y.kr ds)=((x.Kids.drop i).any fun y=> !y.kr ds)) (fun i=>(⟨[(0,.lst 2 (ds.map qG.enc) false),(5,.int .i64 (i:Nat))],[(3,x.enc)],[]⟩:VSt)) (fun i=>x.Kids.length-i) 0 (by kernel_rfl) ⟨nZl _,by simp⟩ (Can.sub (by simp[go_sem]) (by simp[go_sem])) ?_;rintro i ⟨hi,hI⟩;simp only[go_sem];apply zN<;>intro hc<;>simp only[hc,go_sem]
 ·have hlt:i<x.Kids.length:=by have:=odT hc;omega
  simp only[gMp,gEg hlt,oMs,go_sem];have hm:=gMm hlt;have hdr:x.Kids.drop i=x.Kids[i]::x.Kids.drop (i+1):=by simp
  rw[hdr,List.any_cons]at hI;refine qK (ih _ hm ds hd (qB.kids_nd hm hn)) ?_;simp only[go_sem];cases hk:x.Kids[i].kr ds
  ·simp only[Bool.not_false,go_sem];exact qH rfl (by rw[hq,hI,hk];rfl)
  ·simp only[Bool.not_true,go_sem];simp only[qz (show i<4611686018427387904 by omega)];refine qa (i+1) ⟨by omega, ?_⟩ (by omega) (Can.sub (by simp[go_sem]) (by simp[go_sem]));rw[hI,hk];rfl
 ·obtain rfl:i=x.Kids.length:=by have:=odF hc;omega
  exact qH rfl (by rw[hq,hI];simp)
theorem qY9{ds:List qG}{c:qJ}(hd:ds.length<=1048576)(hs:c.Name.length<=20000)(hl:c.Fields.length<=1048576)(hf:∀y∈c.Fields,y.bd/\y.nd<=1048576):Pure Gm 1439 [.lst 2 (ds.map qG.enc) false,c.enc] (.bool (wU ds c)):=by
 refine pI VY (by simp[AV.trees,AV.tree,go_sem,zH qG.isSh.tree]) rfl ?_;simp only[VY,qM,go_sem];refine zJ qJ.ln ?_;simp only[go_sem];refine qK (Jq (by omega)) ?_;simp only[go_sem];cases hu:za c.Name
 ·simp only[Bool.not_false,go_sem];exact qH rfl (by rw[wU,hu];rfl)
 simp only[Bool.not_true,lMp,go_sem];by_cases h3:c.Fields.length<=3
 case neg=>
  have e3:decide ((3:Int)<(c.Fields.length:Nat))=true:=decide_eq_true (by omega);simp only[gt_iff_lt,e3,go_sem];exact qH rfl (by rw[wU,hu,decide_eq_false h3];rfl)
 have e3:decide ((3:Int)<(c.Fields.length:Nat))=false:=decide_eq_false (by omega);simp only[gt_iff_lt,e3,go_sem];have hq:wU ds c= !(c.Fields.any (JZ ds)):=by rw[wU,hu,decide_eq_true h3];rfl
 refine Sem.loop (fun i:Nat=>i<=c.Fields.length/\c.Fields.any (JZ ds)=(c.Fields.drop i).any (JZ ds)) (fun i=>(⟨[(0,.lst 2 (ds.map qG.enc) false),(5,.int .i64 (i:Nat))],[(3,c.enc)],[]⟩:VSt)) (fun i=>c.Fields.length-i) 0 (by kernel_rfl) ⟨nZl _,by simp⟩ (Can.sub (by simp[go_sem]) (by simp[go_sem])) ?_;rintro i ⟨hi,hI⟩;simp only[go_sem];apply zN<;>intro hc<;>simp only[hc,go_sem]
 ·have hlt:i<c.Fields.length:=by have:=odT hc;omega
  simp only[gMp,gEg hlt,oMs,go_sem];have hm:=gMm hlt;have hdr:c.Fields.drop i=c.Fields[i]::c.Fields.drop (i+1):=by simp
  rw[hdr,List.any_cons,<-badR]at hI;refine qK (KW (hf _ hm).1 (hf _ hm).2) ?_;simp only[go_sem];cases hv:jn c.Fields[i]
  ·simp only[Bool.not_false,go_sem];exact qH rfl (by rw[hq,hI,hv];rfl)
  simp only[Bool.not_true,go_sem];simp only[gMp,gEg hlt,oMs,go_sem];refine qK (c917 _ ds hd (hf _ hm).2) ?_;simp only[go_sem];cases hk:c.Fields[i].kr ds
  ·simp only[Bool.not_false,go_sem];exact qH rfl (by rw[hq,hI,hv,hk];rfl)
  ·simp only[Bool.not_true,go_sem];simp only[qz (show i<4611686018427387904 by omega)];refine qa (i+1) ⟨by omega, ?_⟩ (by omega) (Can.sub (by simp[go_sem]) (by simp[go_sem]));rw[hI,hv,hk];rfl
 ·obtain rfl:i=c.Fields.length:=by have:=odF hc;omega
  exact qH rfl (by rw[hq,hI];simp)
end Go.Ab
namespace Go.Ab
open Go
set_option maxRecDepth 10000
set_option maxHeartbeats 2000000
theorem SnL.push{h:List qD}{v:AV}{sn:List Str}{o:qD}(x:SnL h v sn):SnL (h++[o]) v sn:=by
 rcases x with x | ⟨k,h1,h2,h3⟩
 ·exact .inl x
 ·exact .inr ⟨k,h1,by rw[gAl (zS h2)];exact h2,h3⟩
theorem SnL.ln{h:List qD}{v:AV}{sn:List Str}(x:SnL h v sn):WV (some v)=some (.int .i64 (sn.length:Nat)):=by
 rcases x with⟨rfl,rfl⟩ | ⟨k,rfl,_⟩<;>rfl
theorem SnL.ix{h:List qD}{v:AV}{sn:List Str}(x:SnL h v sn){k:Nat}(hk:k<sn.length):∃id,idx 1 (some v) (some (.int .i64 (k:Nat)))=some (.ptr id k 0)/\Xl h none (some (.ptr id k 0))=some (.str sn[k]):=by
 rcases x with⟨rfl,rfl⟩ | ⟨id,rfl,h1,_⟩
 ·simp at hk
 ·refine⟨id,by rw[qq hk,nZa], ?_⟩;simp only[h1,go_sem,gMp,gEg hk,oMs];rfl
theorem qX9{E:Ev}{l:List qC}{ks:List Fr1}{s m:qo}{h:List qD}{Q:qX->VSt->Prop}{v:AV}{sn:List Str}{n:Str}{d id:Nat}{c2:Bool}(x:SnL h v sn)(h2:h[id]?=some (.row 1 [qP n] true))(hl:sn.length<4294967296)
  (hr:∀v' h',SnL h' v' (sn++[n])->R E (.ops l::ks) ⟨(d,v')::s,m,h'⟩ Q):JY E 1 (some d) (some v) (some (.slice 1 id 0 1 c2)) l ks ⟨s,m,h⟩ Q:=by
 rcases x with⟨rfl,rfl⟩ | ⟨k,rfl,h1,h3⟩
 ·refine qSH (ys:=[qP n]) (Els.row h2 rfl) (by simp) ?_;exact hr _ _ (.inr ⟨h.length,rfl,by simp,by simp⟩)
 ·refine XC (el:=sn.map qP) h2 h1 (by simp) hl ?_;refine hr _ _ (.inr ⟨h.length, ?_, ?_,by simp⟩)
  ·simp
  ·rw[show h.length=(h.set k .dead).length from by simp,gCl];simp
theorem qYZ{ds:List qG}(B:DB ds):Pure Gm 1236 [.lst 2 (ds.map qG.enc) false] (.bool (wK ds)):=by
 refine pI VE (by simp[AV.trees,AV.tree,go_sem,zH qG.isSh.tree]) rfl ?_;simp only[VE,qM,go_sem];by_cases h4:ds.length<=4
 case neg=>
  have e4:decide ((4:Int)<(ds.length:Nat))=true:=decide_eq_true (by omega);simp only[gt_iff_lt,e4,go_sem];exact qH rfl (by rw[wK,decide_eq_false h4];rfl)
 have e4:decide ((4:Int)<(ds.length:Nat))=false:=decide_eq_false (by omega);simp only[gt_iff_lt,e4,go_sem];have hq:wK ds=wu ds ds 0 []:=by rw[wK,decide_eq_true h4,Bool.true_and]
 refine Sem.loop (fun a:Nat×List Str×AV×List qD=>a.1<=ds.length/\wu ds ds 0 []=wu ds (ds.drop a.1) a.1 a.2.1/\SnL a.2.2.2 a.2.2.1 a.2.1/\a.2.1.length<=4*a.1)
  (fun a=>(⟨[(0,.lst 2 (ds.map qG.enc) false),(3,a.2.2.1),(4,.int .i64 (a.1:Nat))],[],a.2.2.2⟩:VSt)) (fun a=>ds.length-a.1) (0,[],.lst 1 [] true,[]) (by kernel_rfl) ⟨nZl _,by simp,.inl ⟨rfl,rfl⟩,by simp⟩ (Can.sub (by simp[go_sem]) (by simp[go_sem])) ?_
 rintro⟨i,sn,v,h⟩ ⟨hi,hI,hS,hN⟩;simp only at hi hI hS hN;simp only[lMp,go_sem];apply zN<;>intro hc<;>simp only[hc,go_sem]
 ·have hlt:i<ds.length:=by have:=odT hc;omega
  simp only[gMp,gEg hlt,oMs,go_sem];refine qO rfl qG.ln (by exact⟨_,rfl⟩) (by decide) ?_;simp only[go_sem];have hm:=gMm hlt;have hdr:ds.drop i=ds[i]::ds.drop (i+1):=by simp
  rw[hdr,wu]at hI;obtain⟨b1,b2,b3⟩:=B.2 _ hm;have hix:=qbQ (p:=nmD ds[i].Name) hlt (by simp[nmD]);generalize hdd:ds[i]=d at*;have bad:∀{h:List qD},jq ds i d=false->Fin (some [.bool false]) h (.bool (wK ds)):=fun e=>qH rfl (by rw[hq,hI,e];rfl);refine qK (Jq (by omega)) ?_;simp only[go_sem];cases hu:za d.Name
  ·simp only[Bool.not_false,go_sem];exact bad (by rw[jq,hu];rfl)
  simp only[Bool.not_true,go_sem];by_cases hi2:d.Name=[73,110,116]
  ·simp only[decide_eq_true hi2,go_sem];exact bad (by rw[jq,decide_eq_true hi2,hu];rfl)
  simp only[decide_eq_false hi2,go_sem];refine qK (qS2 B.1) ?_;simp only[go_sem];simp only[hix];cases ha:(ds.take i).any (nmD d.Name)
  case true=>
   simp only[Bool.not_true,Bool.not_false,go_sem];exact bad (by rw[jq,ha,hu,decide_eq_false hi2];rfl)
  simp only[Bool.not_true,Bool.not_false,lMp,go_sem];by_cases h1:1<=d.Cons.length
  case neg=>
   have e1:decide (((d.Cons.length:Nat):Int)<1)=true:=decide_eq_true (by omega);simp only[e1,go_sem];exact bad (by rw[jq,ha,hu,decide_eq_false hi2,decide_eq_false h1];rfl)
  have e1:decide (((d.Cons.length:Nat):Int)<1)=false:=decide_eq_false (by omega);simp only[e1,go_sem];by_cases h5:d.Cons.length<=4
  case neg=>
   have e5:decide ((4:Int)<(d.Cons.length:Nat))=true:=decide_eq_true (by omega);simp only[gt_iff_lt,e5,go_sem];exact bad (by rw[jq,ha,hu,decide_eq_false hi2,decide_eq_true h1,decide_eq_false h5];rfl)
  have e5:decide ((4:Int)<(d.Cons.length:Nat))=false:=decide_eq_false (by omega);simp only[gt_iff_lt,e5,go_sem];have hok:jq ds i d=true:=by rw[jq,ha,hu,decide_eq_false hi2,decide_eq_true h1,decide_eq_true h5];rfl
  rw[hok,Bool.true_and]at hI;clear bad;refine Sem.loop (fun a:Nat×List Str×AV×List qD=>a.1<=d.Cons.length/\Jc ds d.Cons sn=Jc ds (d.Cons.drop a.1) a.2.1/\SnL a.2.2.2 a.2.2.1 a.2.1/\a.2.1.length<=4*i+a.1)
   (fun a=>(⟨[(0,.lst 2 (ds.map qG.enc) false),(3,a.2.2.1),(4,.int .i64 (i:Nat)),(6,.int .i64 (a.1:Nat))],[(5,d.enc)],a.2.2.2⟩:VSt)) (fun a=>d.Cons.length-a.1) (0,sn,v,h) (by kernel_rfl) ⟨nZl _,by simp,hS,by simp only;omega⟩ (Can.sub (by simp[go_sem]) (by simp[go_sem])) ?_
  rintro⟨j,s2,v2,h2⟩ ⟨hj,hJ,hS2,hN2⟩;simp only at hj hJ hS2 hN2;simp only[lMp,go_sem];apply zN<;>intro hc<;>simp only[hc,go_sem]
  ·have hlj:j<d.Cons.length:=by have:=odT hc;omega
   simp only[gMp,gEg hlj,oMs,go_sem];have hmc:=gMm hlj;have hcr:d.Cons.drop j=d.Cons[j]::d.Cons.drop (j+1):=by simp
   rw[hcr,Jc]at hJ;obtain⟨q1,q2,q3⟩:=b3 _ hmc;have bad:∀{h:List qD},(wU ds d.Cons[j]&& !decide (d.Cons[j].Name∈s2))=false->Fin (some [.bool false]) h (.bool (wK ds)):=fun e=>by
    rw[e,if_neg (by decide)]at hJ;exact qH rfl (by rw[hq,hI,hJ])
   refine qK (qY9 B.1 q1 q2 q3) ?_;simp only[go_sem];cases ho:wU ds d.Cons[j]
   ·simp only[Bool.not_false,go_sem];exact bad (by rw[ho];rfl)
   simp only[Bool.not_true,go_sem];refine Sem.loop (fun k:Nat=>k<=s2.length/\decide (d.Cons[j].Name∈s2)=decide (d.Cons[j].Name∈s2.drop k))
    (fun k=>(⟨[(0,.lst 2 (ds.map qG.enc) false),(3,v2),(4,.int .i64 (i:Nat)),(6,.int .i64 (j:Nat)),(7,.int .i64 (k:Nat))],[(5,d.enc)],h2⟩:VSt)) (fun k=>s2.length-k) 0 (by kernel_rfl) ⟨nZl _,by simp⟩ (Can.sub (by simp[go_sem]) (by simp[go_sem])) ?_
   rintro k ⟨hk,hK⟩;simp only[go_sem];simp only[hS2.ln,go_sem];apply zN<;>intro hc<;>simp only[hc,go_sem]
   ·have hlk:k<s2.length:=by have:=odT hc;omega
    obtain⟨id,x1,x2⟩:=hS2.ix hlk;simp only[x1,x2,go_sem];simp only[gMp,gEg hlj,oMs,go_sem];have hkr:s2.drop k=s2[k]::s2.drop (k+1):=by simp
    rw[hkr]at hK;by_cases he:s2[k]=d.Cons[j].Name
    ·simp only[decide_eq_true he,go_sem];have hmm:d.Cons[j].Name∈s2:=he▸gMm hlk;exact bad (by rw[ho,decide_eq_true hmm];rfl)
    ·simp only[decide_eq_false he,go_sem];simp only[qz (show k<4611686018427387904 by omega)];refine qa (k+1) ⟨by omega, ?_⟩ (by omega) (Can.sub (by simp[go_sem]) (by simp[go_sem]));rw[hK,decide_eq_decide,List.mem_cons];exact⟨fun q=>q.resolve_left fun e=>he e.symm,.inr⟩
   ·obtain rfl:k=s2.length:=by have:=odF hc;omega
    rw[List.drop_length,decide_eq_false (by simp:¬d.Cons[j].Name∈([]:List Str))]at hK;rw[ho,hK,Bool.not_false,Bool.and_self,if_pos rfl]at hJ;simp only[gMp,gEg hlj,oMs,go_sem];refine zP (v:=.str d.Cons[j].Name) rfl rfl ?_;simp only[go_sem];refine qX9 (n:=d.Cons[j].Name) hS2.push (by rw[gCl];rfl) (by omega) fun v' h' hS'=> ?_;simp only[go_sem];simp only[qz (show j<4611686018427387904 by omega)];exact qa (j+1,s2++[d.Cons[j].Name],v',h') ⟨by simp only;omega,hJ,hS',by simp;omega⟩ (by simp only;omega) (Can.sub (by simp[go_sem]) (by simp[go_sem]))
  ·obtain rfl:j=d.Cons.length:=by have:=odF hc;omega
   rw[List.drop_length,Jc]at hJ;rw[hJ]at hI;simp only[qz (show i<4611686018427387904 by omega)];exact qa (i+1,s2,v2,h2) ⟨by simp only;omega,hI,hS2,by simp only;omega⟩ (by simp only;omega) (Can.sub (by simp[go_sem]) (by simp[go_sem]))
 ·obtain rfl:i=ds.length:=by have:=odF hc;omega
  rw[List.drop_length,wu]at hI;exact qH rfl (by rw[hq,hI])
end Go.Ab
namespace Go.Ab
open Go
set_option maxRecDepth 10000
set_option maxHeartbeats 2000000
def FB(fs:List qF):Prop:=fs.length<=1048576/\∀d∈fs,d.Name.length<=20000/\(d.Typ.bd/\d.Typ.nd<=1048576)/\d.Body.bd/\d.Body.wz<=1048575
theorem qQ.fb{p:qQ}(hb:p.bd)(hn:p.wz<=1048575):FB p.Defs:=by
 unfold qQ.wz at hn;refine⟨by omega,fun d hd=> ?_⟩;have h1:=jK (f:=qF.wz) hd;have b1:=hb.2 d hd;have w1:d.wz=d.Typ.wz+d.Body.wz:=rfl;exact⟨b1.1,⟨b1.2.1,by rw[qB.nd_wz];omega⟩,b1.2.2,by omega⟩
theorem c527{p:qQ}(hb:p.bd)(hn:p.wz<=1048575):Pure Gm 527 [p.enc] (.bool (jc p)):=by
 refine pJ UT ?_;simp only[UT,qM,go_sem];have B:=qQ.db hb hn;have F:=qQ.fb hb hn;refine zJ qQ.ln ?_;simp only[go_sem];refine qK (c888 B) ?_;simp only[go_sem];cases hd:wK p.Datas
 ·simp only[Bool.not_false,go_sem];exact qH rfl (by rw[jc,hd];rfl)
 simp only[Bool.not_true,lMp,go_sem];by_cases h1:1<=p.Defs.length
 case neg=>
  have e1:decide (((p.Defs.length:Nat):Int)<1)=true:=decide_eq_true (by omega);simp only[e1,go_sem];exact qH rfl (by rw[jc,hd,decide_eq_false h1];rfl)
 have e1:decide (((p.Defs.length:Nat):Int)<1)=false:=decide_eq_false (by omega);simp only[e1,go_sem];by_cases h8:p.Defs.length<=8
 case neg=>
  have e5:decide ((8:Int)<(p.Defs.length:Nat))=true:=decide_eq_true (by omega);simp only[gt_iff_lt,e5,go_sem];exact qH rfl (by rw[jc,hd,decide_eq_true h1,decide_eq_false h8];rfl)
 have e5:decide ((8:Int)<(p.Defs.length:Nat))=false:=decide_eq_false (by omega);simp only[gt_iff_lt,e5,go_sem];have hq:jc p=wv p.Defs p.Defs 0:=by rw[jc,hd,decide_eq_true h1,decide_eq_true h8];rfl
 refine Sem.loop (fun i:Nat=>i<=p.Defs.length/\wv p.Defs p.Defs 0=wv p.Defs (p.Defs.drop i) i) (fun i=>(⟨[(22,.lst 12 (p.Defs.map qF.enc) false),(23,.int .i64 p.Defs.length),(24,.int .i64 (i:Nat))],[(1,p.enc)],[]⟩:VSt)) (fun i=>p.Defs.length-i) 0 (by kernel_rfl) ⟨nZl _,by simp⟩ (Can.sub (by simp[go_sem]) (by simp[go_sem])) ?_;rintro i ⟨hi,hI⟩;simp only[go_sem];apply zN<;>intro hc<;>simp only[hc,go_sem]
 ·have hlt:i<p.Defs.length:=by have:=odT hc;omega
  simp only[gMp,gEg hlt,oMs,go_sem];refine qO rfl qF.ln (by exact⟨_,rfl⟩) (by decide) ?_;simp only[go_sem];have hm:=gMm hlt;have hdr:p.Defs.drop i=p.Defs[i]::p.Defs.drop (i+1):=by simp
  rw[hdr,wv]at hI;obtain⟨b1,b2,b3,b4⟩:=F.2 _ hm;generalize hdd:p.Defs[i]=d at*;have bad:∀{h:List qD},wL p.Defs i d=false->Fin (some [.bool false]) h (.bool (jc p)):=fun e=>qH rfl (by rw[hq,hI,e];rfl);refine qK (wI (by omega)) ?_;simp only[go_sem];cases hu:zg d.Name
  ·simp only[Bool.not_false,go_sem];exact bad (by rw[wL,hu];rfl)
  simp only[Bool.not_true,go_sem];refine qK (c890 (p:=p) F.1) ?_;simp only[go_sem];by_cases hx:zE (nmF d.Name) p.Defs 0<(i:Nat)
  ·simp only[decide_eq_true hx,go_sem];exact bad (by rw[wL,hu,decide_eq_true hx];rfl)
  simp only[decide_eq_false hx,go_sem];refine qK (c74 b2.1 b2.2) ?_;simp only[go_sem];cases hv:jn d.Typ
  ·simp only[Bool.not_false,go_sem];exact bad (by rw[wL,hu,decide_eq_false hx,hv];rfl)
  simp only[Bool.not_true,go_sem];refine qK (c144 b3 b4) ?_;simp only[go_sem];cases hw:JX d.Body
  ·simp only[Bool.not_false,go_sem];exact bad (by rw[wL,hu,decide_eq_false hx,hv,hw];rfl)
  simp only[Bool.not_true,go_sem];have hok:wL p.Defs i d=true:=by rw[wL,hu,decide_eq_false hx,hv,hw];rfl
  rw[hok,Bool.true_and]at hI;simp only[qz (show i<4611686018427387904 by omega)];exact qa (i+1) ⟨by omega,hI⟩ (by omega) (Can.sub (by simp[go_sem]) (by simp[go_sem]))
 ·obtain rfl:i=p.Defs.length:=by have:=odF hc;omega
  rw[List.drop_length,wv]at hI;exact qH rfl (by rw[hq,hI])
theorem c915{p:qQ}(hb:p.bd)(hn:p.wz<=1048575):Pure Gm 915 [.ept p.enc 0] (.bool (jc p)):=by
 refine pJ U3 ?_;simp only[U3,qM,go_sem];have B:=qQ.db hb hn;have F:=qQ.fb hb hn;refine qK (qYZ B) ?_;simp only[go_sem];cases hd:wK p.Datas
 ·simp only[Bool.not_false,go_sem];exact qH rfl (by rw[jc,hd];rfl)
 simp only[Bool.not_true,lMp,go_sem];refine qK ZW ?_;simp only[go_sem];have e18:(decide ((1:Int)<=(p.Defs.length:Nat))&&decide (((p.Defs.length:Nat):Int)<=8))=(decide (1<=p.Defs.length)&&decide (p.Defs.length<=8)):=by
  congr 1<;>rw[decide_eq_decide]<;>omega
 rw[e18];cases hl:(decide (1<=p.Defs.length)&&decide (p.Defs.length<=8))
 ·simp only[Bool.not_false,go_sem];exact qH rfl (by rw[jc,hd,<-Bool.and_assoc (decide (1<=p.Defs.length)),hl];rfl)
 simp only[Bool.not_true,go_sem];have hq:jc p=wv p.Defs p.Defs 0:=by rw[jc,hd,<-Bool.and_assoc (decide (1<=p.Defs.length)),hl];rfl
 have hl2:=F.1;refine Sem.loop (fun i:Nat=>i<=p.Defs.length/\wv p.Defs p.Defs 0=wv p.Defs (p.Defs.drop i) i) (fun i=>(⟨[(0,.ept p.enc 0),(3,.int .i64 (i:Nat))],[],[]⟩:VSt)) (fun i=>p.Defs.length-i) 0 (by kernel_rfl) ⟨nZl _,by simp⟩ (Can.sub (by simp[go_sem]) (by simp[go_sem])) ?_;rintro i ⟨hi,hI⟩;simp only[go_sem];apply zN<;>intro hc<;>simp only[hc,go_sem]
 ·have hlt:i<p.Defs.length:=by have:=odT hc;omega
  simp only[gMp,gEg hlt,oMs,go_sem];have hm:=gMm hlt;have hdr:p.Defs.drop i=p.Defs[i]::p.Defs.drop (i+1):=by simp
  rw[hdr,wv]at hI;have hix:=qUF (p:=nmF p.Defs[i].Name) hlt (by simp[nmF]);obtain⟨b1,b2,b3,b4⟩:=F.2 _ hm;generalize hdd:p.Defs[i]=d at*;have bad:∀{h:List qD},wL p.Defs i d=false->Fin (some [.bool false]) h (.bool (jc p)):=fun e=>qH rfl (by rw[hq,hI,e];rfl);refine qK (Qm (by omega)) ?_;simp only[go_sem];cases hu:zg d.Name
  ·simp only[Bool.not_false,go_sem];exact bad (by rw[wL,hu];rfl)
  simp only[Bool.not_true,go_sem];refine qK (c916 F.1) ?_;simp only[go_sem];simp only[hix];cases hx:decide (zE (nmF d.Name) p.Defs 0<(i:Nat))
  case true=>
   simp only[Bool.not_true,Bool.not_false,go_sem];exact bad (by rw[wL,hu,hx];rfl)
  simp only[Bool.not_true,Bool.not_false,go_sem];refine qK (KW b2.1 b2.2) ?_;simp only[go_sem];cases hv:jn d.Typ
  ·simp only[Bool.not_false,go_sem];exact bad (by rw[wL,hu,hx,hv];rfl)
  simp only[Bool.not_true,go_sem];refine qK (Pure.lk0 (sh:=some 8) qF.tr qF.q4 (by rw[qA.ln];decide) (c350 b3 b4)) ?_;simp only[go_sem];cases hw:JX d.Body
  ·simp only[Bool.not_false,go_sem];exact bad (by rw[wL,hu,hx,hv,hw];rfl)
  simp only[Bool.not_true,go_sem];have hok:wL p.Defs i d=true:=by rw[wL,hu,hx,hv,hw];rfl
  rw[hok,Bool.true_and]at hI;simp only[qz (show i<4611686018427387904 by omega)];exact qa (i+1) ⟨by omega,hI⟩ (by omega) (Can.sub (by simp[go_sem]) (by simp[go_sem]))
 ·obtain rfl:i=p.Defs.length:=by have:=odF hc;omega
  rw[List.drop_length,wv]at hI;exact qH rfl (by rw[hq,hI])
theorem c624{p:qQ}(hb:p.bd)(hn:p.wz<=1048575):Pure Gm 624 [p.enc] (.bool (jc p)):=by
 refine Pure.intro [1] [] (gk _ UW) (by kernel_rfl) rfl (by simp[AV.trees,AV.tree,go_sem]) rfl ?_;simp only[UW,qM,go_sem];refine Je qQ.ln ?_;simp only[lNa,lSz,go_sem];refine qK (c915 hb hn) ?_;simp only[go_sem];exact qH rfl rfl
end Go.Ab
namespace Go.Ab
open Go
set_option maxRecDepth 10000
set_option maxHeartbeats 2000000
section
variable {toks:List qN}
theorem qXR(hx:∀x∈toks,x.Text.length<=20000):∀(n:Nat){acc r:List qB}{a b:Nat},ju toks n acc a=.ok (r,b)->∃gs,r=acc++gs/\(∀y∈gs,y.bd)/\gs.length+qE qB.wz gs+2*a<=2*b/\b<=toks.length
 | 0,acc,r,a,b,h=>by cases h
 | n+1,acc,r,a,b,h=>by
  rw[ju]at h;obtain⟨t,b1,e1,h⟩:=qt h;have p1:=ja _ _ _ e1;obtain⟨p2,p3⟩:=ku hx _ _ _ e1;have p4:=t.nd_wz;by_cases hc:isP toks b1 [44]=true
  ·rw[if_pos hc]at h;obtain⟨gs,rfl,q1,q2,q3⟩:=qXR hx n h;refine⟨t::gs,by simp,fun y hy=> ?_,by simp only[qE,lCo];omega,q3⟩;rcases List.mem_cons.1 hy with rfl | hy
   ·exact p2
   ·exact q1 y hy
  ·rw[if_neg hc]at h;obtain⟨_,b2,e2,h⟩:=qt h;cases h;have p5:=jg e2;exact⟨[t],rfl,by simpa using p2,by simp only[qE,lCo,lNi];omega,p5.2.2.1⟩
theorem qfT(hx:∀x∈toks,x.Text.length<=20000){a b:Nat}{r:List qB}(ha:a<=toks.length)(h:wS toks a=.ok (r,b)):(∀y∈r,y.bd)/\r.length+qE qB.wz r+2*a<=2*b/\b<=toks.length:=by
 unfold wS at h;split at h
 ·obtain⟨gs,rfl,q1,q2,q3⟩:=qXR hx _ h;exact⟨q1,by first | omega | (simp only[lNa];omega),q3⟩
 ·cases h;exact⟨by simp,by simp[qE],ha⟩
theorem qZP(hx:∀x∈toks,x.Text.length<=20000){a b:Nat}{c:qJ}(h:wJ toks a=.ok (c,b)):c.bd/\2+c.wz+2*a<=2*b/\b<=toks.length:=by
 unfold wJ at h;obtain⟨s,b1,e1,h⟩:=qt h;obtain⟨fs,b2,e2,h⟩:=qt h;cases h;obtain⟨p1,p2,p3,x,hm,_,_,rfl⟩:=jw e1;obtain⟨q1,q2,q3⟩:=qfT hx p2 e2;exact⟨⟨hx x hm,q1⟩,by unfold qJ.wz;simp only;omega,q3⟩
theorem qTK(hx:∀x∈toks,x.Text.length<=20000):∀(n:Nat){acc r:List qJ}{a b:Nat},jX toks n acc a=.ok (r,b)->∃gs,r=acc++gs/\(∀y∈gs,y.bd)/\gs.length+qE qJ.wz gs+2*a<=2*b/\b<=toks.length
 | 0,acc,r,a,b,h=>by cases h
 | n+1,acc,r,a,b,h=>by
  rw[jX]at h;obtain⟨t,b1,e1,h⟩:=qt h;obtain⟨p1,p2,p3⟩:=qZP hx e1;by_cases hc:isP toks b1 [124]=true
  ·rw[if_pos hc]at h;obtain⟨gs,rfl,q1,q2,q3⟩:=qTK hx n h;refine⟨t::gs,by simp,fun y hy=> ?_,by simp only[qE,lCo];omega,q3⟩;rcases List.mem_cons.1 hy with rfl | hy
   ·exact p1
   ·exact q1 y hy
  ·rw[if_neg hc]at h;cases h;exact⟨[t],rfl,by simpa using p1,by simp only[qE,lCo,lNi];omega,p3⟩
theorem qZ2(hx:∀x∈toks,x.Text.length<=20000){a b:Nat}{c:qG}(h:QD toks a=.ok (c,b)):c.bd/\2+c.wz+2*a<=2*b/\b<=toks.length:=by
 unfold QD at h;obtain⟨s,b1,e1,h⟩:=qt h;obtain⟨_,b2,e2,h⟩:=qt h;obtain⟨fs,b3,e3,h⟩:=qt h;cases h;obtain⟨p1,p2,p3,x,hm,_,_,rfl⟩:=jw e1;have p5:=jg e2;obtain⟨gs,rfl,q1,q2,q3⟩:=qTK hx _ e3;exact⟨⟨hx x hm,q1⟩,by unfold qG.wz;simp only[lNa];omega,q3⟩
theorem qTP(hx:∀x∈toks,x.Text.length<=20000):∀(n:Nat){acc r:List qG}{a b:Nat},a<=toks.length->jz toks n acc a=.ok (r,b)->∃gs,r=acc++gs/\(∀y∈gs,y.bd)/\gs.length+qE qG.wz gs+2*a<=2*b/\b<=toks.length
 | 0,acc,r,a,b,ha,h=>by cases h;exact⟨[],by simp,by simp,by simp[qE],ha⟩
 | n+1,acc,r,a,b,ha,h=>by
  rw[jz]at h;split at h
  ·obtain⟨t,b1,e1,h⟩:=qt h;obtain⟨p1,p2,p3⟩:=qZ2 hx e1;obtain⟨gs,rfl,q1,q2,q3⟩:=qTP hx n p3 h;refine⟨t::gs,by simp,fun y hy=> ?_,by simp only[qE,lCo];omega,q3⟩;rcases List.mem_cons.1 hy with rfl | hy
   ·exact p1
   ·exact q1 y hy
  ·cases h;exact⟨[],by simp,by simp,by simp[qE],ha⟩
theorem qZ6(hx:∀x∈toks,x.Text.length<=20000){a b:Nat}{c:qF}(h:JI toks a=.ok (c,b)):c.bd/\2+c.wz+2*a<=2*b/\b<=toks.length:=by
 unfold JI at h;obtain⟨s,b1,e1,h⟩:=qt h;obtain⟨_,b2,e2,h⟩:=qt h;obtain⟨t,b3,e3,h⟩:=qt h;obtain⟨_,b4,e4,h⟩:=qt h;obtain⟨y,b5,e5,h⟩:=qt h;cases h;obtain⟨p1,p2,p3,x,hm,_,_,rfl⟩:=jw e1;have p5:=jg e2;have p6:=ja _ _ _ e3;obtain⟨p7,p8⟩:=ku hx _ _ _ e3;have p9:=t.nd_wz;have p10:=jg e4;obtain⟨r1,r2,r3,r4⟩:=jk hx _ .term _ trivial p10.2.2.1 e5;simp only[Jb.bs,Jb.str]at r1 r4;exact⟨⟨hx x hm,p7,r3⟩,by unfold qF.wz;simp only;omega,r2⟩
theorem qTT(hx:∀x∈toks,x.Text.length<=20000):∀(n:Nat){acc r:List qF}{a b:Nat},a<=toks.length->wV toks n acc a=.ok (r,b)->∃gs,r=acc++gs/\(∀y∈gs,y.bd)/\gs.length+qE qF.wz gs+2*a<=2*b/\b<=toks.length
 | 0,acc,r,a,b,ha,h=>by cases h;exact⟨[],by simp,by simp,by simp[qE],ha⟩
 | n+1,acc,r,a,b,ha,h=>by
  rw[wV]at h;split at h
  ·obtain⟨t,b1,e1,h⟩:=qt h;obtain⟨p1,p2,p3⟩:=qZ6 hx e1;obtain⟨gs,rfl,q1,q2,q3⟩:=qTT hx n p3 h;refine⟨t::gs,by simp,fun y hy=> ?_,by simp only[qE,lCo];omega,q3⟩;rcases List.mem_cons.1 hy with rfl | hy
   ·exact p1
   ·exact q1 y hy
  ·cases h;exact⟨[],by simp,by simp,by simp[qE],ha⟩
theorem qAB(K:zD toks)(hl:toks.length<=20000){x:qQ}{b:Nat}(h:jO toks 0=.ok (x,b)):x.bd/\x.wz<=1048575:=by
 unfold jO at h;obtain⟨ds,b1,e1,h⟩:=qt h;obtain⟨fs,b2,e2,h⟩:=qt h;cases h;obtain⟨gs,rfl,p1,p2,p3⟩:=qTP K.x _ (nZl _) e1;obtain⟨gs',rfl,q1,q2,q3⟩:=qTT K.x _ p3 e2;exact⟨⟨p1,q1⟩,by unfold qQ.wz;simp only[lNa];omega⟩
end
theorem Ow.shapeP{b u:Nat}{h:List qD}{v:AV}{t:qQ}(x:Ow b u h v t.enc):∃a0 a1,v=.agg [a0,a1]:=by
 obtain⟨S,x,_⟩:=x;unfold qQ.enc at x;obtain⟨vs,rfl,y⟩:=x.aggs;have hl:=y.cnt
 match vs,hl with
 |[u0,u1],_=>exact⟨_,_,rfl⟩
def jp:qQ:=⟨[],[]⟩
def zy(t:Str):qQ×Int×Int:=if (qw t).2.2=0 then
  (match jO (qw t).1 0 with
  |.error b=>(jp,(nxt (qw t).1 b t.length).At,6)
  |.ok (x,b)=>if b<(qw t).1.length then(jp,(nxt (qw t).1 b t.length).At,6)else if jc x then(x,0,0)else(jp,0,1))
 else(jp,(qw t).2.1,(qw t).2.2)
def jl(t:Str):AV:=.tup [(zy t).1.enc,.int .i64 (zy t).2.1,.int .i64 (zy t).2.2]
theorem qdQ{t:Str}:(jl t).pl=true:=by simp[jl,AV.pl,AV.pls,qQ.plx]
theorem qV5{S:List (Option Nat)}{h:List qD}{v:AV}{x:qQ}{a c:Int}(o:q9 S h v x.enc):q9 S h (.tup [v,.int .i64 a,.int .i64 c]) (.tup [x.enc,.int .i64 a,.int .i64 c]):=by
 have h1:=o.one.scal (a:=.int .i64 a) (fun _=>rfl) rfl rfl;have h2:=h1.scal (a:=.int .i64 c) (fun _=>rfl) rfl rfl;exact h2.tup
theorem qV8{h:List qD}:∃S,q9 S h (.agg [.nils,.nils]) jp.enc:=by
 obtain⟨S,q,_⟩:=kp (b:=0) (m:=0) (u:=0) (h:=h) (ds:=[]) (fs:=[]) Ow.nils Ow.nils (nLr _) (nLr _);exact⟨S,q⟩
theorem YY{h:List qD}{t:Str}{a c:Int}(e:zy t=(jp,a,c)):∃S,q9 S h (.tup [.agg [.nils,.nils],.int .i64 a,.int .i64 c]) (jl t):=by
 obtain⟨S,q⟩:=qV8 (h:=h);exact⟨S,by unfold jl;rw[e];exact qV5 q⟩
theorem qZF{t:Str}:SCall Gm 628 [.str t,.fn 629 [],.fn 527 []] [] fun v h'=>∃S,q9 S h' v (jl t):=by
 refine SCall.try g628 rfl (by kernel_rfl) ?_;simp only[W8,qM,go_sem];refine qK c266 ?_;simp only[go_sem];by_cases hc:(qw t).2.2=0
 case neg=>
  simp only[decide_eq_false hc,Bool.not_false,go_sem];refine qO rfl rfl ⟨_,rfl⟩ (by decide) ?_;simp only[go_sem];exact YY (by rw[zy,if_neg hc])
 simp only[decide_eq_true hc,Bool.not_true,go_sem];refine⟨by simp[get],by first | rfl | trivial, ?_⟩;refine Je rfl ?_;simp only[go_sem];have hl:=YN (t:=t);have K:=ka (t:=t);have er:zy t=match jO (qw t).1 0 with
  |.error b=>(jp,(nxt (qw t).1 b t.length).At,6)
  |.ok (x,b)=>if b<(qw t).1.length then(jp,(nxt (qw t).1 b t.length).At,6)else if jc x then(x,0,0)else(jp,0,1):=by rw[zy,if_pos hc]
 generalize (qw t).1=toks at*;refine qY ((n629 (e:=t.length) (id:=0) K (nZl _) rfl).mono ?_ ?_)
 ·rintro v h1 ⟨x,b,q1,q2,q3⟩;rw[q1]at er;simp only at er;obtain⟨a0,a1,rfl⟩:=q3.shapeP;obtain⟨S,q3,_⟩:=q3;have ho:=q2.at';unfold prI at ho;simp only[go_sem];refine qO rfl rfl ⟨_,rfl⟩ (by decide) ?_;simp only[go_sem,ho,oMs,lMp];by_cases hlt:b<toks.length
  ·rw[if_pos hlt]at er;refine qfQ (congrArg (fun q=>some (AV.bool q)) (decide_eq_true (by omega))) ?_;simp only[go_sem];refine qY ((Wc q2.at').mono (fun _ _ q=>q.elim) ?_);rintro v2 h2 ⟨rfl,rfl⟩;rw[qdN];refine qXP rfl rfl ?_;simp only[go_sem];refine qO rfl rfl ⟨_,rfl⟩ (by decide) ?_;simp only[go_sem];exact YY er
  ·rw[if_neg hlt]at er;refine qfP (congrArg (fun q=>some (AV.bool q)) (decide_eq_false (by omega))) ?_;simp only[go_sem];obtain⟨g1,g2⟩:=qAB K hl q1;refine Qn (vs':=[x.enc]) (Cvs.cons (q3.cv (qQ.cnx x)) Cvs.nil) (c527 g1 g2) rfl ?_;simp only[go_sem];cases hv:jc x
   ·rw[hv]at er;simp only[Bool.not_false,go_sem];refine qO rfl rfl ⟨_,rfl⟩ (by decide) ?_;simp only[go_sem];exact YY er
   ·rw[hv]at er;simp only[Bool.not_true,go_sem];refine qO rfl rfl ⟨_,rfl⟩ (by decide) ?_;simp only[go_sem];exact⟨S,by unfold jl;rw[er];exact qV5 q3⟩
 ·rintro v h1 ⟨b,q1,rfl⟩;rw[q1]at er;simp only at er;rw[qfO];refine qXP rfl rfl ?_;simp only[go_sem];refine qO rfl rfl ⟨_,rfl⟩ (by decide) ?_;simp only[go_sem];exact YY er
theorem qdL{S:List (Option Nat)}{h:List qD}{v:AV}{x:qQ}{a c:Int}(o:q9 S h v (.tup [x.enc,.int .i64 a,.int .i64 c])):∃a0 a1,v=.tup [.agg [a0,a1],.int .i64 a,.int .i64 c]:=by
 have q:=o.v;simp only[lay]at q;obtain⟨cs,hcs,p⟩:=q.tups;clear q;unfold qQ.enc at p;simp only[qS,lay]at p;have hl:=p.1
 match cs,hl,p,hcs with
 |[u0,u1,u2],_,p,hcs=>
  obtain⟨p0,p'⟩:=p.hd;obtain⟨p1,p''⟩:=p'.hd;obtain⟨p2,_⟩:=p''.hd;obtain⟨ds,hds,r0⟩:=p0.aggs;have hl:=r0.1;have e1:=p1.int;have e2:=p2.int;subst e1;subst e2;subst hds;subst hcs
  match ds,hl with
  |[y0,y1],_=>exact⟨y0,y1,rfl⟩
theorem n264{t:Str}:Fresh Gm 264 [.str t] (jl t):=by
 refine Fresh.ofS rfl qdQ ?_;refine sI V1 ?_;simp only[V1,qM,go_sem];refine qT (qZF.mono ?_);rintro v h' ⟨S,q⟩;obtain⟨a0,a1,rfl⟩:=qdL (by unfold jl at q;exact q);simp only[go_sem];refine qO rfl rfl ⟨_,rfl⟩ (by decide) ?_;simp only[go_sem];exact⟨S,q⟩
theorem c267{t:Str}:Pure Gm 267 [.str t] (jl t):=by
 refine pI V3 (by simp[AV.trees,AV.tree,go_sem]) (by simp[jl,AV.tree,AV.trees,qQ.tr]) ?_;simp only[V3,qM,go_sem];have er0:zy t=if (qw t).2.2=0 then
  (match jO (qw t).1 0 with
  |.error b=>(jp,(nxt (qw t).1 b t.length).At,6)
  |.ok (x,b)=>if b<(qw t).1.length then(jp,(nxt (qw t).1 b t.length).At,6)else if jc x then(x,0,0)else(jp,0,1))
  else(jp,(qw t).2.1,(qw t).2.2):=rfl
 have zz:∀{h:List qD}{a c:Int},Cv h (.tup [.agg [.nils,.nils],.int .i64 a,.int .i64 c]) (.tup [jp.enc,.int .i64 a,.int .i64 c]):=fun{h a c}=>by
  obtain⟨S,q⟩:=qV8 (h:=h);exact Cvs.tup (Cvs.cons (q.cv (qQ.cnx jp)) (Cvs.cons (.refl rfl) (Cvs.cons (.refl rfl) Cvs.nil)))
 refine qT (n358.mono ?_);intro v h' hq;by_cases hc:(qw t).2.2=0
 case neg=>
  rw[if_neg hc]at hq er0;obtain⟨rfl,rfl⟩:=hq;simp only[decide_eq_false hc,Bool.not_false,go_sem];refine qO rfl rfl ⟨_,rfl⟩ (by decide) ?_;simp only[go_sem];refine JL ?_;unfold jl;rw[er0];exact zz
 rw[if_pos hc]at hq er0;obtain⟨rfl,rfl⟩:=hq;have K:=ka (t:=t);simp only[decide_true,Bool.not_true,go_sem];refine qT ((t633 (id:=0) (bad:=false) K (nZl _) rfl).mono ?_);rintro v h1 ⟨x,b,bad,q1,_,_,q2,q3⟩;rw[qy]at q1;obtain⟨a0,a1,rfl⟩:=q3.shapeP;obtain⟨S,q3,_⟩:=q3;simp only[go_sem];refine qO rfl rfl ⟨_,rfl⟩ (by decide) ?_;simp only[go_sem];refine qh rfl (n360 q2.at' K.l) ?_;have hbad:JJ (qw t).1 b bad=true->zy t=(jp,(nxt (qw t).1 b t.length).At,6):=fun q=>by
  rw[er0];cases e:jO (qw t).1 0 with
  | ok y=>
   rw[e]at q1;obtain⟨rfl,rfl,rfl⟩:=q1;have:y.2<(qw t).1.length:=by simpa[JJ]using q
   simp only[this,if_true]
  | error b'=>
   rw[e]at q1;obtain⟨rfl,rfl⟩:=q1;rfl
 cases hd:JJ (qw t).1 b bad
 case true=>
  have er:=hbad hd;simp only[if_true,go_sem,show decide ((6:Int)=0)=false from rfl,Bool.not_false];refine qO rfl rfl ⟨_,rfl⟩ (by decide) ?_;simp only[go_sem];refine JL ?_;unfold jl;rw[er];exact zz
 case false=>
 have er:jO (qw t).1 0=.ok (x,b)/\¬b<(qw t).1.length:=by
  cases e:jO (qw t).1 0 with
  | ok y=>
   rw[e]at q1;obtain⟨rfl,rfl,rfl⟩:=q1;exact⟨rfl,by simpa[JJ]using hd⟩
  | error b'=>
   rw[e]at q1;obtain⟨rfl,rfl⟩:=q1;simp[JJ]at hd
 rw[er.1]at er0;simp only at er0;rw[if_neg er.2]at er0;obtain⟨g1,g2⟩:=qAB K YN er.1;simp only[bFt,if_false,go_sem,show decide ((0:Int)=0)=true from rfl,Bool.not_true];refine Qn (vs':=[x.enc]) (Cvs.cons (q3.cv (qQ.cnx x)) Cvs.nil) (c624 g1 g2) rfl ?_;simp only[go_sem];cases hv:jc x
 ·rw[hv]at er0;simp only[Bool.not_false,go_sem];refine qO rfl rfl ⟨_,rfl⟩ (by decide) ?_;simp only[go_sem];refine JL ?_;unfold jl;rw[er0];exact zz
 ·rw[hv]at er0;simp only[Bool.not_true,go_sem];refine qO rfl rfl ⟨_,rfl⟩ (by decide) ?_;simp only[go_sem];refine JL ?_;unfold jl;rw[er0];exact Cvs.tup (Cvs.cons (q3.cv (qQ.cnx x)) (Cvs.cons (.refl rfl) (Cvs.cons (.refl rfl) Cvs.nil)))
end Go.Ab
namespace Go.Ab
open Go
set_option maxRecDepth 10000
set_option maxHeartbeats 2000000
theorem qZE(xs:List qB)(hl:xs.length+qE qB.wz xs<=2097152):Pure Gm 361 [.lst 3 (xs.map qB.enc) false,.lst 3 (xs.map qB.enc) false] (.bool true):=
 Za qB.isSh (gk _ UI) xs (fun x hx=>KV x (by have:=jK (f:=qB.wz) hx;omega)) (by omega)
theorem qZA{x:qJ}(hz:x.wz<=2097152):Pure Gm 1471 [x.enc,x.enc] (.bool true):=by
 refine pJ Ve ?_;simp only[Ve,qM,go_sem];refine zJ qJ.ln ?_;simp only[go_sem];refine zJ qJ.ln ?_;simp only[go_sem];refine qK (qZE x.Fields hz) ?_;simp only[go_sem];exact qH rfl rfl
theorem qY1(xs:List qJ)(hl:xs.length+qE qJ.wz xs<=2097152):Pure Gm 1334 [.lst 2 (xs.map qJ.enc) false,.lst 2 (xs.map qJ.enc) false] (.bool true):=
 Za qJ.isSh (gk _ qE0) xs (fun x hx=>qZA (by have:=jK (f:=qJ.wz) hx;omega)) (by omega)
theorem qYO{x:qG}(hz:x.wz<=2097152):Pure Gm 1018 [x.enc,x.enc] (.bool true):=by
 refine pJ Yi ?_;simp only[Yi,qM,go_sem];refine zJ qG.ln ?_;simp only[go_sem];refine zJ qG.ln ?_;simp only[go_sem];refine qK (qY1 x.Cons hz) ?_;simp only[go_sem];exact qH rfl rfl
theorem c634(xs:List qG)(hl:xs.length+qE qG.wz xs<=2097152):Pure Gm 634 [.lst 2 (xs.map qG.enc) false,.lst 2 (xs.map qG.enc) false] (.bool true):=
 Za qG.isSh (gk _ F634) xs (fun x hx=>qYO (by have:=jK (f:=qG.wz) hx;omega)) (by omega)
theorem qYP{x:qF}(hz:x.wz<=2097152):Pure Gm 1019 [x.enc,x.enc] (.bool true):=by
 refine pJ Yj ?_;simp only[Yj,qM,go_sem];have hw:x.wz=x.Typ.wz+x.Body.wz:=rfl;refine zJ qF.ln ?_;simp only[go_sem];refine zJ qF.ln ?_;simp only[go_sem];refine qK (KV x.Typ (by omega)) ?_;simp only[go_sem];refine qK (c191 x.Body (by omega)) ?_;simp only[go_sem];exact qH rfl rfl
theorem c635(xs:List qF)(hl:xs.length+qE qF.wz xs<=2097152):Pure Gm 635 [.lst 12 (xs.map qF.enc) false,.lst 12 (xs.map qF.enc) false] (.bool true):=
 Za qF.isSh (gk _ F635) xs (fun x hx=>qYP (by have:=jK (f:=qF.wz) hx;omega)) (by omega)
theorem c268{x:qQ}(hz:x.wz<=2097152):Pure Gm 268 [x.enc,x.enc] (.bool true):=by
 refine pJ V4 ?_;simp only[V4,qM,go_sem];have hw:x.wz=(x.Datas.length+qE qG.wz x.Datas)+(x.Defs.length+qE qF.wz x.Defs):=rfl;refine zJ qQ.ln ?_;simp only[go_sem];refine zJ qQ.ln ?_;simp only[go_sem];refine qK (c634 x.Datas (by omega)) ?_;simp only[go_sem];refine qK (c635 x.Defs (by omega)) ?_;simp only[go_sem];exact qH rfl rfl
end Go.Ab
