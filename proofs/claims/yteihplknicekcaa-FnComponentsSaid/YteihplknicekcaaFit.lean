/- The seat's functions fit the abstract texts: every function's text is checked. -/
import Derived.Test.YteihplknicekcaaChecked
import Derived.KernelRfl
import Derived.Test.YteihplknicekcaaP6
import Derived.Test.YteihplknicekcaaP8
namespace Go.Proofs.Yteihplknicekcaa
open Go Go.Ab Go.Proofs
set_option maxRecDepth 100000

def numL:List (Nat×Nat):=[(340,45),(488,30),(1371,52),(1384,55),(1372,53),(1489,79),(1385,56),(1494,80),(1386,57),(1096,46),(710,29),(318,15),(774,84),(397,61),(554,33),(796,63),(1050,65),(1051,64),(1487,81),(1387,58),(1388,59),(1375,82),(1495,83),(1389,60),(1390,62),(1097,47),(711,31),(1098,48),(712,32),(555,35),(714,36),(713,34),(319,16),(401,77),(1373,78),(1085,51),(490,54),(491,28),(702,38),(978,44),(60,4),(316,13),(773,41),(396,24),(440,22),(451,27),(1084,40),(709,26),(1094,42),(1095,43),(708,25),(1083,39),(699,23),(317,14),(61,5),(323,20),(1167,90),(1345,72),(1339,66),(1476,85),(1340,67),(1348,75),(1349,76),(1054,50),(1477,86),(1478,87),(1341,68),(1529,91),(1480,89),(1479,88),(1342,69),(1343,70),(1344,71),(1346,73),(1347,74),(1053,49),(678,37),(320,17),(62,6),(321,18),(63,7),(64,8),(322,19),(65,9),(66,10),(324,21),(67,11),(68,12),(3,3)]
def numF(g:Nat):Nat:=qJL g numL
noncomputable def SS:qL:=qL.of Try.prog ⟨numF,id⟩ (by kernel_rfl)
theorem SSP:SS.P=Try.prog:=by kernel_rfl
theorem fm {g k : Nat} {F : qK} {fn : Func} (hf : Try.prog.funcs[k]? = some fn) (hN : SS.N.f g = k := by kernel_rfl) (hn : (fn.name == "runtime.NumGoroutine") = false := by kernel_rfl) (hm : Je SS F fn = true := by kernel_rfl) : Zi SS g F := qOK hN SSP hf hn hm
theorem fitAll:J6 SS UC:=⟨fm Try.func45,fm Try.func30,fm Try.func52,fm Try.func55,fm Try.func53,fm Try.func79,fm Try.func56,fm Try.func80,fm Try.func57,fm Try.func46,fm Try.func29,fm Try.func15,fm Try.func84,fm Try.func61,fm Try.func33,fm Try.func63,fm Try.func65,fm Try.func64,fm Try.func81,fm Try.func58,fm Try.func59,fm Try.func82,fm Try.func83,fm Try.func60,fm Try.func62,fm Try.func47,fm Try.func31,fm Try.func48,fm Try.func32,fm Try.func35,fm Try.func36,fm Try.func34,fm Try.func16,fm Try.func77,fm Try.func78,fm Try.func51,fm Try.func54,fm Try.func28,fm Try.func38,fm Try.func44,fm Try.func4,fm Try.func13,fm Try.func41,fm Try.func24,fm Try.func22,fm Try.func27,fm Try.func40,fm Try.func26,fm Try.func42,fm Try.func43,fm Try.func25,fm Try.func39,fm Try.func23,fm Try.func14,fm Try.func5,fm Try.func20,fm Try.func90,fm Try.func72,fm Try.func66,fm Try.func85,fm Try.func67,fm Try.func75,fm Try.func76,fm Try.func50,fm Try.func86,fm Try.func87,fm Try.func68,fm Try.func91,fm Try.func89,fm Try.func88,fm Try.func69,fm Try.func70,fm Try.func71,fm Try.func73,fm Try.func74,fm Try.func49,fm Try.func37,fm Try.func17,fm Try.func6,fm Try.func18,fm Try.func7,fm Try.func8,fm Try.func19,fm Try.func9,fm Try.func10,fm Try.func21,fm Try.func11,fm Try.func12,fm Try.func3,trivial⟩
theorem VA:∀g,Gm g=JH g UC:=fun _=>rfl
end Go.Proofs.Yteihplknicekcaa
