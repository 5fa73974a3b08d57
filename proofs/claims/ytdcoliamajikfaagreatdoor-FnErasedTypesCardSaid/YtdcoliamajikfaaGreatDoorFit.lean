/- The seat's functions fit the abstract texts: every function's text is checked. -/
import Derived.Test.YtdcoliamajikfaaGreatDoorShelf
import Derived.KernelRfl
import Derived.Test.YtdcoliamajikfaaGreatDoorP6
import Derived.Test.YtdcoliamajikfaaGreatDoorP7
namespace Go.Proofs.YtdcoliamajikfaaGreatDoor
open Go Go.Ab Go.Proofs
set_option maxRecDepth 100000

def numL:List (Nat×Nat):=[(1100,62),(1206,91),(1330,77),(1012,79),(1106,100),(732,90),(1013,78),(1099,61),(717,45),(331,28),(74,11),(889,81),(577,103),(1051,102),(1091,93),(1014,82),(1331,94),(1015,83),(632,64),(266,46),(1101,65),(719,48),(1103,71),(721,50),(875,68),(876,67),(908,70),(911,66),(1102,69),(720,49),(722,51),(335,32),(76,13),(340,43),(1440,87),(1513,99),(1441,88),(1442,89),(1241,76),(921,60),(541,44),(208,22),(327,24),(326,23),(328,25),(329,26),(60,5),(316,20),(773,59),(396,41),(440,58),(716,42),(715,40),(325,21),(69,6),(330,27),(70,7),(71,8),(72,9),(332,29),(73,10),(333,30),(75,12),(723,52),(336,33),(77,14),(78,15),(4,3),(334,31),(631,63),(957,106),(1382,101)]
def numF(g:Nat):Nat:=lookN g numL
def numT(t:Nat):Nat:=bif Nat.beq t 751 then 72 else bif Nat.beq t 1000000 then 110 else t
section
variable {z:Nat→Option (Array Value)}
noncomputable def SS(z:Nat→Option (Array Value)):Seat:=Seat.of Tryz.prog ⟨numF,numT,z⟩ (by kernel_rfl)
theorem SSP:(SS z).P=Tryz.prog:=rfl
theorem SSz:(SS z).N.gz=z:=rfl
theorem m1100:FitsAt (SS z) 1100 F1100:=fits_mk (k:=62) (by kernel_rfl) SSP Tryz.func62 (by kernel_rfl) (by kernel_rfl)
theorem m1206:FitsAt (SS z) 1206 F1206:=fits_mk (k:=91) (by kernel_rfl) SSP Tryz.func91 (by kernel_rfl) (by kernel_rfl)
theorem m1330:FitsAt (SS z) 1330 F1330:=fits_mk (k:=77) (by kernel_rfl) SSP Tryz.func77 (by kernel_rfl) (by kernel_rfl)
theorem m1012:FitsAt (SS z) 1012 F1012:=fits_mk (k:=79) (by kernel_rfl) SSP Tryz.func79 (by kernel_rfl) (by kernel_rfl)
theorem m1106:FitsAt (SS z) 1106 F1106:=fits_mk (k:=100) (by kernel_rfl) SSP Tryz.func100 (by kernel_rfl) (by kernel_rfl)
theorem m732:FitsAt (SS z) 732 F732:=fits_mk (k:=90) (by kernel_rfl) SSP Tryz.func90 (by kernel_rfl) (by kernel_rfl)
theorem m1013:FitsAt (SS z) 1013 F1013:=fits_mk (k:=78) (by kernel_rfl) SSP Tryz.func78 (by kernel_rfl) (by kernel_rfl)
theorem m1099:FitsAt (SS z) 1099 F1099:=fits_mk (k:=61) (by kernel_rfl) SSP Tryz.func61 (by kernel_rfl) (by kernel_rfl)
theorem m717:FitsAt (SS z) 717 F717:=fits_mk (k:=45) (by kernel_rfl) SSP Tryz.func45 (by kernel_rfl) (by kernel_rfl)
theorem m331:FitsAt (SS z) 331 F331:=fits_mk (k:=28) (by kernel_rfl) SSP Tryz.func28 (by kernel_rfl) (by kernel_rfl)
theorem m74:FitsAt (SS z) 74 F74:=fits_mk (k:=11) (by kernel_rfl) SSP Tryz.func11 (by kernel_rfl) (by kernel_rfl)
theorem m889:FitsAt (SS z) 889 F889:=fits_mk (k:=81) (by kernel_rfl) SSP Tryz.func81 (by kernel_rfl) (by kernel_rfl)
theorem m577:FitsAt (SS z) 577 F577:=fits_mk (k:=103) (by kernel_rfl) SSP Tryz.func103 (by kernel_rfl) (by kernel_rfl)
theorem m1051:FitsAt (SS z) 1051 F1051:=fits_mk (k:=102) (by kernel_rfl) SSP Tryz.func102 (by kernel_rfl) (by kernel_rfl)
theorem m1091:FitsAt (SS z) 1091 F1091:=fits_mk (k:=93) (by kernel_rfl) SSP Tryz.func93 (by kernel_rfl) (by kernel_rfl)
theorem m1014:FitsAt (SS z) 1014 F1014:=fits_mk (k:=82) (by kernel_rfl) SSP Tryz.func82 (by kernel_rfl) (by kernel_rfl)
theorem m1331:FitsAt (SS z) 1331 F1331:=fits_mk (k:=94) (by kernel_rfl) SSP Tryz.func94 (by kernel_rfl) (by kernel_rfl)
theorem m1015:FitsAt (SS z) 1015 F1015:=fits_mk (k:=83) (by kernel_rfl) SSP Tryz.func83 (by kernel_rfl) (by kernel_rfl)
theorem m632:FitsAt (SS z) 632 F632:=fits_mk (k:=64) (by kernel_rfl) SSP Tryz.func64 (by kernel_rfl) (by kernel_rfl)
theorem m266:FitsAt (SS z) 266 F266:=fits_mk (k:=46) (by kernel_rfl) SSP Tryz.func46 (by kernel_rfl) (by kernel_rfl)
theorem m1101:FitsAt (SS z) 1101 F1101:=fits_mk (k:=65) (by kernel_rfl) SSP Tryz.func65 (by kernel_rfl) (by kernel_rfl)
theorem m719:FitsAt (SS z) 719 F719:=fits_mk (k:=48) (by kernel_rfl) SSP Tryz.func48 (by kernel_rfl) (by kernel_rfl)
theorem m1103:FitsAt (SS z) 1103 F1103:=fits_mk (k:=71) (by kernel_rfl) SSP Tryz.func71 (by kernel_rfl) (by kernel_rfl)
theorem m721:FitsAt (SS z) 721 F721:=fits_mk (k:=50) (by kernel_rfl) SSP Tryz.func50 (by kernel_rfl) (by kernel_rfl)
theorem m875:FitsAt (SS z) 875 F875:=fits_mk (k:=68) (by kernel_rfl) SSP Tryz.func68 (by kernel_rfl) (by kernel_rfl)
theorem m876:FitsAt (SS z) 876 F876:=fits_mk (k:=67) (by kernel_rfl) SSP Tryz.func67 (by kernel_rfl) (by kernel_rfl)
theorem m908:FitsAt (SS z) 908 F908:=fits_mk (k:=70) (by kernel_rfl) SSP Tryz.func70 (by kernel_rfl) (by kernel_rfl)
theorem m911:FitsAt (SS z) 911 F911:=fits_mk (k:=66) (by kernel_rfl) SSP Tryz.func66 (by kernel_rfl) (by kernel_rfl)
theorem m1102:FitsAt (SS z) 1102 F1102:=fits_mk (k:=69) (by kernel_rfl) SSP Tryz.func69 (by kernel_rfl) (by kernel_rfl)
theorem m720:FitsAt (SS z) 720 F720:=fits_mk (k:=49) (by kernel_rfl) SSP Tryz.func49 (by kernel_rfl) (by kernel_rfl)
theorem m722:FitsAt (SS z) 722 F722:=fits_mk (k:=51) (by kernel_rfl) SSP Tryz.func51 (by kernel_rfl) (by kernel_rfl)
theorem m335:FitsAt (SS z) 335 F335:=fits_mk (k:=32) (by kernel_rfl) SSP Tryz.func32 (by kernel_rfl) (by kernel_rfl)
theorem m76:FitsAt (SS z) 76 F76:=fits_mk (k:=13) (by kernel_rfl) SSP Tryz.func13 (by kernel_rfl) (by kernel_rfl)
theorem m340:FitsAt (SS z) 340 F340:=fits_mk (k:=43) (by kernel_rfl) SSP Tryz.func43 (by kernel_rfl) (by kernel_rfl)
theorem m1440:FitsAt (SS z) 1440 F1440:=fits_mk (k:=87) (by kernel_rfl) SSP Tryz.func87 (by kernel_rfl) (by kernel_rfl)
theorem m1513:FitsAt (SS z) 1513 F1513:=fits_mk (k:=99) (by kernel_rfl) SSP Tryz.func99 (by kernel_rfl) (by kernel_rfl)
theorem m1441:FitsAt (SS z) 1441 F1441:=fits_mk (k:=88) (by kernel_rfl) SSP Tryz.func88 (by kernel_rfl) (by kernel_rfl)
theorem m1442:FitsAt (SS z) 1442 F1442:=fits_mk (k:=89) (by kernel_rfl) SSP Tryz.func89 (by kernel_rfl) (by kernel_rfl)
theorem m1241:FitsAt (SS z) 1241 F1241:=fits_mk (k:=76) (by kernel_rfl) SSP Tryz.func76 (by kernel_rfl) (by kernel_rfl)
theorem m921:FitsAt (SS z) 921 F921:=fits_mk (k:=60) (by kernel_rfl) SSP Tryz.func60 (by kernel_rfl) (by kernel_rfl)
theorem m541:FitsAt (SS z) 541 F541:=fits_mk (k:=44) (by kernel_rfl) SSP Tryz.func44 (by kernel_rfl) (by kernel_rfl)
theorem m208:FitsAt (SS z) 208 F208:=fits_mk (k:=22) (by kernel_rfl) SSP Tryz.func22 (by kernel_rfl) (by kernel_rfl)
theorem m327:FitsAt (SS z) 327 F327:=fits_mk (k:=24) (by kernel_rfl) SSP Tryz.func24 (by kernel_rfl) (by kernel_rfl)
theorem m326:FitsAt (SS z) 326 F326:=fits_mk (k:=23) (by kernel_rfl) SSP Tryz.func23 (by kernel_rfl) (by kernel_rfl)
theorem m328:FitsAt (SS z) 328 F328:=fits_mk (k:=25) (by kernel_rfl) SSP Tryz.func25 (by kernel_rfl) (by kernel_rfl)
theorem m329:FitsAt (SS z) 329 F329:=fits_mk (k:=26) (by kernel_rfl) SSP Tryz.func26 (by kernel_rfl) (by kernel_rfl)
theorem m60:FitsAt (SS z) 60 F60:=fits_mk (k:=5) (by kernel_rfl) SSP Tryz.func5 (by kernel_rfl) (by kernel_rfl)
theorem m316:FitsAt (SS z) 316 F316:=fits_mk (k:=20) (by kernel_rfl) SSP Tryz.func20 (by kernel_rfl) (by kernel_rfl)
theorem m773:FitsAt (SS z) 773 F773:=fits_mk (k:=59) (by kernel_rfl) SSP Tryz.func59 (by kernel_rfl) (by kernel_rfl)
theorem m396:FitsAt (SS z) 396 F396:=fits_mk (k:=41) (by kernel_rfl) SSP Tryz.func41 (by kernel_rfl) (by kernel_rfl)
theorem m440:FitsAt (SS z) 440 F440:=fits_mk (k:=58) (by kernel_rfl) SSP Tryz.func58 (by kernel_rfl) (by kernel_rfl)
theorem m716:FitsAt (SS z) 716 F716:=fits_mk (k:=42) (by kernel_rfl) SSP Tryz.func42 (by kernel_rfl) (by kernel_rfl)
theorem m715:FitsAt (SS z) 715 F715:=fits_mk (k:=40) (by kernel_rfl) SSP Tryz.func40 (by kernel_rfl) (by kernel_rfl)
theorem m325:FitsAt (SS z) 325 F325:=fits_mk (k:=21) (by kernel_rfl) SSP Tryz.func21 (by kernel_rfl) (by kernel_rfl)
theorem m69:FitsAt (SS z) 69 F69:=fits_mk (k:=6) (by kernel_rfl) SSP Tryz.func6 (by kernel_rfl) (by kernel_rfl)
theorem m330:FitsAt (SS z) 330 F330:=fits_mk (k:=27) (by kernel_rfl) SSP Tryz.func27 (by kernel_rfl) (by kernel_rfl)
theorem m70:FitsAt (SS z) 70 F70:=fits_mk (k:=7) (by kernel_rfl) SSP Tryz.func7 (by kernel_rfl) (by kernel_rfl)
theorem m71:FitsAt (SS z) 71 F71:=fits_mk (k:=8) (by kernel_rfl) SSP Tryz.func8 (by kernel_rfl) (by kernel_rfl)
theorem m72:FitsAt (SS z) 72 F72:=fits_mk (k:=9) (by kernel_rfl) SSP Tryz.func9 (by kernel_rfl) (by kernel_rfl)
theorem m332:FitsAt (SS z) 332 F332:=fits_mk (k:=29) (by kernel_rfl) SSP Tryz.func29 (by kernel_rfl) (by kernel_rfl)
theorem m73:FitsAt (SS z) 73 F73:=fits_mk (k:=10) (by kernel_rfl) SSP Tryz.func10 (by kernel_rfl) (by kernel_rfl)
theorem m333:FitsAt (SS z) 333 F333:=fits_mk (k:=30) (by kernel_rfl) SSP Tryz.func30 (by kernel_rfl) (by kernel_rfl)
theorem m75:FitsAt (SS z) 75 F75:=fits_mk (k:=12) (by kernel_rfl) SSP Tryz.func12 (by kernel_rfl) (by kernel_rfl)
theorem m723:FitsAt (SS z) 723 F723:=fits_mk (k:=52) (by kernel_rfl) SSP Tryz.func52 (by kernel_rfl) (by kernel_rfl)
theorem m336:FitsAt (SS z) 336 F336:=fits_mk (k:=33) (by kernel_rfl) SSP Tryz.func33 (by kernel_rfl) (by kernel_rfl)
theorem m77:FitsAt (SS z) 77 F77:=fits_mk (k:=14) (by kernel_rfl) SSP Tryz.func14 (by kernel_rfl) (by kernel_rfl)
theorem m78:FitsAt (SS z) 78 F78:=fits_mk (k:=15) (by kernel_rfl) SSP Tryz.func15 (by kernel_rfl) (by kernel_rfl)
theorem m4:FitsAt (SS z) 4 F4:=fits_mk (k:=3) (by kernel_rfl) SSP Tryz.func3 (by kernel_rfl) (by kernel_rfl)
theorem fitAll:FitAll (SS z) tabm:=⟨m1100,m1206,m1330,m1012,m1106,m732,m1013,m1099,m717,m331,m74,m889,m577,m1051,m1091,m1014,m1331,m1015,m632,m266,m1101,m719,m1103,m721,m875,m876,m908,m911,m1102,m720,m722,m335,m76,m340,m1440,m1513,m1441,m1442,m1241,m921,m541,m208,m327,m326,m328,m329,m60,m316,m773,m396,m440,m716,m715,m325,m69,m330,m70,m71,m72,m332,m73,m333,m75,m723,m336,m77,m78,m4,trivial⟩
theorem gm_look:∀g,Gm g=lookY g tabt tabm:=fun _=>rfl
end
end Go.Proofs.YtdcoliamajikfaaGreatDoor
