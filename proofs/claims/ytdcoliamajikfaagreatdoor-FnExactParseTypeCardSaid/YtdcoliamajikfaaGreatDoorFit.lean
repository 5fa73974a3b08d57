/- The seat's functions fit the abstract texts: every function's text is checked. -/
import Derived.Test.YtdcoliamajikfaaGreatDoorShelf
import Derived.KernelRfl
import Derived.Test.YtdcoliamajikfaaGreatDoorP6
import Derived.Test.YtdcoliamajikfaaGreatDoorP7
namespace Go.Proofs.YtdcoliamajikfaaGreatDoor
open Go Go.Ab Go.Proofs
set_option maxRecDepth 100000

def numL:List (Nat×Nat):=[(1100,62),(1206,91),(1330,77),(1012,79),(1106,100),(732,90),(1013,78),(1099,61),(717,45),(331,28),(74,11),(889,81),(577,103),(1051,102),(1091,93),(1014,82),(1331,94),(1015,83),(632,64),(266,46),(1101,65),(719,48),(1103,71),(721,50),(875,68),(876,67),(908,70),(911,66),(1102,69),(720,49),(722,51),(335,32),(76,13),(340,43),(1440,87),(1513,99),(1441,88),(1442,89),(1241,76),(921,60),(541,44),(208,22),(1393,84),(1237,96),(1496,95),(1497,97),(1498,98),(1394,85),(1107,72),(735,53),(358,34),(327,24),(326,23),(328,25),(329,26),(1108,75),(737,55),(1185,86),(871,74),(872,73),(736,54),(359,35),(738,56),(360,36),(100,16),(361,37),(101,17),(739,57),(362,38),(102,18),(363,39),(103,19),(7,4),(334,31),(631,63),(957,106),(1382,101)]
def numF(g:Nat):Nat:=lookN g numL
def numT(t:Nat):Nat:=bif Nat.beq t 751 then 72 else bif Nat.beq t 1000000 then 110 else t
section
variable {z:Nat→Option (Array Value)}
noncomputable def SS(z:Nat→Option (Array Value)):Seat:=Seat.of Tryz.prog ⟨numF,numT,z⟩ (by kernel_rfl)
theorem SSP:(SS z).P=Tryz.prog:=rfl
theorem SSz:(SS z).N.gz=z:=rfl
theorem m1100:FitsAt (SS z) 1100 F1100:=fits_mk (k:=62) (by kernel_rfl) SSP Tryz.func62 (by kernel_rfl) (by kernel_rfl)
theorem m1206:FitsAt (SS z) 1206 F1206:=fits_mk (k:=91) (by kernel_rfl) SSP Tryz.func91 (by kernel_rfl) (by kernel_rfl)
theorem m1330:FitsAt (SS z) 1330 F1330:=fits_mk (k:=77) (by kernel_rfl) SSP Tryz.func77 (by kernel_rfl) (by kernel_rfl)
theorem m1012:FitsAt (SS z) 1012 F1012:=fits_mk (k:=79) (by kernel_rfl) SSP Tryz.func79 (by kernel_rfl) (by kernel_rfl)
theorem m1106:FitsAt (SS z) 1106 F1106:=fits_mk (k:=100) (by kernel_rfl) SSP Tryz.func100 (by kernel_rfl) (by kernel_rfl)
theorem m732:FitsAt (SS z) 732 F732:=fits_mk (k:=90) (by kernel_rfl) SSP Tryz.func90 (by kernel_rfl) (by kernel_rfl)
theorem m1013:FitsAt (SS z) 1013 F1013:=fits_mk (k:=78) (by kernel_rfl) SSP Tryz.func78 (by kernel_rfl) (by kernel_rfl)
theorem m1099:FitsAt (SS z) 1099 F1099:=fits_mk (k:=61) (by kernel_rfl) SSP Tryz.func61 (by kernel_rfl) (by kernel_rfl)
theorem m717:FitsAt (SS z) 717 F717:=fits_mk (k:=45) (by kernel_rfl) SSP Tryz.func45 (by kernel_rfl) (by kernel_rfl)
theorem m331:FitsAt (SS z) 331 F331:=fits_mk (k:=28) (by kernel_rfl) SSP Tryz.func28 (by kernel_rfl) (by kernel_rfl)
theorem m74:FitsAt (SS z) 74 F74:=fits_mk (k:=11) (by kernel_rfl) SSP Tryz.func11 (by kernel_rfl) (by kernel_rfl)
theorem m889:FitsAt (SS z) 889 F889:=fits_mk (k:=81) (by kernel_rfl) SSP Tryz.func81 (by kernel_rfl) (by kernel_rfl)
theorem m577:FitsAt (SS z) 577 F577:=fits_mk (k:=103) (by kernel_rfl) SSP Tryz.func103 (by kernel_rfl) (by kernel_rfl)
theorem m1051:FitsAt (SS z) 1051 F1051:=fits_mk (k:=102) (by kernel_rfl) SSP Tryz.func102 (by kernel_rfl) (by kernel_rfl)
theorem m1091:FitsAt (SS z) 1091 F1091:=fits_mk (k:=93) (by kernel_rfl) SSP Tryz.func93 (by kernel_rfl) (by kernel_rfl)
theorem m1014:FitsAt (SS z) 1014 F1014:=fits_mk (k:=82) (by kernel_rfl) SSP Tryz.func82 (by kernel_rfl) (by kernel_rfl)
theorem m1331:FitsAt (SS z) 1331 F1331:=fits_mk (k:=94) (by kernel_rfl) SSP Tryz.func94 (by kernel_rfl) (by kernel_rfl)
theorem m1015:FitsAt (SS z) 1015 F1015:=fits_mk (k:=83) (by kernel_rfl) SSP Tryz.func83 (by kernel_rfl) (by kernel_rfl)
theorem m632:FitsAt (SS z) 632 F632:=fits_mk (k:=64) (by kernel_rfl) SSP Tryz.func64 (by kernel_rfl) (by kernel_rfl)
theorem m266:FitsAt (SS z) 266 F266:=fits_mk (k:=46) (by kernel_rfl) SSP Tryz.func46 (by kernel_rfl) (by kernel_rfl)
theorem m1101:FitsAt (SS z) 1101 F1101:=fits_mk (k:=65) (by kernel_rfl) SSP Tryz.func65 (by kernel_rfl) (by kernel_rfl)
theorem m719:FitsAt (SS z) 719 F719:=fits_mk (k:=48) (by kernel_rfl) SSP Tryz.func48 (by kernel_rfl) (by kernel_rfl)
theorem m1103:FitsAt (SS z) 1103 F1103:=fits_mk (k:=71) (by kernel_rfl) SSP Tryz.func71 (by kernel_rfl) (by kernel_rfl)
theorem m721:FitsAt (SS z) 721 F721:=fits_mk (k:=50) (by kernel_rfl) SSP Tryz.func50 (by kernel_rfl) (by kernel_rfl)
theorem m875:FitsAt (SS z) 875 F875:=fits_mk (k:=68) (by kernel_rfl) SSP Tryz.func68 (by kernel_rfl) (by kernel_rfl)
theorem m876:FitsAt (SS z) 876 F876:=fits_mk (k:=67) (by kernel_rfl) SSP Tryz.func67 (by kernel_rfl) (by kernel_rfl)
theorem m908:FitsAt (SS z) 908 F908:=fits_mk (k:=70) (by kernel_rfl) SSP Tryz.func70 (by kernel_rfl) (by kernel_rfl)
theorem m911:FitsAt (SS z) 911 F911:=fits_mk (k:=66) (by kernel_rfl) SSP Tryz.func66 (by kernel_rfl) (by kernel_rfl)
theorem m1102:FitsAt (SS z) 1102 F1102:=fits_mk (k:=69) (by kernel_rfl) SSP Tryz.func69 (by kernel_rfl) (by kernel_rfl)
theorem m720:FitsAt (SS z) 720 F720:=fits_mk (k:=49) (by kernel_rfl) SSP Tryz.func49 (by kernel_rfl) (by kernel_rfl)
theorem m722:FitsAt (SS z) 722 F722:=fits_mk (k:=51) (by kernel_rfl) SSP Tryz.func51 (by kernel_rfl) (by kernel_rfl)
theorem m335:FitsAt (SS z) 335 F335:=fits_mk (k:=32) (by kernel_rfl) SSP Tryz.func32 (by kernel_rfl) (by kernel_rfl)
theorem m76:FitsAt (SS z) 76 F76:=fits_mk (k:=13) (by kernel_rfl) SSP Tryz.func13 (by kernel_rfl) (by kernel_rfl)
theorem m340:FitsAt (SS z) 340 F340:=fits_mk (k:=43) (by kernel_rfl) SSP Tryz.func43 (by kernel_rfl) (by kernel_rfl)
theorem m1440:FitsAt (SS z) 1440 F1440:=fits_mk (k:=87) (by kernel_rfl) SSP Tryz.func87 (by kernel_rfl) (by kernel_rfl)
theorem m1513:FitsAt (SS z) 1513 F1513:=fits_mk (k:=99) (by kernel_rfl) SSP Tryz.func99 (by kernel_rfl) (by kernel_rfl)
theorem m1441:FitsAt (SS z) 1441 F1441:=fits_mk (k:=88) (by kernel_rfl) SSP Tryz.func88 (by kernel_rfl) (by kernel_rfl)
theorem m1442:FitsAt (SS z) 1442 F1442:=fits_mk (k:=89) (by kernel_rfl) SSP Tryz.func89 (by kernel_rfl) (by kernel_rfl)
theorem m1241:FitsAt (SS z) 1241 F1241:=fits_mk (k:=76) (by kernel_rfl) SSP Tryz.func76 (by kernel_rfl) (by kernel_rfl)
theorem m921:FitsAt (SS z) 921 F921:=fits_mk (k:=60) (by kernel_rfl) SSP Tryz.func60 (by kernel_rfl) (by kernel_rfl)
theorem m541:FitsAt (SS z) 541 F541:=fits_mk (k:=44) (by kernel_rfl) SSP Tryz.func44 (by kernel_rfl) (by kernel_rfl)
theorem m208:FitsAt (SS z) 208 F208:=fits_mk (k:=22) (by kernel_rfl) SSP Tryz.func22 (by kernel_rfl) (by kernel_rfl)
theorem m1393:FitsAt (SS z) 1393 F1393:=fits_mk (k:=84) (by kernel_rfl) SSP Tryz.func84 (by kernel_rfl) (by kernel_rfl)
theorem m1237:FitsAt (SS z) 1237 F1237:=fits_mk (k:=96) (by kernel_rfl) SSP Tryz.func96 (by kernel_rfl) (by kernel_rfl)
theorem m1496:FitsAt (SS z) 1496 F1496:=fits_mk (k:=95) (by kernel_rfl) SSP Tryz.func95 (by kernel_rfl) (by kernel_rfl)
theorem m1497:FitsAt (SS z) 1497 F1497:=fits_mk (k:=97) (by kernel_rfl) SSP Tryz.func97 (by kernel_rfl) (by kernel_rfl)
theorem m1498:FitsAt (SS z) 1498 F1498:=fits_mk (k:=98) (by kernel_rfl) SSP Tryz.func98 (by kernel_rfl) (by kernel_rfl)
theorem m1394:FitsAt (SS z) 1394 F1394:=fits_mk (k:=85) (by kernel_rfl) SSP Tryz.func85 (by kernel_rfl) (by kernel_rfl)
theorem m1107:FitsAt (SS z) 1107 F1107:=fits_mk (k:=72) (by kernel_rfl) SSP Tryz.func72 (by kernel_rfl) (by kernel_rfl)
theorem m735:FitsAt (SS z) 735 F735:=fits_mk (k:=53) (by kernel_rfl) SSP Tryz.func53 (by kernel_rfl) (by kernel_rfl)
theorem m358:FitsAt (SS z) 358 F358:=fits_mk (k:=34) (by kernel_rfl) SSP Tryz.func34 (by kernel_rfl) (by kernel_rfl)
theorem m327:FitsAt (SS z) 327 F327:=fits_mk (k:=24) (by kernel_rfl) SSP Tryz.func24 (by kernel_rfl) (by kernel_rfl)
theorem m326:FitsAt (SS z) 326 F326:=fits_mk (k:=23) (by kernel_rfl) SSP Tryz.func23 (by kernel_rfl) (by kernel_rfl)
theorem m328:FitsAt (SS z) 328 F328:=fits_mk (k:=25) (by kernel_rfl) SSP Tryz.func25 (by kernel_rfl) (by kernel_rfl)
theorem m329:FitsAt (SS z) 329 F329:=fits_mk (k:=26) (by kernel_rfl) SSP Tryz.func26 (by kernel_rfl) (by kernel_rfl)
theorem m1108:FitsAt (SS z) 1108 F1108:=fits_mk (k:=75) (by kernel_rfl) SSP Tryz.func75 (by kernel_rfl) (by kernel_rfl)
theorem m737:FitsAt (SS z) 737 F737:=fits_mk (k:=55) (by kernel_rfl) SSP Tryz.func55 (by kernel_rfl) (by kernel_rfl)
theorem m1185:FitsAt (SS z) 1185 F1185:=fits_mk (k:=86) (by kernel_rfl) SSP Tryz.func86 (by kernel_rfl) (by kernel_rfl)
theorem m871:FitsAt (SS z) 871 F871:=fits_mk (k:=74) (by kernel_rfl) SSP Tryz.func74 (by kernel_rfl) (by kernel_rfl)
theorem m872:FitsAt (SS z) 872 F872:=fits_mk (k:=73) (by kernel_rfl) SSP Tryz.func73 (by kernel_rfl) (by kernel_rfl)
theorem m736:FitsAt (SS z) 736 F736:=fits_mk (k:=54) (by kernel_rfl) SSP Tryz.func54 (by kernel_rfl) (by kernel_rfl)
theorem m359:FitsAt (SS z) 359 F359:=fits_mk (k:=35) (by kernel_rfl) SSP Tryz.func35 (by kernel_rfl) (by kernel_rfl)
theorem m738:FitsAt (SS z) 738 F738:=fits_mk (k:=56) (by kernel_rfl) SSP Tryz.func56 (by kernel_rfl) (by kernel_rfl)
theorem m360:FitsAt (SS z) 360 F360:=fits_mk (k:=36) (by kernel_rfl) SSP Tryz.func36 (by kernel_rfl) (by kernel_rfl)
theorem m100:FitsAt (SS z) 100 F100:=fits_mk (k:=16) (by kernel_rfl) SSP Tryz.func16 (by kernel_rfl) (by kernel_rfl)
theorem m361:FitsAt (SS z) 361 F361:=fits_mk (k:=37) (by kernel_rfl) SSP Tryz.func37 (by kernel_rfl) (by kernel_rfl)
theorem m101:FitsAt (SS z) 101 F101:=fits_mk (k:=17) (by kernel_rfl) SSP Tryz.func17 (by kernel_rfl) (by kernel_rfl)
theorem m739:FitsAt (SS z) 739 F739:=fits_mk (k:=57) (by kernel_rfl) SSP Tryz.func57 (by kernel_rfl) (by kernel_rfl)
theorem m362:FitsAt (SS z) 362 F362:=fits_mk (k:=38) (by kernel_rfl) SSP Tryz.func38 (by kernel_rfl) (by kernel_rfl)
theorem m102:FitsAt (SS z) 102 F102:=fits_mk (k:=18) (by kernel_rfl) SSP Tryz.func18 (by kernel_rfl) (by kernel_rfl)
theorem m363:FitsAt (SS z) 363 F363:=fits_mk (k:=39) (by kernel_rfl) SSP Tryz.func39 (by kernel_rfl) (by kernel_rfl)
theorem m103:FitsAt (SS z) 103 F103:=fits_mk (k:=19) (by kernel_rfl) SSP Tryz.func19 (by kernel_rfl) (by kernel_rfl)
theorem m7:FitsAt (SS z) 7 F7:=fits_mk (k:=4) (by kernel_rfl) SSP Tryz.func4 (by kernel_rfl) (by kernel_rfl)
theorem fitAll:FitAll (SS z) tabm:=⟨m1100,m1206,m1330,m1012,m1106,m732,m1013,m1099,m717,m331,m74,m889,m577,m1051,m1091,m1014,m1331,m1015,m632,m266,m1101,m719,m1103,m721,m875,m876,m908,m911,m1102,m720,m722,m335,m76,m340,m1440,m1513,m1441,m1442,m1241,m921,m541,m208,m1393,m1237,m1496,m1497,m1498,m1394,m1107,m735,m358,m327,m326,m328,m329,m1108,m737,m1185,m871,m872,m736,m359,m738,m360,m100,m361,m101,m739,m362,m102,m363,m103,m7,trivial⟩
theorem gm_look:∀g,Gm g=lookY g tabt tabm:=fun _=>rfl
end
end Go.Proofs.YtdcoliamajikfaaGreatDoor
