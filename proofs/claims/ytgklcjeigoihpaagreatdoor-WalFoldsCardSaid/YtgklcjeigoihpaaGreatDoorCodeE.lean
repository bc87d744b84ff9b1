/- The compiled functions are the program's; the told answers are right. -/
import Derived.Test.YtgklcjeigoihpaaGreatDoorCodeM
import Derived.Test.YtgklcjeigoihpaaGreatDoorChecked
import Derived.KernelRfl
namespace Go.Proofs.YtgklcjeigoihpaaGreatDoor
open Go Go.Eng
namespace Code
set_option maxRecDepth 100000
set_option linter.unusedVariables false
theorem G3_eq : (cF Go.Proofs.Tryz.prog 0 (planOf Go.Proofs.Tryz.prog 0) Go.Proofs.Tryz.f3).map toG = some G3 := by kernel_rfl
theorem G4_eq : (cF Go.Proofs.Tryz.prog 0 (planOf Go.Proofs.Tryz.prog 0) Go.Proofs.Tryz.f4).map toG = some G4 := by kernel_rfl
theorem G5_eq : (cF Go.Proofs.Tryz.prog 0 (planOf Go.Proofs.Tryz.prog 0) Go.Proofs.Tryz.f5).map toG = some G5 := by kernel_rfl
theorem G6_eq : (cF Go.Proofs.Tryz.prog 0 (planOf Go.Proofs.Tryz.prog 0) Go.Proofs.Tryz.f6).map toG = some G6 := by kernel_rfl
theorem G7_eq : (cF Go.Proofs.Tryz.prog 0 (planOf Go.Proofs.Tryz.prog 0) Go.Proofs.Tryz.f7).map toG = some G7 := by kernel_rfl
theorem G8_eq : (cF Go.Proofs.Tryz.prog 0 (planOf Go.Proofs.Tryz.prog 0) Go.Proofs.Tryz.f8).map toG = some G8 := by kernel_rfl
theorem G9_eq : (cF Go.Proofs.Tryz.prog 0 (planOf Go.Proofs.Tryz.prog 0) Go.Proofs.Tryz.f9).map toG = some G9 := by kernel_rfl
theorem G10_eq : (cF Go.Proofs.Tryz.prog 0 (planOf Go.Proofs.Tryz.prog 0) Go.Proofs.Tryz.f10).map toG = some G10 := by kernel_rfl
theorem G11_eq : (cF Go.Proofs.Tryz.prog 0 (planOf Go.Proofs.Tryz.prog 0) Go.Proofs.Tryz.f11).map toG = some G11 := by kernel_rfl
theorem G12_eq : (cF Go.Proofs.Tryz.prog 0 (planOf Go.Proofs.Tryz.prog 0) Go.Proofs.Tryz.f12).map toG = some G12 := by kernel_rfl
theorem G13_eq : (cF Go.Proofs.Tryz.prog 0 (planOf Go.Proofs.Tryz.prog 0) Go.Proofs.Tryz.f13).map toG = some G13 := by kernel_rfl
theorem G14_eq : (cF Go.Proofs.Tryz.prog 0 (planOf Go.Proofs.Tryz.prog 0) Go.Proofs.Tryz.f14).map toG = some G14 := by kernel_rfl
theorem G15_eq : (cF Go.Proofs.Tryz.prog 0 (planOf Go.Proofs.Tryz.prog 0) Go.Proofs.Tryz.f15).map toG = some G15 := by kernel_rfl
theorem G16_eq : (cF Go.Proofs.Tryz.prog 0 (planOf Go.Proofs.Tryz.prog 0) Go.Proofs.Tryz.f16).map toG = some G16 := by kernel_rfl
theorem G17_eq : (cF Go.Proofs.Tryz.prog 0 (planOf Go.Proofs.Tryz.prog 0) Go.Proofs.Tryz.f17).map toG = some G17 := by kernel_rfl
theorem G18_eq : (cF Go.Proofs.Tryz.prog 0 (planOf Go.Proofs.Tryz.prog 0) Go.Proofs.Tryz.f18).map toG = some G18 := by kernel_rfl
theorem G19_eq : (cF Go.Proofs.Tryz.prog 0 (planOf Go.Proofs.Tryz.prog 0) Go.Proofs.Tryz.f19).map toG = some G19 := by kernel_rfl
theorem G20_eq : (cF Go.Proofs.Tryz.prog 0 (planOf Go.Proofs.Tryz.prog 0) Go.Proofs.Tryz.f20).map toG = some G20 := by kernel_rfl
theorem G21_eq : (cF Go.Proofs.Tryz.prog 0 (planOf Go.Proofs.Tryz.prog 0) Go.Proofs.Tryz.f21).map toG = some G21 := by kernel_rfl
theorem G22_eq : (cF Go.Proofs.Tryz.prog 0 (planOf Go.Proofs.Tryz.prog 0) Go.Proofs.Tryz.f22).map toG = some G22 := by kernel_rfl
theorem G23_eq : (cF Go.Proofs.Tryz.prog 0 (planOf Go.Proofs.Tryz.prog 0) Go.Proofs.Tryz.f23).map toG = some G23 := by kernel_rfl
theorem G24_eq : (cF Go.Proofs.Tryz.prog 0 (planOf Go.Proofs.Tryz.prog 0) Go.Proofs.Tryz.f24).map toG = some G24 := by kernel_rfl
theorem G25_eq : (cF Go.Proofs.Tryz.prog 0 (planOf Go.Proofs.Tryz.prog 0) Go.Proofs.Tryz.f25).map toG = some G25 := by kernel_rfl
theorem G26_eq : (cF Go.Proofs.Tryz.prog 0 (planOf Go.Proofs.Tryz.prog 0) Go.Proofs.Tryz.f26).map toG = some G26 := by kernel_rfl
theorem G27_eq : (cF Go.Proofs.Tryz.prog 0 (planOf Go.Proofs.Tryz.prog 0) Go.Proofs.Tryz.f27).map toG = some G27 := by kernel_rfl
theorem G28_eq : (cF Go.Proofs.Tryz.prog 0 (planOf Go.Proofs.Tryz.prog 0) Go.Proofs.Tryz.f28).map toG = some G28 := by kernel_rfl
theorem G29_eq : (cF Go.Proofs.Tryz.prog 0 (planOf Go.Proofs.Tryz.prog 0) Go.Proofs.Tryz.f29).map toG = some G29 := by kernel_rfl
theorem G30_eq : (cF Go.Proofs.Tryz.prog 0 (planOf Go.Proofs.Tryz.prog 0) Go.Proofs.Tryz.f30).map toG = some G30 := by kernel_rfl
theorem G31_eq : (cF Go.Proofs.Tryz.prog 0 (planOf Go.Proofs.Tryz.prog 0) Go.Proofs.Tryz.f31).map toG = some G31 := by kernel_rfl
theorem G32_eq : (cF Go.Proofs.Tryz.prog 0 (planOf Go.Proofs.Tryz.prog 0) Go.Proofs.Tryz.f32).map toG = some G32 := by kernel_rfl
theorem G33_eq : (cF Go.Proofs.Tryz.prog 0 (planOf Go.Proofs.Tryz.prog 0) Go.Proofs.Tryz.f33).map toG = some G33 := by kernel_rfl
theorem G34_eq : (cF Go.Proofs.Tryz.prog 0 (planOf Go.Proofs.Tryz.prog 0) Go.Proofs.Tryz.f34).map toG = some G34 := by kernel_rfl
theorem G35_eq : (cF Go.Proofs.Tryz.prog 0 (planOf Go.Proofs.Tryz.prog 0) Go.Proofs.Tryz.f35).map toG = some G35 := by kernel_rfl
theorem G36_eq : (cF Go.Proofs.Tryz.prog 0 (planOf Go.Proofs.Tryz.prog 0) Go.Proofs.Tryz.f36).map toG = some G36 := by kernel_rfl
theorem G37_eq : (cF Go.Proofs.Tryz.prog 0 (planOf Go.Proofs.Tryz.prog 0) Go.Proofs.Tryz.f37).map toG = some G37 := by kernel_rfl
theorem G38_eq : (cF Go.Proofs.Tryz.prog 0 (planOf Go.Proofs.Tryz.prog 0) Go.Proofs.Tryz.f38).map toG = some G38 := by kernel_rfl
theorem G39_eq : (cF Go.Proofs.Tryz.prog 0 (planOf Go.Proofs.Tryz.prog 0) Go.Proofs.Tryz.f39).map toG = some G39 := by kernel_rfl
theorem G40_eq : (cF Go.Proofs.Tryz.prog 0 (planOf Go.Proofs.Tryz.prog 0) Go.Proofs.Tryz.f40).map toG = some G40 := by kernel_rfl
theorem G41_eq : (cF Go.Proofs.Tryz.prog 0 (planOf Go.Proofs.Tryz.prog 0) Go.Proofs.Tryz.f41).map toG = some G41 := by kernel_rfl
theorem G42_eq : (cF Go.Proofs.Tryz.prog 0 (planOf Go.Proofs.Tryz.prog 0) Go.Proofs.Tryz.f42).map toG = some G42 := by kernel_rfl
theorem G43_eq : (cF Go.Proofs.Tryz.prog 0 (planOf Go.Proofs.Tryz.prog 0) Go.Proofs.Tryz.f43).map toG = some G43 := by kernel_rfl
theorem G44_eq : (cF Go.Proofs.Tryz.prog 0 (planOf Go.Proofs.Tryz.prog 0) Go.Proofs.Tryz.f44).map toG = some G44 := by kernel_rfl
theorem G45_eq : (cF Go.Proofs.Tryz.prog 0 (planOf Go.Proofs.Tryz.prog 0) Go.Proofs.Tryz.f45).map toG = some G45 := by kernel_rfl
theorem G46_eq : (cF Go.Proofs.Tryz.prog 0 (planOf Go.Proofs.Tryz.prog 0) Go.Proofs.Tryz.f46).map toG = some G46 := by kernel_rfl
theorem G47_eq : (cF Go.Proofs.Tryz.prog 0 (planOf Go.Proofs.Tryz.prog 0) Go.Proofs.Tryz.f47).map toG = some G47 := by kernel_rfl
theorem G48_eq : (cF Go.Proofs.Tryz.prog 0 (planOf Go.Proofs.Tryz.prog 0) Go.Proofs.Tryz.f48).map toG = some G48 := by kernel_rfl
theorem G49_eq : (cF Go.Proofs.Tryz.prog 0 (planOf Go.Proofs.Tryz.prog 0) Go.Proofs.Tryz.f49).map toG = some G49 := by kernel_rfl
theorem G50_eq : (cF Go.Proofs.Tryz.prog 0 (planOf Go.Proofs.Tryz.prog 0) Go.Proofs.Tryz.f50).map toG = some G50 := by kernel_rfl
theorem G51_eq : (cF Go.Proofs.Tryz.prog 0 (planOf Go.Proofs.Tryz.prog 0) Go.Proofs.Tryz.f51).map toG = some G51 := by kernel_rfl
theorem G52_eq : (cF Go.Proofs.Tryz.prog 0 (planOf Go.Proofs.Tryz.prog 0) Go.Proofs.Tryz.f52).map toG = some G52 := by kernel_rfl
theorem G53_eq : (cF Go.Proofs.Tryz.prog 0 (planOf Go.Proofs.Tryz.prog 0) Go.Proofs.Tryz.f53).map toG = some G53 := by kernel_rfl
theorem G54_eq : (cF Go.Proofs.Tryz.prog 0 (planOf Go.Proofs.Tryz.prog 0) Go.Proofs.Tryz.f54).map toG = some G54 := by kernel_rfl
theorem G55_eq : (cF Go.Proofs.Tryz.prog 0 (planOf Go.Proofs.Tryz.prog 0) Go.Proofs.Tryz.f55).map toG = some G55 := by kernel_rfl
theorem G56_eq : (cF Go.Proofs.Tryz.prog 0 (planOf Go.Proofs.Tryz.prog 0) Go.Proofs.Tryz.f56).map toG = some G56 := by kernel_rfl
theorem G57_eq : (cF Go.Proofs.Tryz.prog 0 (planOf Go.Proofs.Tryz.prog 0) Go.Proofs.Tryz.f57).map toG = some G57 := by kernel_rfl
theorem G58_eq : (cF Go.Proofs.Tryz.prog 0 (planOf Go.Proofs.Tryz.prog 0) Go.Proofs.Tryz.f58).map toG = some G58 := by kernel_rfl
theorem G59_eq : (cF Go.Proofs.Tryz.prog 0 (planOf Go.Proofs.Tryz.prog 0) Go.Proofs.Tryz.f59).map toG = some G59 := by kernel_rfl
theorem G60_eq : (cF Go.Proofs.Tryz.prog 0 (planOf Go.Proofs.Tryz.prog 0) Go.Proofs.Tryz.f60).map toG = some G60 := by kernel_rfl
theorem G61_eq : (cF Go.Proofs.Tryz.prog 0 (planOf Go.Proofs.Tryz.prog 0) Go.Proofs.Tryz.f61).map toG = some G61 := by kernel_rfl
theorem G62_eq : (cF Go.Proofs.Tryz.prog 0 (planOf Go.Proofs.Tryz.prog 0) Go.Proofs.Tryz.f62).map toG = some G62 := by kernel_rfl
theorem G68_eq : (cF Go.Proofs.Tryz.prog 0 (planOf Go.Proofs.Tryz.prog 0) Go.Proofs.Tryz.f68).map toG = some G68 := by kernel_rfl
theorem G69_eq : (cF Go.Proofs.Tryz.prog 0 (planOf Go.Proofs.Tryz.prog 0) Go.Proofs.Tryz.f69).map toG = some G69 := by kernel_rfl
theorem G70_eq : (cF Go.Proofs.Tryz.prog 0 (planOf Go.Proofs.Tryz.prog 0) Go.Proofs.Tryz.f70).map toG = some G70 := by kernel_rfl
theorem G71_eq : (cF Go.Proofs.Tryz.prog 0 (planOf Go.Proofs.Tryz.prog 0) Go.Proofs.Tryz.f71).map toG = some G71 := by kernel_rfl
theorem G72_eq : (cF Go.Proofs.Tryz.prog 0 (planOf Go.Proofs.Tryz.prog 0) Go.Proofs.Tryz.f72).map toG = some G72 := by kernel_rfl
theorem G73_eq : (cF Go.Proofs.Tryz.prog 0 (planOf Go.Proofs.Tryz.prog 0) Go.Proofs.Tryz.f73).map toG = some G73 := by kernel_rfl
theorem G74_eq : (cF Go.Proofs.Tryz.prog 0 (planOf Go.Proofs.Tryz.prog 0) Go.Proofs.Tryz.f74).map toG = some G74 := by kernel_rfl
theorem G75_eq : (cF Go.Proofs.Tryz.prog 0 (planOf Go.Proofs.Tryz.prog 0) Go.Proofs.Tryz.f75).map toG = some G75 := by kernel_rfl
theorem G76_eq : (cF Go.Proofs.Tryz.prog 0 (planOf Go.Proofs.Tryz.prog 0) Go.Proofs.Tryz.f76).map toG = some G76 := by kernel_rfl
theorem G77_eq : (cF Go.Proofs.Tryz.prog 0 (planOf Go.Proofs.Tryz.prog 0) Go.Proofs.Tryz.f77).map toG = some G77 := by kernel_rfl
theorem G78_eq : (cF Go.Proofs.Tryz.prog 0 (planOf Go.Proofs.Tryz.prog 0) Go.Proofs.Tryz.f78).map toG = some G78 := by kernel_rfl
theorem G80_eq : (cF Go.Proofs.Tryz.prog 0 (planOf Go.Proofs.Tryz.prog 0) Go.Proofs.Tryz.f80).map toG = some G80 := by kernel_rfl
theorem G81_eq : (cF Go.Proofs.Tryz.prog 0 (planOf Go.Proofs.Tryz.prog 0) Go.Proofs.Tryz.f81).map toG = some G81 := by kernel_rfl
theorem G82_eq : (cF Go.Proofs.Tryz.prog 0 (planOf Go.Proofs.Tryz.prog 0) Go.Proofs.Tryz.f82).map toG = some G82 := by kernel_rfl
theorem G84_eq : (cF Go.Proofs.Tryz.prog 0 (planOf Go.Proofs.Tryz.prog 0) Go.Proofs.Tryz.f84).map toG = some G84 := by kernel_rfl
theorem G85_eq : (cF Go.Proofs.Tryz.prog 0 (planOf Go.Proofs.Tryz.prog 0) Go.Proofs.Tryz.f85).map toG = some G85 := by kernel_rfl
theorem G86_eq : (cF Go.Proofs.Tryz.prog 0 (planOf Go.Proofs.Tryz.prog 0) Go.Proofs.Tryz.f86).map toG = some G86 := by kernel_rfl
theorem G87_eq : (cF Go.Proofs.Tryz.prog 0 (planOf Go.Proofs.Tryz.prog 0) Go.Proofs.Tryz.f87).map toG = some G87 := by kernel_rfl
theorem G88_eq : (cF Go.Proofs.Tryz.prog 0 (planOf Go.Proofs.Tryz.prog 0) Go.Proofs.Tryz.f88).map toG = some G88 := by kernel_rfl
theorem G89_eq : (cF Go.Proofs.Tryz.prog 0 (planOf Go.Proofs.Tryz.prog 0) Go.Proofs.Tryz.f89).map toG = some G89 := by kernel_rfl
theorem G90_eq : (cF Go.Proofs.Tryz.prog 0 (planOf Go.Proofs.Tryz.prog 0) Go.Proofs.Tryz.f90).map toG = some G90 := by kernel_rfl
theorem G91_eq : (cF Go.Proofs.Tryz.prog 0 (planOf Go.Proofs.Tryz.prog 0) Go.Proofs.Tryz.f91).map toG = some G91 := by kernel_rfl
theorem G92_eq : (cF Go.Proofs.Tryz.prog 0 (planOf Go.Proofs.Tryz.prog 0) Go.Proofs.Tryz.f92).map toG = some G92 := by kernel_rfl
theorem G93_eq : (cF Go.Proofs.Tryz.prog 0 (planOf Go.Proofs.Tryz.prog 0) Go.Proofs.Tryz.f93).map toG = some G93 := by kernel_rfl
theorem G94_eq : (cF Go.Proofs.Tryz.prog 0 (planOf Go.Proofs.Tryz.prog 0) Go.Proofs.Tryz.f94).map toG = some G94 := by kernel_rfl
theorem G95_eq : (cF Go.Proofs.Tryz.prog 0 (planOf Go.Proofs.Tryz.prog 0) Go.Proofs.Tryz.f95).map toG = some G95 := by kernel_rfl
theorem G96_eq : (cF Go.Proofs.Tryz.prog 0 (planOf Go.Proofs.Tryz.prog 0) Go.Proofs.Tryz.f96).map toG = some G96 := by kernel_rfl
theorem G97_eq : (cF Go.Proofs.Tryz.prog 0 (planOf Go.Proofs.Tryz.prog 0) Go.Proofs.Tryz.f97).map toG = some G97 := by kernel_rfl
theorem G106_eq : (cF Go.Proofs.Tryz.prog 0 (planOf Go.Proofs.Tryz.prog 0) Go.Proofs.Tryz.f106).map toG = some G106 := by kernel_rfl
theorem G107_eq : (cF Go.Proofs.Tryz.prog 0 (planOf Go.Proofs.Tryz.prog 0) Go.Proofs.Tryz.f107).map toG = some G107 := by kernel_rfl
theorem G108_eq : (cF Go.Proofs.Tryz.prog 0 (planOf Go.Proofs.Tryz.prog 0) Go.Proofs.Tryz.f108).map toG = some G108 := by kernel_rfl
theorem G109_eq : (cF Go.Proofs.Tryz.prog 0 (planOf Go.Proofs.Tryz.prog 0) Go.Proofs.Tryz.f109).map toG = some G109 := by kernel_rfl
theorem G110_eq : (cF Go.Proofs.Tryz.prog 0 (planOf Go.Proofs.Tryz.prog 0) Go.Proofs.Tryz.f110).map toG = some G110 := by kernel_rfl
theorem G111_eq : (cF Go.Proofs.Tryz.prog 0 (planOf Go.Proofs.Tryz.prog 0) Go.Proofs.Tryz.f111).map toG = some G111 := by kernel_rfl
theorem G112_eq : (cF Go.Proofs.Tryz.prog 0 (planOf Go.Proofs.Tryz.prog 0) Go.Proofs.Tryz.f112).map toG = some G112 := by kernel_rfl
theorem G113_eq : (cF Go.Proofs.Tryz.prog 0 (planOf Go.Proofs.Tryz.prog 0) Go.Proofs.Tryz.f113).map toG = some G113 := by kernel_rfl
theorem G114_eq : (cF Go.Proofs.Tryz.prog 0 (planOf Go.Proofs.Tryz.prog 0) Go.Proofs.Tryz.f114).map toG = some G114 := by kernel_rfl
theorem G115_eq : (cF Go.Proofs.Tryz.prog 0 (planOf Go.Proofs.Tryz.prog 0) Go.Proofs.Tryz.f115).map toG = some G115 := by kernel_rfl
theorem G116_eq : (cF Go.Proofs.Tryz.prog 0 (planOf Go.Proofs.Tryz.prog 0) Go.Proofs.Tryz.f116).map toG = some G116 := by kernel_rfl
theorem G117_eq : (cF Go.Proofs.Tryz.prog 0 (planOf Go.Proofs.Tryz.prog 0) Go.Proofs.Tryz.f117).map toG = some G117 := by kernel_rfl
theorem G118_eq : (cF Go.Proofs.Tryz.prog 0 (planOf Go.Proofs.Tryz.prog 0) Go.Proofs.Tryz.f118).map toG = some G118 := by kernel_rfl
theorem G119_eq : (cF Go.Proofs.Tryz.prog 0 (planOf Go.Proofs.Tryz.prog 0) Go.Proofs.Tryz.f119).map toG = some G119 := by kernel_rfl
theorem G120_eq : (cF Go.Proofs.Tryz.prog 0 (planOf Go.Proofs.Tryz.prog 0) Go.Proofs.Tryz.f120).map toG = some G120 := by kernel_rfl
theorem G123_eq : (cF Go.Proofs.Tryz.prog 0 (planOf Go.Proofs.Tryz.prog 0) Go.Proofs.Tryz.f123).map toG = some G123 := by kernel_rfl
theorem G124_eq : (cF Go.Proofs.Tryz.prog 0 (planOf Go.Proofs.Tryz.prog 0) Go.Proofs.Tryz.f124).map toG = some G124 := by kernel_rfl
theorem G125_eq : (cF Go.Proofs.Tryz.prog 0 (planOf Go.Proofs.Tryz.prog 0) Go.Proofs.Tryz.f125).map toG = some G125 := by kernel_rfl
theorem G127_eq : (cF Go.Proofs.Tryz.prog 0 (planOf Go.Proofs.Tryz.prog 0) Go.Proofs.Tryz.f127).map toG = some G127 := by kernel_rfl
theorem G132_eq : (cF Go.Proofs.Tryz.prog 0 (planOf Go.Proofs.Tryz.prog 0) Go.Proofs.Tryz.f132).map toG = some G132 := by kernel_rfl
theorem G133_eq : (cF Go.Proofs.Tryz.prog 0 (planOf Go.Proofs.Tryz.prog 0) Go.Proofs.Tryz.f133).map toG = some G133 := by kernel_rfl
theorem G138_eq : (cF Go.Proofs.Tryz.prog 0 (planOf Go.Proofs.Tryz.prog 0) Go.Proofs.Tryz.f138).map toG = some G138 := by kernel_rfl
theorem G139_eq : (cF Go.Proofs.Tryz.prog 0 (planOf Go.Proofs.Tryz.prog 0) Go.Proofs.Tryz.f139).map toG = some G139 := by kernel_rfl
theorem G140_eq : (cF Go.Proofs.Tryz.prog 0 (planOf Go.Proofs.Tryz.prog 0) Go.Proofs.Tryz.f140).map toG = some G140 := by kernel_rfl
theorem G142_eq : (cF Go.Proofs.Tryz.prog 0 (planOf Go.Proofs.Tryz.prog 0) Go.Proofs.Tryz.f142).map toG = some G142 := by kernel_rfl
theorem G143_eq : (cF Go.Proofs.Tryz.prog 0 (planOf Go.Proofs.Tryz.prog 0) Go.Proofs.Tryz.f143).map toG = some G143 := by kernel_rfl
theorem G147_eq : (cF Go.Proofs.Tryz.prog 0 (planOf Go.Proofs.Tryz.prog 0) Go.Proofs.Tryz.f147).map toG = some G147 := by kernel_rfl
theorem G152_eq : (cF Go.Proofs.Tryz.prog 0 (planOf Go.Proofs.Tryz.prog 0) Go.Proofs.Tryz.f152).map toG = some G152 := by kernel_rfl
theorem G153_eq : (cF Go.Proofs.Tryz.prog 0 (planOf Go.Proofs.Tryz.prog 0) Go.Proofs.Tryz.f153).map toG = some G153 := by kernel_rfl
theorem G154_eq : (cF Go.Proofs.Tryz.prog 0 (planOf Go.Proofs.Tryz.prog 0) Go.Proofs.Tryz.f154).map toG = some G154 := by kernel_rfl
theorem G157_eq : (cF Go.Proofs.Tryz.prog 0 (planOf Go.Proofs.Tryz.prog 0) Go.Proofs.Tryz.f157).map toG = some G157 := by kernel_rfl
theorem G158_eq : (cF Go.Proofs.Tryz.prog 0 (planOf Go.Proofs.Tryz.prog 0) Go.Proofs.Tryz.f158).map toG = some G158 := by kernel_rfl
theorem G164_eq : (cF Go.Proofs.Tryz.prog 0 (planOf Go.Proofs.Tryz.prog 0) Go.Proofs.Tryz.f164).map toG = some G164 := by kernel_rfl
theorem G174_eq : (cF Go.Proofs.Tryz.prog 0 (planOf Go.Proofs.Tryz.prog 0) Go.Proofs.Tryz.f174).map toG = some G174 := by kernel_rfl
theorem G175_eq : (cF Go.Proofs.Tryz.prog 0 (planOf Go.Proofs.Tryz.prog 0) Go.Proofs.Tryz.f175).map toG = some G175 := by kernel_rfl
theorem G184_eq : (cF Go.Proofs.Tryz.prog 0 (planOf Go.Proofs.Tryz.prog 0) Go.Proofs.Tryz.f184).map toG = some G184 := by kernel_rfl
theorem G185_eq : (cF Go.Proofs.Tryz.prog 0 (planOf Go.Proofs.Tryz.prog 0) Go.Proofs.Tryz.f185).map toG = some G185 := by kernel_rfl
theorem G186_eq : (cF Go.Proofs.Tryz.prog 0 (planOf Go.Proofs.Tryz.prog 0) Go.Proofs.Tryz.f186).map toG = some G186 := by kernel_rfl
theorem G205_eq : (cF Go.Proofs.Tryz.prog 0 (planOf Go.Proofs.Tryz.prog 0) Go.Proofs.Tryz.f205).map toG = some G205 := by kernel_rfl
theorem G206_eq : (cF Go.Proofs.Tryz.prog 0 (planOf Go.Proofs.Tryz.prog 0) Go.Proofs.Tryz.f206).map toG = some G206 := by kernel_rfl
theorem G207_eq : (cF Go.Proofs.Tryz.prog 0 (planOf Go.Proofs.Tryz.prog 0) Go.Proofs.Tryz.f207).map toG = some G207 := by kernel_rfl
theorem G208_eq : (cF Go.Proofs.Tryz.prog 0 (planOf Go.Proofs.Tryz.prog 0) Go.Proofs.Tryz.f208).map toG = some G208 := by kernel_rfl
theorem G218_eq : (cF Go.Proofs.Tryz.prog 0 (planOf Go.Proofs.Tryz.prog 0) Go.Proofs.Tryz.f218).map toG = some G218 := by kernel_rfl
theorem G219_eq : (cF Go.Proofs.Tryz.prog 0 (planOf Go.Proofs.Tryz.prog 0) Go.Proofs.Tryz.f219).map toG = some G219 := by kernel_rfl
theorem G220_eq : (cF Go.Proofs.Tryz.prog 0 (planOf Go.Proofs.Tryz.prog 0) Go.Proofs.Tryz.f220).map toG = some G220 := by kernel_rfl
theorem G222_eq : (cF Go.Proofs.Tryz.prog 0 (planOf Go.Proofs.Tryz.prog 0) Go.Proofs.Tryz.f222).map toG = some G222 := by kernel_rfl
theorem G225_eq : (cF Go.Proofs.Tryz.prog 0 (planOf Go.Proofs.Tryz.prog 0) Go.Proofs.Tryz.f225).map toG = some G225 := by kernel_rfl
theorem G229_eq : (cF Go.Proofs.Tryz.prog 0 (planOf Go.Proofs.Tryz.prog 0) Go.Proofs.Tryz.f229).map toG = some G229 := by kernel_rfl
theorem hm : Go.Proofs.Tryz.prog.follows .mixedOrders = true := by kernel_rfl
section
variable [Env]
theorem e3 {p : Path} (h : p.num = 3 := by rfl) : EntG Go.Proofs.Tryz.prog 0 (planOf Go.Proofs.Tryz.prog 0) p (some G3) := EntG.some Go.Proofs.Tryz.func3 G3_eq h
theorem e4 {p : Path} (h : p.num = 4 := by rfl) : EntG Go.Proofs.Tryz.prog 0 (planOf Go.Proofs.Tryz.prog 0) p (some G4) := EntG.some Go.Proofs.Tryz.func4 G4_eq h
theorem e5 {p : Path} (h : p.num = 5 := by rfl) : EntG Go.Proofs.Tryz.prog 0 (planOf Go.Proofs.Tryz.prog 0) p (some G5) := EntG.some Go.Proofs.Tryz.func5 G5_eq h
theorem e6 {p : Path} (h : p.num = 6 := by rfl) : EntG Go.Proofs.Tryz.prog 0 (planOf Go.Proofs.Tryz.prog 0) p (some G6) := EntG.some Go.Proofs.Tryz.func6 G6_eq h
theorem e7 {p : Path} (h : p.num = 7 := by rfl) : EntG Go.Proofs.Tryz.prog 0 (planOf Go.Proofs.Tryz.prog 0) p (some G7) := EntG.some Go.Proofs.Tryz.func7 G7_eq h
theorem e8 {p : Path} (h : p.num = 8 := by rfl) : EntG Go.Proofs.Tryz.prog 0 (planOf Go.Proofs.Tryz.prog 0) p (some G8) := EntG.some Go.Proofs.Tryz.func8 G8_eq h
theorem e9 {p : Path} (h : p.num = 9 := by rfl) : EntG Go.Proofs.Tryz.prog 0 (planOf Go.Proofs.Tryz.prog 0) p (some G9) := EntG.some Go.Proofs.Tryz.func9 G9_eq h
theorem e10 {p : Path} (h : p.num = 10 := by rfl) : EntG Go.Proofs.Tryz.prog 0 (planOf Go.Proofs.Tryz.prog 0) p (some G10) := EntG.some Go.Proofs.Tryz.func10 G10_eq h
theorem e11 {p : Path} (h : p.num = 11 := by rfl) : EntG Go.Proofs.Tryz.prog 0 (planOf Go.Proofs.Tryz.prog 0) p (some G11) := EntG.some Go.Proofs.Tryz.func11 G11_eq h
theorem e12 {p : Path} (h : p.num = 12 := by rfl) : EntG Go.Proofs.Tryz.prog 0 (planOf Go.Proofs.Tryz.prog 0) p (some G12) := EntG.some Go.Proofs.Tryz.func12 G12_eq h
theorem e13 {p : Path} (h : p.num = 13 := by rfl) : EntG Go.Proofs.Tryz.prog 0 (planOf Go.Proofs.Tryz.prog 0) p (some G13) := EntG.some Go.Proofs.Tryz.func13 G13_eq h
theorem e14 {p : Path} (h : p.num = 14 := by rfl) : EntG Go.Proofs.Tryz.prog 0 (planOf Go.Proofs.Tryz.prog 0) p (some G14) := EntG.some Go.Proofs.Tryz.func14 G14_eq h
theorem e15 {p : Path} (h : p.num = 15 := by rfl) : EntG Go.Proofs.Tryz.prog 0 (planOf Go.Proofs.Tryz.prog 0) p (some G15) := EntG.some Go.Proofs.Tryz.func15 G15_eq h
theorem e16 {p : Path} (h : p.num = 16 := by rfl) : EntG Go.Proofs.Tryz.prog 0 (planOf Go.Proofs.Tryz.prog 0) p (some G16) := EntG.some Go.Proofs.Tryz.func16 G16_eq h
theorem e17 {p : Path} (h : p.num = 17 := by rfl) : EntG Go.Proofs.Tryz.prog 0 (planOf Go.Proofs.Tryz.prog 0) p (some G17) := EntG.some Go.Proofs.Tryz.func17 G17_eq h
theorem e18 {p : Path} (h : p.num = 18 := by rfl) : EntG Go.Proofs.Tryz.prog 0 (planOf Go.Proofs.Tryz.prog 0) p (some G18) := EntG.some Go.Proofs.Tryz.func18 G18_eq h
theorem e19 {p : Path} (h : p.num = 19 := by rfl) : EntG Go.Proofs.Tryz.prog 0 (planOf Go.Proofs.Tryz.prog 0) p (some G19) := EntG.some Go.Proofs.Tryz.func19 G19_eq h
theorem e20 {p : Path} (h : p.num = 20 := by rfl) : EntG Go.Proofs.Tryz.prog 0 (planOf Go.Proofs.Tryz.prog 0) p (some G20) := EntG.some Go.Proofs.Tryz.func20 G20_eq h
theorem e21 {p : Path} (h : p.num = 21 := by rfl) : EntG Go.Proofs.Tryz.prog 0 (planOf Go.Proofs.Tryz.prog 0) p (some G21) := EntG.some Go.Proofs.Tryz.func21 G21_eq h
theorem e22 {p : Path} (h : p.num = 22 := by rfl) : EntG Go.Proofs.Tryz.prog 0 (planOf Go.Proofs.Tryz.prog 0) p (some G22) := EntG.some Go.Proofs.Tryz.func22 G22_eq h
theorem e23 {p : Path} (h : p.num = 23 := by rfl) : EntG Go.Proofs.Tryz.prog 0 (planOf Go.Proofs.Tryz.prog 0) p (some G23) := EntG.some Go.Proofs.Tryz.func23 G23_eq h
theorem e24 {p : Path} (h : p.num = 24 := by rfl) : EntG Go.Proofs.Tryz.prog 0 (planOf Go.Proofs.Tryz.prog 0) p (some G24) := EntG.some Go.Proofs.Tryz.func24 G24_eq h
theorem e25 {p : Path} (h : p.num = 25 := by rfl) : EntG Go.Proofs.Tryz.prog 0 (planOf Go.Proofs.Tryz.prog 0) p (some G25) := EntG.some Go.Proofs.Tryz.func25 G25_eq h
theorem e26 {p : Path} (h : p.num = 26 := by rfl) : EntG Go.Proofs.Tryz.prog 0 (planOf Go.Proofs.Tryz.prog 0) p (some G26) := EntG.some Go.Proofs.Tryz.func26 G26_eq h
theorem e27 {p : Path} (h : p.num = 27 := by rfl) : EntG Go.Proofs.Tryz.prog 0 (planOf Go.Proofs.Tryz.prog 0) p (some G27) := EntG.some Go.Proofs.Tryz.func27 G27_eq h
theorem e28 {p : Path} (h : p.num = 28 := by rfl) : EntG Go.Proofs.Tryz.prog 0 (planOf Go.Proofs.Tryz.prog 0) p (some G28) := EntG.some Go.Proofs.Tryz.func28 G28_eq h
theorem e29 {p : Path} (h : p.num = 29 := by rfl) : EntG Go.Proofs.Tryz.prog 0 (planOf Go.Proofs.Tryz.prog 0) p (some G29) := EntG.some Go.Proofs.Tryz.func29 G29_eq h
theorem e30 {p : Path} (h : p.num = 30 := by rfl) : EntG Go.Proofs.Tryz.prog 0 (planOf Go.Proofs.Tryz.prog 0) p (some G30) := EntG.some Go.Proofs.Tryz.func30 G30_eq h
theorem e31 {p : Path} (h : p.num = 31 := by rfl) : EntG Go.Proofs.Tryz.prog 0 (planOf Go.Proofs.Tryz.prog 0) p (some G31) := EntG.some Go.Proofs.Tryz.func31 G31_eq h
theorem e32 {p : Path} (h : p.num = 32 := by rfl) : EntG Go.Proofs.Tryz.prog 0 (planOf Go.Proofs.Tryz.prog 0) p (some G32) := EntG.some Go.Proofs.Tryz.func32 G32_eq h
theorem e33 {p : Path} (h : p.num = 33 := by rfl) : EntG Go.Proofs.Tryz.prog 0 (planOf Go.Proofs.Tryz.prog 0) p (some G33) := EntG.some Go.Proofs.Tryz.func33 G33_eq h
theorem e34 {p : Path} (h : p.num = 34 := by rfl) : EntG Go.Proofs.Tryz.prog 0 (planOf Go.Proofs.Tryz.prog 0) p (some G34) := EntG.some Go.Proofs.Tryz.func34 G34_eq h
theorem e35 {p : Path} (h : p.num = 35 := by rfl) : EntG Go.Proofs.Tryz.prog 0 (planOf Go.Proofs.Tryz.prog 0) p (some G35) := EntG.some Go.Proofs.Tryz.func35 G35_eq h
theorem e36 {p : Path} (h : p.num = 36 := by rfl) : EntG Go.Proofs.Tryz.prog 0 (planOf Go.Proofs.Tryz.prog 0) p (some G36) := EntG.some Go.Proofs.Tryz.func36 G36_eq h
theorem e37 {p : Path} (h : p.num = 37 := by rfl) : EntG Go.Proofs.Tryz.prog 0 (planOf Go.Proofs.Tryz.prog 0) p (some G37) := EntG.some Go.Proofs.Tryz.func37 G37_eq h
theorem e38 {p : Path} (h : p.num = 38 := by rfl) : EntG Go.Proofs.Tryz.prog 0 (planOf Go.Proofs.Tryz.prog 0) p (some G38) := EntG.some Go.Proofs.Tryz.func38 G38_eq h
theorem e39 {p : Path} (h : p.num = 39 := by rfl) : EntG Go.Proofs.Tryz.prog 0 (planOf Go.Proofs.Tryz.prog 0) p (some G39) := EntG.some Go.Proofs.Tryz.func39 G39_eq h
theorem e40 {p : Path} (h : p.num = 40 := by rfl) : EntG Go.Proofs.Tryz.prog 0 (planOf Go.Proofs.Tryz.prog 0) p (some G40) := EntG.some Go.Proofs.Tryz.func40 G40_eq h
theorem e41 {p : Path} (h : p.num = 41 := by rfl) : EntG Go.Proofs.Tryz.prog 0 (planOf Go.Proofs.Tryz.prog 0) p (some G41) := EntG.some Go.Proofs.Tryz.func41 G41_eq h
theorem e42 {p : Path} (h : p.num = 42 := by rfl) : EntG Go.Proofs.Tryz.prog 0 (planOf Go.Proofs.Tryz.prog 0) p (some G42) := EntG.some Go.Proofs.Tryz.func42 G42_eq h
theorem e43 {p : Path} (h : p.num = 43 := by rfl) : EntG Go.Proofs.Tryz.prog 0 (planOf Go.Proofs.Tryz.prog 0) p (some G43) := EntG.some Go.Proofs.Tryz.func43 G43_eq h
theorem e44 {p : Path} (h : p.num = 44 := by rfl) : EntG Go.Proofs.Tryz.prog 0 (planOf Go.Proofs.Tryz.prog 0) p (some G44) := EntG.some Go.Proofs.Tryz.func44 G44_eq h
theorem e45 {p : Path} (h : p.num = 45 := by rfl) : EntG Go.Proofs.Tryz.prog 0 (planOf Go.Proofs.Tryz.prog 0) p (some G45) := EntG.some Go.Proofs.Tryz.func45 G45_eq h
theorem e46 {p : Path} (h : p.num = 46 := by rfl) : EntG Go.Proofs.Tryz.prog 0 (planOf Go.Proofs.Tryz.prog 0) p (some G46) := EntG.some Go.Proofs.Tryz.func46 G46_eq h
theorem e47 {p : Path} (h : p.num = 47 := by rfl) : EntG Go.Proofs.Tryz.prog 0 (planOf Go.Proofs.Tryz.prog 0) p (some G47) := EntG.some Go.Proofs.Tryz.func47 G47_eq h
theorem e48 {p : Path} (h : p.num = 48 := by rfl) : EntG Go.Proofs.Tryz.prog 0 (planOf Go.Proofs.Tryz.prog 0) p (some G48) := EntG.some Go.Proofs.Tryz.func48 G48_eq h
theorem e49 {p : Path} (h : p.num = 49 := by rfl) : EntG Go.Proofs.Tryz.prog 0 (planOf Go.Proofs.Tryz.prog 0) p (some G49) := EntG.some Go.Proofs.Tryz.func49 G49_eq h
theorem e50 {p : Path} (h : p.num = 50 := by rfl) : EntG Go.Proofs.Tryz.prog 0 (planOf Go.Proofs.Tryz.prog 0) p (some G50) := EntG.some Go.Proofs.Tryz.func50 G50_eq h
theorem e51 {p : Path} (h : p.num = 51 := by rfl) : EntG Go.Proofs.Tryz.prog 0 (planOf Go.Proofs.Tryz.prog 0) p (some G51) := EntG.some Go.Proofs.Tryz.func51 G51_eq h
theorem e52 {p : Path} (h : p.num = 52 := by rfl) : EntG Go.Proofs.Tryz.prog 0 (planOf Go.Proofs.Tryz.prog 0) p (some G52) := EntG.some Go.Proofs.Tryz.func52 G52_eq h
theorem e53 {p : Path} (h : p.num = 53 := by rfl) : EntG Go.Proofs.Tryz.prog 0 (planOf Go.Proofs.Tryz.prog 0) p (some G53) := EntG.some Go.Proofs.Tryz.func53 G53_eq h
theorem e54 {p : Path} (h : p.num = 54 := by rfl) : EntG Go.Proofs.Tryz.prog 0 (planOf Go.Proofs.Tryz.prog 0) p (some G54) := EntG.some Go.Proofs.Tryz.func54 G54_eq h
theorem e55 {p : Path} (h : p.num = 55 := by rfl) : EntG Go.Proofs.Tryz.prog 0 (planOf Go.Proofs.Tryz.prog 0) p (some G55) := EntG.some Go.Proofs.Tryz.func55 G55_eq h
theorem e56 {p : Path} (h : p.num = 56 := by rfl) : EntG Go.Proofs.Tryz.prog 0 (planOf Go.Proofs.Tryz.prog 0) p (some G56) := EntG.some Go.Proofs.Tryz.func56 G56_eq h
theorem e57 {p : Path} (h : p.num = 57 := by rfl) : EntG Go.Proofs.Tryz.prog 0 (planOf Go.Proofs.Tryz.prog 0) p (some G57) := EntG.some Go.Proofs.Tryz.func57 G57_eq h
theorem e58 {p : Path} (h : p.num = 58 := by rfl) : EntG Go.Proofs.Tryz.prog 0 (planOf Go.Proofs.Tryz.prog 0) p (some G58) := EntG.some Go.Proofs.Tryz.func58 G58_eq h
theorem e59 {p : Path} (h : p.num = 59 := by rfl) : EntG Go.Proofs.Tryz.prog 0 (planOf Go.Proofs.Tryz.prog 0) p (some G59) := EntG.some Go.Proofs.Tryz.func59 G59_eq h
theorem e60 {p : Path} (h : p.num = 60 := by rfl) : EntG Go.Proofs.Tryz.prog 0 (planOf Go.Proofs.Tryz.prog 0) p (some G60) := EntG.some Go.Proofs.Tryz.func60 G60_eq h
theorem e61 {p : Path} (h : p.num = 61 := by rfl) : EntG Go.Proofs.Tryz.prog 0 (planOf Go.Proofs.Tryz.prog 0) p (some G61) := EntG.some Go.Proofs.Tryz.func61 G61_eq h
theorem e62 {p : Path} (h : p.num = 62 := by rfl) : EntG Go.Proofs.Tryz.prog 0 (planOf Go.Proofs.Tryz.prog 0) p (some G62) := EntG.some Go.Proofs.Tryz.func62 G62_eq h
theorem e68 {p : Path} (h : p.num = 68 := by rfl) : EntG Go.Proofs.Tryz.prog 0 (planOf Go.Proofs.Tryz.prog 0) p (some G68) := EntG.some Go.Proofs.Tryz.func68 G68_eq h
theorem e69 {p : Path} (h : p.num = 69 := by rfl) : EntG Go.Proofs.Tryz.prog 0 (planOf Go.Proofs.Tryz.prog 0) p (some G69) := EntG.some Go.Proofs.Tryz.func69 G69_eq h
theorem e70 {p : Path} (h : p.num = 70 := by rfl) : EntG Go.Proofs.Tryz.prog 0 (planOf Go.Proofs.Tryz.prog 0) p (some G70) := EntG.some Go.Proofs.Tryz.func70 G70_eq h
theorem e71 {p : Path} (h : p.num = 71 := by rfl) : EntG Go.Proofs.Tryz.prog 0 (planOf Go.Proofs.Tryz.prog 0) p (some G71) := EntG.some Go.Proofs.Tryz.func71 G71_eq h
theorem e72 {p : Path} (h : p.num = 72 := by rfl) : EntG Go.Proofs.Tryz.prog 0 (planOf Go.Proofs.Tryz.prog 0) p (some G72) := EntG.some Go.Proofs.Tryz.func72 G72_eq h
theorem e73 {p : Path} (h : p.num = 73 := by rfl) : EntG Go.Proofs.Tryz.prog 0 (planOf Go.Proofs.Tryz.prog 0) p (some G73) := EntG.some Go.Proofs.Tryz.func73 G73_eq h
theorem e74 {p : Path} (h : p.num = 74 := by rfl) : EntG Go.Proofs.Tryz.prog 0 (planOf Go.Proofs.Tryz.prog 0) p (some G74) := EntG.some Go.Proofs.Tryz.func74 G74_eq h
theorem e75 {p : Path} (h : p.num = 75 := by rfl) : EntG Go.Proofs.Tryz.prog 0 (planOf Go.Proofs.Tryz.prog 0) p (some G75) := EntG.some Go.Proofs.Tryz.func75 G75_eq h
theorem e76 {p : Path} (h : p.num = 76 := by rfl) : EntG Go.Proofs.Tryz.prog 0 (planOf Go.Proofs.Tryz.prog 0) p (some G76) := EntG.some Go.Proofs.Tryz.func76 G76_eq h
theorem e77 {p : Path} (h : p.num = 77 := by rfl) : EntG Go.Proofs.Tryz.prog 0 (planOf Go.Proofs.Tryz.prog 0) p (some G77) := EntG.some Go.Proofs.Tryz.func77 G77_eq h
theorem e78 {p : Path} (h : p.num = 78 := by rfl) : EntG Go.Proofs.Tryz.prog 0 (planOf Go.Proofs.Tryz.prog 0) p (some G78) := EntG.some Go.Proofs.Tryz.func78 G78_eq h
theorem e80 {p : Path} (h : p.num = 80 := by rfl) : EntG Go.Proofs.Tryz.prog 0 (planOf Go.Proofs.Tryz.prog 0) p (some G80) := EntG.some Go.Proofs.Tryz.func80 G80_eq h
theorem e81 {p : Path} (h : p.num = 81 := by rfl) : EntG Go.Proofs.Tryz.prog 0 (planOf Go.Proofs.Tryz.prog 0) p (some G81) := EntG.some Go.Proofs.Tryz.func81 G81_eq h
theorem e82 {p : Path} (h : p.num = 82 := by rfl) : EntG Go.Proofs.Tryz.prog 0 (planOf Go.Proofs.Tryz.prog 0) p (some G82) := EntG.some Go.Proofs.Tryz.func82 G82_eq h
theorem e84 {p : Path} (h : p.num = 84 := by rfl) : EntG Go.Proofs.Tryz.prog 0 (planOf Go.Proofs.Tryz.prog 0) p (some G84) := EntG.some Go.Proofs.Tryz.func84 G84_eq h
theorem e85 {p : Path} (h : p.num = 85 := by rfl) : EntG Go.Proofs.Tryz.prog 0 (planOf Go.Proofs.Tryz.prog 0) p (some G85) := EntG.some Go.Proofs.Tryz.func85 G85_eq h
theorem e86 {p : Path} (h : p.num = 86 := by rfl) : EntG Go.Proofs.Tryz.prog 0 (planOf Go.Proofs.Tryz.prog 0) p (some G86) := EntG.some Go.Proofs.Tryz.func86 G86_eq h
theorem e87 {p : Path} (h : p.num = 87 := by rfl) : EntG Go.Proofs.Tryz.prog 0 (planOf Go.Proofs.Tryz.prog 0) p (some G87) := EntG.some Go.Proofs.Tryz.func87 G87_eq h
theorem e88 {p : Path} (h : p.num = 88 := by rfl) : EntG Go.Proofs.Tryz.prog 0 (planOf Go.Proofs.Tryz.prog 0) p (some G88) := EntG.some Go.Proofs.Tryz.func88 G88_eq h
theorem e89 {p : Path} (h : p.num = 89 := by rfl) : EntG Go.Proofs.Tryz.prog 0 (planOf Go.Proofs.Tryz.prog 0) p (some G89) := EntG.some Go.Proofs.Tryz.func89 G89_eq h
theorem e90 {p : Path} (h : p.num = 90 := by rfl) : EntG Go.Proofs.Tryz.prog 0 (planOf Go.Proofs.Tryz.prog 0) p (some G90) := EntG.some Go.Proofs.Tryz.func90 G90_eq h
theorem e91 {p : Path} (h : p.num = 91 := by rfl) : EntG Go.Proofs.Tryz.prog 0 (planOf Go.Proofs.Tryz.prog 0) p (some G91) := EntG.some Go.Proofs.Tryz.func91 G91_eq h
theorem e92 {p : Path} (h : p.num = 92 := by rfl) : EntG Go.Proofs.Tryz.prog 0 (planOf Go.Proofs.Tryz.prog 0) p (some G92) := EntG.some Go.Proofs.Tryz.func92 G92_eq h
theorem e93 {p : Path} (h : p.num = 93 := by rfl) : EntG Go.Proofs.Tryz.prog 0 (planOf Go.Proofs.Tryz.prog 0) p (some G93) := EntG.some Go.Proofs.Tryz.func93 G93_eq h
theorem e94 {p : Path} (h : p.num = 94 := by rfl) : EntG Go.Proofs.Tryz.prog 0 (planOf Go.Proofs.Tryz.prog 0) p (some G94) := EntG.some Go.Proofs.Tryz.func94 G94_eq h
theorem e95 {p : Path} (h : p.num = 95 := by rfl) : EntG Go.Proofs.Tryz.prog 0 (planOf Go.Proofs.Tryz.prog 0) p (some G95) := EntG.some Go.Proofs.Tryz.func95 G95_eq h
theorem e96 {p : Path} (h : p.num = 96 := by rfl) : EntG Go.Proofs.Tryz.prog 0 (planOf Go.Proofs.Tryz.prog 0) p (some G96) := EntG.some Go.Proofs.Tryz.func96 G96_eq h
theorem e97 {p : Path} (h : p.num = 97 := by rfl) : EntG Go.Proofs.Tryz.prog 0 (planOf Go.Proofs.Tryz.prog 0) p (some G97) := EntG.some Go.Proofs.Tryz.func97 G97_eq h
theorem e106 {p : Path} (h : p.num = 106 := by rfl) : EntG Go.Proofs.Tryz.prog 0 (planOf Go.Proofs.Tryz.prog 0) p (some G106) := EntG.some Go.Proofs.Tryz.func106 G106_eq h
theorem e107 {p : Path} (h : p.num = 107 := by rfl) : EntG Go.Proofs.Tryz.prog 0 (planOf Go.Proofs.Tryz.prog 0) p (some G107) := EntG.some Go.Proofs.Tryz.func107 G107_eq h
theorem e108 {p : Path} (h : p.num = 108 := by rfl) : EntG Go.Proofs.Tryz.prog 0 (planOf Go.Proofs.Tryz.prog 0) p (some G108) := EntG.some Go.Proofs.Tryz.func108 G108_eq h
theorem e109 {p : Path} (h : p.num = 109 := by rfl) : EntG Go.Proofs.Tryz.prog 0 (planOf Go.Proofs.Tryz.prog 0) p (some G109) := EntG.some Go.Proofs.Tryz.func109 G109_eq h
theorem e110 {p : Path} (h : p.num = 110 := by rfl) : EntG Go.Proofs.Tryz.prog 0 (planOf Go.Proofs.Tryz.prog 0) p (some G110) := EntG.some Go.Proofs.Tryz.func110 G110_eq h
theorem e111 {p : Path} (h : p.num = 111 := by rfl) : EntG Go.Proofs.Tryz.prog 0 (planOf Go.Proofs.Tryz.prog 0) p (some G111) := EntG.some Go.Proofs.Tryz.func111 G111_eq h
theorem e112 {p : Path} (h : p.num = 112 := by rfl) : EntG Go.Proofs.Tryz.prog 0 (planOf Go.Proofs.Tryz.prog 0) p (some G112) := EntG.some Go.Proofs.Tryz.func112 G112_eq h
theorem e113 {p : Path} (h : p.num = 113 := by rfl) : EntG Go.Proofs.Tryz.prog 0 (planOf Go.Proofs.Tryz.prog 0) p (some G113) := EntG.some Go.Proofs.Tryz.func113 G113_eq h
theorem e114 {p : Path} (h : p.num = 114 := by rfl) : EntG Go.Proofs.Tryz.prog 0 (planOf Go.Proofs.Tryz.prog 0) p (some G114) := EntG.some Go.Proofs.Tryz.func114 G114_eq h
theorem e115 {p : Path} (h : p.num = 115 := by rfl) : EntG Go.Proofs.Tryz.prog 0 (planOf Go.Proofs.Tryz.prog 0) p (some G115) := EntG.some Go.Proofs.Tryz.func115 G115_eq h
theorem e116 {p : Path} (h : p.num = 116 := by rfl) : EntG Go.Proofs.Tryz.prog 0 (planOf Go.Proofs.Tryz.prog 0) p (some G116) := EntG.some Go.Proofs.Tryz.func116 G116_eq h
theorem e117 {p : Path} (h : p.num = 117 := by rfl) : EntG Go.Proofs.Tryz.prog 0 (planOf Go.Proofs.Tryz.prog 0) p (some G117) := EntG.some Go.Proofs.Tryz.func117 G117_eq h
theorem e118 {p : Path} (h : p.num = 118 := by rfl) : EntG Go.Proofs.Tryz.prog 0 (planOf Go.Proofs.Tryz.prog 0) p (some G118) := EntG.some Go.Proofs.Tryz.func118 G118_eq h
theorem e119 {p : Path} (h : p.num = 119 := by rfl) : EntG Go.Proofs.Tryz.prog 0 (planOf Go.Proofs.Tryz.prog 0) p (some G119) := EntG.some Go.Proofs.Tryz.func119 G119_eq h
theorem e120 {p : Path} (h : p.num = 120 := by rfl) : EntG Go.Proofs.Tryz.prog 0 (planOf Go.Proofs.Tryz.prog 0) p (some G120) := EntG.some Go.Proofs.Tryz.func120 G120_eq h
theorem e123 {p : Path} (h : p.num = 123 := by rfl) : EntG Go.Proofs.Tryz.prog 0 (planOf Go.Proofs.Tryz.prog 0) p (some G123) := EntG.some Go.Proofs.Tryz.func123 G123_eq h
theorem e124 {p : Path} (h : p.num = 124 := by rfl) : EntG Go.Proofs.Tryz.prog 0 (planOf Go.Proofs.Tryz.prog 0) p (some G124) := EntG.some Go.Proofs.Tryz.func124 G124_eq h
theorem e125 {p : Path} (h : p.num = 125 := by rfl) : EntG Go.Proofs.Tryz.prog 0 (planOf Go.Proofs.Tryz.prog 0) p (some G125) := EntG.some Go.Proofs.Tryz.func125 G125_eq h
theorem e127 {p : Path} (h : p.num = 127 := by rfl) : EntG Go.Proofs.Tryz.prog 0 (planOf Go.Proofs.Tryz.prog 0) p (some G127) := EntG.some Go.Proofs.Tryz.func127 G127_eq h
theorem e132 {p : Path} (h : p.num = 132 := by rfl) : EntG Go.Proofs.Tryz.prog 0 (planOf Go.Proofs.Tryz.prog 0) p (some G132) := EntG.some Go.Proofs.Tryz.func132 G132_eq h
theorem e133 {p : Path} (h : p.num = 133 := by rfl) : EntG Go.Proofs.Tryz.prog 0 (planOf Go.Proofs.Tryz.prog 0) p (some G133) := EntG.some Go.Proofs.Tryz.func133 G133_eq h
theorem e138 {p : Path} (h : p.num = 138 := by rfl) : EntG Go.Proofs.Tryz.prog 0 (planOf Go.Proofs.Tryz.prog 0) p (some G138) := EntG.some Go.Proofs.Tryz.func138 G138_eq h
theorem e139 {p : Path} (h : p.num = 139 := by rfl) : EntG Go.Proofs.Tryz.prog 0 (planOf Go.Proofs.Tryz.prog 0) p (some G139) := EntG.some Go.Proofs.Tryz.func139 G139_eq h
theorem e140 {p : Path} (h : p.num = 140 := by rfl) : EntG Go.Proofs.Tryz.prog 0 (planOf Go.Proofs.Tryz.prog 0) p (some G140) := EntG.some Go.Proofs.Tryz.func140 G140_eq h
theorem e142 {p : Path} (h : p.num = 142 := by rfl) : EntG Go.Proofs.Tryz.prog 0 (planOf Go.Proofs.Tryz.prog 0) p (some G142) := EntG.some Go.Proofs.Tryz.func142 G142_eq h
theorem e143 {p : Path} (h : p.num = 143 := by rfl) : EntG Go.Proofs.Tryz.prog 0 (planOf Go.Proofs.Tryz.prog 0) p (some G143) := EntG.some Go.Proofs.Tryz.func143 G143_eq h
theorem e147 {p : Path} (h : p.num = 147 := by rfl) : EntG Go.Proofs.Tryz.prog 0 (planOf Go.Proofs.Tryz.prog 0) p (some G147) := EntG.some Go.Proofs.Tryz.func147 G147_eq h
theorem e152 {p : Path} (h : p.num = 152 := by rfl) : EntG Go.Proofs.Tryz.prog 0 (planOf Go.Proofs.Tryz.prog 0) p (some G152) := EntG.some Go.Proofs.Tryz.func152 G152_eq h
theorem e153 {p : Path} (h : p.num = 153 := by rfl) : EntG Go.Proofs.Tryz.prog 0 (planOf Go.Proofs.Tryz.prog 0) p (some G153) := EntG.some Go.Proofs.Tryz.func153 G153_eq h
theorem e154 {p : Path} (h : p.num = 154 := by rfl) : EntG Go.Proofs.Tryz.prog 0 (planOf Go.Proofs.Tryz.prog 0) p (some G154) := EntG.some Go.Proofs.Tryz.func154 G154_eq h
theorem e157 {p : Path} (h : p.num = 157 := by rfl) : EntG Go.Proofs.Tryz.prog 0 (planOf Go.Proofs.Tryz.prog 0) p (some G157) := EntG.some Go.Proofs.Tryz.func157 G157_eq h
theorem e158 {p : Path} (h : p.num = 158 := by rfl) : EntG Go.Proofs.Tryz.prog 0 (planOf Go.Proofs.Tryz.prog 0) p (some G158) := EntG.some Go.Proofs.Tryz.func158 G158_eq h
theorem e164 {p : Path} (h : p.num = 164 := by rfl) : EntG Go.Proofs.Tryz.prog 0 (planOf Go.Proofs.Tryz.prog 0) p (some G164) := EntG.some Go.Proofs.Tryz.func164 G164_eq h
theorem e174 {p : Path} (h : p.num = 174 := by rfl) : EntG Go.Proofs.Tryz.prog 0 (planOf Go.Proofs.Tryz.prog 0) p (some G174) := EntG.some Go.Proofs.Tryz.func174 G174_eq h
theorem e175 {p : Path} (h : p.num = 175 := by rfl) : EntG Go.Proofs.Tryz.prog 0 (planOf Go.Proofs.Tryz.prog 0) p (some G175) := EntG.some Go.Proofs.Tryz.func175 G175_eq h
theorem e184 {p : Path} (h : p.num = 184 := by rfl) : EntG Go.Proofs.Tryz.prog 0 (planOf Go.Proofs.Tryz.prog 0) p (some G184) := EntG.some Go.Proofs.Tryz.func184 G184_eq h
theorem e185 {p : Path} (h : p.num = 185 := by rfl) : EntG Go.Proofs.Tryz.prog 0 (planOf Go.Proofs.Tryz.prog 0) p (some G185) := EntG.some Go.Proofs.Tryz.func185 G185_eq h
theorem e186 {p : Path} (h : p.num = 186 := by rfl) : EntG Go.Proofs.Tryz.prog 0 (planOf Go.Proofs.Tryz.prog 0) p (some G186) := EntG.some Go.Proofs.Tryz.func186 G186_eq h
theorem e205 {p : Path} (h : p.num = 205 := by rfl) : EntG Go.Proofs.Tryz.prog 0 (planOf Go.Proofs.Tryz.prog 0) p (some G205) := EntG.some Go.Proofs.Tryz.func205 G205_eq h
theorem e206 {p : Path} (h : p.num = 206 := by rfl) : EntG Go.Proofs.Tryz.prog 0 (planOf Go.Proofs.Tryz.prog 0) p (some G206) := EntG.some Go.Proofs.Tryz.func206 G206_eq h
theorem e207 {p : Path} (h : p.num = 207 := by rfl) : EntG Go.Proofs.Tryz.prog 0 (planOf Go.Proofs.Tryz.prog 0) p (some G207) := EntG.some Go.Proofs.Tryz.func207 G207_eq h
theorem e208 {p : Path} (h : p.num = 208 := by rfl) : EntG Go.Proofs.Tryz.prog 0 (planOf Go.Proofs.Tryz.prog 0) p (some G208) := EntG.some Go.Proofs.Tryz.func208 G208_eq h
theorem e218 {p : Path} (h : p.num = 218 := by rfl) : EntG Go.Proofs.Tryz.prog 0 (planOf Go.Proofs.Tryz.prog 0) p (some G218) := EntG.some Go.Proofs.Tryz.func218 G218_eq h
theorem e219 {p : Path} (h : p.num = 219 := by rfl) : EntG Go.Proofs.Tryz.prog 0 (planOf Go.Proofs.Tryz.prog 0) p (some G219) := EntG.some Go.Proofs.Tryz.func219 G219_eq h
theorem e220 {p : Path} (h : p.num = 220 := by rfl) : EntG Go.Proofs.Tryz.prog 0 (planOf Go.Proofs.Tryz.prog 0) p (some G220) := EntG.some Go.Proofs.Tryz.func220 G220_eq h
theorem e222 {p : Path} (h : p.num = 222 := by rfl) : EntG Go.Proofs.Tryz.prog 0 (planOf Go.Proofs.Tryz.prog 0) p (some G222) := EntG.some Go.Proofs.Tryz.func222 G222_eq h
theorem e225 {p : Path} (h : p.num = 225 := by rfl) : EntG Go.Proofs.Tryz.prog 0 (planOf Go.Proofs.Tryz.prog 0) p (some G225) := EntG.some Go.Proofs.Tryz.func225 G225_eq h
theorem e229 {p : Path} (h : p.num = 229 := by rfl) : EntG Go.Proofs.Tryz.prog 0 (planOf Go.Proofs.Tryz.prog 0) p (some G229) := EntG.some Go.Proofs.Tryz.func229 G229_eq h
theorem okOS : OrcOk Go.Proofs.Tryz.prog 0 q89 sumO := sumO_ok (by kernel_rfl)
theorem tabS_ok : AllT (EntG Go.Proofs.Tryz.prog 0 (planOf Go.Proofs.Tryz.prog 0)) tabS := (show AllT _ tabS from ⟨EntG.none, ⟨EntG.none, ⟨e3, ⟨e7, ⟨e15, ⟨e31, ⟨EntG.none, ⟨e127, ⟨EntG.none, trivial, trivial⟩, trivial⟩, ⟨EntG.none, trivial, trivial⟩⟩, ⟨e95, ⟨EntG.none, ⟨EntG.none, trivial, trivial⟩, trivial⟩, ⟨EntG.none, trivial, trivial⟩⟩⟩, ⟨e47, ⟨EntG.none, ⟨e143, ⟨EntG.none, trivial, trivial⟩, trivial⟩, ⟨e207, trivial, trivial⟩⟩, ⟨e111, ⟨e175, ⟨EntG.none, trivial, trivial⟩, trivial⟩, ⟨EntG.none, trivial, trivial⟩⟩⟩⟩, ⟨e23, ⟨e39, ⟨e71, ⟨EntG.none, ⟨EntG.none, trivial, trivial⟩, trivial⟩, ⟨EntG.none, trivial, trivial⟩⟩, ⟨EntG.none, ⟨EntG.none, ⟨EntG.none, trivial, trivial⟩, trivial⟩, ⟨EntG.none, trivial, trivial⟩⟩⟩, ⟨e55, ⟨e87, ⟨EntG.none, ⟨EntG.none, trivial, trivial⟩, trivial⟩, ⟨EntG.none, trivial, trivial⟩⟩, ⟨e119, ⟨EntG.none, trivial, trivial⟩, ⟨EntG.none, trivial, trivial⟩⟩⟩⟩⟩, ⟨e11, ⟨e19, ⟨e35, ⟨EntG.none, ⟨EntG.none, ⟨EntG.none, trivial, trivial⟩, trivial⟩, ⟨EntG.none, trivial, trivial⟩⟩, ⟨EntG.none, ⟨EntG.none, ⟨EntG.none, trivial, trivial⟩, trivial⟩, ⟨EntG.none, trivial, trivial⟩⟩⟩, ⟨e51, ⟨EntG.none, ⟨e147, ⟨EntG.none, trivial, trivial⟩, trivial⟩, ⟨EntG.none, trivial, trivial⟩⟩, ⟨e115, ⟨EntG.none, trivial, trivial⟩, ⟨EntG.none, trivial, trivial⟩⟩⟩⟩, ⟨e27, ⟨e43, ⟨e75, ⟨e139, ⟨EntG.none, trivial, trivial⟩, trivial⟩, ⟨EntG.none, trivial, trivial⟩⟩, ⟨e107, ⟨EntG.none, ⟨EntG.none, trivial, trivial⟩, trivial⟩, ⟨EntG.none, trivial, trivial⟩⟩⟩, ⟨e59, ⟨e91, ⟨EntG.none, ⟨EntG.none, trivial, trivial⟩, trivial⟩, ⟨e219, trivial, trivial⟩⟩, ⟨e123, ⟨EntG.none, trivial, trivial⟩, ⟨EntG.none, trivial, trivial⟩⟩⟩⟩⟩⟩, ⟨e5, ⟨e9, ⟨e17, ⟨e33, ⟨EntG.none, ⟨EntG.none, ⟨EntG.none, trivial, trivial⟩, trivial⟩, ⟨EntG.none, trivial, trivial⟩⟩, ⟨e97, ⟨EntG.none, ⟨EntG.none, trivial, trivial⟩, trivial⟩, ⟨e225, trivial, trivial⟩⟩⟩, ⟨e49, ⟨e81, ⟨EntG.none, ⟨EntG.none, trivial, trivial⟩, trivial⟩, ⟨EntG.none, trivial, trivial⟩⟩, ⟨e113, ⟨EntG.none, trivial, trivial⟩, ⟨EntG.none, trivial, trivial⟩⟩⟩⟩, ⟨e25, ⟨e41, ⟨e73, ⟨EntG.none, ⟨EntG.none, trivial, trivial⟩, trivial⟩, ⟨EntG.none, trivial, trivial⟩⟩, ⟨EntG.none, ⟨EntG.none, ⟨EntG.none, trivial, trivial⟩, trivial⟩, ⟨EntG.none, trivial, trivial⟩⟩⟩, ⟨e57, ⟨(EntG.orc okOS), ⟨e153, ⟨EntG.none, trivial, trivial⟩, trivial⟩, ⟨EntG.none, trivial, trivial⟩⟩, ⟨EntG.none, ⟨e185, trivial, trivial⟩, ⟨EntG.none, trivial, trivial⟩⟩⟩⟩⟩, ⟨e13, ⟨e21, ⟨e37, ⟨e69, ⟨e133, ⟨EntG.none, trivial, trivial⟩, trivial⟩, ⟨EntG.none, trivial, trivial⟩⟩, ⟨EntG.none, ⟨EntG.none, ⟨EntG.none, trivial, trivial⟩, trivial⟩, ⟨e229, trivial, trivial⟩⟩⟩, ⟨e53, ⟨e85, ⟨EntG.none, ⟨EntG.none, trivial, trivial⟩, trivial⟩, ⟨EntG.none, trivial, trivial⟩⟩, ⟨e117, ⟨EntG.none, trivial, trivial⟩, ⟨EntG.none, trivial, trivial⟩⟩⟩⟩, ⟨e29, ⟨e45, ⟨e77, ⟨EntG.none, ⟨EntG.none, trivial, trivial⟩, trivial⟩, ⟨e205, trivial, trivial⟩⟩, ⟨e109, ⟨EntG.none, ⟨EntG.none, trivial, trivial⟩, trivial⟩, ⟨EntG.none, trivial, trivial⟩⟩⟩, ⟨e61, ⟨e93, ⟨e157, ⟨EntG.none, trivial, trivial⟩, trivial⟩, ⟨EntG.none, trivial, trivial⟩⟩, ⟨e125, ⟨EntG.none, trivial, trivial⟩, ⟨EntG.none, trivial, trivial⟩⟩⟩⟩⟩⟩⟩, ⟨EntG.none, ⟨e4, ⟨e8, ⟨e16, ⟨e32, ⟨EntG.none, ⟨EntG.none, ⟨EntG.none, trivial, trivial⟩, trivial⟩, ⟨EntG.none, trivial, trivial⟩⟩, ⟨e96, ⟨EntG.none, ⟨EntG.none, trivial, trivial⟩, trivial⟩, ⟨EntG.none, trivial, trivial⟩⟩⟩, ⟨e48, ⟨e80, ⟨EntG.none, ⟨EntG.none, trivial, trivial⟩, trivial⟩, ⟨e208, trivial, trivial⟩⟩, ⟨e112, ⟨EntG.none, ⟨EntG.none, trivial, trivial⟩, trivial⟩, ⟨EntG.none, trivial, trivial⟩⟩⟩⟩, ⟨e24, ⟨e40, ⟨e72, ⟨EntG.none, ⟨EntG.none, trivial, trivial⟩, trivial⟩, ⟨EntG.none, trivial, trivial⟩⟩, ⟨EntG.none, ⟨EntG.none, ⟨EntG.none, trivial, trivial⟩, trivial⟩, ⟨EntG.none, trivial, trivial⟩⟩⟩, ⟨e56, ⟨e88, ⟨e152, ⟨EntG.none, trivial, trivial⟩, trivial⟩, ⟨EntG.none, trivial, trivial⟩⟩, ⟨e120, ⟨e184, trivial, trivial⟩, ⟨EntG.none, trivial, trivial⟩⟩⟩⟩⟩, ⟨e12, ⟨e20, ⟨e36, ⟨e68, ⟨e132, ⟨EntG.none, trivial, trivial⟩, trivial⟩, ⟨EntG.none, trivial, trivial⟩⟩, ⟨EntG.none, ⟨e164, ⟨EntG.none, trivial, trivial⟩, trivial⟩, ⟨EntG.none, trivial, trivial⟩⟩⟩, ⟨e52, ⟨e84, ⟨EntG.none, ⟨EntG.none, trivial, trivial⟩, trivial⟩, ⟨EntG.none, trivial, trivial⟩⟩, ⟨e116, ⟨EntG.none, trivial, trivial⟩, ⟨EntG.none, trivial, trivial⟩⟩⟩⟩, ⟨e28, ⟨e44, ⟨e76, ⟨e140, ⟨EntG.none, trivial, trivial⟩, trivial⟩, ⟨EntG.none, trivial, trivial⟩⟩, ⟨e108, ⟨EntG.none, ⟨EntG.none, trivial, trivial⟩, trivial⟩, ⟨EntG.none, trivial, trivial⟩⟩⟩, ⟨e60, ⟨e92, ⟨EntG.none, ⟨EntG.none, trivial, trivial⟩, trivial⟩, ⟨e220, trivial, trivial⟩⟩, ⟨e124, ⟨EntG.none, trivial, trivial⟩, ⟨EntG.none, trivial, trivial⟩⟩⟩⟩⟩⟩, ⟨e6, ⟨e10, ⟨e18, ⟨e34, ⟨EntG.none, ⟨EntG.none, ⟨EntG.none, trivial, trivial⟩, trivial⟩, ⟨EntG.none, trivial, trivial⟩⟩, ⟨EntG.none, ⟨EntG.none, ⟨EntG.none, trivial, trivial⟩, trivial⟩, ⟨EntG.none, trivial, trivial⟩⟩⟩, ⟨e50, ⟨e82, ⟨EntG.none, ⟨EntG.none, trivial, trivial⟩, trivial⟩, ⟨EntG.none, trivial, trivial⟩⟩, ⟨e114, ⟨EntG.none, trivial, trivial⟩, ⟨EntG.none, trivial, trivial⟩⟩⟩⟩, ⟨e26, ⟨e42, ⟨e74, ⟨e138, ⟨EntG.none, trivial, trivial⟩, trivial⟩, ⟨EntG.none, trivial, trivial⟩⟩, ⟨e106, ⟨EntG.none, ⟨EntG.none, trivial, trivial⟩, trivial⟩, ⟨EntG.none, trivial, trivial⟩⟩⟩, ⟨e58, ⟨e90, ⟨e154, ⟨EntG.none, trivial, trivial⟩, trivial⟩, ⟨e218, trivial, trivial⟩⟩, ⟨EntG.none, ⟨e186, trivial, trivial⟩, ⟨EntG.none, trivial, trivial⟩⟩⟩⟩⟩, ⟨e14, ⟨e22, ⟨e38, ⟨e70, ⟨EntG.none, ⟨EntG.none, trivial, trivial⟩, trivial⟩, ⟨EntG.none, trivial, trivial⟩⟩, ⟨EntG.none, ⟨EntG.none, ⟨EntG.none, trivial, trivial⟩, trivial⟩, ⟨EntG.none, trivial, trivial⟩⟩⟩, ⟨e54, ⟨e86, ⟨EntG.none, ⟨EntG.none, trivial, trivial⟩, trivial⟩, ⟨EntG.none, trivial, trivial⟩⟩, ⟨e118, ⟨EntG.none, trivial, trivial⟩, ⟨EntG.none, trivial, trivial⟩⟩⟩⟩, ⟨e30, ⟨e46, ⟨e78, ⟨e142, ⟨EntG.none, trivial, trivial⟩, trivial⟩, ⟨e206, trivial, trivial⟩⟩, ⟨e110, ⟨e174, ⟨EntG.none, trivial, trivial⟩, trivial⟩, ⟨EntG.none, trivial, trivial⟩⟩⟩, ⟨e62, ⟨e94, ⟨e158, ⟨EntG.none, trivial, trivial⟩, trivial⟩, ⟨e222, trivial, trivial⟩⟩, ⟨EntG.none, ⟨EntG.none, trivial, trivial⟩, ⟨EntG.none, trivial, trivial⟩⟩⟩⟩⟩⟩⟩⟩)
end
theorem same46 (w' : World) : Calls Go.Proofs.Tryz.prog 46 #[cellB, cellB] w' fun e w2 => e = .returned (.bool true) ∧ RowKit.Below w'.heap.size w' w2 := by
  letI : Env := noEnv
  have h := (calls_flat (ng := 0) hm tabS_ok told46B rfl (ρ := fun _ => none) (h := ⟨.nil, .e⟩) (w := w') (xs := [cellB, cellB]) rfl ⟨fun _ _ h => (by cases h), fun _ _ h => (by cases h), fun _ h => (by cases h), fun _ _ _ _ h => (by cases h), fun _ _ h => (by cases h.1)⟩ ⟨fun g _ hg => (by simp at hg), trivial⟩).2
  exact h.mono fun e w2 ⟨u, he, hu, hb⟩ => ⟨by
    have hu : some (Value.bool true) = some u := hu
    rw [he, ← Option.some.inj hu], hb⟩
section
variable [Env]
theorem okOE : OrcOk Go.Proofs.Tryz.prog 0 q45 eqfO := eqfO_ok (by kernel_rfl) same46
theorem okOPl : OrcOk Go.Proofs.Tryz.prog 0 q111 (placesO tabS 1000000 q111) := placesO_ok (by kernel_rfl) hm tabS_ok
theorem okOM4 : OrcOk Go.Proofs.Tryz.prog 0 q4 (memoO memo4) := memo_ok fun a v hav h => by
  have := List.all_eq_true.1 told4 _ hav
  simp only [Bool.and_eq_true] at this
  exact callOk_flat hm tabS_ok this.1 this.2 h
theorem okOM46 : OrcOk Go.Proofs.Tryz.prog 0 q46 (memoO memo46) := memo_ok fun a v hav h => by
  have := List.all_eq_true.1 told46 _ hav
  simp only [Bool.and_eq_true] at this
  exact callOk_flat hm tabS_ok this.1 this.2 h
theorem okOM85 : OrcOk Go.Proofs.Tryz.prog 0 q85 (memoO memo85) := memo_ok fun a v hav h => by
  have := List.all_eq_true.1 told85 _ hav
  simp only [Bool.and_eq_true] at this
  exact callOk_flat hm tabS_ok this.1 this.2 h
theorem okOM94 : OrcOk Go.Proofs.Tryz.prog 0 q94 (memoO memo94) := memo_ok fun a v hav h => by
  have := List.all_eq_true.1 told94 _ hav
  simp only [Bool.and_eq_true] at this
  exact callOk_flat hm tabS_ok this.1 this.2 h
theorem okOM97 : OrcOk Go.Proofs.Tryz.prog 0 q97 (memoO memo97) := memo_ok fun a v hav h => by
  have := List.all_eq_true.1 told97 _ hav
  simp only [Bool.and_eq_true] at this
  exact callOk_flat hm tabS_ok this.1 this.2 h
theorem okOM113 : OrcOk Go.Proofs.Tryz.prog 0 q113 (memoO memo113) := memo_ok fun a v hav h => by
  have := List.all_eq_true.1 told113 _ hav
  simp only [Bool.and_eq_true] at this
  exact callOk_flat hm tabS_ok this.1 this.2 h
theorem okOM119 : OrcOk Go.Proofs.Tryz.prog 0 q119 (memoO memo119) := memo_ok fun a v hav h => by
  have := List.all_eq_true.1 told119 _ hav
  simp only [Bool.and_eq_true] at this
  exact callOk_flat hm tabS_ok this.1 this.2 h
theorem okOM138 : OrcOk Go.Proofs.Tryz.prog 0 q138 (memoO memo138) := memo_ok fun a v hav h => by
  have := List.all_eq_true.1 told138 _ hav
  simp only [Bool.and_eq_true] at this
  exact callOk_flat hm tabS_ok this.1 this.2 h
theorem tabO_ok : AllT (EntG Go.Proofs.Tryz.prog 0 (planOf Go.Proofs.Tryz.prog 0)) tabO := (show AllT _ tabO from ⟨EntG.none, ⟨EntG.none, ⟨e3, ⟨e7, ⟨e15, ⟨e31, ⟨EntG.none, ⟨e127, ⟨EntG.none, trivial, trivial⟩, trivial⟩, ⟨EntG.none, trivial, trivial⟩⟩, ⟨e95, ⟨EntG.none, ⟨EntG.none, trivial, trivial⟩, trivial⟩, ⟨EntG.none, trivial, trivial⟩⟩⟩, ⟨e47, ⟨EntG.none, ⟨e143, ⟨EntG.none, trivial, trivial⟩, trivial⟩, ⟨e207, trivial, trivial⟩⟩, ⟨(EntG.orc okOPl), ⟨e175, ⟨EntG.none, trivial, trivial⟩, trivial⟩, ⟨EntG.none, trivial, trivial⟩⟩⟩⟩, ⟨e23, ⟨e39, ⟨e71, ⟨EntG.none, ⟨EntG.none, trivial, trivial⟩, trivial⟩, ⟨EntG.none, trivial, trivial⟩⟩, ⟨EntG.none, ⟨EntG.none, ⟨EntG.none, trivial, trivial⟩, trivial⟩, ⟨EntG.none, trivial, trivial⟩⟩⟩, ⟨e55, ⟨e87, ⟨EntG.none, ⟨EntG.none, trivial, trivial⟩, trivial⟩, ⟨EntG.none, trivial, trivial⟩⟩, ⟨(EntG.orc okOM119), ⟨EntG.none, trivial, trivial⟩, ⟨EntG.none, trivial, trivial⟩⟩⟩⟩⟩, ⟨e11, ⟨e19, ⟨e35, ⟨EntG.none, ⟨EntG.none, ⟨EntG.none, trivial, trivial⟩, trivial⟩, ⟨EntG.none, trivial, trivial⟩⟩, ⟨EntG.none, ⟨EntG.none, ⟨EntG.none, trivial, trivial⟩, trivial⟩, ⟨EntG.none, trivial, trivial⟩⟩⟩, ⟨e51, ⟨EntG.none, ⟨e147, ⟨EntG.none, trivial, trivial⟩, trivial⟩, ⟨EntG.none, trivial, trivial⟩⟩, ⟨e115, ⟨EntG.none, trivial, trivial⟩, ⟨EntG.none, trivial, trivial⟩⟩⟩⟩, ⟨e27, ⟨e43, ⟨e75, ⟨e139, ⟨EntG.none, trivial, trivial⟩, trivial⟩, ⟨EntG.none, trivial, trivial⟩⟩, ⟨e107, ⟨EntG.none, ⟨EntG.none, trivial, trivial⟩, trivial⟩, ⟨EntG.none, trivial, trivial⟩⟩⟩, ⟨e59, ⟨e91, ⟨EntG.none, ⟨EntG.none, trivial, trivial⟩, trivial⟩, ⟨e219, trivial, trivial⟩⟩, ⟨e123, ⟨EntG.none, trivial, trivial⟩, ⟨EntG.none, trivial, trivial⟩⟩⟩⟩⟩⟩, ⟨e5, ⟨e9, ⟨e17, ⟨e33, ⟨EntG.none, ⟨EntG.none, ⟨EntG.none, trivial, trivial⟩, trivial⟩, ⟨EntG.none, trivial, trivial⟩⟩, ⟨(EntG.orc okOM97), ⟨EntG.none, ⟨EntG.none, trivial, trivial⟩, trivial⟩, ⟨e225, trivial, trivial⟩⟩⟩, ⟨e49, ⟨e81, ⟨EntG.none, ⟨EntG.none, trivial, trivial⟩, trivial⟩, ⟨EntG.none, trivial, trivial⟩⟩, ⟨(EntG.orc okOM113), ⟨EntG.none, trivial, trivial⟩, ⟨EntG.none, trivial, trivial⟩⟩⟩⟩, ⟨e25, ⟨e41, ⟨e73, ⟨EntG.none, ⟨EntG.none, trivial, trivial⟩, trivial⟩, ⟨EntG.none, trivial, trivial⟩⟩, ⟨EntG.none, ⟨EntG.none, ⟨EntG.none, trivial, trivial⟩, trivial⟩, ⟨EntG.none, trivial, trivial⟩⟩⟩, ⟨e57, ⟨(EntG.orc okOS), ⟨e153, ⟨EntG.none, trivial, trivial⟩, trivial⟩, ⟨EntG.none, trivial, trivial⟩⟩, ⟨EntG.none, ⟨e185, trivial, trivial⟩, ⟨EntG.none, trivial, trivial⟩⟩⟩⟩⟩, ⟨e13, ⟨e21, ⟨e37, ⟨e69, ⟨e133, ⟨EntG.none, trivial, trivial⟩, trivial⟩, ⟨EntG.none, trivial, trivial⟩⟩, ⟨EntG.none, ⟨EntG.none, ⟨EntG.none, trivial, trivial⟩, trivial⟩, ⟨e229, trivial, trivial⟩⟩⟩, ⟨e53, ⟨(EntG.orc okOM85), ⟨EntG.none, ⟨EntG.none, trivial, trivial⟩, trivial⟩, ⟨EntG.none, trivial, trivial⟩⟩, ⟨e117, ⟨EntG.none, trivial, trivial⟩, ⟨EntG.none, trivial, trivial⟩⟩⟩⟩, ⟨e29, ⟨(EntG.orc okOE), ⟨e77, ⟨EntG.none, ⟨EntG.none, trivial, trivial⟩, trivial⟩, ⟨e205, trivial, trivial⟩⟩, ⟨e109, ⟨EntG.none, ⟨EntG.none, trivial, trivial⟩, trivial⟩, ⟨EntG.none, trivial, trivial⟩⟩⟩, ⟨e61, ⟨e93, ⟨e157, ⟨EntG.none, trivial, trivial⟩, trivial⟩, ⟨EntG.none, trivial, trivial⟩⟩, ⟨e125, ⟨EntG.none, trivial, trivial⟩, ⟨EntG.none, trivial, trivial⟩⟩⟩⟩⟩⟩⟩, ⟨EntG.none, ⟨(EntG.orc okOM4), ⟨e8, ⟨e16, ⟨e32, ⟨EntG.none, ⟨EntG.none, ⟨EntG.none, trivial, trivial⟩, trivial⟩, ⟨EntG.none, trivial, trivial⟩⟩, ⟨e96, ⟨EntG.none, ⟨EntG.none, trivial, trivial⟩, trivial⟩, ⟨EntG.none, trivial, trivial⟩⟩⟩, ⟨e48, ⟨e80, ⟨EntG.none, ⟨EntG.none, trivial, trivial⟩, trivial⟩, ⟨e208, trivial, trivial⟩⟩, ⟨e112, ⟨EntG.none, ⟨EntG.none, trivial, trivial⟩, trivial⟩, ⟨EntG.none, trivial, trivial⟩⟩⟩⟩, ⟨e24, ⟨e40, ⟨e72, ⟨EntG.none, ⟨EntG.none, trivial, trivial⟩, trivial⟩, ⟨EntG.none, trivial, trivial⟩⟩, ⟨EntG.none, ⟨EntG.none, ⟨EntG.none, trivial, trivial⟩, trivial⟩, ⟨EntG.none, trivial, trivial⟩⟩⟩, ⟨e56, ⟨e88, ⟨e152, ⟨EntG.none, trivial, trivial⟩, trivial⟩, ⟨EntG.none, trivial, trivial⟩⟩, ⟨e120, ⟨e184, trivial, trivial⟩, ⟨EntG.none, trivial, trivial⟩⟩⟩⟩⟩, ⟨e12, ⟨e20, ⟨e36, ⟨e68, ⟨e132, ⟨EntG.none, trivial, trivial⟩, trivial⟩, ⟨EntG.none, trivial, trivial⟩⟩, ⟨EntG.none, ⟨e164, ⟨EntG.none, trivial, trivial⟩, trivial⟩, ⟨EntG.none, trivial, trivial⟩⟩⟩, ⟨e52, ⟨e84, ⟨EntG.none, ⟨EntG.none, trivial, trivial⟩, trivial⟩, ⟨EntG.none, trivial, trivial⟩⟩, ⟨e116, ⟨EntG.none, trivial, trivial⟩, ⟨EntG.none, trivial, trivial⟩⟩⟩⟩, ⟨e28, ⟨e44, ⟨e76, ⟨e140, ⟨EntG.none, trivial, trivial⟩, trivial⟩, ⟨EntG.none, trivial, trivial⟩⟩, ⟨e108, ⟨EntG.none, ⟨EntG.none, trivial, trivial⟩, trivial⟩, ⟨EntG.none, trivial, trivial⟩⟩⟩, ⟨e60, ⟨e92, ⟨EntG.none, ⟨EntG.none, trivial, trivial⟩, trivial⟩, ⟨e220, trivial, trivial⟩⟩, ⟨e124, ⟨EntG.none, trivial, trivial⟩, ⟨EntG.none, trivial, trivial⟩⟩⟩⟩⟩⟩, ⟨e6, ⟨e10, ⟨e18, ⟨e34, ⟨EntG.none, ⟨EntG.none, ⟨EntG.none, trivial, trivial⟩, trivial⟩, ⟨EntG.none, trivial, trivial⟩⟩, ⟨EntG.none, ⟨EntG.none, ⟨EntG.none, trivial, trivial⟩, trivial⟩, ⟨EntG.none, trivial, trivial⟩⟩⟩, ⟨e50, ⟨e82, ⟨EntG.none, ⟨EntG.none, trivial, trivial⟩, trivial⟩, ⟨EntG.none, trivial, trivial⟩⟩, ⟨e114, ⟨EntG.none, trivial, trivial⟩, ⟨EntG.none, trivial, trivial⟩⟩⟩⟩, ⟨e26, ⟨e42, ⟨e74, ⟨(EntG.orc okOM138), ⟨EntG.none, trivial, trivial⟩, trivial⟩, ⟨EntG.none, trivial, trivial⟩⟩, ⟨e106, ⟨EntG.none, ⟨EntG.none, trivial, trivial⟩, trivial⟩, ⟨EntG.none, trivial, trivial⟩⟩⟩, ⟨e58, ⟨e90, ⟨e154, ⟨EntG.none, trivial, trivial⟩, trivial⟩, ⟨e218, trivial, trivial⟩⟩, ⟨EntG.none, ⟨e186, trivial, trivial⟩, ⟨EntG.none, trivial, trivial⟩⟩⟩⟩⟩, ⟨e14, ⟨e22, ⟨e38, ⟨e70, ⟨EntG.none, ⟨EntG.none, trivial, trivial⟩, trivial⟩, ⟨EntG.none, trivial, trivial⟩⟩, ⟨EntG.none, ⟨EntG.none, ⟨EntG.none, trivial, trivial⟩, trivial⟩, ⟨EntG.none, trivial, trivial⟩⟩⟩, ⟨e54, ⟨e86, ⟨EntG.none, ⟨EntG.none, trivial, trivial⟩, trivial⟩, ⟨EntG.none, trivial, trivial⟩⟩, ⟨e118, ⟨EntG.none, trivial, trivial⟩, ⟨EntG.none, trivial, trivial⟩⟩⟩⟩, ⟨e30, ⟨(EntG.orc okOM46), ⟨e78, ⟨e142, ⟨EntG.none, trivial, trivial⟩, trivial⟩, ⟨e206, trivial, trivial⟩⟩, ⟨e110, ⟨e174, ⟨EntG.none, trivial, trivial⟩, trivial⟩, ⟨EntG.none, trivial, trivial⟩⟩⟩, ⟨e62, ⟨(EntG.orc okOM94), ⟨e158, ⟨EntG.none, trivial, trivial⟩, trivial⟩, ⟨e222, trivial, trivial⟩⟩, ⟨EntG.none, ⟨EntG.none, trivial, trivial⟩, ⟨EntG.none, trivial, trivial⟩⟩⟩⟩⟩⟩⟩⟩)
end

end Code
end Go.Proofs.YtgklcjeigoihpaaGreatDoor
