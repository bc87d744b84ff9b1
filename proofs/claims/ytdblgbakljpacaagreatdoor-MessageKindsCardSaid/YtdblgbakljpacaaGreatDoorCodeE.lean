/- The compiled functions are the program's. -/
import Derived.Test.YtdblgbakljpacaaGreatDoorCodeT
import Derived.Test.YtdblgbakljpacaaGreatDoorChecked
import Derived.KernelRfl
namespace Go.Proofs.YtdblgbakljpacaaGreatDoor
open Go Go.Eng
namespace Code
set_option maxRecDepth 100000
set_option linter.unusedVariables false
theorem F3_eq : cF Go.Proofs.Tryz.prog 0 (planOf Go.Proofs.Tryz.prog 0) Go.Proofs.Tryz.f3 = some F3 := by kernel_rfl
theorem F4_eq : cF Go.Proofs.Tryz.prog 0 (planOf Go.Proofs.Tryz.prog 0) Go.Proofs.Tryz.f4 = some F4 := by kernel_rfl
theorem F5_eq : cF Go.Proofs.Tryz.prog 0 (planOf Go.Proofs.Tryz.prog 0) Go.Proofs.Tryz.f5 = some F5 := by kernel_rfl
theorem F6_eq : cF Go.Proofs.Tryz.prog 0 (planOf Go.Proofs.Tryz.prog 0) Go.Proofs.Tryz.f6 = some F6 := by kernel_rfl
theorem F7_eq : cF Go.Proofs.Tryz.prog 0 (planOf Go.Proofs.Tryz.prog 0) Go.Proofs.Tryz.f7 = some F7 := by kernel_rfl
theorem F8_eq : cF Go.Proofs.Tryz.prog 0 (planOf Go.Proofs.Tryz.prog 0) Go.Proofs.Tryz.f8 = some F8 := by kernel_rfl
theorem F9_eq : cF Go.Proofs.Tryz.prog 0 (planOf Go.Proofs.Tryz.prog 0) Go.Proofs.Tryz.f9 = some F9 := by kernel_rfl
theorem F10_eq : cF Go.Proofs.Tryz.prog 0 (planOf Go.Proofs.Tryz.prog 0) Go.Proofs.Tryz.f10 = some F10 := by kernel_rfl
theorem F11_eq : cF Go.Proofs.Tryz.prog 0 (planOf Go.Proofs.Tryz.prog 0) Go.Proofs.Tryz.f11 = some F11 := by kernel_rfl
theorem F12_eq : cF Go.Proofs.Tryz.prog 0 (planOf Go.Proofs.Tryz.prog 0) Go.Proofs.Tryz.f12 = some F12 := by kernel_rfl
theorem F13_eq : cF Go.Proofs.Tryz.prog 0 (planOf Go.Proofs.Tryz.prog 0) Go.Proofs.Tryz.f13 = some F13 := by kernel_rfl
theorem F14_eq : cF Go.Proofs.Tryz.prog 0 (planOf Go.Proofs.Tryz.prog 0) Go.Proofs.Tryz.f14 = some F14 := by kernel_rfl
theorem F15_eq : cF Go.Proofs.Tryz.prog 0 (planOf Go.Proofs.Tryz.prog 0) Go.Proofs.Tryz.f15 = some F15 := by kernel_rfl
theorem F16_eq : cF Go.Proofs.Tryz.prog 0 (planOf Go.Proofs.Tryz.prog 0) Go.Proofs.Tryz.f16 = some F16 := by kernel_rfl
theorem F17_eq : cF Go.Proofs.Tryz.prog 0 (planOf Go.Proofs.Tryz.prog 0) Go.Proofs.Tryz.f17 = some F17 := by kernel_rfl
theorem F18_eq : cF Go.Proofs.Tryz.prog 0 (planOf Go.Proofs.Tryz.prog 0) Go.Proofs.Tryz.f18 = some F18 := by kernel_rfl
theorem F19_eq : cF Go.Proofs.Tryz.prog 0 (planOf Go.Proofs.Tryz.prog 0) Go.Proofs.Tryz.f19 = some F19 := by kernel_rfl
theorem F20_eq : cF Go.Proofs.Tryz.prog 0 (planOf Go.Proofs.Tryz.prog 0) Go.Proofs.Tryz.f20 = some F20 := by kernel_rfl
theorem F21_eq : cF Go.Proofs.Tryz.prog 0 (planOf Go.Proofs.Tryz.prog 0) Go.Proofs.Tryz.f21 = some F21 := by kernel_rfl
theorem F22_eq : cF Go.Proofs.Tryz.prog 0 (planOf Go.Proofs.Tryz.prog 0) Go.Proofs.Tryz.f22 = some F22 := by kernel_rfl
theorem F23_eq : cF Go.Proofs.Tryz.prog 0 (planOf Go.Proofs.Tryz.prog 0) Go.Proofs.Tryz.f23 = some F23 := by kernel_rfl
theorem F24_eq : cF Go.Proofs.Tryz.prog 0 (planOf Go.Proofs.Tryz.prog 0) Go.Proofs.Tryz.f24 = some F24 := by kernel_rfl
theorem F25_eq : cF Go.Proofs.Tryz.prog 0 (planOf Go.Proofs.Tryz.prog 0) Go.Proofs.Tryz.f25 = some F25 := by kernel_rfl
theorem F26_eq : cF Go.Proofs.Tryz.prog 0 (planOf Go.Proofs.Tryz.prog 0) Go.Proofs.Tryz.f26 = some F26 := by kernel_rfl
theorem F27_eq : cF Go.Proofs.Tryz.prog 0 (planOf Go.Proofs.Tryz.prog 0) Go.Proofs.Tryz.f27 = some F27 := by kernel_rfl
theorem F28_eq : cF Go.Proofs.Tryz.prog 0 (planOf Go.Proofs.Tryz.prog 0) Go.Proofs.Tryz.f28 = some F28 := by kernel_rfl
theorem F29_eq : cF Go.Proofs.Tryz.prog 0 (planOf Go.Proofs.Tryz.prog 0) Go.Proofs.Tryz.f29 = some F29 := by kernel_rfl
theorem F30_eq : cF Go.Proofs.Tryz.prog 0 (planOf Go.Proofs.Tryz.prog 0) Go.Proofs.Tryz.f30 = some F30 := by kernel_rfl
theorem F31_eq : cF Go.Proofs.Tryz.prog 0 (planOf Go.Proofs.Tryz.prog 0) Go.Proofs.Tryz.f31 = some F31 := by kernel_rfl
theorem F32_eq : cF Go.Proofs.Tryz.prog 0 (planOf Go.Proofs.Tryz.prog 0) Go.Proofs.Tryz.f32 = some F32 := by kernel_rfl
theorem F33_eq : cF Go.Proofs.Tryz.prog 0 (planOf Go.Proofs.Tryz.prog 0) Go.Proofs.Tryz.f33 = some F33 := by kernel_rfl
theorem F34_eq : cF Go.Proofs.Tryz.prog 0 (planOf Go.Proofs.Tryz.prog 0) Go.Proofs.Tryz.f34 = some F34 := by kernel_rfl
theorem F35_eq : cF Go.Proofs.Tryz.prog 0 (planOf Go.Proofs.Tryz.prog 0) Go.Proofs.Tryz.f35 = some F35 := by kernel_rfl
theorem F36_eq : cF Go.Proofs.Tryz.prog 0 (planOf Go.Proofs.Tryz.prog 0) Go.Proofs.Tryz.f36 = some F36 := by kernel_rfl
theorem F37_eq : cF Go.Proofs.Tryz.prog 0 (planOf Go.Proofs.Tryz.prog 0) Go.Proofs.Tryz.f37 = some F37 := by kernel_rfl
theorem F38_eq : cF Go.Proofs.Tryz.prog 0 (planOf Go.Proofs.Tryz.prog 0) Go.Proofs.Tryz.f38 = some F38 := by kernel_rfl
theorem F39_eq : cF Go.Proofs.Tryz.prog 0 (planOf Go.Proofs.Tryz.prog 0) Go.Proofs.Tryz.f39 = some F39 := by kernel_rfl
theorem F40_eq : cF Go.Proofs.Tryz.prog 0 (planOf Go.Proofs.Tryz.prog 0) Go.Proofs.Tryz.f40 = some F40 := by kernel_rfl
theorem F41_eq : cF Go.Proofs.Tryz.prog 0 (planOf Go.Proofs.Tryz.prog 0) Go.Proofs.Tryz.f41 = some F41 := by kernel_rfl
theorem F42_eq : cF Go.Proofs.Tryz.prog 0 (planOf Go.Proofs.Tryz.prog 0) Go.Proofs.Tryz.f42 = some F42 := by kernel_rfl
theorem F43_eq : cF Go.Proofs.Tryz.prog 0 (planOf Go.Proofs.Tryz.prog 0) Go.Proofs.Tryz.f43 = some F43 := by kernel_rfl
theorem F44_eq : cF Go.Proofs.Tryz.prog 0 (planOf Go.Proofs.Tryz.prog 0) Go.Proofs.Tryz.f44 = some F44 := by kernel_rfl
theorem F45_eq : cF Go.Proofs.Tryz.prog 0 (planOf Go.Proofs.Tryz.prog 0) Go.Proofs.Tryz.f45 = some F45 := by kernel_rfl
theorem F46_eq : cF Go.Proofs.Tryz.prog 0 (planOf Go.Proofs.Tryz.prog 0) Go.Proofs.Tryz.f46 = some F46 := by kernel_rfl
theorem F47_eq : cF Go.Proofs.Tryz.prog 0 (planOf Go.Proofs.Tryz.prog 0) Go.Proofs.Tryz.f47 = some F47 := by kernel_rfl
theorem F48_eq : cF Go.Proofs.Tryz.prog 0 (planOf Go.Proofs.Tryz.prog 0) Go.Proofs.Tryz.f48 = some F48 := by kernel_rfl
theorem F49_eq : cF Go.Proofs.Tryz.prog 0 (planOf Go.Proofs.Tryz.prog 0) Go.Proofs.Tryz.f49 = some F49 := by kernel_rfl
theorem F50_eq : cF Go.Proofs.Tryz.prog 0 (planOf Go.Proofs.Tryz.prog 0) Go.Proofs.Tryz.f50 = some F50 := by kernel_rfl
theorem F51_eq : cF Go.Proofs.Tryz.prog 0 (planOf Go.Proofs.Tryz.prog 0) Go.Proofs.Tryz.f51 = some F51 := by kernel_rfl
theorem F52_eq : cF Go.Proofs.Tryz.prog 0 (planOf Go.Proofs.Tryz.prog 0) Go.Proofs.Tryz.f52 = some F52 := by kernel_rfl
theorem F53_eq : cF Go.Proofs.Tryz.prog 0 (planOf Go.Proofs.Tryz.prog 0) Go.Proofs.Tryz.f53 = some F53 := by kernel_rfl
theorem F54_eq : cF Go.Proofs.Tryz.prog 0 (planOf Go.Proofs.Tryz.prog 0) Go.Proofs.Tryz.f54 = some F54 := by kernel_rfl
theorem F55_eq : cF Go.Proofs.Tryz.prog 0 (planOf Go.Proofs.Tryz.prog 0) Go.Proofs.Tryz.f55 = some F55 := by kernel_rfl
theorem F56_eq : cF Go.Proofs.Tryz.prog 0 (planOf Go.Proofs.Tryz.prog 0) Go.Proofs.Tryz.f56 = some F56 := by kernel_rfl
theorem F57_eq : cF Go.Proofs.Tryz.prog 0 (planOf Go.Proofs.Tryz.prog 0) Go.Proofs.Tryz.f57 = some F57 := by kernel_rfl
theorem F58_eq : cF Go.Proofs.Tryz.prog 0 (planOf Go.Proofs.Tryz.prog 0) Go.Proofs.Tryz.f58 = some F58 := by kernel_rfl
theorem F59_eq : cF Go.Proofs.Tryz.prog 0 (planOf Go.Proofs.Tryz.prog 0) Go.Proofs.Tryz.f59 = some F59 := by kernel_rfl
theorem F60_eq : cF Go.Proofs.Tryz.prog 0 (planOf Go.Proofs.Tryz.prog 0) Go.Proofs.Tryz.f60 = some F60 := by kernel_rfl
theorem F61_eq : cF Go.Proofs.Tryz.prog 0 (planOf Go.Proofs.Tryz.prog 0) Go.Proofs.Tryz.f61 = some F61 := by kernel_rfl
theorem F62_eq : cF Go.Proofs.Tryz.prog 0 (planOf Go.Proofs.Tryz.prog 0) Go.Proofs.Tryz.f62 = some F62 := by kernel_rfl
theorem F63_eq : cF Go.Proofs.Tryz.prog 0 (planOf Go.Proofs.Tryz.prog 0) Go.Proofs.Tryz.f63 = some F63 := by kernel_rfl
theorem F64_eq : cF Go.Proofs.Tryz.prog 0 (planOf Go.Proofs.Tryz.prog 0) Go.Proofs.Tryz.f64 = some F64 := by kernel_rfl
theorem F65_eq : cF Go.Proofs.Tryz.prog 0 (planOf Go.Proofs.Tryz.prog 0) Go.Proofs.Tryz.f65 = some F65 := by kernel_rfl
theorem F66_eq : cF Go.Proofs.Tryz.prog 0 (planOf Go.Proofs.Tryz.prog 0) Go.Proofs.Tryz.f66 = some F66 := by kernel_rfl
theorem F67_eq : cF Go.Proofs.Tryz.prog 0 (planOf Go.Proofs.Tryz.prog 0) Go.Proofs.Tryz.f67 = some F67 := by kernel_rfl
theorem F68_eq : cF Go.Proofs.Tryz.prog 0 (planOf Go.Proofs.Tryz.prog 0) Go.Proofs.Tryz.f68 = some F68 := by kernel_rfl
theorem F69_eq : cF Go.Proofs.Tryz.prog 0 (planOf Go.Proofs.Tryz.prog 0) Go.Proofs.Tryz.f69 = some F69 := by kernel_rfl
theorem F70_eq : cF Go.Proofs.Tryz.prog 0 (planOf Go.Proofs.Tryz.prog 0) Go.Proofs.Tryz.f70 = some F70 := by kernel_rfl
theorem F71_eq : cF Go.Proofs.Tryz.prog 0 (planOf Go.Proofs.Tryz.prog 0) Go.Proofs.Tryz.f71 = some F71 := by kernel_rfl
theorem F72_eq : cF Go.Proofs.Tryz.prog 0 (planOf Go.Proofs.Tryz.prog 0) Go.Proofs.Tryz.f72 = some F72 := by kernel_rfl
theorem F73_eq : cF Go.Proofs.Tryz.prog 0 (planOf Go.Proofs.Tryz.prog 0) Go.Proofs.Tryz.f73 = some F73 := by kernel_rfl
theorem F74_eq : cF Go.Proofs.Tryz.prog 0 (planOf Go.Proofs.Tryz.prog 0) Go.Proofs.Tryz.f74 = some F74 := by kernel_rfl
theorem F75_eq : cF Go.Proofs.Tryz.prog 0 (planOf Go.Proofs.Tryz.prog 0) Go.Proofs.Tryz.f75 = some F75 := by kernel_rfl
theorem F76_eq : cF Go.Proofs.Tryz.prog 0 (planOf Go.Proofs.Tryz.prog 0) Go.Proofs.Tryz.f76 = some F76 := by kernel_rfl
theorem F77_eq : cF Go.Proofs.Tryz.prog 0 (planOf Go.Proofs.Tryz.prog 0) Go.Proofs.Tryz.f77 = some F77 := by kernel_rfl
theorem F78_eq : cF Go.Proofs.Tryz.prog 0 (planOf Go.Proofs.Tryz.prog 0) Go.Proofs.Tryz.f78 = some F78 := by kernel_rfl
theorem F79_eq : cF Go.Proofs.Tryz.prog 0 (planOf Go.Proofs.Tryz.prog 0) Go.Proofs.Tryz.f79 = some F79 := by kernel_rfl
theorem F80_eq : cF Go.Proofs.Tryz.prog 0 (planOf Go.Proofs.Tryz.prog 0) Go.Proofs.Tryz.f80 = some F80 := by kernel_rfl
theorem F81_eq : cF Go.Proofs.Tryz.prog 0 (planOf Go.Proofs.Tryz.prog 0) Go.Proofs.Tryz.f81 = some F81 := by kernel_rfl
theorem F82_eq : cF Go.Proofs.Tryz.prog 0 (planOf Go.Proofs.Tryz.prog 0) Go.Proofs.Tryz.f82 = some F82 := by kernel_rfl
theorem F83_eq : cF Go.Proofs.Tryz.prog 0 (planOf Go.Proofs.Tryz.prog 0) Go.Proofs.Tryz.f83 = some F83 := by kernel_rfl
theorem F84_eq : cF Go.Proofs.Tryz.prog 0 (planOf Go.Proofs.Tryz.prog 0) Go.Proofs.Tryz.f84 = some F84 := by kernel_rfl
theorem F85_eq : cF Go.Proofs.Tryz.prog 0 (planOf Go.Proofs.Tryz.prog 0) Go.Proofs.Tryz.f85 = some F85 := by kernel_rfl
theorem F86_eq : cF Go.Proofs.Tryz.prog 0 (planOf Go.Proofs.Tryz.prog 0) Go.Proofs.Tryz.f86 = some F86 := by kernel_rfl
theorem F87_eq : cF Go.Proofs.Tryz.prog 0 (planOf Go.Proofs.Tryz.prog 0) Go.Proofs.Tryz.f87 = some F87 := by kernel_rfl
theorem F88_eq : cF Go.Proofs.Tryz.prog 0 (planOf Go.Proofs.Tryz.prog 0) Go.Proofs.Tryz.f88 = some F88 := by kernel_rfl
theorem F89_eq : cF Go.Proofs.Tryz.prog 0 (planOf Go.Proofs.Tryz.prog 0) Go.Proofs.Tryz.f89 = some F89 := by kernel_rfl
theorem F90_eq : cF Go.Proofs.Tryz.prog 0 (planOf Go.Proofs.Tryz.prog 0) Go.Proofs.Tryz.f90 = some F90 := by kernel_rfl
theorem F91_eq : cF Go.Proofs.Tryz.prog 0 (planOf Go.Proofs.Tryz.prog 0) Go.Proofs.Tryz.f91 = some F91 := by kernel_rfl
theorem F92_eq : cF Go.Proofs.Tryz.prog 0 (planOf Go.Proofs.Tryz.prog 0) Go.Proofs.Tryz.f92 = some F92 := by kernel_rfl
theorem F93_eq : cF Go.Proofs.Tryz.prog 0 (planOf Go.Proofs.Tryz.prog 0) Go.Proofs.Tryz.f93 = some F93 := by kernel_rfl
theorem F94_eq : cF Go.Proofs.Tryz.prog 0 (planOf Go.Proofs.Tryz.prog 0) Go.Proofs.Tryz.f94 = some F94 := by kernel_rfl
theorem F95_eq : cF Go.Proofs.Tryz.prog 0 (planOf Go.Proofs.Tryz.prog 0) Go.Proofs.Tryz.f95 = some F95 := by kernel_rfl
theorem F96_eq : cF Go.Proofs.Tryz.prog 0 (planOf Go.Proofs.Tryz.prog 0) Go.Proofs.Tryz.f96 = some F96 := by kernel_rfl
theorem F97_eq : cF Go.Proofs.Tryz.prog 0 (planOf Go.Proofs.Tryz.prog 0) Go.Proofs.Tryz.f97 = some F97 := by kernel_rfl
theorem F98_eq : cF Go.Proofs.Tryz.prog 0 (planOf Go.Proofs.Tryz.prog 0) Go.Proofs.Tryz.f98 = some F98 := by kernel_rfl
theorem F99_eq : cF Go.Proofs.Tryz.prog 0 (planOf Go.Proofs.Tryz.prog 0) Go.Proofs.Tryz.f99 = some F99 := by kernel_rfl
theorem F100_eq : cF Go.Proofs.Tryz.prog 0 (planOf Go.Proofs.Tryz.prog 0) Go.Proofs.Tryz.f100 = some F100 := by kernel_rfl
theorem F101_eq : cF Go.Proofs.Tryz.prog 0 (planOf Go.Proofs.Tryz.prog 0) Go.Proofs.Tryz.f101 = some F101 := by kernel_rfl
theorem F102_eq : cF Go.Proofs.Tryz.prog 0 (planOf Go.Proofs.Tryz.prog 0) Go.Proofs.Tryz.f102 = some F102 := by kernel_rfl
theorem F103_eq : cF Go.Proofs.Tryz.prog 0 (planOf Go.Proofs.Tryz.prog 0) Go.Proofs.Tryz.f103 = some F103 := by kernel_rfl
theorem F104_eq : cF Go.Proofs.Tryz.prog 0 (planOf Go.Proofs.Tryz.prog 0) Go.Proofs.Tryz.f104 = some F104 := by kernel_rfl
theorem F105_eq : cF Go.Proofs.Tryz.prog 0 (planOf Go.Proofs.Tryz.prog 0) Go.Proofs.Tryz.f105 = some F105 := by kernel_rfl
theorem F106_eq : cF Go.Proofs.Tryz.prog 0 (planOf Go.Proofs.Tryz.prog 0) Go.Proofs.Tryz.f106 = some F106 := by kernel_rfl
theorem F108_eq : cF Go.Proofs.Tryz.prog 0 (planOf Go.Proofs.Tryz.prog 0) Go.Proofs.Tryz.f108 = some F108 := by kernel_rfl
theorem F109_eq : cF Go.Proofs.Tryz.prog 0 (planOf Go.Proofs.Tryz.prog 0) Go.Proofs.Tryz.f109 = some F109 := by kernel_rfl
theorem F110_eq : cF Go.Proofs.Tryz.prog 0 (planOf Go.Proofs.Tryz.prog 0) Go.Proofs.Tryz.f110 = some F110 := by kernel_rfl
theorem F111_eq : cF Go.Proofs.Tryz.prog 0 (planOf Go.Proofs.Tryz.prog 0) Go.Proofs.Tryz.f111 = some F111 := by kernel_rfl
theorem F112_eq : cF Go.Proofs.Tryz.prog 0 (planOf Go.Proofs.Tryz.prog 0) Go.Proofs.Tryz.f112 = some F112 := by kernel_rfl
theorem F113_eq : cF Go.Proofs.Tryz.prog 0 (planOf Go.Proofs.Tryz.prog 0) Go.Proofs.Tryz.f113 = some F113 := by kernel_rfl
theorem F114_eq : cF Go.Proofs.Tryz.prog 0 (planOf Go.Proofs.Tryz.prog 0) Go.Proofs.Tryz.f114 = some F114 := by kernel_rfl
theorem F115_eq : cF Go.Proofs.Tryz.prog 0 (planOf Go.Proofs.Tryz.prog 0) Go.Proofs.Tryz.f115 = some F115 := by kernel_rfl
theorem F116_eq : cF Go.Proofs.Tryz.prog 0 (planOf Go.Proofs.Tryz.prog 0) Go.Proofs.Tryz.f116 = some F116 := by kernel_rfl
theorem F117_eq : cF Go.Proofs.Tryz.prog 0 (planOf Go.Proofs.Tryz.prog 0) Go.Proofs.Tryz.f117 = some F117 := by kernel_rfl
theorem F118_eq : cF Go.Proofs.Tryz.prog 0 (planOf Go.Proofs.Tryz.prog 0) Go.Proofs.Tryz.f118 = some F118 := by kernel_rfl
theorem F119_eq : cF Go.Proofs.Tryz.prog 0 (planOf Go.Proofs.Tryz.prog 0) Go.Proofs.Tryz.f119 = some F119 := by kernel_rfl
theorem F120_eq : cF Go.Proofs.Tryz.prog 0 (planOf Go.Proofs.Tryz.prog 0) Go.Proofs.Tryz.f120 = some F120 := by kernel_rfl
theorem F121_eq : cF Go.Proofs.Tryz.prog 0 (planOf Go.Proofs.Tryz.prog 0) Go.Proofs.Tryz.f121 = some F121 := by kernel_rfl
theorem F122_eq : cF Go.Proofs.Tryz.prog 0 (planOf Go.Proofs.Tryz.prog 0) Go.Proofs.Tryz.f122 = some F122 := by kernel_rfl
theorem F123_eq : cF Go.Proofs.Tryz.prog 0 (planOf Go.Proofs.Tryz.prog 0) Go.Proofs.Tryz.f123 = some F123 := by kernel_rfl
theorem F124_eq : cF Go.Proofs.Tryz.prog 0 (planOf Go.Proofs.Tryz.prog 0) Go.Proofs.Tryz.f124 = some F124 := by kernel_rfl
theorem F125_eq : cF Go.Proofs.Tryz.prog 0 (planOf Go.Proofs.Tryz.prog 0) Go.Proofs.Tryz.f125 = some F125 := by kernel_rfl
theorem F126_eq : cF Go.Proofs.Tryz.prog 0 (planOf Go.Proofs.Tryz.prog 0) Go.Proofs.Tryz.f126 = some F126 := by kernel_rfl
theorem F127_eq : cF Go.Proofs.Tryz.prog 0 (planOf Go.Proofs.Tryz.prog 0) Go.Proofs.Tryz.f127 = some F127 := by kernel_rfl
theorem F128_eq : cF Go.Proofs.Tryz.prog 0 (planOf Go.Proofs.Tryz.prog 0) Go.Proofs.Tryz.f128 = some F128 := by kernel_rfl
theorem F129_eq : cF Go.Proofs.Tryz.prog 0 (planOf Go.Proofs.Tryz.prog 0) Go.Proofs.Tryz.f129 = some F129 := by kernel_rfl
theorem F130_eq : cF Go.Proofs.Tryz.prog 0 (planOf Go.Proofs.Tryz.prog 0) Go.Proofs.Tryz.f130 = some F130 := by kernel_rfl
theorem F131_eq : cF Go.Proofs.Tryz.prog 0 (planOf Go.Proofs.Tryz.prog 0) Go.Proofs.Tryz.f131 = some F131 := by kernel_rfl
theorem F132_eq : cF Go.Proofs.Tryz.prog 0 (planOf Go.Proofs.Tryz.prog 0) Go.Proofs.Tryz.f132 = some F132 := by kernel_rfl
theorem F133_eq : cF Go.Proofs.Tryz.prog 0 (planOf Go.Proofs.Tryz.prog 0) Go.Proofs.Tryz.f133 = some F133 := by kernel_rfl
theorem F134_eq : cF Go.Proofs.Tryz.prog 0 (planOf Go.Proofs.Tryz.prog 0) Go.Proofs.Tryz.f134 = some F134 := by kernel_rfl
theorem F135_eq : cF Go.Proofs.Tryz.prog 0 (planOf Go.Proofs.Tryz.prog 0) Go.Proofs.Tryz.f135 = some F135 := by kernel_rfl
theorem F136_eq : cF Go.Proofs.Tryz.prog 0 (planOf Go.Proofs.Tryz.prog 0) Go.Proofs.Tryz.f136 = some F136 := by kernel_rfl
theorem F137_eq : cF Go.Proofs.Tryz.prog 0 (planOf Go.Proofs.Tryz.prog 0) Go.Proofs.Tryz.f137 = some F137 := by kernel_rfl
theorem F138_eq : cF Go.Proofs.Tryz.prog 0 (planOf Go.Proofs.Tryz.prog 0) Go.Proofs.Tryz.f138 = some F138 := by kernel_rfl
theorem F139_eq : cF Go.Proofs.Tryz.prog 0 (planOf Go.Proofs.Tryz.prog 0) Go.Proofs.Tryz.f139 = some F139 := by kernel_rfl
theorem F140_eq : cF Go.Proofs.Tryz.prog 0 (planOf Go.Proofs.Tryz.prog 0) Go.Proofs.Tryz.f140 = some F140 := by kernel_rfl
theorem F142_eq : cF Go.Proofs.Tryz.prog 0 (planOf Go.Proofs.Tryz.prog 0) Go.Proofs.Tryz.f142 = some F142 := by kernel_rfl
theorem F143_eq : cF Go.Proofs.Tryz.prog 0 (planOf Go.Proofs.Tryz.prog 0) Go.Proofs.Tryz.f143 = some F143 := by kernel_rfl
theorem F144_eq : cF Go.Proofs.Tryz.prog 0 (planOf Go.Proofs.Tryz.prog 0) Go.Proofs.Tryz.f144 = some F144 := by kernel_rfl
theorem F145_eq : cF Go.Proofs.Tryz.prog 0 (planOf Go.Proofs.Tryz.prog 0) Go.Proofs.Tryz.f145 = some F145 := by kernel_rfl
theorem F146_eq : cF Go.Proofs.Tryz.prog 0 (planOf Go.Proofs.Tryz.prog 0) Go.Proofs.Tryz.f146 = some F146 := by kernel_rfl
theorem F147_eq : cF Go.Proofs.Tryz.prog 0 (planOf Go.Proofs.Tryz.prog 0) Go.Proofs.Tryz.f147 = some F147 := by kernel_rfl
theorem F148_eq : cF Go.Proofs.Tryz.prog 0 (planOf Go.Proofs.Tryz.prog 0) Go.Proofs.Tryz.f148 = some F148 := by kernel_rfl
theorem F149_eq : cF Go.Proofs.Tryz.prog 0 (planOf Go.Proofs.Tryz.prog 0) Go.Proofs.Tryz.f149 = some F149 := by kernel_rfl
theorem F150_eq : cF Go.Proofs.Tryz.prog 0 (planOf Go.Proofs.Tryz.prog 0) Go.Proofs.Tryz.f150 = some F150 := by kernel_rfl
theorem F151_eq : cF Go.Proofs.Tryz.prog 0 (planOf Go.Proofs.Tryz.prog 0) Go.Proofs.Tryz.f151 = some F151 := by kernel_rfl
theorem F152_eq : cF Go.Proofs.Tryz.prog 0 (planOf Go.Proofs.Tryz.prog 0) Go.Proofs.Tryz.f152 = some F152 := by kernel_rfl
theorem F153_eq : cF Go.Proofs.Tryz.prog 0 (planOf Go.Proofs.Tryz.prog 0) Go.Proofs.Tryz.f153 = some F153 := by kernel_rfl
theorem F154_eq : cF Go.Proofs.Tryz.prog 0 (planOf Go.Proofs.Tryz.prog 0) Go.Proofs.Tryz.f154 = some F154 := by kernel_rfl
theorem F155_eq : cF Go.Proofs.Tryz.prog 0 (planOf Go.Proofs.Tryz.prog 0) Go.Proofs.Tryz.f155 = some F155 := by kernel_rfl
theorem F156_eq : cF Go.Proofs.Tryz.prog 0 (planOf Go.Proofs.Tryz.prog 0) Go.Proofs.Tryz.f156 = some F156 := by kernel_rfl
theorem F157_eq : cF Go.Proofs.Tryz.prog 0 (planOf Go.Proofs.Tryz.prog 0) Go.Proofs.Tryz.f157 = some F157 := by kernel_rfl
theorem F158_eq : cF Go.Proofs.Tryz.prog 0 (planOf Go.Proofs.Tryz.prog 0) Go.Proofs.Tryz.f158 = some F158 := by kernel_rfl
theorem F159_eq : cF Go.Proofs.Tryz.prog 0 (planOf Go.Proofs.Tryz.prog 0) Go.Proofs.Tryz.f159 = some F159 := by kernel_rfl
theorem F160_eq : cF Go.Proofs.Tryz.prog 0 (planOf Go.Proofs.Tryz.prog 0) Go.Proofs.Tryz.f160 = some F160 := by kernel_rfl
theorem F161_eq : cF Go.Proofs.Tryz.prog 0 (planOf Go.Proofs.Tryz.prog 0) Go.Proofs.Tryz.f161 = some F161 := by kernel_rfl
theorem F162_eq : cF Go.Proofs.Tryz.prog 0 (planOf Go.Proofs.Tryz.prog 0) Go.Proofs.Tryz.f162 = some F162 := by kernel_rfl
theorem F163_eq : cF Go.Proofs.Tryz.prog 0 (planOf Go.Proofs.Tryz.prog 0) Go.Proofs.Tryz.f163 = some F163 := by kernel_rfl
theorem e3 {p : Path} (h : p.num = 3 := by rfl) : EntOk Go.Proofs.Tryz.prog 0 (planOf Go.Proofs.Tryz.prog 0) p (some F3) := EntOk.some Go.Proofs.Tryz.func3 F3_eq h
theorem e4 {p : Path} (h : p.num = 4 := by rfl) : EntOk Go.Proofs.Tryz.prog 0 (planOf Go.Proofs.Tryz.prog 0) p (some F4) := EntOk.some Go.Proofs.Tryz.func4 F4_eq h
theorem e5 {p : Path} (h : p.num = 5 := by rfl) : EntOk Go.Proofs.Tryz.prog 0 (planOf Go.Proofs.Tryz.prog 0) p (some F5) := EntOk.some Go.Proofs.Tryz.func5 F5_eq h
theorem e6 {p : Path} (h : p.num = 6 := by rfl) : EntOk Go.Proofs.Tryz.prog 0 (planOf Go.Proofs.Tryz.prog 0) p (some F6) := EntOk.some Go.Proofs.Tryz.func6 F6_eq h
theorem e7 {p : Path} (h : p.num = 7 := by rfl) : EntOk Go.Proofs.Tryz.prog 0 (planOf Go.Proofs.Tryz.prog 0) p (some F7) := EntOk.some Go.Proofs.Tryz.func7 F7_eq h
theorem e8 {p : Path} (h : p.num = 8 := by rfl) : EntOk Go.Proofs.Tryz.prog 0 (planOf Go.Proofs.Tryz.prog 0) p (some F8) := EntOk.some Go.Proofs.Tryz.func8 F8_eq h
theorem e9 {p : Path} (h : p.num = 9 := by rfl) : EntOk Go.Proofs.Tryz.prog 0 (planOf Go.Proofs.Tryz.prog 0) p (some F9) := EntOk.some Go.Proofs.Tryz.func9 F9_eq h
theorem e10 {p : Path} (h : p.num = 10 := by rfl) : EntOk Go.Proofs.Tryz.prog 0 (planOf Go.Proofs.Tryz.prog 0) p (some F10) := EntOk.some Go.Proofs.Tryz.func10 F10_eq h
theorem e11 {p : Path} (h : p.num = 11 := by rfl) : EntOk Go.Proofs.Tryz.prog 0 (planOf Go.Proofs.Tryz.prog 0) p (some F11) := EntOk.some Go.Proofs.Tryz.func11 F11_eq h
theorem e12 {p : Path} (h : p.num = 12 := by rfl) : EntOk Go.Proofs.Tryz.prog 0 (planOf Go.Proofs.Tryz.prog 0) p (some F12) := EntOk.some Go.Proofs.Tryz.func12 F12_eq h
theorem e13 {p : Path} (h : p.num = 13 := by rfl) : EntOk Go.Proofs.Tryz.prog 0 (planOf Go.Proofs.Tryz.prog 0) p (some F13) := EntOk.some Go.Proofs.Tryz.func13 F13_eq h
theorem e14 {p : Path} (h : p.num = 14 := by rfl) : EntOk Go.Proofs.Tryz.prog 0 (planOf Go.Proofs.Tryz.prog 0) p (some F14) := EntOk.some Go.Proofs.Tryz.func14 F14_eq h
theorem e15 {p : Path} (h : p.num = 15 := by rfl) : EntOk Go.Proofs.Tryz.prog 0 (planOf Go.Proofs.Tryz.prog 0) p (some F15) := EntOk.some Go.Proofs.Tryz.func15 F15_eq h
theorem e16 {p : Path} (h : p.num = 16 := by rfl) : EntOk Go.Proofs.Tryz.prog 0 (planOf Go.Proofs.Tryz.prog 0) p (some F16) := EntOk.some Go.Proofs.Tryz.func16 F16_eq h
theorem e17 {p : Path} (h : p.num = 17 := by rfl) : EntOk Go.Proofs.Tryz.prog 0 (planOf Go.Proofs.Tryz.prog 0) p (some F17) := EntOk.some Go.Proofs.Tryz.func17 F17_eq h
theorem e18 {p : Path} (h : p.num = 18 := by rfl) : EntOk Go.Proofs.Tryz.prog 0 (planOf Go.Proofs.Tryz.prog 0) p (some F18) := EntOk.some Go.Proofs.Tryz.func18 F18_eq h
theorem e19 {p : Path} (h : p.num = 19 := by rfl) : EntOk Go.Proofs.Tryz.prog 0 (planOf Go.Proofs.Tryz.prog 0) p (some F19) := EntOk.some Go.Proofs.Tryz.func19 F19_eq h
theorem e20 {p : Path} (h : p.num = 20 := by rfl) : EntOk Go.Proofs.Tryz.prog 0 (planOf Go.Proofs.Tryz.prog 0) p (some F20) := EntOk.some Go.Proofs.Tryz.func20 F20_eq h
theorem e21 {p : Path} (h : p.num = 21 := by rfl) : EntOk Go.Proofs.Tryz.prog 0 (planOf Go.Proofs.Tryz.prog 0) p (some F21) := EntOk.some Go.Proofs.Tryz.func21 F21_eq h
theorem e22 {p : Path} (h : p.num = 22 := by rfl) : EntOk Go.Proofs.Tryz.prog 0 (planOf Go.Proofs.Tryz.prog 0) p (some F22) := EntOk.some Go.Proofs.Tryz.func22 F22_eq h
theorem e23 {p : Path} (h : p.num = 23 := by rfl) : EntOk Go.Proofs.Tryz.prog 0 (planOf Go.Proofs.Tryz.prog 0) p (some F23) := EntOk.some Go.Proofs.Tryz.func23 F23_eq h
theorem e24 {p : Path} (h : p.num = 24 := by rfl) : EntOk Go.Proofs.Tryz.prog 0 (planOf Go.Proofs.Tryz.prog 0) p (some F24) := EntOk.some Go.Proofs.Tryz.func24 F24_eq h
theorem e25 {p : Path} (h : p.num = 25 := by rfl) : EntOk Go.Proofs.Tryz.prog 0 (planOf Go.Proofs.Tryz.prog 0) p (some F25) := EntOk.some Go.Proofs.Tryz.func25 F25_eq h
theorem e26 {p : Path} (h : p.num = 26 := by rfl) : EntOk Go.Proofs.Tryz.prog 0 (planOf Go.Proofs.Tryz.prog 0) p (some F26) := EntOk.some Go.Proofs.Tryz.func26 F26_eq h
theorem e27 {p : Path} (h : p.num = 27 := by rfl) : EntOk Go.Proofs.Tryz.prog 0 (planOf Go.Proofs.Tryz.prog 0) p (some F27) := EntOk.some Go.Proofs.Tryz.func27 F27_eq h
theorem e28 {p : Path} (h : p.num = 28 := by rfl) : EntOk Go.Proofs.Tryz.prog 0 (planOf Go.Proofs.Tryz.prog 0) p (some F28) := EntOk.some Go.Proofs.Tryz.func28 F28_eq h
theorem e29 {p : Path} (h : p.num = 29 := by rfl) : EntOk Go.Proofs.Tryz.prog 0 (planOf Go.Proofs.Tryz.prog 0) p (some F29) := EntOk.some Go.Proofs.Tryz.func29 F29_eq h
theorem e30 {p : Path} (h : p.num = 30 := by rfl) : EntOk Go.Proofs.Tryz.prog 0 (planOf Go.Proofs.Tryz.prog 0) p (some F30) := EntOk.some Go.Proofs.Tryz.func30 F30_eq h
theorem e31 {p : Path} (h : p.num = 31 := by rfl) : EntOk Go.Proofs.Tryz.prog 0 (planOf Go.Proofs.Tryz.prog 0) p (some F31) := EntOk.some Go.Proofs.Tryz.func31 F31_eq h
theorem e32 {p : Path} (h : p.num = 32 := by rfl) : EntOk Go.Proofs.Tryz.prog 0 (planOf Go.Proofs.Tryz.prog 0) p (some F32) := EntOk.some Go.Proofs.Tryz.func32 F32_eq h
theorem e33 {p : Path} (h : p.num = 33 := by rfl) : EntOk Go.Proofs.Tryz.prog 0 (planOf Go.Proofs.Tryz.prog 0) p (some F33) := EntOk.some Go.Proofs.Tryz.func33 F33_eq h
theorem e34 {p : Path} (h : p.num = 34 := by rfl) : EntOk Go.Proofs.Tryz.prog 0 (planOf Go.Proofs.Tryz.prog 0) p (some F34) := EntOk.some Go.Proofs.Tryz.func34 F34_eq h
theorem e35 {p : Path} (h : p.num = 35 := by rfl) : EntOk Go.Proofs.Tryz.prog 0 (planOf Go.Proofs.Tryz.prog 0) p (some F35) := EntOk.some Go.Proofs.Tryz.func35 F35_eq h
theorem e36 {p : Path} (h : p.num = 36 := by rfl) : EntOk Go.Proofs.Tryz.prog 0 (planOf Go.Proofs.Tryz.prog 0) p (some F36) := EntOk.some Go.Proofs.Tryz.func36 F36_eq h
theorem e37 {p : Path} (h : p.num = 37 := by rfl) : EntOk Go.Proofs.Tryz.prog 0 (planOf Go.Proofs.Tryz.prog 0) p (some F37) := EntOk.some Go.Proofs.Tryz.func37 F37_eq h
theorem e38 {p : Path} (h : p.num = 38 := by rfl) : EntOk Go.Proofs.Tryz.prog 0 (planOf Go.Proofs.Tryz.prog 0) p (some F38) := EntOk.some Go.Proofs.Tryz.func38 F38_eq h
theorem e39 {p : Path} (h : p.num = 39 := by rfl) : EntOk Go.Proofs.Tryz.prog 0 (planOf Go.Proofs.Tryz.prog 0) p (some F39) := EntOk.some Go.Proofs.Tryz.func39 F39_eq h
theorem e40 {p : Path} (h : p.num = 40 := by rfl) : EntOk Go.Proofs.Tryz.prog 0 (planOf Go.Proofs.Tryz.prog 0) p (some F40) := EntOk.some Go.Proofs.Tryz.func40 F40_eq h
theorem e41 {p : Path} (h : p.num = 41 := by rfl) : EntOk Go.Proofs.Tryz.prog 0 (planOf Go.Proofs.Tryz.prog 0) p (some F41) := EntOk.some Go.Proofs.Tryz.func41 F41_eq h
theorem e42 {p : Path} (h : p.num = 42 := by rfl) : EntOk Go.Proofs.Tryz.prog 0 (planOf Go.Proofs.Tryz.prog 0) p (some F42) := EntOk.some Go.Proofs.Tryz.func42 F42_eq h
theorem e43 {p : Path} (h : p.num = 43 := by rfl) : EntOk Go.Proofs.Tryz.prog 0 (planOf Go.Proofs.Tryz.prog 0) p (some F43) := EntOk.some Go.Proofs.Tryz.func43 F43_eq h
theorem e44 {p : Path} (h : p.num = 44 := by rfl) : EntOk Go.Proofs.Tryz.prog 0 (planOf Go.Proofs.Tryz.prog 0) p (some F44) := EntOk.some Go.Proofs.Tryz.func44 F44_eq h
theorem e45 {p : Path} (h : p.num = 45 := by rfl) : EntOk Go.Proofs.Tryz.prog 0 (planOf Go.Proofs.Tryz.prog 0) p (some F45) := EntOk.some Go.Proofs.Tryz.func45 F45_eq h
theorem e46 {p : Path} (h : p.num = 46 := by rfl) : EntOk Go.Proofs.Tryz.prog 0 (planOf Go.Proofs.Tryz.prog 0) p (some F46) := EntOk.some Go.Proofs.Tryz.func46 F46_eq h
theorem e47 {p : Path} (h : p.num = 47 := by rfl) : EntOk Go.Proofs.Tryz.prog 0 (planOf Go.Proofs.Tryz.prog 0) p (some F47) := EntOk.some Go.Proofs.Tryz.func47 F47_eq h
theorem e48 {p : Path} (h : p.num = 48 := by rfl) : EntOk Go.Proofs.Tryz.prog 0 (planOf Go.Proofs.Tryz.prog 0) p (some F48) := EntOk.some Go.Proofs.Tryz.func48 F48_eq h
theorem e49 {p : Path} (h : p.num = 49 := by rfl) : EntOk Go.Proofs.Tryz.prog 0 (planOf Go.Proofs.Tryz.prog 0) p (some F49) := EntOk.some Go.Proofs.Tryz.func49 F49_eq h
theorem e50 {p : Path} (h : p.num = 50 := by rfl) : EntOk Go.Proofs.Tryz.prog 0 (planOf Go.Proofs.Tryz.prog 0) p (some F50) := EntOk.some Go.Proofs.Tryz.func50 F50_eq h
theorem e51 {p : Path} (h : p.num = 51 := by rfl) : EntOk Go.Proofs.Tryz.prog 0 (planOf Go.Proofs.Tryz.prog 0) p (some F51) := EntOk.some Go.Proofs.Tryz.func51 F51_eq h
theorem e52 {p : Path} (h : p.num = 52 := by rfl) : EntOk Go.Proofs.Tryz.prog 0 (planOf Go.Proofs.Tryz.prog 0) p (some F52) := EntOk.some Go.Proofs.Tryz.func52 F52_eq h
theorem e53 {p : Path} (h : p.num = 53 := by rfl) : EntOk Go.Proofs.Tryz.prog 0 (planOf Go.Proofs.Tryz.prog 0) p (some F53) := EntOk.some Go.Proofs.Tryz.func53 F53_eq h
theorem e54 {p : Path} (h : p.num = 54 := by rfl) : EntOk Go.Proofs.Tryz.prog 0 (planOf Go.Proofs.Tryz.prog 0) p (some F54) := EntOk.some Go.Proofs.Tryz.func54 F54_eq h
theorem e55 {p : Path} (h : p.num = 55 := by rfl) : EntOk Go.Proofs.Tryz.prog 0 (planOf Go.Proofs.Tryz.prog 0) p (some F55) := EntOk.some Go.Proofs.Tryz.func55 F55_eq h
theorem e56 {p : Path} (h : p.num = 56 := by rfl) : EntOk Go.Proofs.Tryz.prog 0 (planOf Go.Proofs.Tryz.prog 0) p (some F56) := EntOk.some Go.Proofs.Tryz.func56 F56_eq h
theorem e57 {p : Path} (h : p.num = 57 := by rfl) : EntOk Go.Proofs.Tryz.prog 0 (planOf Go.Proofs.Tryz.prog 0) p (some F57) := EntOk.some Go.Proofs.Tryz.func57 F57_eq h
theorem e58 {p : Path} (h : p.num = 58 := by rfl) : EntOk Go.Proofs.Tryz.prog 0 (planOf Go.Proofs.Tryz.prog 0) p (some F58) := EntOk.some Go.Proofs.Tryz.func58 F58_eq h
theorem e59 {p : Path} (h : p.num = 59 := by rfl) : EntOk Go.Proofs.Tryz.prog 0 (planOf Go.Proofs.Tryz.prog 0) p (some F59) := EntOk.some Go.Proofs.Tryz.func59 F59_eq h
theorem e60 {p : Path} (h : p.num = 60 := by rfl) : EntOk Go.Proofs.Tryz.prog 0 (planOf Go.Proofs.Tryz.prog 0) p (some F60) := EntOk.some Go.Proofs.Tryz.func60 F60_eq h
theorem e61 {p : Path} (h : p.num = 61 := by rfl) : EntOk Go.Proofs.Tryz.prog 0 (planOf Go.Proofs.Tryz.prog 0) p (some F61) := EntOk.some Go.Proofs.Tryz.func61 F61_eq h
theorem e62 {p : Path} (h : p.num = 62 := by rfl) : EntOk Go.Proofs.Tryz.prog 0 (planOf Go.Proofs.Tryz.prog 0) p (some F62) := EntOk.some Go.Proofs.Tryz.func62 F62_eq h
theorem e63 {p : Path} (h : p.num = 63 := by rfl) : EntOk Go.Proofs.Tryz.prog 0 (planOf Go.Proofs.Tryz.prog 0) p (some F63) := EntOk.some Go.Proofs.Tryz.func63 F63_eq h
theorem e64 {p : Path} (h : p.num = 64 := by rfl) : EntOk Go.Proofs.Tryz.prog 0 (planOf Go.Proofs.Tryz.prog 0) p (some F64) := EntOk.some Go.Proofs.Tryz.func64 F64_eq h
theorem e65 {p : Path} (h : p.num = 65 := by rfl) : EntOk Go.Proofs.Tryz.prog 0 (planOf Go.Proofs.Tryz.prog 0) p (some F65) := EntOk.some Go.Proofs.Tryz.func65 F65_eq h
theorem e66 {p : Path} (h : p.num = 66 := by rfl) : EntOk Go.Proofs.Tryz.prog 0 (planOf Go.Proofs.Tryz.prog 0) p (some F66) := EntOk.some Go.Proofs.Tryz.func66 F66_eq h
theorem e67 {p : Path} (h : p.num = 67 := by rfl) : EntOk Go.Proofs.Tryz.prog 0 (planOf Go.Proofs.Tryz.prog 0) p (some F67) := EntOk.some Go.Proofs.Tryz.func67 F67_eq h
theorem e68 {p : Path} (h : p.num = 68 := by rfl) : EntOk Go.Proofs.Tryz.prog 0 (planOf Go.Proofs.Tryz.prog 0) p (some F68) := EntOk.some Go.Proofs.Tryz.func68 F68_eq h
theorem e69 {p : Path} (h : p.num = 69 := by rfl) : EntOk Go.Proofs.Tryz.prog 0 (planOf Go.Proofs.Tryz.prog 0) p (some F69) := EntOk.some Go.Proofs.Tryz.func69 F69_eq h
theorem e70 {p : Path} (h : p.num = 70 := by rfl) : EntOk Go.Proofs.Tryz.prog 0 (planOf Go.Proofs.Tryz.prog 0) p (some F70) := EntOk.some Go.Proofs.Tryz.func70 F70_eq h
theorem e71 {p : Path} (h : p.num = 71 := by rfl) : EntOk Go.Proofs.Tryz.prog 0 (planOf Go.Proofs.Tryz.prog 0) p (some F71) := EntOk.some Go.Proofs.Tryz.func71 F71_eq h
theorem e72 {p : Path} (h : p.num = 72 := by rfl) : EntOk Go.Proofs.Tryz.prog 0 (planOf Go.Proofs.Tryz.prog 0) p (some F72) := EntOk.some Go.Proofs.Tryz.func72 F72_eq h
theorem e73 {p : Path} (h : p.num = 73 := by rfl) : EntOk Go.Proofs.Tryz.prog 0 (planOf Go.Proofs.Tryz.prog 0) p (some F73) := EntOk.some Go.Proofs.Tryz.func73 F73_eq h
theorem e74 {p : Path} (h : p.num = 74 := by rfl) : EntOk Go.Proofs.Tryz.prog 0 (planOf Go.Proofs.Tryz.prog 0) p (some F74) := EntOk.some Go.Proofs.Tryz.func74 F74_eq h
theorem e75 {p : Path} (h : p.num = 75 := by rfl) : EntOk Go.Proofs.Tryz.prog 0 (planOf Go.Proofs.Tryz.prog 0) p (some F75) := EntOk.some Go.Proofs.Tryz.func75 F75_eq h
theorem e76 {p : Path} (h : p.num = 76 := by rfl) : EntOk Go.Proofs.Tryz.prog 0 (planOf Go.Proofs.Tryz.prog 0) p (some F76) := EntOk.some Go.Proofs.Tryz.func76 F76_eq h
theorem e77 {p : Path} (h : p.num = 77 := by rfl) : EntOk Go.Proofs.Tryz.prog 0 (planOf Go.Proofs.Tryz.prog 0) p (some F77) := EntOk.some Go.Proofs.Tryz.func77 F77_eq h
theorem e78 {p : Path} (h : p.num = 78 := by rfl) : EntOk Go.Proofs.Tryz.prog 0 (planOf Go.Proofs.Tryz.prog 0) p (some F78) := EntOk.some Go.Proofs.Tryz.func78 F78_eq h
theorem e79 {p : Path} (h : p.num = 79 := by rfl) : EntOk Go.Proofs.Tryz.prog 0 (planOf Go.Proofs.Tryz.prog 0) p (some F79) := EntOk.some Go.Proofs.Tryz.func79 F79_eq h
theorem e80 {p : Path} (h : p.num = 80 := by rfl) : EntOk Go.Proofs.Tryz.prog 0 (planOf Go.Proofs.Tryz.prog 0) p (some F80) := EntOk.some Go.Proofs.Tryz.func80 F80_eq h
theorem e81 {p : Path} (h : p.num = 81 := by rfl) : EntOk Go.Proofs.Tryz.prog 0 (planOf Go.Proofs.Tryz.prog 0) p (some F81) := EntOk.some Go.Proofs.Tryz.func81 F81_eq h
theorem e82 {p : Path} (h : p.num = 82 := by rfl) : EntOk Go.Proofs.Tryz.prog 0 (planOf Go.Proofs.Tryz.prog 0) p (some F82) := EntOk.some Go.Proofs.Tryz.func82 F82_eq h
theorem e83 {p : Path} (h : p.num = 83 := by rfl) : EntOk Go.Proofs.Tryz.prog 0 (planOf Go.Proofs.Tryz.prog 0) p (some F83) := EntOk.some Go.Proofs.Tryz.func83 F83_eq h
theorem e84 {p : Path} (h : p.num = 84 := by rfl) : EntOk Go.Proofs.Tryz.prog 0 (planOf Go.Proofs.Tryz.prog 0) p (some F84) := EntOk.some Go.Proofs.Tryz.func84 F84_eq h
theorem e85 {p : Path} (h : p.num = 85 := by rfl) : EntOk Go.Proofs.Tryz.prog 0 (planOf Go.Proofs.Tryz.prog 0) p (some F85) := EntOk.some Go.Proofs.Tryz.func85 F85_eq h
theorem e86 {p : Path} (h : p.num = 86 := by rfl) : EntOk Go.Proofs.Tryz.prog 0 (planOf Go.Proofs.Tryz.prog 0) p (some F86) := EntOk.some Go.Proofs.Tryz.func86 F86_eq h
theorem e87 {p : Path} (h : p.num = 87 := by rfl) : EntOk Go.Proofs.Tryz.prog 0 (planOf Go.Proofs.Tryz.prog 0) p (some F87) := EntOk.some Go.Proofs.Tryz.func87 F87_eq h
theorem e88 {p : Path} (h : p.num = 88 := by rfl) : EntOk Go.Proofs.Tryz.prog 0 (planOf Go.Proofs.Tryz.prog 0) p (some F88) := EntOk.some Go.Proofs.Tryz.func88 F88_eq h
theorem e89 {p : Path} (h : p.num = 89 := by rfl) : EntOk Go.Proofs.Tryz.prog 0 (planOf Go.Proofs.Tryz.prog 0) p (some F89) := EntOk.some Go.Proofs.Tryz.func89 F89_eq h
theorem e90 {p : Path} (h : p.num = 90 := by rfl) : EntOk Go.Proofs.Tryz.prog 0 (planOf Go.Proofs.Tryz.prog 0) p (some F90) := EntOk.some Go.Proofs.Tryz.func90 F90_eq h
theorem e91 {p : Path} (h : p.num = 91 := by rfl) : EntOk Go.Proofs.Tryz.prog 0 (planOf Go.Proofs.Tryz.prog 0) p (some F91) := EntOk.some Go.Proofs.Tryz.func91 F91_eq h
theorem e92 {p : Path} (h : p.num = 92 := by rfl) : EntOk Go.Proofs.Tryz.prog 0 (planOf Go.Proofs.Tryz.prog 0) p (some F92) := EntOk.some Go.Proofs.Tryz.func92 F92_eq h
theorem e93 {p : Path} (h : p.num = 93 := by rfl) : EntOk Go.Proofs.Tryz.prog 0 (planOf Go.Proofs.Tryz.prog 0) p (some F93) := EntOk.some Go.Proofs.Tryz.func93 F93_eq h
theorem e94 {p : Path} (h : p.num = 94 := by rfl) : EntOk Go.Proofs.Tryz.prog 0 (planOf Go.Proofs.Tryz.prog 0) p (some F94) := EntOk.some Go.Proofs.Tryz.func94 F94_eq h
theorem e95 {p : Path} (h : p.num = 95 := by rfl) : EntOk Go.Proofs.Tryz.prog 0 (planOf Go.Proofs.Tryz.prog 0) p (some F95) := EntOk.some Go.Proofs.Tryz.func95 F95_eq h
theorem e96 {p : Path} (h : p.num = 96 := by rfl) : EntOk Go.Proofs.Tryz.prog 0 (planOf Go.Proofs.Tryz.prog 0) p (some F96) := EntOk.some Go.Proofs.Tryz.func96 F96_eq h
theorem e97 {p : Path} (h : p.num = 97 := by rfl) : EntOk Go.Proofs.Tryz.prog 0 (planOf Go.Proofs.Tryz.prog 0) p (some F97) := EntOk.some Go.Proofs.Tryz.func97 F97_eq h
theorem e98 {p : Path} (h : p.num = 98 := by rfl) : EntOk Go.Proofs.Tryz.prog 0 (planOf Go.Proofs.Tryz.prog 0) p (some F98) := EntOk.some Go.Proofs.Tryz.func98 F98_eq h
theorem e99 {p : Path} (h : p.num = 99 := by rfl) : EntOk Go.Proofs.Tryz.prog 0 (planOf Go.Proofs.Tryz.prog 0) p (some F99) := EntOk.some Go.Proofs.Tryz.func99 F99_eq h
theorem e100 {p : Path} (h : p.num = 100 := by rfl) : EntOk Go.Proofs.Tryz.prog 0 (planOf Go.Proofs.Tryz.prog 0) p (some F100) := EntOk.some Go.Proofs.Tryz.func100 F100_eq h
theorem e101 {p : Path} (h : p.num = 101 := by rfl) : EntOk Go.Proofs.Tryz.prog 0 (planOf Go.Proofs.Tryz.prog 0) p (some F101) := EntOk.some Go.Proofs.Tryz.func101 F101_eq h
theorem e102 {p : Path} (h : p.num = 102 := by rfl) : EntOk Go.Proofs.Tryz.prog 0 (planOf Go.Proofs.Tryz.prog 0) p (some F102) := EntOk.some Go.Proofs.Tryz.func102 F102_eq h
theorem e103 {p : Path} (h : p.num = 103 := by rfl) : EntOk Go.Proofs.Tryz.prog 0 (planOf Go.Proofs.Tryz.prog 0) p (some F103) := EntOk.some Go.Proofs.Tryz.func103 F103_eq h
theorem e104 {p : Path} (h : p.num = 104 := by rfl) : EntOk Go.Proofs.Tryz.prog 0 (planOf Go.Proofs.Tryz.prog 0) p (some F104) := EntOk.some Go.Proofs.Tryz.func104 F104_eq h
theorem e105 {p : Path} (h : p.num = 105 := by rfl) : EntOk Go.Proofs.Tryz.prog 0 (planOf Go.Proofs.Tryz.prog 0) p (some F105) := EntOk.some Go.Proofs.Tryz.func105 F105_eq h
theorem e106 {p : Path} (h : p.num = 106 := by rfl) : EntOk Go.Proofs.Tryz.prog 0 (planOf Go.Proofs.Tryz.prog 0) p (some F106) := EntOk.some Go.Proofs.Tryz.func106 F106_eq h
theorem e108 {p : Path} (h : p.num = 108 := by rfl) : EntOk Go.Proofs.Tryz.prog 0 (planOf Go.Proofs.Tryz.prog 0) p (some F108) := EntOk.some Go.Proofs.Tryz.func108 F108_eq h
theorem e109 {p : Path} (h : p.num = 109 := by rfl) : EntOk Go.Proofs.Tryz.prog 0 (planOf Go.Proofs.Tryz.prog 0) p (some F109) := EntOk.some Go.Proofs.Tryz.func109 F109_eq h
theorem e110 {p : Path} (h : p.num = 110 := by rfl) : EntOk Go.Proofs.Tryz.prog 0 (planOf Go.Proofs.Tryz.prog 0) p (some F110) := EntOk.some Go.Proofs.Tryz.func110 F110_eq h
theorem e111 {p : Path} (h : p.num = 111 := by rfl) : EntOk Go.Proofs.Tryz.prog 0 (planOf Go.Proofs.Tryz.prog 0) p (some F111) := EntOk.some Go.Proofs.Tryz.func111 F111_eq h
theorem e112 {p : Path} (h : p.num = 112 := by rfl) : EntOk Go.Proofs.Tryz.prog 0 (planOf Go.Proofs.Tryz.prog 0) p (some F112) := EntOk.some Go.Proofs.Tryz.func112 F112_eq h
theorem e113 {p : Path} (h : p.num = 113 := by rfl) : EntOk Go.Proofs.Tryz.prog 0 (planOf Go.Proofs.Tryz.prog 0) p (some F113) := EntOk.some Go.Proofs.Tryz.func113 F113_eq h
theorem e114 {p : Path} (h : p.num = 114 := by rfl) : EntOk Go.Proofs.Tryz.prog 0 (planOf Go.Proofs.Tryz.prog 0) p (some F114) := EntOk.some Go.Proofs.Tryz.func114 F114_eq h
theorem e115 {p : Path} (h : p.num = 115 := by rfl) : EntOk Go.Proofs.Tryz.prog 0 (planOf Go.Proofs.Tryz.prog 0) p (some F115) := EntOk.some Go.Proofs.Tryz.func115 F115_eq h
theorem e116 {p : Path} (h : p.num = 116 := by rfl) : EntOk Go.Proofs.Tryz.prog 0 (planOf Go.Proofs.Tryz.prog 0) p (some F116) := EntOk.some Go.Proofs.Tryz.func116 F116_eq h
theorem e117 {p : Path} (h : p.num = 117 := by rfl) : EntOk Go.Proofs.Tryz.prog 0 (planOf Go.Proofs.Tryz.prog 0) p (some F117) := EntOk.some Go.Proofs.Tryz.func117 F117_eq h
theorem e118 {p : Path} (h : p.num = 118 := by rfl) : EntOk Go.Proofs.Tryz.prog 0 (planOf Go.Proofs.Tryz.prog 0) p (some F118) := EntOk.some Go.Proofs.Tryz.func118 F118_eq h
theorem e119 {p : Path} (h : p.num = 119 := by rfl) : EntOk Go.Proofs.Tryz.prog 0 (planOf Go.Proofs.Tryz.prog 0) p (some F119) := EntOk.some Go.Proofs.Tryz.func119 F119_eq h
theorem e120 {p : Path} (h : p.num = 120 := by rfl) : EntOk Go.Proofs.Tryz.prog 0 (planOf Go.Proofs.Tryz.prog 0) p (some F120) := EntOk.some Go.Proofs.Tryz.func120 F120_eq h
theorem e121 {p : Path} (h : p.num = 121 := by rfl) : EntOk Go.Proofs.Tryz.prog 0 (planOf Go.Proofs.Tryz.prog 0) p (some F121) := EntOk.some Go.Proofs.Tryz.func121 F121_eq h
theorem e122 {p : Path} (h : p.num = 122 := by rfl) : EntOk Go.Proofs.Tryz.prog 0 (planOf Go.Proofs.Tryz.prog 0) p (some F122) := EntOk.some Go.Proofs.Tryz.func122 F122_eq h
theorem e123 {p : Path} (h : p.num = 123 := by rfl) : EntOk Go.Proofs.Tryz.prog 0 (planOf Go.Proofs.Tryz.prog 0) p (some F123) := EntOk.some Go.Proofs.Tryz.func123 F123_eq h
theorem e124 {p : Path} (h : p.num = 124 := by rfl) : EntOk Go.Proofs.Tryz.prog 0 (planOf Go.Proofs.Tryz.prog 0) p (some F124) := EntOk.some Go.Proofs.Tryz.func124 F124_eq h
theorem e125 {p : Path} (h : p.num = 125 := by rfl) : EntOk Go.Proofs.Tryz.prog 0 (planOf Go.Proofs.Tryz.prog 0) p (some F125) := EntOk.some Go.Proofs.Tryz.func125 F125_eq h
theorem e126 {p : Path} (h : p.num = 126 := by rfl) : EntOk Go.Proofs.Tryz.prog 0 (planOf Go.Proofs.Tryz.prog 0) p (some F126) := EntOk.some Go.Proofs.Tryz.func126 F126_eq h
theorem e127 {p : Path} (h : p.num = 127 := by rfl) : EntOk Go.Proofs.Tryz.prog 0 (planOf Go.Proofs.Tryz.prog 0) p (some F127) := EntOk.some Go.Proofs.Tryz.func127 F127_eq h
theorem e128 {p : Path} (h : p.num = 128 := by rfl) : EntOk Go.Proofs.Tryz.prog 0 (planOf Go.Proofs.Tryz.prog 0) p (some F128) := EntOk.some Go.Proofs.Tryz.func128 F128_eq h
theorem e129 {p : Path} (h : p.num = 129 := by rfl) : EntOk Go.Proofs.Tryz.prog 0 (planOf Go.Proofs.Tryz.prog 0) p (some F129) := EntOk.some Go.Proofs.Tryz.func129 F129_eq h
theorem e130 {p : Path} (h : p.num = 130 := by rfl) : EntOk Go.Proofs.Tryz.prog 0 (planOf Go.Proofs.Tryz.prog 0) p (some F130) := EntOk.some Go.Proofs.Tryz.func130 F130_eq h
theorem e131 {p : Path} (h : p.num = 131 := by rfl) : EntOk Go.Proofs.Tryz.prog 0 (planOf Go.Proofs.Tryz.prog 0) p (some F131) := EntOk.some Go.Proofs.Tryz.func131 F131_eq h
theorem e132 {p : Path} (h : p.num = 132 := by rfl) : EntOk Go.Proofs.Tryz.prog 0 (planOf Go.Proofs.Tryz.prog 0) p (some F132) := EntOk.some Go.Proofs.Tryz.func132 F132_eq h
theorem e133 {p : Path} (h : p.num = 133 := by rfl) : EntOk Go.Proofs.Tryz.prog 0 (planOf Go.Proofs.Tryz.prog 0) p (some F133) := EntOk.some Go.Proofs.Tryz.func133 F133_eq h
theorem e134 {p : Path} (h : p.num = 134 := by rfl) : EntOk Go.Proofs.Tryz.prog 0 (planOf Go.Proofs.Tryz.prog 0) p (some F134) := EntOk.some Go.Proofs.Tryz.func134 F134_eq h
theorem e135 {p : Path} (h : p.num = 135 := by rfl) : EntOk Go.Proofs.Tryz.prog 0 (planOf Go.Proofs.Tryz.prog 0) p (some F135) := EntOk.some Go.Proofs.Tryz.func135 F135_eq h
theorem e136 {p : Path} (h : p.num = 136 := by rfl) : EntOk Go.Proofs.Tryz.prog 0 (planOf Go.Proofs.Tryz.prog 0) p (some F136) := EntOk.some Go.Proofs.Tryz.func136 F136_eq h
theorem e137 {p : Path} (h : p.num = 137 := by rfl) : EntOk Go.Proofs.Tryz.prog 0 (planOf Go.Proofs.Tryz.prog 0) p (some F137) := EntOk.some Go.Proofs.Tryz.func137 F137_eq h
theorem e138 {p : Path} (h : p.num = 138 := by rfl) : EntOk Go.Proofs.Tryz.prog 0 (planOf Go.Proofs.Tryz.prog 0) p (some F138) := EntOk.some Go.Proofs.Tryz.func138 F138_eq h
theorem e139 {p : Path} (h : p.num = 139 := by rfl) : EntOk Go.Proofs.Tryz.prog 0 (planOf Go.Proofs.Tryz.prog 0) p (some F139) := EntOk.some Go.Proofs.Tryz.func139 F139_eq h
theorem e140 {p : Path} (h : p.num = 140 := by rfl) : EntOk Go.Proofs.Tryz.prog 0 (planOf Go.Proofs.Tryz.prog 0) p (some F140) := EntOk.some Go.Proofs.Tryz.func140 F140_eq h
theorem e142 {p : Path} (h : p.num = 142 := by rfl) : EntOk Go.Proofs.Tryz.prog 0 (planOf Go.Proofs.Tryz.prog 0) p (some F142) := EntOk.some Go.Proofs.Tryz.func142 F142_eq h
theorem e143 {p : Path} (h : p.num = 143 := by rfl) : EntOk Go.Proofs.Tryz.prog 0 (planOf Go.Proofs.Tryz.prog 0) p (some F143) := EntOk.some Go.Proofs.Tryz.func143 F143_eq h
theorem e144 {p : Path} (h : p.num = 144 := by rfl) : EntOk Go.Proofs.Tryz.prog 0 (planOf Go.Proofs.Tryz.prog 0) p (some F144) := EntOk.some Go.Proofs.Tryz.func144 F144_eq h
theorem e145 {p : Path} (h : p.num = 145 := by rfl) : EntOk Go.Proofs.Tryz.prog 0 (planOf Go.Proofs.Tryz.prog 0) p (some F145) := EntOk.some Go.Proofs.Tryz.func145 F145_eq h
theorem e146 {p : Path} (h : p.num = 146 := by rfl) : EntOk Go.Proofs.Tryz.prog 0 (planOf Go.Proofs.Tryz.prog 0) p (some F146) := EntOk.some Go.Proofs.Tryz.func146 F146_eq h
theorem e147 {p : Path} (h : p.num = 147 := by rfl) : EntOk Go.Proofs.Tryz.prog 0 (planOf Go.Proofs.Tryz.prog 0) p (some F147) := EntOk.some Go.Proofs.Tryz.func147 F147_eq h
theorem e148 {p : Path} (h : p.num = 148 := by rfl) : EntOk Go.Proofs.Tryz.prog 0 (planOf Go.Proofs.Tryz.prog 0) p (some F148) := EntOk.some Go.Proofs.Tryz.func148 F148_eq h
theorem e149 {p : Path} (h : p.num = 149 := by rfl) : EntOk Go.Proofs.Tryz.prog 0 (planOf Go.Proofs.Tryz.prog 0) p (some F149) := EntOk.some Go.Proofs.Tryz.func149 F149_eq h
theorem e150 {p : Path} (h : p.num = 150 := by rfl) : EntOk Go.Proofs.Tryz.prog 0 (planOf Go.Proofs.Tryz.prog 0) p (some F150) := EntOk.some Go.Proofs.Tryz.func150 F150_eq h
theorem e151 {p : Path} (h : p.num = 151 := by rfl) : EntOk Go.Proofs.Tryz.prog 0 (planOf Go.Proofs.Tryz.prog 0) p (some F151) := EntOk.some Go.Proofs.Tryz.func151 F151_eq h
theorem e152 {p : Path} (h : p.num = 152 := by rfl) : EntOk Go.Proofs.Tryz.prog 0 (planOf Go.Proofs.Tryz.prog 0) p (some F152) := EntOk.some Go.Proofs.Tryz.func152 F152_eq h
theorem e153 {p : Path} (h : p.num = 153 := by rfl) : EntOk Go.Proofs.Tryz.prog 0 (planOf Go.Proofs.Tryz.prog 0) p (some F153) := EntOk.some Go.Proofs.Tryz.func153 F153_eq h
theorem e154 {p : Path} (h : p.num = 154 := by rfl) : EntOk Go.Proofs.Tryz.prog 0 (planOf Go.Proofs.Tryz.prog 0) p (some F154) := EntOk.some Go.Proofs.Tryz.func154 F154_eq h
theorem e155 {p : Path} (h : p.num = 155 := by rfl) : EntOk Go.Proofs.Tryz.prog 0 (planOf Go.Proofs.Tryz.prog 0) p (some F155) := EntOk.some Go.Proofs.Tryz.func155 F155_eq h
theorem e156 {p : Path} (h : p.num = 156 := by rfl) : EntOk Go.Proofs.Tryz.prog 0 (planOf Go.Proofs.Tryz.prog 0) p (some F156) := EntOk.some Go.Proofs.Tryz.func156 F156_eq h
theorem e157 {p : Path} (h : p.num = 157 := by rfl) : EntOk Go.Proofs.Tryz.prog 0 (planOf Go.Proofs.Tryz.prog 0) p (some F157) := EntOk.some Go.Proofs.Tryz.func157 F157_eq h
theorem e158 {p : Path} (h : p.num = 158 := by rfl) : EntOk Go.Proofs.Tryz.prog 0 (planOf Go.Proofs.Tryz.prog 0) p (some F158) := EntOk.some Go.Proofs.Tryz.func158 F158_eq h
theorem e159 {p : Path} (h : p.num = 159 := by rfl) : EntOk Go.Proofs.Tryz.prog 0 (planOf Go.Proofs.Tryz.prog 0) p (some F159) := EntOk.some Go.Proofs.Tryz.func159 F159_eq h
theorem e160 {p : Path} (h : p.num = 160 := by rfl) : EntOk Go.Proofs.Tryz.prog 0 (planOf Go.Proofs.Tryz.prog 0) p (some F160) := EntOk.some Go.Proofs.Tryz.func160 F160_eq h
theorem e161 {p : Path} (h : p.num = 161 := by rfl) : EntOk Go.Proofs.Tryz.prog 0 (planOf Go.Proofs.Tryz.prog 0) p (some F161) := EntOk.some Go.Proofs.Tryz.func161 F161_eq h
theorem e162 {p : Path} (h : p.num = 162 := by rfl) : EntOk Go.Proofs.Tryz.prog 0 (planOf Go.Proofs.Tryz.prog 0) p (some F162) := EntOk.some Go.Proofs.Tryz.func162 F162_eq h
theorem e163 {p : Path} (h : p.num = 163 := by rfl) : EntOk Go.Proofs.Tryz.prog 0 (planOf Go.Proofs.Tryz.prog 0) p (some F163) := EntOk.some Go.Proofs.Tryz.func163 F163_eq h
theorem tab_ok : TabOk Go.Proofs.Tryz.prog 0 (planOf Go.Proofs.Tryz.prog 0) tab := TabOk.of (show AllT _ tab from ⟨EntOk.none, ⟨EntOk.none, ⟨e3, ⟨e7, ⟨e15, ⟨e31, ⟨e63, ⟨e127, trivial, trivial⟩, ⟨EntOk.none, trivial, trivial⟩⟩, ⟨e95, ⟨e159, trivial, trivial⟩, trivial⟩⟩, ⟨e47, ⟨e79, ⟨e143, trivial, trivial⟩, trivial⟩, ⟨e111, ⟨EntOk.none, trivial, trivial⟩, trivial⟩⟩⟩, ⟨e23, ⟨e39, ⟨e71, ⟨e135, trivial, trivial⟩, trivial⟩, ⟨e103, ⟨EntOk.none, trivial, trivial⟩, trivial⟩⟩, ⟨e55, ⟨e87, ⟨e151, trivial, trivial⟩, trivial⟩, ⟨e119, ⟨EntOk.none, trivial, trivial⟩, trivial⟩⟩⟩⟩, ⟨e11, ⟨e19, ⟨e35, ⟨e67, ⟨e131, trivial, trivial⟩, trivial⟩, ⟨e99, ⟨e163, trivial, trivial⟩, trivial⟩⟩, ⟨e51, ⟨e83, ⟨e147, trivial, trivial⟩, trivial⟩, ⟨e115, ⟨EntOk.none, trivial, trivial⟩, trivial⟩⟩⟩, ⟨e27, ⟨e43, ⟨e75, ⟨e139, trivial, trivial⟩, trivial⟩, ⟨EntOk.none, ⟨EntOk.none, trivial, trivial⟩, trivial⟩⟩, ⟨e59, ⟨e91, ⟨e155, trivial, trivial⟩, trivial⟩, ⟨e123, ⟨EntOk.none, trivial, trivial⟩, trivial⟩⟩⟩⟩⟩, ⟨e5, ⟨e9, ⟨e17, ⟨e33, ⟨e65, ⟨e129, trivial, trivial⟩, trivial⟩, ⟨e97, ⟨e161, trivial, trivial⟩, trivial⟩⟩, ⟨e49, ⟨e81, ⟨e145, trivial, trivial⟩, trivial⟩, ⟨e113, ⟨EntOk.none, trivial, trivial⟩, trivial⟩⟩⟩, ⟨e25, ⟨e41, ⟨e73, ⟨e137, trivial, trivial⟩, trivial⟩, ⟨e105, ⟨EntOk.none, trivial, trivial⟩, trivial⟩⟩, ⟨e57, ⟨e89, ⟨e153, trivial, trivial⟩, trivial⟩, ⟨e121, ⟨EntOk.none, trivial, trivial⟩, trivial⟩⟩⟩⟩, ⟨e13, ⟨e21, ⟨e37, ⟨e69, ⟨e133, trivial, trivial⟩, trivial⟩, ⟨e101, ⟨EntOk.none, trivial, trivial⟩, trivial⟩⟩, ⟨e53, ⟨e85, ⟨e149, trivial, trivial⟩, trivial⟩, ⟨e117, ⟨EntOk.none, trivial, trivial⟩, trivial⟩⟩⟩, ⟨e29, ⟨e45, ⟨e77, ⟨EntOk.none, trivial, trivial⟩, trivial⟩, ⟨e109, ⟨EntOk.none, trivial, trivial⟩, trivial⟩⟩, ⟨e61, ⟨e93, ⟨e157, trivial, trivial⟩, trivial⟩, ⟨e125, ⟨EntOk.none, trivial, trivial⟩, trivial⟩⟩⟩⟩⟩⟩, ⟨EntOk.none, ⟨e4, ⟨e8, ⟨e16, ⟨e32, ⟨e64, ⟨e128, trivial, trivial⟩, ⟨EntOk.none, trivial, trivial⟩⟩, ⟨e96, ⟨e160, trivial, trivial⟩, trivial⟩⟩, ⟨e48, ⟨e80, ⟨e144, trivial, trivial⟩, trivial⟩, ⟨e112, ⟨EntOk.none, trivial, trivial⟩, trivial⟩⟩⟩, ⟨e24, ⟨e40, ⟨e72, ⟨e136, trivial, trivial⟩, trivial⟩, ⟨e104, ⟨EntOk.none, trivial, trivial⟩, trivial⟩⟩, ⟨e56, ⟨e88, ⟨e152, trivial, trivial⟩, trivial⟩, ⟨e120, ⟨EntOk.none, trivial, trivial⟩, trivial⟩⟩⟩⟩, ⟨e12, ⟨e20, ⟨e36, ⟨e68, ⟨e132, trivial, trivial⟩, trivial⟩, ⟨e100, ⟨EntOk.none, trivial, trivial⟩, trivial⟩⟩, ⟨e52, ⟨e84, ⟨e148, trivial, trivial⟩, trivial⟩, ⟨e116, ⟨EntOk.none, trivial, trivial⟩, trivial⟩⟩⟩, ⟨e28, ⟨e44, ⟨e76, ⟨e140, trivial, trivial⟩, trivial⟩, ⟨e108, ⟨EntOk.none, trivial, trivial⟩, trivial⟩⟩, ⟨e60, ⟨e92, ⟨e156, trivial, trivial⟩, trivial⟩, ⟨e124, ⟨EntOk.none, trivial, trivial⟩, trivial⟩⟩⟩⟩⟩, ⟨e6, ⟨e10, ⟨e18, ⟨e34, ⟨e66, ⟨e130, trivial, trivial⟩, trivial⟩, ⟨e98, ⟨e162, trivial, trivial⟩, trivial⟩⟩, ⟨e50, ⟨e82, ⟨e146, trivial, trivial⟩, trivial⟩, ⟨e114, ⟨EntOk.none, trivial, trivial⟩, trivial⟩⟩⟩, ⟨e26, ⟨e42, ⟨e74, ⟨e138, trivial, trivial⟩, trivial⟩, ⟨e106, ⟨EntOk.none, trivial, trivial⟩, trivial⟩⟩, ⟨e58, ⟨e90, ⟨e154, trivial, trivial⟩, trivial⟩, ⟨e122, ⟨EntOk.none, trivial, trivial⟩, trivial⟩⟩⟩⟩, ⟨e14, ⟨e22, ⟨e38, ⟨e70, ⟨e134, trivial, trivial⟩, trivial⟩, ⟨e102, ⟨EntOk.none, trivial, trivial⟩, trivial⟩⟩, ⟨e54, ⟨e86, ⟨e150, trivial, trivial⟩, trivial⟩, ⟨e118, ⟨EntOk.none, trivial, trivial⟩, trivial⟩⟩⟩, ⟨e30, ⟨e46, ⟨e78, ⟨e142, trivial, trivial⟩, trivial⟩, ⟨e110, ⟨EntOk.none, trivial, trivial⟩, trivial⟩⟩, ⟨e62, ⟨e94, ⟨e158, trivial, trivial⟩, trivial⟩, ⟨e126, ⟨EntOk.none, trivial, trivial⟩, trivial⟩⟩⟩⟩⟩⟩⟩)

end Code
end Go.Proofs.YtdblgbakljpacaaGreatDoor
