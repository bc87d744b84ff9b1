/- The compiled functions are the program's. -/
import Derived.Test.YtpiglmkpcapiaaaGreatDoorCodeT
import Derived.Test.YtpiglmkpcapiaaaGreatDoorChecked
import Derived.KernelRfl
namespace Go.Proofs.YtpiglmkpcapiaaaGreatDoor
open Go Go.Eng
namespace Code
set_option maxRecDepth 100000
set_option linter.unusedVariables false
theorem G3_eq : (cF Go.Proofs.Tryz.prog 0 (planOf Go.Proofs.Tryz.prog 0) Go.Proofs.Tryz.f3).map toG = some G3 := by kernel_rfl
theorem G4_eq : (cF Go.Proofs.Tryz.prog 0 (planOf Go.Proofs.Tryz.prog 0) Go.Proofs.Tryz.f4).map toG = some G4 := by kernel_rfl
theorem G5_eq : (cF Go.Proofs.Tryz.prog 0 (planOf Go.Proofs.Tryz.prog 0) Go.Proofs.Tryz.f5).map toG = some G5 := by kernel_rfl
theorem G6_eq : (cF Go.Proofs.Tryz.prog 0 (planOf Go.Proofs.Tryz.prog 0) Go.Proofs.Tryz.f6).map toG = some G6 := by kernel_rfl
theorem G7_eq : (cF Go.Proofs.Tryz.prog 0 (planOf Go.Proofs.Tryz.prog 0) Go.Proofs.Tryz.f7).map toG = some G7 := by kernel_rfl
theorem G8_eq : (cF Go.Proofs.Tryz.prog 0 (planOf Go.Proofs.Tryz.prog 0) Go.Proofs.Tryz.f8).map toG = some G8 := by kernel_rfl
theorem G9_eq : (cF Go.Proofs.Tryz.prog 0 (planOf Go.Proofs.Tryz.prog 0) Go.Proofs.Tryz.f9).map toG = some G9 := by kernel_rfl
theorem G10_eq : (cF Go.Proofs.Tryz.prog 0 (planOf Go.Proofs.Tryz.prog 0) Go.Proofs.Tryz.f10).map toG = some G10 := by kernel_rfl
theorem G11_eq : (cF Go.Proofs.Tryz.prog 0 (planOf Go.Proofs.Tryz.prog 0) Go.Proofs.Tryz.f11).map toG = some G11 := by kernel_rfl
theorem G12_eq : (cF Go.Proofs.Tryz.prog 0 (planOf Go.Proofs.Tryz.prog 0) Go.Proofs.Tryz.f12).map toG = some G12 := by kernel_rfl
theorem G13_eq : (cF Go.Proofs.Tryz.prog 0 (planOf Go.Proofs.Tryz.prog 0) Go.Proofs.Tryz.f13).map toG = some G13 := by kernel_rfl
theorem G14_eq : (cF Go.Proofs.Tryz.prog 0 (planOf Go.Proofs.Tryz.prog 0) Go.Proofs.Tryz.f14).map toG = some G14 := by kernel_rfl
theorem G15_eq : (cF Go.Proofs.Tryz.prog 0 (planOf Go.Proofs.Tryz.prog 0) Go.Proofs.Tryz.f15).map toG = some G15 := by kernel_rfl
theorem G16_eq : (cF Go.Proofs.Tryz.prog 0 (planOf Go.Proofs.Tryz.prog 0) Go.Proofs.Tryz.f16).map toG = some G16 := by kernel_rfl
theorem G20_eq : (cF Go.Proofs.Tryz.prog 0 (planOf Go.Proofs.Tryz.prog 0) Go.Proofs.Tryz.f20).map toG = some G20 := by kernel_rfl
theorem G21_eq : (cF Go.Proofs.Tryz.prog 0 (planOf Go.Proofs.Tryz.prog 0) Go.Proofs.Tryz.f21).map toG = some G21 := by kernel_rfl
theorem G22_eq : (cF Go.Proofs.Tryz.prog 0 (planOf Go.Proofs.Tryz.prog 0) Go.Proofs.Tryz.f22).map toG = some G22 := by kernel_rfl
theorem G23_eq : (cF Go.Proofs.Tryz.prog 0 (planOf Go.Proofs.Tryz.prog 0) Go.Proofs.Tryz.f23).map toG = some G23 := by kernel_rfl
theorem G25_eq : (cF Go.Proofs.Tryz.prog 0 (planOf Go.Proofs.Tryz.prog 0) Go.Proofs.Tryz.f25).map toG = some G25 := by kernel_rfl
theorem G28_eq : (cF Go.Proofs.Tryz.prog 0 (planOf Go.Proofs.Tryz.prog 0) Go.Proofs.Tryz.f28).map toG = some G28 := by kernel_rfl
theorem G29_eq : (cF Go.Proofs.Tryz.prog 0 (planOf Go.Proofs.Tryz.prog 0) Go.Proofs.Tryz.f29).map toG = some G29 := by kernel_rfl
theorem G34_eq : (cF Go.Proofs.Tryz.prog 0 (planOf Go.Proofs.Tryz.prog 0) Go.Proofs.Tryz.f34).map toG = some G34 := by kernel_rfl
theorem G35_eq : (cF Go.Proofs.Tryz.prog 0 (planOf Go.Proofs.Tryz.prog 0) Go.Proofs.Tryz.f35).map toG = some G35 := by kernel_rfl
theorem G36_eq : (cF Go.Proofs.Tryz.prog 0 (planOf Go.Proofs.Tryz.prog 0) Go.Proofs.Tryz.f36).map toG = some G36 := by kernel_rfl
theorem G37_eq : (cF Go.Proofs.Tryz.prog 0 (planOf Go.Proofs.Tryz.prog 0) Go.Proofs.Tryz.f37).map toG = some G37 := by kernel_rfl
theorem G44_eq : (cF Go.Proofs.Tryz.prog 0 (planOf Go.Proofs.Tryz.prog 0) Go.Proofs.Tryz.f44).map toG = some G44 := by kernel_rfl
theorem G45_eq : (cF Go.Proofs.Tryz.prog 0 (planOf Go.Proofs.Tryz.prog 0) Go.Proofs.Tryz.f45).map toG = some G45 := by kernel_rfl
theorem G46_eq : (cF Go.Proofs.Tryz.prog 0 (planOf Go.Proofs.Tryz.prog 0) Go.Proofs.Tryz.f46).map toG = some G46 := by kernel_rfl
theorem G48_eq : (cF Go.Proofs.Tryz.prog 0 (planOf Go.Proofs.Tryz.prog 0) Go.Proofs.Tryz.f48).map toG = some G48 := by kernel_rfl
theorem G49_eq : (cF Go.Proofs.Tryz.prog 0 (planOf Go.Proofs.Tryz.prog 0) Go.Proofs.Tryz.f49).map toG = some G49 := by kernel_rfl
theorem G50_eq : (cF Go.Proofs.Tryz.prog 0 (planOf Go.Proofs.Tryz.prog 0) Go.Proofs.Tryz.f50).map toG = some G50 := by kernel_rfl
theorem G51_eq : (cF Go.Proofs.Tryz.prog 0 (planOf Go.Proofs.Tryz.prog 0) Go.Proofs.Tryz.f51).map toG = some G51 := by kernel_rfl
theorem G54_eq : (cF Go.Proofs.Tryz.prog 0 (planOf Go.Proofs.Tryz.prog 0) Go.Proofs.Tryz.f54).map toG = some G54 := by kernel_rfl
theorem G55_eq : (cF Go.Proofs.Tryz.prog 0 (planOf Go.Proofs.Tryz.prog 0) Go.Proofs.Tryz.f55).map toG = some G55 := by kernel_rfl
theorem G59_eq : (cF Go.Proofs.Tryz.prog 0 (planOf Go.Proofs.Tryz.prog 0) Go.Proofs.Tryz.f59).map toG = some G59 := by kernel_rfl
theorem G69_eq : (cF Go.Proofs.Tryz.prog 0 (planOf Go.Proofs.Tryz.prog 0) Go.Proofs.Tryz.f69).map toG = some G69 := by kernel_rfl
theorem G70_eq : (cF Go.Proofs.Tryz.prog 0 (planOf Go.Proofs.Tryz.prog 0) Go.Proofs.Tryz.f70).map toG = some G70 := by kernel_rfl
theorem G78_eq : (cF Go.Proofs.Tryz.prog 0 (planOf Go.Proofs.Tryz.prog 0) Go.Proofs.Tryz.f78).map toG = some G78 := by kernel_rfl
theorem G79_eq : (cF Go.Proofs.Tryz.prog 0 (planOf Go.Proofs.Tryz.prog 0) Go.Proofs.Tryz.f79).map toG = some G79 := by kernel_rfl
theorem G80_eq : (cF Go.Proofs.Tryz.prog 0 (planOf Go.Proofs.Tryz.prog 0) Go.Proofs.Tryz.f80).map toG = some G80 := by kernel_rfl
theorem G81_eq : (cF Go.Proofs.Tryz.prog 0 (planOf Go.Proofs.Tryz.prog 0) Go.Proofs.Tryz.f81).map toG = some G81 := by kernel_rfl
theorem G82_eq : (cF Go.Proofs.Tryz.prog 0 (planOf Go.Proofs.Tryz.prog 0) Go.Proofs.Tryz.f82).map toG = some G82 := by kernel_rfl
theorem G85_eq : (cF Go.Proofs.Tryz.prog 0 (planOf Go.Proofs.Tryz.prog 0) Go.Proofs.Tryz.f85).map toG = some G85 := by kernel_rfl
theorem G87_eq : (cF Go.Proofs.Tryz.prog 0 (planOf Go.Proofs.Tryz.prog 0) Go.Proofs.Tryz.f87).map toG = some G87 := by kernel_rfl
theorem G88_eq : (cF Go.Proofs.Tryz.prog 0 (planOf Go.Proofs.Tryz.prog 0) Go.Proofs.Tryz.f88).map toG = some G88 := by kernel_rfl
theorem G100_eq : (cF Go.Proofs.Tryz.prog 0 (planOf Go.Proofs.Tryz.prog 0) Go.Proofs.Tryz.f100).map toG = some G100 := by kernel_rfl
theorem G102_eq : (cF Go.Proofs.Tryz.prog 0 (planOf Go.Proofs.Tryz.prog 0) Go.Proofs.Tryz.f102).map toG = some G102 := by kernel_rfl
theorem G103_eq : (cF Go.Proofs.Tryz.prog 0 (planOf Go.Proofs.Tryz.prog 0) Go.Proofs.Tryz.f103).map toG = some G103 := by kernel_rfl
theorem G111_eq : (cF Go.Proofs.Tryz.prog 0 (planOf Go.Proofs.Tryz.prog 0) Go.Proofs.Tryz.f111).map toG = some G111 := by kernel_rfl
theorem G112_eq : (cF Go.Proofs.Tryz.prog 0 (planOf Go.Proofs.Tryz.prog 0) Go.Proofs.Tryz.f112).map toG = some G112 := by kernel_rfl
theorem G113_eq : (cF Go.Proofs.Tryz.prog 0 (planOf Go.Proofs.Tryz.prog 0) Go.Proofs.Tryz.f113).map toG = some G113 := by kernel_rfl
theorem G115_eq : (cF Go.Proofs.Tryz.prog 0 (planOf Go.Proofs.Tryz.prog 0) Go.Proofs.Tryz.f115).map toG = some G115 := by kernel_rfl
theorem G125_eq : (cF Go.Proofs.Tryz.prog 0 (planOf Go.Proofs.Tryz.prog 0) Go.Proofs.Tryz.f125).map toG = some G125 := by kernel_rfl
theorem G126_eq : (cF Go.Proofs.Tryz.prog 0 (planOf Go.Proofs.Tryz.prog 0) Go.Proofs.Tryz.f126).map toG = some G126 := by kernel_rfl
theorem G127_eq : (cF Go.Proofs.Tryz.prog 0 (planOf Go.Proofs.Tryz.prog 0) Go.Proofs.Tryz.f127).map toG = some G127 := by kernel_rfl
theorem G128_eq : (cF Go.Proofs.Tryz.prog 0 (planOf Go.Proofs.Tryz.prog 0) Go.Proofs.Tryz.f128).map toG = some G128 := by kernel_rfl
theorem G136_eq : (cF Go.Proofs.Tryz.prog 0 (planOf Go.Proofs.Tryz.prog 0) Go.Proofs.Tryz.f136).map toG = some G136 := by kernel_rfl
theorem G137_eq : (cF Go.Proofs.Tryz.prog 0 (planOf Go.Proofs.Tryz.prog 0) Go.Proofs.Tryz.f137).map toG = some G137 := by kernel_rfl
theorem G138_eq : (cF Go.Proofs.Tryz.prog 0 (planOf Go.Proofs.Tryz.prog 0) Go.Proofs.Tryz.f138).map toG = some G138 := by kernel_rfl
theorem G140_eq : (cF Go.Proofs.Tryz.prog 0 (planOf Go.Proofs.Tryz.prog 0) Go.Proofs.Tryz.f140).map toG = some G140 := by kernel_rfl
theorem G143_eq : (cF Go.Proofs.Tryz.prog 0 (planOf Go.Proofs.Tryz.prog 0) Go.Proofs.Tryz.f143).map toG = some G143 := by kernel_rfl
theorem G147_eq : (cF Go.Proofs.Tryz.prog 0 (planOf Go.Proofs.Tryz.prog 0) Go.Proofs.Tryz.f147).map toG = some G147 := by kernel_rfl
theorem e3 {p : Path} (h : p.num = 3 := by rfl) : EntG Go.Proofs.Tryz.prog 0 (planOf Go.Proofs.Tryz.prog 0) p (some G3) := EntG.some Go.Proofs.Tryz.func3 G3_eq h
theorem e4 {p : Path} (h : p.num = 4 := by rfl) : EntG Go.Proofs.Tryz.prog 0 (planOf Go.Proofs.Tryz.prog 0) p (some G4) := EntG.some Go.Proofs.Tryz.func4 G4_eq h
theorem e5 {p : Path} (h : p.num = 5 := by rfl) : EntG Go.Proofs.Tryz.prog 0 (planOf Go.Proofs.Tryz.prog 0) p (some G5) := EntG.some Go.Proofs.Tryz.func5 G5_eq h
theorem e6 {p : Path} (h : p.num = 6 := by rfl) : EntG Go.Proofs.Tryz.prog 0 (planOf Go.Proofs.Tryz.prog 0) p (some G6) := EntG.some Go.Proofs.Tryz.func6 G6_eq h
theorem e7 {p : Path} (h : p.num = 7 := by rfl) : EntG Go.Proofs.Tryz.prog 0 (planOf Go.Proofs.Tryz.prog 0) p (some G7) := EntG.some Go.Proofs.Tryz.func7 G7_eq h
theorem e8 {p : Path} (h : p.num = 8 := by rfl) : EntG Go.Proofs.Tryz.prog 0 (planOf Go.Proofs.Tryz.prog 0) p (some G8) := EntG.some Go.Proofs.Tryz.func8 G8_eq h
theorem e9 {p : Path} (h : p.num = 9 := by rfl) : EntG Go.Proofs.Tryz.prog 0 (planOf Go.Proofs.Tryz.prog 0) p (some G9) := EntG.some Go.Proofs.Tryz.func9 G9_eq h
theorem e10 {p : Path} (h : p.num = 10 := by rfl) : EntG Go.Proofs.Tryz.prog 0 (planOf Go.Proofs.Tryz.prog 0) p (some G10) := EntG.some Go.Proofs.Tryz.func10 G10_eq h
theorem e11 {p : Path} (h : p.num = 11 := by rfl) : EntG Go.Proofs.Tryz.prog 0 (planOf Go.Proofs.Tryz.prog 0) p (some G11) := EntG.some Go.Proofs.Tryz.func11 G11_eq h
theorem e12 {p : Path} (h : p.num = 12 := by rfl) : EntG Go.Proofs.Tryz.prog 0 (planOf Go.Proofs.Tryz.prog 0) p (some G12) := EntG.some Go.Proofs.Tryz.func12 G12_eq h
theorem e13 {p : Path} (h : p.num = 13 := by rfl) : EntG Go.Proofs.Tryz.prog 0 (planOf Go.Proofs.Tryz.prog 0) p (some G13) := EntG.some Go.Proofs.Tryz.func13 G13_eq h
theorem e14 {p : Path} (h : p.num = 14 := by rfl) : EntG Go.Proofs.Tryz.prog 0 (planOf Go.Proofs.Tryz.prog 0) p (some G14) := EntG.some Go.Proofs.Tryz.func14 G14_eq h
theorem e15 {p : Path} (h : p.num = 15 := by rfl) : EntG Go.Proofs.Tryz.prog 0 (planOf Go.Proofs.Tryz.prog 0) p (some G15) := EntG.some Go.Proofs.Tryz.func15 G15_eq h
theorem e16 {p : Path} (h : p.num = 16 := by rfl) : EntG Go.Proofs.Tryz.prog 0 (planOf Go.Proofs.Tryz.prog 0) p (some G16) := EntG.some Go.Proofs.Tryz.func16 G16_eq h
theorem e20 {p : Path} (h : p.num = 20 := by rfl) : EntG Go.Proofs.Tryz.prog 0 (planOf Go.Proofs.Tryz.prog 0) p (some G20) := EntG.some Go.Proofs.Tryz.func20 G20_eq h
theorem e21 {p : Path} (h : p.num = 21 := by rfl) : EntG Go.Proofs.Tryz.prog 0 (planOf Go.Proofs.Tryz.prog 0) p (some G21) := EntG.some Go.Proofs.Tryz.func21 G21_eq h
theorem e22 {p : Path} (h : p.num = 22 := by rfl) : EntG Go.Proofs.Tryz.prog 0 (planOf Go.Proofs.Tryz.prog 0) p (some G22) := EntG.some Go.Proofs.Tryz.func22 G22_eq h
theorem e23 {p : Path} (h : p.num = 23 := by rfl) : EntG Go.Proofs.Tryz.prog 0 (planOf Go.Proofs.Tryz.prog 0) p (some G23) := EntG.some Go.Proofs.Tryz.func23 G23_eq h
theorem e25 {p : Path} (h : p.num = 25 := by rfl) : EntG Go.Proofs.Tryz.prog 0 (planOf Go.Proofs.Tryz.prog 0) p (some G25) := EntG.some Go.Proofs.Tryz.func25 G25_eq h
theorem e28 {p : Path} (h : p.num = 28 := by rfl) : EntG Go.Proofs.Tryz.prog 0 (planOf Go.Proofs.Tryz.prog 0) p (some G28) := EntG.some Go.Proofs.Tryz.func28 G28_eq h
theorem e29 {p : Path} (h : p.num = 29 := by rfl) : EntG Go.Proofs.Tryz.prog 0 (planOf Go.Proofs.Tryz.prog 0) p (some G29) := EntG.some Go.Proofs.Tryz.func29 G29_eq h
theorem e34 {p : Path} (h : p.num = 34 := by rfl) : EntG Go.Proofs.Tryz.prog 0 (planOf Go.Proofs.Tryz.prog 0) p (some G34) := EntG.some Go.Proofs.Tryz.func34 G34_eq h
theorem e35 {p : Path} (h : p.num = 35 := by rfl) : EntG Go.Proofs.Tryz.prog 0 (planOf Go.Proofs.Tryz.prog 0) p (some G35) := EntG.some Go.Proofs.Tryz.func35 G35_eq h
theorem e36 {p : Path} (h : p.num = 36 := by rfl) : EntG Go.Proofs.Tryz.prog 0 (planOf Go.Proofs.Tryz.prog 0) p (some G36) := EntG.some Go.Proofs.Tryz.func36 G36_eq h
theorem e37 {p : Path} (h : p.num = 37 := by rfl) : EntG Go.Proofs.Tryz.prog 0 (planOf Go.Proofs.Tryz.prog 0) p (some G37) := EntG.some Go.Proofs.Tryz.func37 G37_eq h
theorem e44 {p : Path} (h : p.num = 44 := by rfl) : EntG Go.Proofs.Tryz.prog 0 (planOf Go.Proofs.Tryz.prog 0) p (some G44) := EntG.some Go.Proofs.Tryz.func44 G44_eq h
theorem e45 {p : Path} (h : p.num = 45 := by rfl) : EntG Go.Proofs.Tryz.prog 0 (planOf Go.Proofs.Tryz.prog 0) p (some G45) := EntG.some Go.Proofs.Tryz.func45 G45_eq h
theorem e46 {p : Path} (h : p.num = 46 := by rfl) : EntG Go.Proofs.Tryz.prog 0 (planOf Go.Proofs.Tryz.prog 0) p (some G46) := EntG.some Go.Proofs.Tryz.func46 G46_eq h
theorem e48 {p : Path} (h : p.num = 48 := by rfl) : EntG Go.Proofs.Tryz.prog 0 (planOf Go.Proofs.Tryz.prog 0) p (some G48) := EntG.some Go.Proofs.Tryz.func48 G48_eq h
theorem e49 {p : Path} (h : p.num = 49 := by rfl) : EntG Go.Proofs.Tryz.prog 0 (planOf Go.Proofs.Tryz.prog 0) p (some G49) := EntG.some Go.Proofs.Tryz.func49 G49_eq h
theorem e50 {p : Path} (h : p.num = 50 := by rfl) : EntG Go.Proofs.Tryz.prog 0 (planOf Go.Proofs.Tryz.prog 0) p (some G50) := EntG.some Go.Proofs.Tryz.func50 G50_eq h
theorem e51 {p : Path} (h : p.num = 51 := by rfl) : EntG Go.Proofs.Tryz.prog 0 (planOf Go.Proofs.Tryz.prog 0) p (some G51) := EntG.some Go.Proofs.Tryz.func51 G51_eq h
theorem e54 {p : Path} (h : p.num = 54 := by rfl) : EntG Go.Proofs.Tryz.prog 0 (planOf Go.Proofs.Tryz.prog 0) p (some G54) := EntG.some Go.Proofs.Tryz.func54 G54_eq h
theorem e55 {p : Path} (h : p.num = 55 := by rfl) : EntG Go.Proofs.Tryz.prog 0 (planOf Go.Proofs.Tryz.prog 0) p (some G55) := EntG.some Go.Proofs.Tryz.func55 G55_eq h
theorem e59 {p : Path} (h : p.num = 59 := by rfl) : EntG Go.Proofs.Tryz.prog 0 (planOf Go.Proofs.Tryz.prog 0) p (some G59) := EntG.some Go.Proofs.Tryz.func59 G59_eq h
theorem e69 {p : Path} (h : p.num = 69 := by rfl) : EntG Go.Proofs.Tryz.prog 0 (planOf Go.Proofs.Tryz.prog 0) p (some G69) := EntG.some Go.Proofs.Tryz.func69 G69_eq h
theorem e70 {p : Path} (h : p.num = 70 := by rfl) : EntG Go.Proofs.Tryz.prog 0 (planOf Go.Proofs.Tryz.prog 0) p (some G70) := EntG.some Go.Proofs.Tryz.func70 G70_eq h
theorem e78 {p : Path} (h : p.num = 78 := by rfl) : EntG Go.Proofs.Tryz.prog 0 (planOf Go.Proofs.Tryz.prog 0) p (some G78) := EntG.some Go.Proofs.Tryz.func78 G78_eq h
theorem e79 {p : Path} (h : p.num = 79 := by rfl) : EntG Go.Proofs.Tryz.prog 0 (planOf Go.Proofs.Tryz.prog 0) p (some G79) := EntG.some Go.Proofs.Tryz.func79 G79_eq h
theorem e80 {p : Path} (h : p.num = 80 := by rfl) : EntG Go.Proofs.Tryz.prog 0 (planOf Go.Proofs.Tryz.prog 0) p (some G80) := EntG.some Go.Proofs.Tryz.func80 G80_eq h
theorem e81 {p : Path} (h : p.num = 81 := by rfl) : EntG Go.Proofs.Tryz.prog 0 (planOf Go.Proofs.Tryz.prog 0) p (some G81) := EntG.some Go.Proofs.Tryz.func81 G81_eq h
theorem e82 {p : Path} (h : p.num = 82 := by rfl) : EntG Go.Proofs.Tryz.prog 0 (planOf Go.Proofs.Tryz.prog 0) p (some G82) := EntG.some Go.Proofs.Tryz.func82 G82_eq h
theorem e85 {p : Path} (h : p.num = 85 := by rfl) : EntG Go.Proofs.Tryz.prog 0 (planOf Go.Proofs.Tryz.prog 0) p (some G85) := EntG.some Go.Proofs.Tryz.func85 G85_eq h
theorem e87 {p : Path} (h : p.num = 87 := by rfl) : EntG Go.Proofs.Tryz.prog 0 (planOf Go.Proofs.Tryz.prog 0) p (some G87) := EntG.some Go.Proofs.Tryz.func87 G87_eq h
theorem e88 {p : Path} (h : p.num = 88 := by rfl) : EntG Go.Proofs.Tryz.prog 0 (planOf Go.Proofs.Tryz.prog 0) p (some G88) := EntG.some Go.Proofs.Tryz.func88 G88_eq h
theorem e100 {p : Path} (h : p.num = 100 := by rfl) : EntG Go.Proofs.Tryz.prog 0 (planOf Go.Proofs.Tryz.prog 0) p (some G100) := EntG.some Go.Proofs.Tryz.func100 G100_eq h
theorem e102 {p : Path} (h : p.num = 102 := by rfl) : EntG Go.Proofs.Tryz.prog 0 (planOf Go.Proofs.Tryz.prog 0) p (some G102) := EntG.some Go.Proofs.Tryz.func102 G102_eq h
theorem e103 {p : Path} (h : p.num = 103 := by rfl) : EntG Go.Proofs.Tryz.prog 0 (planOf Go.Proofs.Tryz.prog 0) p (some G103) := EntG.some Go.Proofs.Tryz.func103 G103_eq h
theorem e111 {p : Path} (h : p.num = 111 := by rfl) : EntG Go.Proofs.Tryz.prog 0 (planOf Go.Proofs.Tryz.prog 0) p (some G111) := EntG.some Go.Proofs.Tryz.func111 G111_eq h
theorem e112 {p : Path} (h : p.num = 112 := by rfl) : EntG Go.Proofs.Tryz.prog 0 (planOf Go.Proofs.Tryz.prog 0) p (some G112) := EntG.some Go.Proofs.Tryz.func112 G112_eq h
theorem e113 {p : Path} (h : p.num = 113 := by rfl) : EntG Go.Proofs.Tryz.prog 0 (planOf Go.Proofs.Tryz.prog 0) p (some G113) := EntG.some Go.Proofs.Tryz.func113 G113_eq h
theorem e115 {p : Path} (h : p.num = 115 := by rfl) : EntG Go.Proofs.Tryz.prog 0 (planOf Go.Proofs.Tryz.prog 0) p (some G115) := EntG.some Go.Proofs.Tryz.func115 G115_eq h
theorem e125 {p : Path} (h : p.num = 125 := by rfl) : EntG Go.Proofs.Tryz.prog 0 (planOf Go.Proofs.Tryz.prog 0) p (some G125) := EntG.some Go.Proofs.Tryz.func125 G125_eq h
theorem e126 {p : Path} (h : p.num = 126 := by rfl) : EntG Go.Proofs.Tryz.prog 0 (planOf Go.Proofs.Tryz.prog 0) p (some G126) := EntG.some Go.Proofs.Tryz.func126 G126_eq h
theorem e127 {p : Path} (h : p.num = 127 := by rfl) : EntG Go.Proofs.Tryz.prog 0 (planOf Go.Proofs.Tryz.prog 0) p (some G127) := EntG.some Go.Proofs.Tryz.func127 G127_eq h
theorem e128 {p : Path} (h : p.num = 128 := by rfl) : EntG Go.Proofs.Tryz.prog 0 (planOf Go.Proofs.Tryz.prog 0) p (some G128) := EntG.some Go.Proofs.Tryz.func128 G128_eq h
theorem e136 {p : Path} (h : p.num = 136 := by rfl) : EntG Go.Proofs.Tryz.prog 0 (planOf Go.Proofs.Tryz.prog 0) p (some G136) := EntG.some Go.Proofs.Tryz.func136 G136_eq h
theorem e137 {p : Path} (h : p.num = 137 := by rfl) : EntG Go.Proofs.Tryz.prog 0 (planOf Go.Proofs.Tryz.prog 0) p (some G137) := EntG.some Go.Proofs.Tryz.func137 G137_eq h
theorem e138 {p : Path} (h : p.num = 138 := by rfl) : EntG Go.Proofs.Tryz.prog 0 (planOf Go.Proofs.Tryz.prog 0) p (some G138) := EntG.some Go.Proofs.Tryz.func138 G138_eq h
theorem e140 {p : Path} (h : p.num = 140 := by rfl) : EntG Go.Proofs.Tryz.prog 0 (planOf Go.Proofs.Tryz.prog 0) p (some G140) := EntG.some Go.Proofs.Tryz.func140 G140_eq h
theorem e143 {p : Path} (h : p.num = 143 := by rfl) : EntG Go.Proofs.Tryz.prog 0 (planOf Go.Proofs.Tryz.prog 0) p (some G143) := EntG.some Go.Proofs.Tryz.func143 G143_eq h
theorem e147 {p : Path} (h : p.num = 147 := by rfl) : EntG Go.Proofs.Tryz.prog 0 (planOf Go.Proofs.Tryz.prog 0) p (some G147) := EntG.some Go.Proofs.Tryz.func147 G147_eq h
theorem tab_ok : AllT (EntG Go.Proofs.Tryz.prog 0 (planOf Go.Proofs.Tryz.prog 0)) tab := (show AllT _ tab from ⟨EntG.none, ⟨EntG.none, ⟨e3, ⟨e7, ⟨e15, ⟨EntG.none, ⟨EntG.none, ⟨e127, trivial, trivial⟩, ⟨EntG.none, trivial, trivial⟩⟩, ⟨EntG.none, ⟨EntG.none, trivial, trivial⟩, trivial⟩⟩, ⟨EntG.none, ⟨e79, ⟨e143, trivial, trivial⟩, ⟨EntG.none, trivial, trivial⟩⟩, ⟨e111, ⟨EntG.none, trivial, trivial⟩, trivial⟩⟩⟩, ⟨e23, ⟨EntG.none, ⟨EntG.none, ⟨EntG.none, trivial, trivial⟩, ⟨EntG.none, trivial, trivial⟩⟩, ⟨e103, ⟨EntG.none, trivial, trivial⟩, trivial⟩⟩, ⟨e55, ⟨e87, ⟨EntG.none, trivial, trivial⟩, ⟨EntG.none, trivial, trivial⟩⟩, ⟨EntG.none, ⟨EntG.none, trivial, trivial⟩, trivial⟩⟩⟩⟩, ⟨e11, ⟨EntG.none, ⟨e35, ⟨EntG.none, ⟨EntG.none, trivial, trivial⟩, ⟨EntG.none, trivial, trivial⟩⟩, ⟨EntG.none, ⟨EntG.none, trivial, trivial⟩, trivial⟩⟩, ⟨e51, ⟨EntG.none, ⟨e147, trivial, trivial⟩, ⟨EntG.none, trivial, trivial⟩⟩, ⟨e115, ⟨EntG.none, trivial, trivial⟩, trivial⟩⟩⟩, ⟨EntG.none, ⟨EntG.none, ⟨EntG.none, ⟨EntG.none, trivial, trivial⟩, ⟨EntG.none, trivial, trivial⟩⟩, ⟨EntG.none, ⟨EntG.none, trivial, trivial⟩, trivial⟩⟩, ⟨e59, ⟨EntG.none, ⟨EntG.none, trivial, trivial⟩, ⟨EntG.none, trivial, trivial⟩⟩, ⟨EntG.none, ⟨EntG.none, trivial, trivial⟩, trivial⟩⟩⟩⟩⟩, ⟨e5, ⟨e9, ⟨EntG.none, ⟨EntG.none, ⟨EntG.none, ⟨EntG.none, trivial, trivial⟩, ⟨EntG.none, trivial, trivial⟩⟩, ⟨EntG.none, ⟨EntG.none, trivial, trivial⟩, trivial⟩⟩, ⟨e49, ⟨e81, ⟨EntG.none, trivial, trivial⟩, ⟨EntG.none, trivial, trivial⟩⟩, ⟨e113, ⟨EntG.none, trivial, trivial⟩, trivial⟩⟩⟩, ⟨e25, ⟨EntG.none, ⟨EntG.none, ⟨e137, trivial, trivial⟩, ⟨EntG.none, trivial, trivial⟩⟩, ⟨EntG.none, ⟨EntG.none, trivial, trivial⟩, trivial⟩⟩, ⟨EntG.none, ⟨EntG.none, ⟨EntG.none, trivial, trivial⟩, ⟨EntG.none, trivial, trivial⟩⟩, ⟨EntG.none, ⟨EntG.none, trivial, trivial⟩, trivial⟩⟩⟩⟩, ⟨e13, ⟨e21, ⟨e37, ⟨e69, ⟨EntG.none, trivial, trivial⟩, ⟨EntG.none, trivial, trivial⟩⟩, ⟨EntG.none, ⟨EntG.none, trivial, trivial⟩, trivial⟩⟩, ⟨EntG.none, ⟨e85, ⟨EntG.none, trivial, trivial⟩, ⟨EntG.none, trivial, trivial⟩⟩, ⟨EntG.none, ⟨EntG.none, trivial, trivial⟩, trivial⟩⟩⟩, ⟨e29, ⟨e45, ⟨EntG.none, ⟨EntG.none, trivial, trivial⟩, ⟨EntG.none, trivial, trivial⟩⟩, ⟨EntG.none, ⟨EntG.none, trivial, trivial⟩, trivial⟩⟩, ⟨EntG.none, ⟨EntG.none, ⟨EntG.none, trivial, trivial⟩, ⟨EntG.none, trivial, trivial⟩⟩, ⟨e125, ⟨EntG.none, trivial, trivial⟩, trivial⟩⟩⟩⟩⟩⟩, ⟨EntG.none, ⟨e4, ⟨e8, ⟨e16, ⟨EntG.none, ⟨EntG.none, ⟨e128, trivial, trivial⟩, ⟨EntG.none, trivial, trivial⟩⟩, ⟨EntG.none, ⟨EntG.none, trivial, trivial⟩, trivial⟩⟩, ⟨e48, ⟨e80, ⟨EntG.none, trivial, trivial⟩, ⟨EntG.none, trivial, trivial⟩⟩, ⟨e112, ⟨EntG.none, trivial, trivial⟩, trivial⟩⟩⟩, ⟨EntG.none, ⟨EntG.none, ⟨EntG.none, ⟨e136, trivial, trivial⟩, ⟨EntG.none, trivial, trivial⟩⟩, ⟨EntG.none, ⟨EntG.none, trivial, trivial⟩, trivial⟩⟩, ⟨EntG.none, ⟨e88, ⟨EntG.none, trivial, trivial⟩, ⟨EntG.none, trivial, trivial⟩⟩, ⟨EntG.none, ⟨EntG.none, trivial, trivial⟩, trivial⟩⟩⟩⟩, ⟨e12, ⟨e20, ⟨e36, ⟨EntG.none, ⟨EntG.none, trivial, trivial⟩, ⟨EntG.none, trivial, trivial⟩⟩, ⟨e100, ⟨EntG.none, trivial, trivial⟩, trivial⟩⟩, ⟨EntG.none, ⟨EntG.none, ⟨EntG.none, trivial, trivial⟩, ⟨EntG.none, trivial, trivial⟩⟩, ⟨EntG.none, ⟨EntG.none, trivial, trivial⟩, trivial⟩⟩⟩, ⟨e28, ⟨e44, ⟨EntG.none, ⟨e140, trivial, trivial⟩, ⟨EntG.none, trivial, trivial⟩⟩, ⟨EntG.none, ⟨EntG.none, trivial, trivial⟩, trivial⟩⟩, ⟨EntG.none, ⟨EntG.none, ⟨EntG.none, trivial, trivial⟩, ⟨EntG.none, trivial, trivial⟩⟩, ⟨EntG.none, ⟨EntG.none, trivial, trivial⟩, trivial⟩⟩⟩⟩⟩, ⟨e6, ⟨e10, ⟨EntG.none, ⟨e34, ⟨EntG.none, ⟨EntG.none, trivial, trivial⟩, ⟨EntG.none, trivial, trivial⟩⟩, ⟨EntG.none, ⟨EntG.none, trivial, trivial⟩, trivial⟩⟩, ⟨e50, ⟨e82, ⟨EntG.none, trivial, trivial⟩, ⟨EntG.none, trivial, trivial⟩⟩, ⟨EntG.none, ⟨EntG.none, trivial, trivial⟩, trivial⟩⟩⟩, ⟨EntG.none, ⟨EntG.none, ⟨EntG.none, ⟨e138, trivial, trivial⟩, ⟨EntG.none, trivial, trivial⟩⟩, ⟨EntG.none, ⟨EntG.none, trivial, trivial⟩, trivial⟩⟩, ⟨EntG.none, ⟨EntG.none, ⟨EntG.none, trivial, trivial⟩, ⟨EntG.none, trivial, trivial⟩⟩, ⟨EntG.none, ⟨EntG.none, trivial, trivial⟩, trivial⟩⟩⟩⟩, ⟨e14, ⟨e22, ⟨EntG.none, ⟨e70, ⟨EntG.none, trivial, trivial⟩, ⟨EntG.none, trivial, trivial⟩⟩, ⟨e102, ⟨EntG.none, trivial, trivial⟩, trivial⟩⟩, ⟨e54, ⟨EntG.none, ⟨EntG.none, trivial, trivial⟩, ⟨EntG.none, trivial, trivial⟩⟩, ⟨EntG.none, ⟨EntG.none, trivial, trivial⟩, trivial⟩⟩⟩, ⟨EntG.none, ⟨e46, ⟨e78, ⟨EntG.none, trivial, trivial⟩, ⟨EntG.none, trivial, trivial⟩⟩, ⟨EntG.none, ⟨EntG.none, trivial, trivial⟩, trivial⟩⟩, ⟨EntG.none, ⟨EntG.none, ⟨EntG.none, trivial, trivial⟩, ⟨EntG.none, trivial, trivial⟩⟩, ⟨e126, ⟨EntG.none, trivial, trivial⟩, trivial⟩⟩⟩⟩⟩⟩⟩)

end Code
end Go.Proofs.YtpiglmkpcapiaaaGreatDoor
