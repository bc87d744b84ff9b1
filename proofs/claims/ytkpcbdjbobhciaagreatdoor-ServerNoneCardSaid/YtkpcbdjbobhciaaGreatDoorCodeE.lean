/- The compiled functions are the program's. -/
import Derived.Test.YtkpcbdjbobhciaaGreatDoorCodeT
import Derived.Test.YtkpcbdjbobhciaaGreatDoorChecked
import Derived.KernelRfl
namespace Go.Proofs.YtkpcbdjbobhciaaGreatDoor
open Go Go.Eng
namespace Code
set_option maxRecDepth 100000
set_option linter.unusedVariables false
theorem G3_eq : (cF Go.Proofs.Tryz.prog 0 (planOf Go.Proofs.Tryz.prog 0) Go.Proofs.Tryz.f3).map toG = some G3 := by kernel_rfl
theorem G4_eq : (cF Go.Proofs.Tryz.prog 0 (planOf Go.Proofs.Tryz.prog 0) Go.Proofs.Tryz.f4).map toG = some G4 := by kernel_rfl
theorem G5_eq : (cF Go.Proofs.Tryz.prog 0 (planOf Go.Proofs.Tryz.prog 0) Go.Proofs.Tryz.f5).map toG = some G5 := by kernel_rfl
theorem G6_eq : (cF Go.Proofs.Tryz.prog 0 (planOf Go.Proofs.Tryz.prog 0) Go.Proofs.Tryz.f6).map toG = some G6 := by kernel_rfl
theorem G7_eq : (cF Go.Proofs.Tryz.prog 0 (planOf Go.Proofs.Tryz.prog 0) Go.Proofs.Tryz.f7).map toG = some G7 := by kernel_rfl
theorem G8_eq : (cF Go.Proofs.Tryz.prog 0 (planOf Go.Proofs.Tryz.prog 0) Go.Proofs.Tryz.f8).map toG = some G8 := by kernel_rfl
theorem G9_eq : (cF Go.Proofs.Tryz.prog 0 (planOf Go.Proofs.Tryz.prog 0) Go.Proofs.Tryz.f9).map toG = some G9 := by kernel_rfl
theorem G10_eq : (cF Go.Proofs.Tryz.prog 0 (planOf Go.Proofs.Tryz.prog 0) Go.Proofs.Tryz.f10).map toG = some G10 := by kernel_rfl
theorem G11_eq : (cF Go.Proofs.Tryz.prog 0 (planOf Go.Proofs.Tryz.prog 0) Go.Proofs.Tryz.f11).map toG = some G11 := by kernel_rfl
theorem G12_eq : (cF Go.Proofs.Tryz.prog 0 (planOf Go.Proofs.Tryz.prog 0) Go.Proofs.Tryz.f12).map toG = some G12 := by kernel_rfl
theorem G13_eq : (cF Go.Proofs.Tryz.prog 0 (planOf Go.Proofs.Tryz.prog 0) Go.Proofs.Tryz.f13).map toG = some G13 := by kernel_rfl
theorem G14_eq : (cF Go.Proofs.Tryz.prog 0 (planOf Go.Proofs.Tryz.prog 0) Go.Proofs.Tryz.f14).map toG = some G14 := by kernel_rfl
theorem G15_eq : (cF Go.Proofs.Tryz.prog 0 (planOf Go.Proofs.Tryz.prog 0) Go.Proofs.Tryz.f15).map toG = some G15 := by kernel_rfl
theorem G16_eq : (cF Go.Proofs.Tryz.prog 0 (planOf Go.Proofs.Tryz.prog 0) Go.Proofs.Tryz.f16).map toG = some G16 := by kernel_rfl
theorem G17_eq : (cF Go.Proofs.Tryz.prog 0 (planOf Go.Proofs.Tryz.prog 0) Go.Proofs.Tryz.f17).map toG = some G17 := by kernel_rfl
theorem G18_eq : (cF Go.Proofs.Tryz.prog 0 (planOf Go.Proofs.Tryz.prog 0) Go.Proofs.Tryz.f18).map toG = some G18 := by kernel_rfl
theorem G19_eq : (cF Go.Proofs.Tryz.prog 0 (planOf Go.Proofs.Tryz.prog 0) Go.Proofs.Tryz.f19).map toG = some G19 := by kernel_rfl
theorem G20_eq : (cF Go.Proofs.Tryz.prog 0 (planOf Go.Proofs.Tryz.prog 0) Go.Proofs.Tryz.f20).map toG = some G20 := by kernel_rfl
theorem G21_eq : (cF Go.Proofs.Tryz.prog 0 (planOf Go.Proofs.Tryz.prog 0) Go.Proofs.Tryz.f21).map toG = some G21 := by kernel_rfl
theorem G22_eq : (cF Go.Proofs.Tryz.prog 0 (planOf Go.Proofs.Tryz.prog 0) Go.Proofs.Tryz.f22).map toG = some G22 := by kernel_rfl
theorem G23_eq : (cF Go.Proofs.Tryz.prog 0 (planOf Go.Proofs.Tryz.prog 0) Go.Proofs.Tryz.f23).map toG = some G23 := by kernel_rfl
theorem G24_eq : (cF Go.Proofs.Tryz.prog 0 (planOf Go.Proofs.Tryz.prog 0) Go.Proofs.Tryz.f24).map toG = some G24 := by kernel_rfl
theorem G29_eq : (cF Go.Proofs.Tryz.prog 0 (planOf Go.Proofs.Tryz.prog 0) Go.Proofs.Tryz.f29).map toG = some G29 := by kernel_rfl
theorem G30_eq : (cF Go.Proofs.Tryz.prog 0 (planOf Go.Proofs.Tryz.prog 0) Go.Proofs.Tryz.f30).map toG = some G30 := by kernel_rfl
theorem G31_eq : (cF Go.Proofs.Tryz.prog 0 (planOf Go.Proofs.Tryz.prog 0) Go.Proofs.Tryz.f31).map toG = some G31 := by kernel_rfl
theorem G32_eq : (cF Go.Proofs.Tryz.prog 0 (planOf Go.Proofs.Tryz.prog 0) Go.Proofs.Tryz.f32).map toG = some G32 := by kernel_rfl
theorem G33_eq : (cF Go.Proofs.Tryz.prog 0 (planOf Go.Proofs.Tryz.prog 0) Go.Proofs.Tryz.f33).map toG = some G33 := by kernel_rfl
theorem G34_eq : (cF Go.Proofs.Tryz.prog 0 (planOf Go.Proofs.Tryz.prog 0) Go.Proofs.Tryz.f34).map toG = some G34 := by kernel_rfl
theorem G35_eq : (cF Go.Proofs.Tryz.prog 0 (planOf Go.Proofs.Tryz.prog 0) Go.Proofs.Tryz.f35).map toG = some G35 := by kernel_rfl
theorem G36_eq : (cF Go.Proofs.Tryz.prog 0 (planOf Go.Proofs.Tryz.prog 0) Go.Proofs.Tryz.f36).map toG = some G36 := by kernel_rfl
theorem G37_eq : (cF Go.Proofs.Tryz.prog 0 (planOf Go.Proofs.Tryz.prog 0) Go.Proofs.Tryz.f37).map toG = some G37 := by kernel_rfl
theorem G38_eq : (cF Go.Proofs.Tryz.prog 0 (planOf Go.Proofs.Tryz.prog 0) Go.Proofs.Tryz.f38).map toG = some G38 := by kernel_rfl
theorem G39_eq : (cF Go.Proofs.Tryz.prog 0 (planOf Go.Proofs.Tryz.prog 0) Go.Proofs.Tryz.f39).map toG = some G39 := by kernel_rfl
theorem G40_eq : (cF Go.Proofs.Tryz.prog 0 (planOf Go.Proofs.Tryz.prog 0) Go.Proofs.Tryz.f40).map toG = some G40 := by kernel_rfl
theorem G41_eq : (cF Go.Proofs.Tryz.prog 0 (planOf Go.Proofs.Tryz.prog 0) Go.Proofs.Tryz.f41).map toG = some G41 := by kernel_rfl
theorem G42_eq : (cF Go.Proofs.Tryz.prog 0 (planOf Go.Proofs.Tryz.prog 0) Go.Proofs.Tryz.f42).map toG = some G42 := by kernel_rfl
theorem G43_eq : (cF Go.Proofs.Tryz.prog 0 (planOf Go.Proofs.Tryz.prog 0) Go.Proofs.Tryz.f43).map toG = some G43 := by kernel_rfl
theorem G45_eq : (cF Go.Proofs.Tryz.prog 0 (planOf Go.Proofs.Tryz.prog 0) Go.Proofs.Tryz.f45).map toG = some G45 := by kernel_rfl
theorem G46_eq : (cF Go.Proofs.Tryz.prog 0 (planOf Go.Proofs.Tryz.prog 0) Go.Proofs.Tryz.f46).map toG = some G46 := by kernel_rfl
theorem G47_eq : (cF Go.Proofs.Tryz.prog 0 (planOf Go.Proofs.Tryz.prog 0) Go.Proofs.Tryz.f47).map toG = some G47 := by kernel_rfl
theorem G49_eq : (cF Go.Proofs.Tryz.prog 0 (planOf Go.Proofs.Tryz.prog 0) Go.Proofs.Tryz.f49).map toG = some G49 := by kernel_rfl
theorem G50_eq : (cF Go.Proofs.Tryz.prog 0 (planOf Go.Proofs.Tryz.prog 0) Go.Proofs.Tryz.f50).map toG = some G50 := by kernel_rfl
theorem G51_eq : (cF Go.Proofs.Tryz.prog 0 (planOf Go.Proofs.Tryz.prog 0) Go.Proofs.Tryz.f51).map toG = some G51 := by kernel_rfl
theorem G52_eq : (cF Go.Proofs.Tryz.prog 0 (planOf Go.Proofs.Tryz.prog 0) Go.Proofs.Tryz.f52).map toG = some G52 := by kernel_rfl
theorem G53_eq : (cF Go.Proofs.Tryz.prog 0 (planOf Go.Proofs.Tryz.prog 0) Go.Proofs.Tryz.f53).map toG = some G53 := by kernel_rfl
theorem G54_eq : (cF Go.Proofs.Tryz.prog 0 (planOf Go.Proofs.Tryz.prog 0) Go.Proofs.Tryz.f54).map toG = some G54 := by kernel_rfl
theorem G56_eq : (cF Go.Proofs.Tryz.prog 0 (planOf Go.Proofs.Tryz.prog 0) Go.Proofs.Tryz.f56).map toG = some G56 := by kernel_rfl
theorem G67_eq : (cF Go.Proofs.Tryz.prog 0 (planOf Go.Proofs.Tryz.prog 0) Go.Proofs.Tryz.f67).map toG = some G67 := by kernel_rfl
theorem G68_eq : (cF Go.Proofs.Tryz.prog 0 (planOf Go.Proofs.Tryz.prog 0) Go.Proofs.Tryz.f68).map toG = some G68 := by kernel_rfl
theorem G69_eq : (cF Go.Proofs.Tryz.prog 0 (planOf Go.Proofs.Tryz.prog 0) Go.Proofs.Tryz.f69).map toG = some G69 := by kernel_rfl
theorem G70_eq : (cF Go.Proofs.Tryz.prog 0 (planOf Go.Proofs.Tryz.prog 0) Go.Proofs.Tryz.f70).map toG = some G70 := by kernel_rfl
theorem G71_eq : (cF Go.Proofs.Tryz.prog 0 (planOf Go.Proofs.Tryz.prog 0) Go.Proofs.Tryz.f71).map toG = some G71 := by kernel_rfl
theorem G72_eq : (cF Go.Proofs.Tryz.prog 0 (planOf Go.Proofs.Tryz.prog 0) Go.Proofs.Tryz.f72).map toG = some G72 := by kernel_rfl
theorem G73_eq : (cF Go.Proofs.Tryz.prog 0 (planOf Go.Proofs.Tryz.prog 0) Go.Proofs.Tryz.f73).map toG = some G73 := by kernel_rfl
theorem G74_eq : (cF Go.Proofs.Tryz.prog 0 (planOf Go.Proofs.Tryz.prog 0) Go.Proofs.Tryz.f74).map toG = some G74 := by kernel_rfl
theorem G75_eq : (cF Go.Proofs.Tryz.prog 0 (planOf Go.Proofs.Tryz.prog 0) Go.Proofs.Tryz.f75).map toG = some G75 := by kernel_rfl
theorem G77_eq : (cF Go.Proofs.Tryz.prog 0 (planOf Go.Proofs.Tryz.prog 0) Go.Proofs.Tryz.f77).map toG = some G77 := by kernel_rfl
theorem G79_eq : (cF Go.Proofs.Tryz.prog 0 (planOf Go.Proofs.Tryz.prog 0) Go.Proofs.Tryz.f79).map toG = some G79 := by kernel_rfl
theorem G80_eq : (cF Go.Proofs.Tryz.prog 0 (planOf Go.Proofs.Tryz.prog 0) Go.Proofs.Tryz.f80).map toG = some G80 := by kernel_rfl
theorem G81_eq : (cF Go.Proofs.Tryz.prog 0 (planOf Go.Proofs.Tryz.prog 0) Go.Proofs.Tryz.f81).map toG = some G81 := by kernel_rfl
theorem G83_eq : (cF Go.Proofs.Tryz.prog 0 (planOf Go.Proofs.Tryz.prog 0) Go.Proofs.Tryz.f83).map toG = some G83 := by kernel_rfl
theorem G85_eq : (cF Go.Proofs.Tryz.prog 0 (planOf Go.Proofs.Tryz.prog 0) Go.Proofs.Tryz.f85).map toG = some G85 := by kernel_rfl
theorem G86_eq : (cF Go.Proofs.Tryz.prog 0 (planOf Go.Proofs.Tryz.prog 0) Go.Proofs.Tryz.f86).map toG = some G86 := by kernel_rfl
theorem G87_eq : (cF Go.Proofs.Tryz.prog 0 (planOf Go.Proofs.Tryz.prog 0) Go.Proofs.Tryz.f87).map toG = some G87 := by kernel_rfl
theorem G88_eq : (cF Go.Proofs.Tryz.prog 0 (planOf Go.Proofs.Tryz.prog 0) Go.Proofs.Tryz.f88).map toG = some G88 := by kernel_rfl
theorem G89_eq : (cF Go.Proofs.Tryz.prog 0 (planOf Go.Proofs.Tryz.prog 0) Go.Proofs.Tryz.f89).map toG = some G89 := by kernel_rfl
theorem G101_eq : (cF Go.Proofs.Tryz.prog 0 (planOf Go.Proofs.Tryz.prog 0) Go.Proofs.Tryz.f101).map toG = some G101 := by kernel_rfl
theorem G102_eq : (cF Go.Proofs.Tryz.prog 0 (planOf Go.Proofs.Tryz.prog 0) Go.Proofs.Tryz.f102).map toG = some G102 := by kernel_rfl
theorem G103_eq : (cF Go.Proofs.Tryz.prog 0 (planOf Go.Proofs.Tryz.prog 0) Go.Proofs.Tryz.f103).map toG = some G103 := by kernel_rfl
theorem G104_eq : (cF Go.Proofs.Tryz.prog 0 (planOf Go.Proofs.Tryz.prog 0) Go.Proofs.Tryz.f104).map toG = some G104 := by kernel_rfl
theorem G108_eq : (cF Go.Proofs.Tryz.prog 0 (planOf Go.Proofs.Tryz.prog 0) Go.Proofs.Tryz.f108).map toG = some G108 := by kernel_rfl
theorem G112_eq : (cF Go.Proofs.Tryz.prog 0 (planOf Go.Proofs.Tryz.prog 0) Go.Proofs.Tryz.f112).map toG = some G112 := by kernel_rfl
theorem G113_eq : (cF Go.Proofs.Tryz.prog 0 (planOf Go.Proofs.Tryz.prog 0) Go.Proofs.Tryz.f113).map toG = some G113 := by kernel_rfl
theorem G120_eq : (cF Go.Proofs.Tryz.prog 0 (planOf Go.Proofs.Tryz.prog 0) Go.Proofs.Tryz.f120).map toG = some G120 := by kernel_rfl
theorem G121_eq : (cF Go.Proofs.Tryz.prog 0 (planOf Go.Proofs.Tryz.prog 0) Go.Proofs.Tryz.f121).map toG = some G121 := by kernel_rfl
theorem G130_eq : (cF Go.Proofs.Tryz.prog 0 (planOf Go.Proofs.Tryz.prog 0) Go.Proofs.Tryz.f130).map toG = some G130 := by kernel_rfl
theorem G134_eq : (cF Go.Proofs.Tryz.prog 0 (planOf Go.Proofs.Tryz.prog 0) Go.Proofs.Tryz.f134).map toG = some G134 := by kernel_rfl
theorem G138_eq : (cF Go.Proofs.Tryz.prog 0 (planOf Go.Proofs.Tryz.prog 0) Go.Proofs.Tryz.f138).map toG = some G138 := by kernel_rfl
theorem G139_eq : (cF Go.Proofs.Tryz.prog 0 (planOf Go.Proofs.Tryz.prog 0) Go.Proofs.Tryz.f139).map toG = some G139 := by kernel_rfl
theorem G142_eq : (cF Go.Proofs.Tryz.prog 0 (planOf Go.Proofs.Tryz.prog 0) Go.Proofs.Tryz.f142).map toG = some G142 := by kernel_rfl
theorem G143_eq : (cF Go.Proofs.Tryz.prog 0 (planOf Go.Proofs.Tryz.prog 0) Go.Proofs.Tryz.f143).map toG = some G143 := by kernel_rfl
theorem G154_eq : (cF Go.Proofs.Tryz.prog 0 (planOf Go.Proofs.Tryz.prog 0) Go.Proofs.Tryz.f154).map toG = some G154 := by kernel_rfl
theorem G155_eq : (cF Go.Proofs.Tryz.prog 0 (planOf Go.Proofs.Tryz.prog 0) Go.Proofs.Tryz.f155).map toG = some G155 := by kernel_rfl
theorem G156_eq : (cF Go.Proofs.Tryz.prog 0 (planOf Go.Proofs.Tryz.prog 0) Go.Proofs.Tryz.f156).map toG = some G156 := by kernel_rfl
theorem G166_eq : (cF Go.Proofs.Tryz.prog 0 (planOf Go.Proofs.Tryz.prog 0) Go.Proofs.Tryz.f166).map toG = some G166 := by kernel_rfl
theorem G170_eq : (cF Go.Proofs.Tryz.prog 0 (planOf Go.Proofs.Tryz.prog 0) Go.Proofs.Tryz.f170).map toG = some G170 := by kernel_rfl
theorem G172_eq : (cF Go.Proofs.Tryz.prog 0 (planOf Go.Proofs.Tryz.prog 0) Go.Proofs.Tryz.f172).map toG = some G172 := by kernel_rfl
theorem G176_eq : (cF Go.Proofs.Tryz.prog 0 (planOf Go.Proofs.Tryz.prog 0) Go.Proofs.Tryz.f176).map toG = some G176 := by kernel_rfl
theorem G177_eq : (cF Go.Proofs.Tryz.prog 0 (planOf Go.Proofs.Tryz.prog 0) Go.Proofs.Tryz.f177).map toG = some G177 := by kernel_rfl
theorem G178_eq : (cF Go.Proofs.Tryz.prog 0 (planOf Go.Proofs.Tryz.prog 0) Go.Proofs.Tryz.f178).map toG = some G178 := by kernel_rfl
theorem G179_eq : (cF Go.Proofs.Tryz.prog 0 (planOf Go.Proofs.Tryz.prog 0) Go.Proofs.Tryz.f179).map toG = some G179 := by kernel_rfl
theorem G209_eq : (cF Go.Proofs.Tryz.prog 0 (planOf Go.Proofs.Tryz.prog 0) Go.Proofs.Tryz.f209).map toG = some G209 := by kernel_rfl
theorem G213_eq : (cF Go.Proofs.Tryz.prog 0 (planOf Go.Proofs.Tryz.prog 0) Go.Proofs.Tryz.f213).map toG = some G213 := by kernel_rfl
theorem G214_eq : (cF Go.Proofs.Tryz.prog 0 (planOf Go.Proofs.Tryz.prog 0) Go.Proofs.Tryz.f214).map toG = some G214 := by kernel_rfl
theorem G215_eq : (cF Go.Proofs.Tryz.prog 0 (planOf Go.Proofs.Tryz.prog 0) Go.Proofs.Tryz.f215).map toG = some G215 := by kernel_rfl
theorem G217_eq : (cF Go.Proofs.Tryz.prog 0 (planOf Go.Proofs.Tryz.prog 0) Go.Proofs.Tryz.f217).map toG = some G217 := by kernel_rfl
theorem G238_eq : (cF Go.Proofs.Tryz.prog 0 (planOf Go.Proofs.Tryz.prog 0) Go.Proofs.Tryz.f238).map toG = some G238 := by kernel_rfl
theorem G248_eq : (cF Go.Proofs.Tryz.prog 0 (planOf Go.Proofs.Tryz.prog 0) Go.Proofs.Tryz.f248).map toG = some G248 := by kernel_rfl
theorem e3 {p : Path} (h : p.num = 3 := by rfl) : EntG Go.Proofs.Tryz.prog 0 (planOf Go.Proofs.Tryz.prog 0) p (some G3) := EntG.some Go.Proofs.Tryz.func3 G3_eq h
theorem e4 {p : Path} (h : p.num = 4 := by rfl) : EntG Go.Proofs.Tryz.prog 0 (planOf Go.Proofs.Tryz.prog 0) p (some G4) := EntG.some Go.Proofs.Tryz.func4 G4_eq h
theorem e5 {p : Path} (h : p.num = 5 := by rfl) : EntG Go.Proofs.Tryz.prog 0 (planOf Go.Proofs.Tryz.prog 0) p (some G5) := EntG.some Go.Proofs.Tryz.func5 G5_eq h
theorem e6 {p : Path} (h : p.num = 6 := by rfl) : EntG Go.Proofs.Tryz.prog 0 (planOf Go.Proofs.Tryz.prog 0) p (some G6) := EntG.some Go.Proofs.Tryz.func6 G6_eq h
theorem e7 {p : Path} (h : p.num = 7 := by rfl) : EntG Go.Proofs.Tryz.prog 0 (planOf Go.Proofs.Tryz.prog 0) p (some G7) := EntG.some Go.Proofs.Tryz.func7 G7_eq h
theorem e8 {p : Path} (h : p.num = 8 := by rfl) : EntG Go.Proofs.Tryz.prog 0 (planOf Go.Proofs.Tryz.prog 0) p (some G8) := EntG.some Go.Proofs.Tryz.func8 G8_eq h
theorem e9 {p : Path} (h : p.num = 9 := by rfl) : EntG Go.Proofs.Tryz.prog 0 (planOf Go.Proofs.Tryz.prog 0) p (some G9) := EntG.some Go.Proofs.Tryz.func9 G9_eq h
theorem e10 {p : Path} (h : p.num = 10 := by rfl) : EntG Go.Proofs.Tryz.prog 0 (planOf Go.Proofs.Tryz.prog 0) p (some G10) := EntG.some Go.Proofs.Tryz.func10 G10_eq h
theorem e11 {p : Path} (h : p.num = 11 := by rfl) : EntG Go.Proofs.Tryz.prog 0 (planOf Go.Proofs.Tryz.prog 0) p (some G11) := EntG.some Go.Proofs.Tryz.func11 G11_eq h
theorem e12 {p : Path} (h : p.num = 12 := by rfl) : EntG Go.Proofs.Tryz.prog 0 (planOf Go.Proofs.Tryz.prog 0) p (some G12) := EntG.some Go.Proofs.Tryz.func12 G12_eq h
theorem e13 {p : Path} (h : p.num = 13 := by rfl) : EntG Go.Proofs.Tryz.prog 0 (planOf Go.Proofs.Tryz.prog 0) p (some G13) := EntG.some Go.Proofs.Tryz.func13 G13_eq h
theorem e14 {p : Path} (h : p.num = 14 := by rfl) : EntG Go.Proofs.Tryz.prog 0 (planOf Go.Proofs.Tryz.prog 0) p (some G14) := EntG.some Go.Proofs.Tryz.func14 G14_eq h
theorem e15 {p : Path} (h : p.num = 15 := by rfl) : EntG Go.Proofs.Tryz.prog 0 (planOf Go.Proofs.Tryz.prog 0) p (some G15) := EntG.some Go.Proofs.Tryz.func15 G15_eq h
theorem e16 {p : Path} (h : p.num = 16 := by rfl) : EntG Go.Proofs.Tryz.prog 0 (planOf Go.Proofs.Tryz.prog 0) p (some G16) := EntG.some Go.Proofs.Tryz.func16 G16_eq h
theorem e17 {p : Path} (h : p.num = 17 := by rfl) : EntG Go.Proofs.Tryz.prog 0 (planOf Go.Proofs.Tryz.prog 0) p (some G17) := EntG.some Go.Proofs.Tryz.func17 G17_eq h
theorem e18 {p : Path} (h : p.num = 18 := by rfl) : EntG Go.Proofs.Tryz.prog 0 (planOf Go.Proofs.Tryz.prog 0) p (some G18) := EntG.some Go.Proofs.Tryz.func18 G18_eq h
theorem e19 {p : Path} (h : p.num = 19 := by rfl) : EntG Go.Proofs.Tryz.prog 0 (planOf Go.Proofs.Tryz.prog 0) p (some G19) := EntG.some Go.Proofs.Tryz.func19 G19_eq h
theorem e20 {p : Path} (h : p.num = 20 := by rfl) : EntG Go.Proofs.Tryz.prog 0 (planOf Go.Proofs.Tryz.prog 0) p (some G20) := EntG.some Go.Proofs.Tryz.func20 G20_eq h
theorem e21 {p : Path} (h : p.num = 21 := by rfl) : EntG Go.Proofs.Tryz.prog 0 (planOf Go.Proofs.Tryz.prog 0) p (some G21) := EntG.some Go.Proofs.Tryz.func21 G21_eq h
theorem e22 {p : Path} (h : p.num = 22 := by rfl) : EntG Go.Proofs.Tryz.prog 0 (planOf Go.Proofs.Tryz.prog 0) p (some G22) := EntG.some Go.Proofs.Tryz.func22 G22_eq h
theorem e23 {p : Path} (h : p.num = 23 := by rfl) : EntG Go.Proofs.Tryz.prog 0 (planOf Go.Proofs.Tryz.prog 0) p (some G23) := EntG.some Go.Proofs.Tryz.func23 G23_eq h
theorem e24 {p : Path} (h : p.num = 24 := by rfl) : EntG Go.Proofs.Tryz.prog 0 (planOf Go.Proofs.Tryz.prog 0) p (some G24) := EntG.some Go.Proofs.Tryz.func24 G24_eq h
theorem e29 {p : Path} (h : p.num = 29 := by rfl) : EntG Go.Proofs.Tryz.prog 0 (planOf Go.Proofs.Tryz.prog 0) p (some G29) := EntG.some Go.Proofs.Tryz.func29 G29_eq h
theorem e30 {p : Path} (h : p.num = 30 := by rfl) : EntG Go.Proofs.Tryz.prog 0 (planOf Go.Proofs.Tryz.prog 0) p (some G30) := EntG.some Go.Proofs.Tryz.func30 G30_eq h
theorem e31 {p : Path} (h : p.num = 31 := by rfl) : EntG Go.Proofs.Tryz.prog 0 (planOf Go.Proofs.Tryz.prog 0) p (some G31) := EntG.some Go.Proofs.Tryz.func31 G31_eq h
theorem e32 {p : Path} (h : p.num = 32 := by rfl) : EntG Go.Proofs.Tryz.prog 0 (planOf Go.Proofs.Tryz.prog 0) p (some G32) := EntG.some Go.Proofs.Tryz.func32 G32_eq h
theorem e33 {p : Path} (h : p.num = 33 := by rfl) : EntG Go.Proofs.Tryz.prog 0 (planOf Go.Proofs.Tryz.prog 0) p (some G33) := EntG.some Go.Proofs.Tryz.func33 G33_eq h
theorem e34 {p : Path} (h : p.num = 34 := by rfl) : EntG Go.Proofs.Tryz.prog 0 (planOf Go.Proofs.Tryz.prog 0) p (some G34) := EntG.some Go.Proofs.Tryz.func34 G34_eq h
theorem e35 {p : Path} (h : p.num = 35 := by rfl) : EntG Go.Proofs.Tryz.prog 0 (planOf Go.Proofs.Tryz.prog 0) p (some G35) := EntG.some Go.Proofs.Tryz.func35 G35_eq h
theorem e36 {p : Path} (h : p.num = 36 := by rfl) : EntG Go.Proofs.Tryz.prog 0 (planOf Go.Proofs.Tryz.prog 0) p (some G36) := EntG.some Go.Proofs.Tryz.func36 G36_eq h
theorem e37 {p : Path} (h : p.num = 37 := by rfl) : EntG Go.Proofs.Tryz.prog 0 (planOf Go.Proofs.Tryz.prog 0) p (some G37) := EntG.some Go.Proofs.Tryz.func37 G37_eq h
theorem e38 {p : Path} (h : p.num = 38 := by rfl) : EntG Go.Proofs.Tryz.prog 0 (planOf Go.Proofs.Tryz.prog 0) p (some G38) := EntG.some Go.Proofs.Tryz.func38 G38_eq h
theorem e39 {p : Path} (h : p.num = 39 := by rfl) : EntG Go.Proofs.Tryz.prog 0 (planOf Go.Proofs.Tryz.prog 0) p (some G39) := EntG.some Go.Proofs.Tryz.func39 G39_eq h
theorem e40 {p : Path} (h : p.num = 40 := by rfl) : EntG Go.Proofs.Tryz.prog 0 (planOf Go.Proofs.Tryz.prog 0) p (some G40) := EntG.some Go.Proofs.Tryz.func40 G40_eq h
theorem e41 {p : Path} (h : p.num = 41 := by rfl) : EntG Go.Proofs.Tryz.prog 0 (planOf Go.Proofs.Tryz.prog 0) p (some G41) := EntG.some Go.Proofs.Tryz.func41 G41_eq h
theorem e42 {p : Path} (h : p.num = 42 := by rfl) : EntG Go.Proofs.Tryz.prog 0 (planOf Go.Proofs.Tryz.prog 0) p (some G42) := EntG.some Go.Proofs.Tryz.func42 G42_eq h
theorem e43 {p : Path} (h : p.num = 43 := by rfl) : EntG Go.Proofs.Tryz.prog 0 (planOf Go.Proofs.Tryz.prog 0) p (some G43) := EntG.some Go.Proofs.Tryz.func43 G43_eq h
theorem e45 {p : Path} (h : p.num = 45 := by rfl) : EntG Go.Proofs.Tryz.prog 0 (planOf Go.Proofs.Tryz.prog 0) p (some G45) := EntG.some Go.Proofs.Tryz.func45 G45_eq h
theorem e46 {p : Path} (h : p.num = 46 := by rfl) : EntG Go.Proofs.Tryz.prog 0 (planOf Go.Proofs.Tryz.prog 0) p (some G46) := EntG.some Go.Proofs.Tryz.func46 G46_eq h
theorem e47 {p : Path} (h : p.num = 47 := by rfl) : EntG Go.Proofs.Tryz.prog 0 (planOf Go.Proofs.Tryz.prog 0) p (some G47) := EntG.some Go.Proofs.Tryz.func47 G47_eq h
theorem e49 {p : Path} (h : p.num = 49 := by rfl) : EntG Go.Proofs.Tryz.prog 0 (planOf Go.Proofs.Tryz.prog 0) p (some G49) := EntG.some Go.Proofs.Tryz.func49 G49_eq h
theorem e50 {p : Path} (h : p.num = 50 := by rfl) : EntG Go.Proofs.Tryz.prog 0 (planOf Go.Proofs.Tryz.prog 0) p (some G50) := EntG.some Go.Proofs.Tryz.func50 G50_eq h
theorem e51 {p : Path} (h : p.num = 51 := by rfl) : EntG Go.Proofs.Tryz.prog 0 (planOf Go.Proofs.Tryz.prog 0) p (some G51) := EntG.some Go.Proofs.Tryz.func51 G51_eq h
theorem e52 {p : Path} (h : p.num = 52 := by rfl) : EntG Go.Proofs.Tryz.prog 0 (planOf Go.Proofs.Tryz.prog 0) p (some G52) := EntG.some Go.Proofs.Tryz.func52 G52_eq h
theorem e53 {p : Path} (h : p.num = 53 := by rfl) : EntG Go.Proofs.Tryz.prog 0 (planOf Go.Proofs.Tryz.prog 0) p (some G53) := EntG.some Go.Proofs.Tryz.func53 G53_eq h
theorem e54 {p : Path} (h : p.num = 54 := by rfl) : EntG Go.Proofs.Tryz.prog 0 (planOf Go.Proofs.Tryz.prog 0) p (some G54) := EntG.some Go.Proofs.Tryz.func54 G54_eq h
theorem e56 {p : Path} (h : p.num = 56 := by rfl) : EntG Go.Proofs.Tryz.prog 0 (planOf Go.Proofs.Tryz.prog 0) p (some G56) := EntG.some Go.Proofs.Tryz.func56 G56_eq h
theorem e67 {p : Path} (h : p.num = 67 := by rfl) : EntG Go.Proofs.Tryz.prog 0 (planOf Go.Proofs.Tryz.prog 0) p (some G67) := EntG.some Go.Proofs.Tryz.func67 G67_eq h
theorem e68 {p : Path} (h : p.num = 68 := by rfl) : EntG Go.Proofs.Tryz.prog 0 (planOf Go.Proofs.Tryz.prog 0) p (some G68) := EntG.some Go.Proofs.Tryz.func68 G68_eq h
theorem e69 {p : Path} (h : p.num = 69 := by rfl) : EntG Go.Proofs.Tryz.prog 0 (planOf Go.Proofs.Tryz.prog 0) p (some G69) := EntG.some Go.Proofs.Tryz.func69 G69_eq h
theorem e70 {p : Path} (h : p.num = 70 := by rfl) : EntG Go.Proofs.Tryz.prog 0 (planOf Go.Proofs.Tryz.prog 0) p (some G70) := EntG.some Go.Proofs.Tryz.func70 G70_eq h
theorem e71 {p : Path} (h : p.num = 71 := by rfl) : EntG Go.Proofs.Tryz.prog 0 (planOf Go.Proofs.Tryz.prog 0) p (some G71) := EntG.some Go.Proofs.Tryz.func71 G71_eq h
theorem e72 {p : Path} (h : p.num = 72 := by rfl) : EntG Go.Proofs.Tryz.prog 0 (planOf Go.Proofs.Tryz.prog 0) p (some G72) := EntG.some Go.Proofs.Tryz.func72 G72_eq h
theorem e73 {p : Path} (h : p.num = 73 := by rfl) : EntG Go.Proofs.Tryz.prog 0 (planOf Go.Proofs.Tryz.prog 0) p (some G73) := EntG.some Go.Proofs.Tryz.func73 G73_eq h
theorem e74 {p : Path} (h : p.num = 74 := by rfl) : EntG Go.Proofs.Tryz.prog 0 (planOf Go.Proofs.Tryz.prog 0) p (some G74) := EntG.some Go.Proofs.Tryz.func74 G74_eq h
theorem e75 {p : Path} (h : p.num = 75 := by rfl) : EntG Go.Proofs.Tryz.prog 0 (planOf Go.Proofs.Tryz.prog 0) p (some G75) := EntG.some Go.Proofs.Tryz.func75 G75_eq h
theorem e77 {p : Path} (h : p.num = 77 := by rfl) : EntG Go.Proofs.Tryz.prog 0 (planOf Go.Proofs.Tryz.prog 0) p (some G77) := EntG.some Go.Proofs.Tryz.func77 G77_eq h
theorem e79 {p : Path} (h : p.num = 79 := by rfl) : EntG Go.Proofs.Tryz.prog 0 (planOf Go.Proofs.Tryz.prog 0) p (some G79) := EntG.some Go.Proofs.Tryz.func79 G79_eq h
theorem e80 {p : Path} (h : p.num = 80 := by rfl) : EntG Go.Proofs.Tryz.prog 0 (planOf Go.Proofs.Tryz.prog 0) p (some G80) := EntG.some Go.Proofs.Tryz.func80 G80_eq h
theorem e81 {p : Path} (h : p.num = 81 := by rfl) : EntG Go.Proofs.Tryz.prog 0 (planOf Go.Proofs.Tryz.prog 0) p (some G81) := EntG.some Go.Proofs.Tryz.func81 G81_eq h
theorem e83 {p : Path} (h : p.num = 83 := by rfl) : EntG Go.Proofs.Tryz.prog 0 (planOf Go.Proofs.Tryz.prog 0) p (some G83) := EntG.some Go.Proofs.Tryz.func83 G83_eq h
theorem e85 {p : Path} (h : p.num = 85 := by rfl) : EntG Go.Proofs.Tryz.prog 0 (planOf Go.Proofs.Tryz.prog 0) p (some G85) := EntG.some Go.Proofs.Tryz.func85 G85_eq h
theorem e86 {p : Path} (h : p.num = 86 := by rfl) : EntG Go.Proofs.Tryz.prog 0 (planOf Go.Proofs.Tryz.prog 0) p (some G86) := EntG.some Go.Proofs.Tryz.func86 G86_eq h
theorem e87 {p : Path} (h : p.num = 87 := by rfl) : EntG Go.Proofs.Tryz.prog 0 (planOf Go.Proofs.Tryz.prog 0) p (some G87) := EntG.some Go.Proofs.Tryz.func87 G87_eq h
theorem e88 {p : Path} (h : p.num = 88 := by rfl) : EntG Go.Proofs.Tryz.prog 0 (planOf Go.Proofs.Tryz.prog 0) p (some G88) := EntG.some Go.Proofs.Tryz.func88 G88_eq h
theorem e89 {p : Path} (h : p.num = 89 := by rfl) : EntG Go.Proofs.Tryz.prog 0 (planOf Go.Proofs.Tryz.prog 0) p (some G89) := EntG.some Go.Proofs.Tryz.func89 G89_eq h
theorem e101 {p : Path} (h : p.num = 101 := by rfl) : EntG Go.Proofs.Tryz.prog 0 (planOf Go.Proofs.Tryz.prog 0) p (some G101) := EntG.some Go.Proofs.Tryz.func101 G101_eq h
theorem e102 {p : Path} (h : p.num = 102 := by rfl) : EntG Go.Proofs.Tryz.prog 0 (planOf Go.Proofs.Tryz.prog 0) p (some G102) := EntG.some Go.Proofs.Tryz.func102 G102_eq h
theorem e103 {p : Path} (h : p.num = 103 := by rfl) : EntG Go.Proofs.Tryz.prog 0 (planOf Go.Proofs.Tryz.prog 0) p (some G103) := EntG.some Go.Proofs.Tryz.func103 G103_eq h
theorem e104 {p : Path} (h : p.num = 104 := by rfl) : EntG Go.Proofs.Tryz.prog 0 (planOf Go.Proofs.Tryz.prog 0) p (some G104) := EntG.some Go.Proofs.Tryz.func104 G104_eq h
theorem e108 {p : Path} (h : p.num = 108 := by rfl) : EntG Go.Proofs.Tryz.prog 0 (planOf Go.Proofs.Tryz.prog 0) p (some G108) := EntG.some Go.Proofs.Tryz.func108 G108_eq h
theorem e112 {p : Path} (h : p.num = 112 := by rfl) : EntG Go.Proofs.Tryz.prog 0 (planOf Go.Proofs.Tryz.prog 0) p (some G112) := EntG.some Go.Proofs.Tryz.func112 G112_eq h
theorem e113 {p : Path} (h : p.num = 113 := by rfl) : EntG Go.Proofs.Tryz.prog 0 (planOf Go.Proofs.Tryz.prog 0) p (some G113) := EntG.some Go.Proofs.Tryz.func113 G113_eq h
theorem e120 {p : Path} (h : p.num = 120 := by rfl) : EntG Go.Proofs.Tryz.prog 0 (planOf Go.Proofs.Tryz.prog 0) p (some G120) := EntG.some Go.Proofs.Tryz.func120 G120_eq h
theorem e121 {p : Path} (h : p.num = 121 := by rfl) : EntG Go.Proofs.Tryz.prog 0 (planOf Go.Proofs.Tryz.prog 0) p (some G121) := EntG.some Go.Proofs.Tryz.func121 G121_eq h
theorem e130 {p : Path} (h : p.num = 130 := by rfl) : EntG Go.Proofs.Tryz.prog 0 (planOf Go.Proofs.Tryz.prog 0) p (some G130) := EntG.some Go.Proofs.Tryz.func130 G130_eq h
theorem e134 {p : Path} (h : p.num = 134 := by rfl) : EntG Go.Proofs.Tryz.prog 0 (planOf Go.Proofs.Tryz.prog 0) p (some G134) := EntG.some Go.Proofs.Tryz.func134 G134_eq h
theorem e138 {p : Path} (h : p.num = 138 := by rfl) : EntG Go.Proofs.Tryz.prog 0 (planOf Go.Proofs.Tryz.prog 0) p (some G138) := EntG.some Go.Proofs.Tryz.func138 G138_eq h
theorem e139 {p : Path} (h : p.num = 139 := by rfl) : EntG Go.Proofs.Tryz.prog 0 (planOf Go.Proofs.Tryz.prog 0) p (some G139) := EntG.some Go.Proofs.Tryz.func139 G139_eq h
theorem e142 {p : Path} (h : p.num = 142 := by rfl) : EntG Go.Proofs.Tryz.prog 0 (planOf Go.Proofs.Tryz.prog 0) p (some G142) := EntG.some Go.Proofs.Tryz.func142 G142_eq h
theorem e143 {p : Path} (h : p.num = 143 := by rfl) : EntG Go.Proofs.Tryz.prog 0 (planOf Go.Proofs.Tryz.prog 0) p (some G143) := EntG.some Go.Proofs.Tryz.func143 G143_eq h
theorem e154 {p : Path} (h : p.num = 154 := by rfl) : EntG Go.Proofs.Tryz.prog 0 (planOf Go.Proofs.Tryz.prog 0) p (some G154) := EntG.some Go.Proofs.Tryz.func154 G154_eq h
theorem e155 {p : Path} (h : p.num = 155 := by rfl) : EntG Go.Proofs.Tryz.prog 0 (planOf Go.Proofs.Tryz.prog 0) p (some G155) := EntG.some Go.Proofs.Tryz.func155 G155_eq h
theorem e156 {p : Path} (h : p.num = 156 := by rfl) : EntG Go.Proofs.Tryz.prog 0 (planOf Go.Proofs.Tryz.prog 0) p (some G156) := EntG.some Go.Proofs.Tryz.func156 G156_eq h
theorem e166 {p : Path} (h : p.num = 166 := by rfl) : EntG Go.Proofs.Tryz.prog 0 (planOf Go.Proofs.Tryz.prog 0) p (some G166) := EntG.some Go.Proofs.Tryz.func166 G166_eq h
theorem e170 {p : Path} (h : p.num = 170 := by rfl) : EntG Go.Proofs.Tryz.prog 0 (planOf Go.Proofs.Tryz.prog 0) p (some G170) := EntG.some Go.Proofs.Tryz.func170 G170_eq h
theorem e172 {p : Path} (h : p.num = 172 := by rfl) : EntG Go.Proofs.Tryz.prog 0 (planOf Go.Proofs.Tryz.prog 0) p (some G172) := EntG.some Go.Proofs.Tryz.func172 G172_eq h
theorem e176 {p : Path} (h : p.num = 176 := by rfl) : EntG Go.Proofs.Tryz.prog 0 (planOf Go.Proofs.Tryz.prog 0) p (some G176) := EntG.some Go.Proofs.Tryz.func176 G176_eq h
theorem e177 {p : Path} (h : p.num = 177 := by rfl) : EntG Go.Proofs.Tryz.prog 0 (planOf Go.Proofs.Tryz.prog 0) p (some G177) := EntG.some Go.Proofs.Tryz.func177 G177_eq h
theorem e178 {p : Path} (h : p.num = 178 := by rfl) : EntG Go.Proofs.Tryz.prog 0 (planOf Go.Proofs.Tryz.prog 0) p (some G178) := EntG.some Go.Proofs.Tryz.func178 G178_eq h
theorem e179 {p : Path} (h : p.num = 179 := by rfl) : EntG Go.Proofs.Tryz.prog 0 (planOf Go.Proofs.Tryz.prog 0) p (some G179) := EntG.some Go.Proofs.Tryz.func179 G179_eq h
theorem e209 {p : Path} (h : p.num = 209 := by rfl) : EntG Go.Proofs.Tryz.prog 0 (planOf Go.Proofs.Tryz.prog 0) p (some G209) := EntG.some Go.Proofs.Tryz.func209 G209_eq h
theorem e213 {p : Path} (h : p.num = 213 := by rfl) : EntG Go.Proofs.Tryz.prog 0 (planOf Go.Proofs.Tryz.prog 0) p (some G213) := EntG.some Go.Proofs.Tryz.func213 G213_eq h
theorem e214 {p : Path} (h : p.num = 214 := by rfl) : EntG Go.Proofs.Tryz.prog 0 (planOf Go.Proofs.Tryz.prog 0) p (some G214) := EntG.some Go.Proofs.Tryz.func214 G214_eq h
theorem e215 {p : Path} (h : p.num = 215 := by rfl) : EntG Go.Proofs.Tryz.prog 0 (planOf Go.Proofs.Tryz.prog 0) p (some G215) := EntG.some Go.Proofs.Tryz.func215 G215_eq h
theorem e217 {p : Path} (h : p.num = 217 := by rfl) : EntG Go.Proofs.Tryz.prog 0 (planOf Go.Proofs.Tryz.prog 0) p (some G217) := EntG.some Go.Proofs.Tryz.func217 G217_eq h
theorem e238 {p : Path} (h : p.num = 238 := by rfl) : EntG Go.Proofs.Tryz.prog 0 (planOf Go.Proofs.Tryz.prog 0) p (some G238) := EntG.some Go.Proofs.Tryz.func238 G238_eq h
theorem e248 {p : Path} (h : p.num = 248 := by rfl) : EntG Go.Proofs.Tryz.prog 0 (planOf Go.Proofs.Tryz.prog 0) p (some G248) := EntG.some Go.Proofs.Tryz.func248 G248_eq h
theorem tab_ok : AllT (EntG Go.Proofs.Tryz.prog 0 (planOf Go.Proofs.Tryz.prog 0)) tab := (show AllT _ tab from ⟨EntG.none, ⟨EntG.none, ⟨e3, ⟨e7, ⟨e15, ⟨e31, ⟨EntG.none, ⟨EntG.none, ⟨EntG.none, trivial, trivial⟩, trivial⟩, ⟨EntG.none, ⟨EntG.none, trivial, trivial⟩, trivial⟩⟩, ⟨EntG.none, ⟨EntG.none, ⟨EntG.none, trivial, trivial⟩, trivial⟩, ⟨EntG.none, trivial, trivial⟩⟩⟩, ⟨e47, ⟨e79, ⟨e143, ⟨EntG.none, trivial, trivial⟩, trivial⟩, ⟨EntG.none, trivial, trivial⟩⟩, ⟨EntG.none, ⟨EntG.none, ⟨EntG.none, trivial, trivial⟩, trivial⟩, ⟨EntG.none, trivial, trivial⟩⟩⟩⟩, ⟨e23, ⟨e39, ⟨e71, ⟨EntG.none, ⟨EntG.none, trivial, trivial⟩, trivial⟩, ⟨EntG.none, ⟨EntG.none, trivial, trivial⟩, trivial⟩⟩, ⟨e103, ⟨EntG.none, ⟨EntG.none, trivial, trivial⟩, trivial⟩, ⟨EntG.none, trivial, trivial⟩⟩⟩, ⟨EntG.none, ⟨e87, ⟨EntG.none, ⟨EntG.none, trivial, trivial⟩, trivial⟩, ⟨e215, trivial, trivial⟩⟩, ⟨EntG.none, ⟨EntG.none, ⟨EntG.none, trivial, trivial⟩, trivial⟩, ⟨EntG.none, trivial, trivial⟩⟩⟩⟩⟩, ⟨e11, ⟨e19, ⟨e35, ⟨e67, ⟨EntG.none, ⟨EntG.none, trivial, trivial⟩, trivial⟩, ⟨EntG.none, ⟨EntG.none, trivial, trivial⟩, trivial⟩⟩, ⟨EntG.none, ⟨EntG.none, ⟨EntG.none, trivial, trivial⟩, trivial⟩, ⟨EntG.none, trivial, trivial⟩⟩⟩, ⟨e51, ⟨e83, ⟨EntG.none, ⟨EntG.none, trivial, trivial⟩, trivial⟩, ⟨EntG.none, trivial, trivial⟩⟩, ⟨EntG.none, ⟨e179, ⟨EntG.none, trivial, trivial⟩, trivial⟩, ⟨EntG.none, trivial, trivial⟩⟩⟩⟩, ⟨EntG.none, ⟨e43, ⟨e75, ⟨e139, ⟨EntG.none, trivial, trivial⟩, trivial⟩, ⟨EntG.none, trivial, trivial⟩⟩, ⟨EntG.none, ⟨EntG.none, ⟨EntG.none, trivial, trivial⟩, trivial⟩, ⟨EntG.none, trivial, trivial⟩⟩⟩, ⟨EntG.none, ⟨EntG.none, ⟨e155, ⟨EntG.none, trivial, trivial⟩, trivial⟩, ⟨EntG.none, trivial, trivial⟩⟩, ⟨EntG.none, ⟨EntG.none, ⟨EntG.none, trivial, trivial⟩, trivial⟩, ⟨EntG.none, trivial, trivial⟩⟩⟩⟩⟩⟩, ⟨e5, ⟨e9, ⟨e17, ⟨e33, ⟨EntG.none, ⟨EntG.none, ⟨EntG.none, trivial, trivial⟩, trivial⟩, ⟨EntG.none, ⟨EntG.none, trivial, trivial⟩, trivial⟩⟩, ⟨EntG.none, ⟨EntG.none, ⟨EntG.none, trivial, trivial⟩, trivial⟩, ⟨EntG.none, trivial, trivial⟩⟩⟩, ⟨e49, ⟨e81, ⟨EntG.none, ⟨EntG.none, trivial, trivial⟩, trivial⟩, ⟨e209, trivial, trivial⟩⟩, ⟨e113, ⟨e177, ⟨EntG.none, trivial, trivial⟩, trivial⟩, ⟨EntG.none, trivial, trivial⟩⟩⟩⟩, ⟨EntG.none, ⟨e41, ⟨e73, ⟨EntG.none, ⟨EntG.none, trivial, trivial⟩, trivial⟩, ⟨EntG.none, trivial, trivial⟩⟩, ⟨EntG.none, ⟨EntG.none, ⟨EntG.none, trivial, trivial⟩, trivial⟩, ⟨EntG.none, trivial, trivial⟩⟩⟩, ⟨EntG.none, ⟨e89, ⟨EntG.none, ⟨EntG.none, trivial, trivial⟩, trivial⟩, ⟨e217, trivial, trivial⟩⟩, ⟨e121, ⟨EntG.none, ⟨EntG.none, trivial, trivial⟩, trivial⟩, ⟨EntG.none, trivial, trivial⟩⟩⟩⟩⟩, ⟨e13, ⟨e21, ⟨e37, ⟨e69, ⟨EntG.none, ⟨EntG.none, trivial, trivial⟩, trivial⟩, ⟨EntG.none, ⟨EntG.none, trivial, trivial⟩, trivial⟩⟩, ⟨e101, ⟨EntG.none, ⟨EntG.none, trivial, trivial⟩, trivial⟩, ⟨EntG.none, trivial, trivial⟩⟩⟩, ⟨e53, ⟨e85, ⟨EntG.none, ⟨EntG.none, trivial, trivial⟩, trivial⟩, ⟨e213, trivial, trivial⟩⟩, ⟨EntG.none, ⟨EntG.none, ⟨EntG.none, trivial, trivial⟩, trivial⟩, ⟨EntG.none, trivial, trivial⟩⟩⟩⟩, ⟨e29, ⟨e45, ⟨e77, ⟨EntG.none, ⟨EntG.none, trivial, trivial⟩, trivial⟩, ⟨EntG.none, trivial, trivial⟩⟩, ⟨EntG.none, ⟨EntG.none, ⟨EntG.none, trivial, trivial⟩, trivial⟩, ⟨EntG.none, trivial, trivial⟩⟩⟩, ⟨EntG.none, ⟨EntG.none, ⟨EntG.none, ⟨EntG.none, trivial, trivial⟩, trivial⟩, ⟨EntG.none, trivial, trivial⟩⟩, ⟨EntG.none, ⟨EntG.none, ⟨EntG.none, trivial, trivial⟩, trivial⟩, ⟨EntG.none, trivial, trivial⟩⟩⟩⟩⟩⟩⟩, ⟨EntG.none, ⟨e4, ⟨e8, ⟨e16, ⟨e32, ⟨EntG.none, ⟨EntG.none, ⟨EntG.none, trivial, trivial⟩, trivial⟩, ⟨EntG.none, ⟨EntG.none, trivial, trivial⟩, trivial⟩⟩, ⟨EntG.none, ⟨EntG.none, ⟨EntG.none, trivial, trivial⟩, trivial⟩, ⟨EntG.none, trivial, trivial⟩⟩⟩, ⟨EntG.none, ⟨e80, ⟨EntG.none, ⟨EntG.none, trivial, trivial⟩, trivial⟩, ⟨EntG.none, trivial, trivial⟩⟩, ⟨e112, ⟨e176, ⟨EntG.none, trivial, trivial⟩, trivial⟩, ⟨EntG.none, trivial, trivial⟩⟩⟩⟩, ⟨e24, ⟨e40, ⟨e72, ⟨EntG.none, ⟨EntG.none, trivial, trivial⟩, trivial⟩, ⟨EntG.none, ⟨EntG.none, trivial, trivial⟩, trivial⟩⟩, ⟨e104, ⟨EntG.none, ⟨EntG.none, trivial, trivial⟩, trivial⟩, ⟨EntG.none, trivial, trivial⟩⟩⟩, ⟨e56, ⟨e88, ⟨EntG.none, ⟨EntG.none, trivial, trivial⟩, trivial⟩, ⟨EntG.none, trivial, trivial⟩⟩, ⟨e120, ⟨EntG.none, ⟨EntG.none, trivial, trivial⟩, trivial⟩, ⟨e248, trivial, trivial⟩⟩⟩⟩⟩, ⟨e12, ⟨e20, ⟨e36, ⟨e68, ⟨EntG.none, ⟨EntG.none, trivial, trivial⟩, trivial⟩, ⟨EntG.none, ⟨EntG.none, trivial, trivial⟩, trivial⟩⟩, ⟨EntG.none, ⟨EntG.none, ⟨EntG.none, trivial, trivial⟩, trivial⟩, ⟨EntG.none, trivial, trivial⟩⟩⟩, ⟨e52, ⟨EntG.none, ⟨EntG.none, ⟨EntG.none, trivial, trivial⟩, trivial⟩, ⟨EntG.none, trivial, trivial⟩⟩, ⟨EntG.none, ⟨EntG.none, ⟨EntG.none, trivial, trivial⟩, trivial⟩, ⟨EntG.none, trivial, trivial⟩⟩⟩⟩, ⟨EntG.none, ⟨EntG.none, ⟨EntG.none, ⟨EntG.none, ⟨EntG.none, trivial, trivial⟩, trivial⟩, ⟨EntG.none, trivial, trivial⟩⟩, ⟨e108, ⟨e172, ⟨EntG.none, trivial, trivial⟩, trivial⟩, ⟨EntG.none, trivial, trivial⟩⟩⟩, ⟨EntG.none, ⟨EntG.none, ⟨e156, ⟨EntG.none, trivial, trivial⟩, trivial⟩, ⟨EntG.none, trivial, trivial⟩⟩, ⟨EntG.none, ⟨EntG.none, ⟨EntG.none, trivial, trivial⟩, trivial⟩, ⟨EntG.none, trivial, trivial⟩⟩⟩⟩⟩⟩, ⟨e6, ⟨e10, ⟨e18, ⟨e34, ⟨EntG.none, ⟨e130, ⟨EntG.none, trivial, trivial⟩, trivial⟩, ⟨EntG.none, ⟨EntG.none, trivial, trivial⟩, trivial⟩⟩, ⟨EntG.none, ⟨EntG.none, ⟨EntG.none, trivial, trivial⟩, trivial⟩, ⟨EntG.none, trivial, trivial⟩⟩⟩, ⟨e50, ⟨EntG.none, ⟨EntG.none, ⟨EntG.none, trivial, trivial⟩, trivial⟩, ⟨EntG.none, trivial, trivial⟩⟩, ⟨EntG.none, ⟨e178, ⟨EntG.none, trivial, trivial⟩, trivial⟩, ⟨EntG.none, trivial, trivial⟩⟩⟩⟩, ⟨EntG.none, ⟨e42, ⟨e74, ⟨e138, ⟨EntG.none, trivial, trivial⟩, trivial⟩, ⟨EntG.none, trivial, trivial⟩⟩, ⟨EntG.none, ⟨e170, ⟨EntG.none, trivial, trivial⟩, trivial⟩, ⟨EntG.none, trivial, trivial⟩⟩⟩, ⟨EntG.none, ⟨EntG.none, ⟨e154, ⟨EntG.none, trivial, trivial⟩, trivial⟩, ⟨EntG.none, trivial, trivial⟩⟩, ⟨EntG.none, ⟨EntG.none, ⟨EntG.none, trivial, trivial⟩, trivial⟩, ⟨EntG.none, trivial, trivial⟩⟩⟩⟩⟩, ⟨e14, ⟨e22, ⟨e38, ⟨e70, ⟨e134, ⟨EntG.none, trivial, trivial⟩, trivial⟩, ⟨EntG.none, ⟨EntG.none, trivial, trivial⟩, trivial⟩⟩, ⟨e102, ⟨e166, ⟨EntG.none, trivial, trivial⟩, trivial⟩, ⟨EntG.none, trivial, trivial⟩⟩⟩, ⟨e54, ⟨e86, ⟨EntG.none, ⟨EntG.none, trivial, trivial⟩, trivial⟩, ⟨e214, trivial, trivial⟩⟩, ⟨EntG.none, ⟨EntG.none, ⟨EntG.none, trivial, trivial⟩, trivial⟩, ⟨EntG.none, trivial, trivial⟩⟩⟩⟩, ⟨e30, ⟨e46, ⟨EntG.none, ⟨e142, ⟨EntG.none, trivial, trivial⟩, trivial⟩, ⟨EntG.none, trivial, trivial⟩⟩, ⟨EntG.none, ⟨EntG.none, ⟨EntG.none, trivial, trivial⟩, trivial⟩, ⟨e238, trivial, trivial⟩⟩⟩, ⟨EntG.none, ⟨EntG.none, ⟨EntG.none, ⟨EntG.none, trivial, trivial⟩, trivial⟩, ⟨EntG.none, trivial, trivial⟩⟩, ⟨EntG.none, ⟨EntG.none, ⟨EntG.none, trivial, trivial⟩, trivial⟩, ⟨EntG.none, trivial, trivial⟩⟩⟩⟩⟩⟩⟩⟩)

end Code
end Go.Proofs.YtkpcbdjbobhciaaGreatDoor
