/- The compiled functions are the program's. -/
import Derived.Test.YtfcmehmbjajggaaGreatDoorCodeT
import Derived.Test.YtfcmehmbjajggaaGreatDoorChecked
import Derived.KernelRfl
namespace Go.Proofs.YtfcmehmbjajggaaGreatDoor
open Go Go.Eng
namespace Code
set_option maxRecDepth 100000
set_option linter.unusedVariables false
theorem G3_eq : (cF Go.Proofs.Tryz.prog 0 (planOf Go.Proofs.Tryz.prog 0) Go.Proofs.Tryz.f3).map toG = some G3 := by kernel_rfl
theorem G4_eq : (cF Go.Proofs.Tryz.prog 0 (planOf Go.Proofs.Tryz.prog 0) Go.Proofs.Tryz.f4).map toG = some G4 := by kernel_rfl
theorem G5_eq : (cF Go.Proofs.Tryz.prog 0 (planOf Go.Proofs.Tryz.prog 0) Go.Proofs.Tryz.f5).map toG = some G5 := by kernel_rfl
theorem G6_eq : (cF Go.Proofs.Tryz.prog 0 (planOf Go.Proofs.Tryz.prog 0) Go.Proofs.Tryz.f6).map toG = some G6 := by kernel_rfl
theorem G7_eq : (cF Go.Proofs.Tryz.prog 0 (planOf Go.Proofs.Tryz.prog 0) Go.Proofs.Tryz.f7).map toG = some G7 := by kernel_rfl
theorem G8_eq : (cF Go.Proofs.Tryz.prog 0 (planOf Go.Proofs.Tryz.prog 0) Go.Proofs.Tryz.f8).map toG = some G8 := by kernel_rfl
theorem G9_eq : (cF Go.Proofs.Tryz.prog 0 (planOf Go.Proofs.Tryz.prog 0) Go.Proofs.Tryz.f9).map toG = some G9 := by kernel_rfl
theorem G10_eq : (cF Go.Proofs.Tryz.prog 0 (planOf Go.Proofs.Tryz.prog 0) Go.Proofs.Tryz.f10).map toG = some G10 := by kernel_rfl
theorem G11_eq : (cF Go.Proofs.Tryz.prog 0 (planOf Go.Proofs.Tryz.prog 0) Go.Proofs.Tryz.f11).map toG = some G11 := by kernel_rfl
theorem G12_eq : (cF Go.Proofs.Tryz.prog 0 (planOf Go.Proofs.Tryz.prog 0) Go.Proofs.Tryz.f12).map toG = some G12 := by kernel_rfl
theorem G13_eq : (cF Go.Proofs.Tryz.prog 0 (planOf Go.Proofs.Tryz.prog 0) Go.Proofs.Tryz.f13).map toG = some G13 := by kernel_rfl
theorem G14_eq : (cF Go.Proofs.Tryz.prog 0 (planOf Go.Proofs.Tryz.prog 0) Go.Proofs.Tryz.f14).map toG = some G14 := by kernel_rfl
theorem G15_eq : (cF Go.Proofs.Tryz.prog 0 (planOf Go.Proofs.Tryz.prog 0) Go.Proofs.Tryz.f15).map toG = some G15 := by kernel_rfl
theorem G16_eq : (cF Go.Proofs.Tryz.prog 0 (planOf Go.Proofs.Tryz.prog 0) Go.Proofs.Tryz.f16).map toG = some G16 := by kernel_rfl
theorem G17_eq : (cF Go.Proofs.Tryz.prog 0 (planOf Go.Proofs.Tryz.prog 0) Go.Proofs.Tryz.f17).map toG = some G17 := by kernel_rfl
theorem G18_eq : (cF Go.Proofs.Tryz.prog 0 (planOf Go.Proofs.Tryz.prog 0) Go.Proofs.Tryz.f18).map toG = some G18 := by kernel_rfl
theorem G19_eq : (cF Go.Proofs.Tryz.prog 0 (planOf Go.Proofs.Tryz.prog 0) Go.Proofs.Tryz.f19).map toG = some G19 := by kernel_rfl
theorem G20_eq : (cF Go.Proofs.Tryz.prog 0 (planOf Go.Proofs.Tryz.prog 0) Go.Proofs.Tryz.f20).map toG = some G20 := by kernel_rfl
theorem G21_eq : (cF Go.Proofs.Tryz.prog 0 (planOf Go.Proofs.Tryz.prog 0) Go.Proofs.Tryz.f21).map toG = some G21 := by kernel_rfl
theorem G22_eq : (cF Go.Proofs.Tryz.prog 0 (planOf Go.Proofs.Tryz.prog 0) Go.Proofs.Tryz.f22).map toG = some G22 := by kernel_rfl
theorem G24_eq : (cF Go.Proofs.Tryz.prog 0 (planOf Go.Proofs.Tryz.prog 0) Go.Proofs.Tryz.f24).map toG = some G24 := by kernel_rfl
theorem G27_eq : (cF Go.Proofs.Tryz.prog 0 (planOf Go.Proofs.Tryz.prog 0) Go.Proofs.Tryz.f27).map toG = some G27 := by kernel_rfl
theorem G28_eq : (cF Go.Proofs.Tryz.prog 0 (planOf Go.Proofs.Tryz.prog 0) Go.Proofs.Tryz.f28).map toG = some G28 := by kernel_rfl
theorem G32_eq : (cF Go.Proofs.Tryz.prog 0 (planOf Go.Proofs.Tryz.prog 0) Go.Proofs.Tryz.f32).map toG = some G32 := by kernel_rfl
theorem G33_eq : (cF Go.Proofs.Tryz.prog 0 (planOf Go.Proofs.Tryz.prog 0) Go.Proofs.Tryz.f33).map toG = some G33 := by kernel_rfl
theorem G34_eq : (cF Go.Proofs.Tryz.prog 0 (planOf Go.Proofs.Tryz.prog 0) Go.Proofs.Tryz.f34).map toG = some G34 := by kernel_rfl
theorem G35_eq : (cF Go.Proofs.Tryz.prog 0 (planOf Go.Proofs.Tryz.prog 0) Go.Proofs.Tryz.f35).map toG = some G35 := by kernel_rfl
theorem G42_eq : (cF Go.Proofs.Tryz.prog 0 (planOf Go.Proofs.Tryz.prog 0) Go.Proofs.Tryz.f42).map toG = some G42 := by kernel_rfl
theorem G43_eq : (cF Go.Proofs.Tryz.prog 0 (planOf Go.Proofs.Tryz.prog 0) Go.Proofs.Tryz.f43).map toG = some G43 := by kernel_rfl
theorem G44_eq : (cF Go.Proofs.Tryz.prog 0 (planOf Go.Proofs.Tryz.prog 0) Go.Proofs.Tryz.f44).map toG = some G44 := by kernel_rfl
theorem G46_eq : (cF Go.Proofs.Tryz.prog 0 (planOf Go.Proofs.Tryz.prog 0) Go.Proofs.Tryz.f46).map toG = some G46 := by kernel_rfl
theorem G47_eq : (cF Go.Proofs.Tryz.prog 0 (planOf Go.Proofs.Tryz.prog 0) Go.Proofs.Tryz.f47).map toG = some G47 := by kernel_rfl
theorem G48_eq : (cF Go.Proofs.Tryz.prog 0 (planOf Go.Proofs.Tryz.prog 0) Go.Proofs.Tryz.f48).map toG = some G48 := by kernel_rfl
theorem G49_eq : (cF Go.Proofs.Tryz.prog 0 (planOf Go.Proofs.Tryz.prog 0) Go.Proofs.Tryz.f49).map toG = some G49 := by kernel_rfl
theorem G51_eq : (cF Go.Proofs.Tryz.prog 0 (planOf Go.Proofs.Tryz.prog 0) Go.Proofs.Tryz.f51).map toG = some G51 := by kernel_rfl
theorem G52_eq : (cF Go.Proofs.Tryz.prog 0 (planOf Go.Proofs.Tryz.prog 0) Go.Proofs.Tryz.f52).map toG = some G52 := by kernel_rfl
theorem G53_eq : (cF Go.Proofs.Tryz.prog 0 (planOf Go.Proofs.Tryz.prog 0) Go.Proofs.Tryz.f53).map toG = some G53 := by kernel_rfl
theorem G57_eq : (cF Go.Proofs.Tryz.prog 0 (planOf Go.Proofs.Tryz.prog 0) Go.Proofs.Tryz.f57).map toG = some G57 := by kernel_rfl
theorem G67_eq : (cF Go.Proofs.Tryz.prog 0 (planOf Go.Proofs.Tryz.prog 0) Go.Proofs.Tryz.f67).map toG = some G67 := by kernel_rfl
theorem G68_eq : (cF Go.Proofs.Tryz.prog 0 (planOf Go.Proofs.Tryz.prog 0) Go.Proofs.Tryz.f68).map toG = some G68 := by kernel_rfl
theorem G76_eq : (cF Go.Proofs.Tryz.prog 0 (planOf Go.Proofs.Tryz.prog 0) Go.Proofs.Tryz.f76).map toG = some G76 := by kernel_rfl
theorem G77_eq : (cF Go.Proofs.Tryz.prog 0 (planOf Go.Proofs.Tryz.prog 0) Go.Proofs.Tryz.f77).map toG = some G77 := by kernel_rfl
theorem G78_eq : (cF Go.Proofs.Tryz.prog 0 (planOf Go.Proofs.Tryz.prog 0) Go.Proofs.Tryz.f78).map toG = some G78 := by kernel_rfl
theorem G79_eq : (cF Go.Proofs.Tryz.prog 0 (planOf Go.Proofs.Tryz.prog 0) Go.Proofs.Tryz.f79).map toG = some G79 := by kernel_rfl
theorem G80_eq : (cF Go.Proofs.Tryz.prog 0 (planOf Go.Proofs.Tryz.prog 0) Go.Proofs.Tryz.f80).map toG = some G80 := by kernel_rfl
theorem G83_eq : (cF Go.Proofs.Tryz.prog 0 (planOf Go.Proofs.Tryz.prog 0) Go.Proofs.Tryz.f83).map toG = some G83 := by kernel_rfl
theorem G85_eq : (cF Go.Proofs.Tryz.prog 0 (planOf Go.Proofs.Tryz.prog 0) Go.Proofs.Tryz.f85).map toG = some G85 := by kernel_rfl
theorem G86_eq : (cF Go.Proofs.Tryz.prog 0 (planOf Go.Proofs.Tryz.prog 0) Go.Proofs.Tryz.f86).map toG = some G86 := by kernel_rfl
theorem G98_eq : (cF Go.Proofs.Tryz.prog 0 (planOf Go.Proofs.Tryz.prog 0) Go.Proofs.Tryz.f98).map toG = some G98 := by kernel_rfl
theorem G100_eq : (cF Go.Proofs.Tryz.prog 0 (planOf Go.Proofs.Tryz.prog 0) Go.Proofs.Tryz.f100).map toG = some G100 := by kernel_rfl
theorem G101_eq : (cF Go.Proofs.Tryz.prog 0 (planOf Go.Proofs.Tryz.prog 0) Go.Proofs.Tryz.f101).map toG = some G101 := by kernel_rfl
theorem G109_eq : (cF Go.Proofs.Tryz.prog 0 (planOf Go.Proofs.Tryz.prog 0) Go.Proofs.Tryz.f109).map toG = some G109 := by kernel_rfl
theorem G110_eq : (cF Go.Proofs.Tryz.prog 0 (planOf Go.Proofs.Tryz.prog 0) Go.Proofs.Tryz.f110).map toG = some G110 := by kernel_rfl
theorem G111_eq : (cF Go.Proofs.Tryz.prog 0 (planOf Go.Proofs.Tryz.prog 0) Go.Proofs.Tryz.f111).map toG = some G111 := by kernel_rfl
theorem G113_eq : (cF Go.Proofs.Tryz.prog 0 (planOf Go.Proofs.Tryz.prog 0) Go.Proofs.Tryz.f113).map toG = some G113 := by kernel_rfl
theorem G123_eq : (cF Go.Proofs.Tryz.prog 0 (planOf Go.Proofs.Tryz.prog 0) Go.Proofs.Tryz.f123).map toG = some G123 := by kernel_rfl
theorem G124_eq : (cF Go.Proofs.Tryz.prog 0 (planOf Go.Proofs.Tryz.prog 0) Go.Proofs.Tryz.f124).map toG = some G124 := by kernel_rfl
theorem G125_eq : (cF Go.Proofs.Tryz.prog 0 (planOf Go.Proofs.Tryz.prog 0) Go.Proofs.Tryz.f125).map toG = some G125 := by kernel_rfl
theorem G126_eq : (cF Go.Proofs.Tryz.prog 0 (planOf Go.Proofs.Tryz.prog 0) Go.Proofs.Tryz.f126).map toG = some G126 := by kernel_rfl
theorem G134_eq : (cF Go.Proofs.Tryz.prog 0 (planOf Go.Proofs.Tryz.prog 0) Go.Proofs.Tryz.f134).map toG = some G134 := by kernel_rfl
theorem G135_eq : (cF Go.Proofs.Tryz.prog 0 (planOf Go.Proofs.Tryz.prog 0) Go.Proofs.Tryz.f135).map toG = some G135 := by kernel_rfl
theorem G136_eq : (cF Go.Proofs.Tryz.prog 0 (planOf Go.Proofs.Tryz.prog 0) Go.Proofs.Tryz.f136).map toG = some G136 := by kernel_rfl
theorem G138_eq : (cF Go.Proofs.Tryz.prog 0 (planOf Go.Proofs.Tryz.prog 0) Go.Proofs.Tryz.f138).map toG = some G138 := by kernel_rfl
theorem G141_eq : (cF Go.Proofs.Tryz.prog 0 (planOf Go.Proofs.Tryz.prog 0) Go.Proofs.Tryz.f141).map toG = some G141 := by kernel_rfl
theorem G145_eq : (cF Go.Proofs.Tryz.prog 0 (planOf Go.Proofs.Tryz.prog 0) Go.Proofs.Tryz.f145).map toG = some G145 := by kernel_rfl
section
variable [Env]
theorem e3 {p : Path} (h : p.num = 3 := by rfl) : EntG Go.Proofs.Tryz.prog 0 (planOf Go.Proofs.Tryz.prog 0) p (some G3) := EntG.some Go.Proofs.Tryz.func3 G3_eq h
theorem e4 {p : Path} (h : p.num = 4 := by rfl) : EntG Go.Proofs.Tryz.prog 0 (planOf Go.Proofs.Tryz.prog 0) p (some G4) := EntG.some Go.Proofs.Tryz.func4 G4_eq h
theorem e5 {p : Path} (h : p.num = 5 := by rfl) : EntG Go.Proofs.Tryz.prog 0 (planOf Go.Proofs.Tryz.prog 0) p (some G5) := EntG.some Go.Proofs.Tryz.func5 G5_eq h
theorem e6 {p : Path} (h : p.num = 6 := by rfl) : EntG Go.Proofs.Tryz.prog 0 (planOf Go.Proofs.Tryz.prog 0) p (some G6) := EntG.some Go.Proofs.Tryz.func6 G6_eq h
theorem e7 {p : Path} (h : p.num = 7 := by rfl) : EntG Go.Proofs.Tryz.prog 0 (planOf Go.Proofs.Tryz.prog 0) p (some G7) := EntG.some Go.Proofs.Tryz.func7 G7_eq h
theorem e8 {p : Path} (h : p.num = 8 := by rfl) : EntG Go.Proofs.Tryz.prog 0 (planOf Go.Proofs.Tryz.prog 0) p (some G8) := EntG.some Go.Proofs.Tryz.func8 G8_eq h
theorem e9 {p : Path} (h : p.num = 9 := by rfl) : EntG Go.Proofs.Tryz.prog 0 (planOf Go.Proofs.Tryz.prog 0) p (some G9) := EntG.some Go.Proofs.Tryz.func9 G9_eq h
theorem e10 {p : Path} (h : p.num = 10 := by rfl) : EntG Go.Proofs.Tryz.prog 0 (planOf Go.Proofs.Tryz.prog 0) p (some G10) := EntG.some Go.Proofs.Tryz.func10 G10_eq h
theorem e11 {p : Path} (h : p.num = 11 := by rfl) : EntG Go.Proofs.Tryz.prog 0 (planOf Go.Proofs.Tryz.prog 0) p (some G11) := EntG.some Go.Proofs.Tryz.func11 G11_eq h
theorem e12 {p : Path} (h : p.num = 12 := by rfl) : EntG Go.Proofs.Tryz.prog 0 (planOf Go.Proofs.Tryz.prog 0) p (some G12) := EntG.some Go.Proofs.Tryz.func12 G12_eq h
theorem e13 {p : Path} (h : p.num = 13 := by rfl) : EntG Go.Proofs.Tryz.prog 0 (planOf Go.Proofs.Tryz.prog 0) p (some G13) := EntG.some Go.Proofs.Tryz.func13 G13_eq h
theorem e14 {p : Path} (h : p.num = 14 := by rfl) : EntG Go.Proofs.Tryz.prog 0 (planOf Go.Proofs.Tryz.prog 0) p (some G14) := EntG.some Go.Proofs.Tryz.func14 G14_eq h
theorem e15 {p : Path} (h : p.num = 15 := by rfl) : EntG Go.Proofs.Tryz.prog 0 (planOf Go.Proofs.Tryz.prog 0) p (some G15) := EntG.some Go.Proofs.Tryz.func15 G15_eq h
theorem e16 {p : Path} (h : p.num = 16 := by rfl) : EntG Go.Proofs.Tryz.prog 0 (planOf Go.Proofs.Tryz.prog 0) p (some G16) := EntG.some Go.Proofs.Tryz.func16 G16_eq h
theorem e17 {p : Path} (h : p.num = 17 := by rfl) : EntG Go.Proofs.Tryz.prog 0 (planOf Go.Proofs.Tryz.prog 0) p (some G17) := EntG.some Go.Proofs.Tryz.func17 G17_eq h
theorem e18 {p : Path} (h : p.num = 18 := by rfl) : EntG Go.Proofs.Tryz.prog 0 (planOf Go.Proofs.Tryz.prog 0) p (some G18) := EntG.some Go.Proofs.Tryz.func18 G18_eq h
theorem e19 {p : Path} (h : p.num = 19 := by rfl) : EntG Go.Proofs.Tryz.prog 0 (planOf Go.Proofs.Tryz.prog 0) p (some G19) := EntG.some Go.Proofs.Tryz.func19 G19_eq h
theorem e20 {p : Path} (h : p.num = 20 := by rfl) : EntG Go.Proofs.Tryz.prog 0 (planOf Go.Proofs.Tryz.prog 0) p (some G20) := EntG.some Go.Proofs.Tryz.func20 G20_eq h
theorem e21 {p : Path} (h : p.num = 21 := by rfl) : EntG Go.Proofs.Tryz.prog 0 (planOf Go.Proofs.Tryz.prog 0) p (some G21) := EntG.some Go.Proofs.Tryz.func21 G21_eq h
theorem e22 {p : Path} (h : p.num = 22 := by rfl) : EntG Go.Proofs.Tryz.prog 0 (planOf Go.Proofs.Tryz.prog 0) p (some G22) := EntG.some Go.Proofs.Tryz.func22 G22_eq h
theorem e24 {p : Path} (h : p.num = 24 := by rfl) : EntG Go.Proofs.Tryz.prog 0 (planOf Go.Proofs.Tryz.prog 0) p (some G24) := EntG.some Go.Proofs.Tryz.func24 G24_eq h
theorem e27 {p : Path} (h : p.num = 27 := by rfl) : EntG Go.Proofs.Tryz.prog 0 (planOf Go.Proofs.Tryz.prog 0) p (some G27) := EntG.some Go.Proofs.Tryz.func27 G27_eq h
theorem e28 {p : Path} (h : p.num = 28 := by rfl) : EntG Go.Proofs.Tryz.prog 0 (planOf Go.Proofs.Tryz.prog 0) p (some G28) := EntG.some Go.Proofs.Tryz.func28 G28_eq h
theorem e32 {p : Path} (h : p.num = 32 := by rfl) : EntG Go.Proofs.Tryz.prog 0 (planOf Go.Proofs.Tryz.prog 0) p (some G32) := EntG.some Go.Proofs.Tryz.func32 G32_eq h
theorem e33 {p : Path} (h : p.num = 33 := by rfl) : EntG Go.Proofs.Tryz.prog 0 (planOf Go.Proofs.Tryz.prog 0) p (some G33) := EntG.some Go.Proofs.Tryz.func33 G33_eq h
theorem e34 {p : Path} (h : p.num = 34 := by rfl) : EntG Go.Proofs.Tryz.prog 0 (planOf Go.Proofs.Tryz.prog 0) p (some G34) := EntG.some Go.Proofs.Tryz.func34 G34_eq h
theorem e35 {p : Path} (h : p.num = 35 := by rfl) : EntG Go.Proofs.Tryz.prog 0 (planOf Go.Proofs.Tryz.prog 0) p (some G35) := EntG.some Go.Proofs.Tryz.func35 G35_eq h
theorem e42 {p : Path} (h : p.num = 42 := by rfl) : EntG Go.Proofs.Tryz.prog 0 (planOf Go.Proofs.Tryz.prog 0) p (some G42) := EntG.some Go.Proofs.Tryz.func42 G42_eq h
theorem e43 {p : Path} (h : p.num = 43 := by rfl) : EntG Go.Proofs.Tryz.prog 0 (planOf Go.Proofs.Tryz.prog 0) p (some G43) := EntG.some Go.Proofs.Tryz.func43 G43_eq h
theorem e44 {p : Path} (h : p.num = 44 := by rfl) : EntG Go.Proofs.Tryz.prog 0 (planOf Go.Proofs.Tryz.prog 0) p (some G44) := EntG.some Go.Proofs.Tryz.func44 G44_eq h
theorem e46 {p : Path} (h : p.num = 46 := by rfl) : EntG Go.Proofs.Tryz.prog 0 (planOf Go.Proofs.Tryz.prog 0) p (some G46) := EntG.some Go.Proofs.Tryz.func46 G46_eq h
theorem e47 {p : Path} (h : p.num = 47 := by rfl) : EntG Go.Proofs.Tryz.prog 0 (planOf Go.Proofs.Tryz.prog 0) p (some G47) := EntG.some Go.Proofs.Tryz.func47 G47_eq h
theorem e48 {p : Path} (h : p.num = 48 := by rfl) : EntG Go.Proofs.Tryz.prog 0 (planOf Go.Proofs.Tryz.prog 0) p (some G48) := EntG.some Go.Proofs.Tryz.func48 G48_eq h
theorem e49 {p : Path} (h : p.num = 49 := by rfl) : EntG Go.Proofs.Tryz.prog 0 (planOf Go.Proofs.Tryz.prog 0) p (some G49) := EntG.some Go.Proofs.Tryz.func49 G49_eq h
theorem e51 {p : Path} (h : p.num = 51 := by rfl) : EntG Go.Proofs.Tryz.prog 0 (planOf Go.Proofs.Tryz.prog 0) p (some G51) := EntG.some Go.Proofs.Tryz.func51 G51_eq h
theorem e52 {p : Path} (h : p.num = 52 := by rfl) : EntG Go.Proofs.Tryz.prog 0 (planOf Go.Proofs.Tryz.prog 0) p (some G52) := EntG.some Go.Proofs.Tryz.func52 G52_eq h
theorem e53 {p : Path} (h : p.num = 53 := by rfl) : EntG Go.Proofs.Tryz.prog 0 (planOf Go.Proofs.Tryz.prog 0) p (some G53) := EntG.some Go.Proofs.Tryz.func53 G53_eq h
theorem e57 {p : Path} (h : p.num = 57 := by rfl) : EntG Go.Proofs.Tryz.prog 0 (planOf Go.Proofs.Tryz.prog 0) p (some G57) := EntG.some Go.Proofs.Tryz.func57 G57_eq h
theorem e67 {p : Path} (h : p.num = 67 := by rfl) : EntG Go.Proofs.Tryz.prog 0 (planOf Go.Proofs.Tryz.prog 0) p (some G67) := EntG.some Go.Proofs.Tryz.func67 G67_eq h
theorem e68 {p : Path} (h : p.num = 68 := by rfl) : EntG Go.Proofs.Tryz.prog 0 (planOf Go.Proofs.Tryz.prog 0) p (some G68) := EntG.some Go.Proofs.Tryz.func68 G68_eq h
theorem e76 {p : Path} (h : p.num = 76 := by rfl) : EntG Go.Proofs.Tryz.prog 0 (planOf Go.Proofs.Tryz.prog 0) p (some G76) := EntG.some Go.Proofs.Tryz.func76 G76_eq h
theorem e77 {p : Path} (h : p.num = 77 := by rfl) : EntG Go.Proofs.Tryz.prog 0 (planOf Go.Proofs.Tryz.prog 0) p (some G77) := EntG.some Go.Proofs.Tryz.func77 G77_eq h
theorem e78 {p : Path} (h : p.num = 78 := by rfl) : EntG Go.Proofs.Tryz.prog 0 (planOf Go.Proofs.Tryz.prog 0) p (some G78) := EntG.some Go.Proofs.Tryz.func78 G78_eq h
theorem e79 {p : Path} (h : p.num = 79 := by rfl) : EntG Go.Proofs.Tryz.prog 0 (planOf Go.Proofs.Tryz.prog 0) p (some G79) := EntG.some Go.Proofs.Tryz.func79 G79_eq h
theorem e80 {p : Path} (h : p.num = 80 := by rfl) : EntG Go.Proofs.Tryz.prog 0 (planOf Go.Proofs.Tryz.prog 0) p (some G80) := EntG.some Go.Proofs.Tryz.func80 G80_eq h
theorem e83 {p : Path} (h : p.num = 83 := by rfl) : EntG Go.Proofs.Tryz.prog 0 (planOf Go.Proofs.Tryz.prog 0) p (some G83) := EntG.some Go.Proofs.Tryz.func83 G83_eq h
theorem e85 {p : Path} (h : p.num = 85 := by rfl) : EntG Go.Proofs.Tryz.prog 0 (planOf Go.Proofs.Tryz.prog 0) p (some G85) := EntG.some Go.Proofs.Tryz.func85 G85_eq h
theorem e86 {p : Path} (h : p.num = 86 := by rfl) : EntG Go.Proofs.Tryz.prog 0 (planOf Go.Proofs.Tryz.prog 0) p (some G86) := EntG.some Go.Proofs.Tryz.func86 G86_eq h
theorem e98 {p : Path} (h : p.num = 98 := by rfl) : EntG Go.Proofs.Tryz.prog 0 (planOf Go.Proofs.Tryz.prog 0) p (some G98) := EntG.some Go.Proofs.Tryz.func98 G98_eq h
theorem e100 {p : Path} (h : p.num = 100 := by rfl) : EntG Go.Proofs.Tryz.prog 0 (planOf Go.Proofs.Tryz.prog 0) p (some G100) := EntG.some Go.Proofs.Tryz.func100 G100_eq h
theorem e101 {p : Path} (h : p.num = 101 := by rfl) : EntG Go.Proofs.Tryz.prog 0 (planOf Go.Proofs.Tryz.prog 0) p (some G101) := EntG.some Go.Proofs.Tryz.func101 G101_eq h
theorem e109 {p : Path} (h : p.num = 109 := by rfl) : EntG Go.Proofs.Tryz.prog 0 (planOf Go.Proofs.Tryz.prog 0) p (some G109) := EntG.some Go.Proofs.Tryz.func109 G109_eq h
theorem e110 {p : Path} (h : p.num = 110 := by rfl) : EntG Go.Proofs.Tryz.prog 0 (planOf Go.Proofs.Tryz.prog 0) p (some G110) := EntG.some Go.Proofs.Tryz.func110 G110_eq h
theorem e111 {p : Path} (h : p.num = 111 := by rfl) : EntG Go.Proofs.Tryz.prog 0 (planOf Go.Proofs.Tryz.prog 0) p (some G111) := EntG.some Go.Proofs.Tryz.func111 G111_eq h
theorem e113 {p : Path} (h : p.num = 113 := by rfl) : EntG Go.Proofs.Tryz.prog 0 (planOf Go.Proofs.Tryz.prog 0) p (some G113) := EntG.some Go.Proofs.Tryz.func113 G113_eq h
theorem e123 {p : Path} (h : p.num = 123 := by rfl) : EntG Go.Proofs.Tryz.prog 0 (planOf Go.Proofs.Tryz.prog 0) p (some G123) := EntG.some Go.Proofs.Tryz.func123 G123_eq h
theorem e124 {p : Path} (h : p.num = 124 := by rfl) : EntG Go.Proofs.Tryz.prog 0 (planOf Go.Proofs.Tryz.prog 0) p (some G124) := EntG.some Go.Proofs.Tryz.func124 G124_eq h
theorem e125 {p : Path} (h : p.num = 125 := by rfl) : EntG Go.Proofs.Tryz.prog 0 (planOf Go.Proofs.Tryz.prog 0) p (some G125) := EntG.some Go.Proofs.Tryz.func125 G125_eq h
theorem e126 {p : Path} (h : p.num = 126 := by rfl) : EntG Go.Proofs.Tryz.prog 0 (planOf Go.Proofs.Tryz.prog 0) p (some G126) := EntG.some Go.Proofs.Tryz.func126 G126_eq h
theorem e134 {p : Path} (h : p.num = 134 := by rfl) : EntG Go.Proofs.Tryz.prog 0 (planOf Go.Proofs.Tryz.prog 0) p (some G134) := EntG.some Go.Proofs.Tryz.func134 G134_eq h
theorem e135 {p : Path} (h : p.num = 135 := by rfl) : EntG Go.Proofs.Tryz.prog 0 (planOf Go.Proofs.Tryz.prog 0) p (some G135) := EntG.some Go.Proofs.Tryz.func135 G135_eq h
theorem e136 {p : Path} (h : p.num = 136 := by rfl) : EntG Go.Proofs.Tryz.prog 0 (planOf Go.Proofs.Tryz.prog 0) p (some G136) := EntG.some Go.Proofs.Tryz.func136 G136_eq h
theorem e138 {p : Path} (h : p.num = 138 := by rfl) : EntG Go.Proofs.Tryz.prog 0 (planOf Go.Proofs.Tryz.prog 0) p (some G138) := EntG.some Go.Proofs.Tryz.func138 G138_eq h
theorem e141 {p : Path} (h : p.num = 141 := by rfl) : EntG Go.Proofs.Tryz.prog 0 (planOf Go.Proofs.Tryz.prog 0) p (some G141) := EntG.some Go.Proofs.Tryz.func141 G141_eq h
theorem e145 {p : Path} (h : p.num = 145 := by rfl) : EntG Go.Proofs.Tryz.prog 0 (planOf Go.Proofs.Tryz.prog 0) p (some G145) := EntG.some Go.Proofs.Tryz.func145 G145_eq h
theorem tab_ok : AllT (EntG Go.Proofs.Tryz.prog 0 (planOf Go.Proofs.Tryz.prog 0)) tab := (show AllT _ tab from ⟨EntG.none, ⟨EntG.none, ⟨e3, ⟨e7, ⟨e15, ⟨EntG.none, ⟨EntG.none, ⟨EntG.none, trivial, trivial⟩, ⟨EntG.none, trivial, trivial⟩⟩, ⟨EntG.none, ⟨EntG.none, trivial, trivial⟩, trivial⟩⟩, ⟨e47, ⟨e79, ⟨EntG.none, trivial, trivial⟩, ⟨EntG.none, trivial, trivial⟩⟩, ⟨e111, ⟨EntG.none, trivial, trivial⟩, trivial⟩⟩⟩, ⟨EntG.none, ⟨EntG.none, ⟨EntG.none, ⟨e135, trivial, trivial⟩, ⟨EntG.none, trivial, trivial⟩⟩, ⟨EntG.none, ⟨EntG.none, trivial, trivial⟩, trivial⟩⟩, ⟨EntG.none, ⟨EntG.none, ⟨EntG.none, trivial, trivial⟩, ⟨EntG.none, trivial, trivial⟩⟩, ⟨EntG.none, ⟨EntG.none, trivial, trivial⟩, trivial⟩⟩⟩⟩, ⟨e11, ⟨e19, ⟨e35, ⟨e67, ⟨EntG.none, trivial, trivial⟩, ⟨EntG.none, trivial, trivial⟩⟩, ⟨EntG.none, ⟨EntG.none, trivial, trivial⟩, trivial⟩⟩, ⟨e51, ⟨e83, ⟨EntG.none, trivial, trivial⟩, ⟨EntG.none, trivial, trivial⟩⟩, ⟨EntG.none, ⟨EntG.none, trivial, trivial⟩, trivial⟩⟩⟩, ⟨e27, ⟨e43, ⟨EntG.none, ⟨EntG.none, trivial, trivial⟩, ⟨EntG.none, trivial, trivial⟩⟩, ⟨EntG.none, ⟨EntG.none, trivial, trivial⟩, trivial⟩⟩, ⟨EntG.none, ⟨EntG.none, ⟨EntG.none, trivial, trivial⟩, ⟨EntG.none, trivial, trivial⟩⟩, ⟨e123, ⟨EntG.none, trivial, trivial⟩, trivial⟩⟩⟩⟩⟩, ⟨e5, ⟨e9, ⟨e17, ⟨e33, ⟨EntG.none, ⟨EntG.none, trivial, trivial⟩, ⟨EntG.none, trivial, trivial⟩⟩, ⟨EntG.none, ⟨EntG.none, trivial, trivial⟩, trivial⟩⟩, ⟨e49, ⟨EntG.none, ⟨e145, trivial, trivial⟩, ⟨EntG.none, trivial, trivial⟩⟩, ⟨e113, ⟨EntG.none, trivial, trivial⟩, trivial⟩⟩⟩, ⟨EntG.none, ⟨EntG.none, ⟨EntG.none, ⟨EntG.none, trivial, trivial⟩, ⟨EntG.none, trivial, trivial⟩⟩, ⟨EntG.none, ⟨EntG.none, trivial, trivial⟩, trivial⟩⟩, ⟨e57, ⟨EntG.none, ⟨EntG.none, trivial, trivial⟩, ⟨EntG.none, trivial, trivial⟩⟩, ⟨EntG.none, ⟨EntG.none, trivial, trivial⟩, trivial⟩⟩⟩⟩, ⟨e13, ⟨e21, ⟨EntG.none, ⟨EntG.none, ⟨EntG.none, trivial, trivial⟩, ⟨EntG.none, trivial, trivial⟩⟩, ⟨e101, ⟨EntG.none, trivial, trivial⟩, trivial⟩⟩, ⟨e53, ⟨e85, ⟨EntG.none, trivial, trivial⟩, ⟨EntG.none, trivial, trivial⟩⟩, ⟨EntG.none, ⟨EntG.none, trivial, trivial⟩, trivial⟩⟩⟩, ⟨EntG.none, ⟨EntG.none, ⟨e77, ⟨e141, trivial, trivial⟩, ⟨EntG.none, trivial, trivial⟩⟩, ⟨e109, ⟨EntG.none, trivial, trivial⟩, trivial⟩⟩, ⟨EntG.none, ⟨EntG.none, ⟨EntG.none, trivial, trivial⟩, trivial⟩, ⟨e125, ⟨EntG.none, trivial, trivial⟩, trivial⟩⟩⟩⟩⟩⟩, ⟨EntG.none, ⟨e4, ⟨e8, ⟨e16, ⟨e32, ⟨EntG.none, ⟨EntG.none, trivial, trivial⟩, ⟨EntG.none, trivial, trivial⟩⟩, ⟨EntG.none, ⟨EntG.none, trivial, trivial⟩, trivial⟩⟩, ⟨e48, ⟨e80, ⟨EntG.none, trivial, trivial⟩, ⟨EntG.none, trivial, trivial⟩⟩, ⟨EntG.none, ⟨EntG.none, trivial, trivial⟩, trivial⟩⟩⟩, ⟨e24, ⟨EntG.none, ⟨EntG.none, ⟨e136, trivial, trivial⟩, ⟨EntG.none, trivial, trivial⟩⟩, ⟨EntG.none, ⟨EntG.none, trivial, trivial⟩, trivial⟩⟩, ⟨EntG.none, ⟨EntG.none, ⟨EntG.none, trivial, trivial⟩, ⟨EntG.none, trivial, trivial⟩⟩, ⟨EntG.none, ⟨EntG.none, trivial, trivial⟩, trivial⟩⟩⟩⟩, ⟨e12, ⟨e20, ⟨EntG.none, ⟨e68, ⟨EntG.none, trivial, trivial⟩, ⟨EntG.none, trivial, trivial⟩⟩, ⟨e100, ⟨EntG.none, trivial, trivial⟩, trivial⟩⟩, ⟨e52, ⟨EntG.none, ⟨EntG.none, trivial, trivial⟩, ⟨EntG.none, trivial, trivial⟩⟩, ⟨EntG.none, ⟨EntG.none, trivial, trivial⟩, trivial⟩⟩⟩, ⟨e28, ⟨e44, ⟨e76, ⟨EntG.none, trivial, trivial⟩, ⟨EntG.none, trivial, trivial⟩⟩, ⟨EntG.none, ⟨EntG.none, trivial, trivial⟩, trivial⟩⟩, ⟨EntG.none, ⟨EntG.none, ⟨EntG.none, trivial, trivial⟩, ⟨EntG.none, trivial, trivial⟩⟩, ⟨e124, ⟨EntG.none, trivial, trivial⟩, trivial⟩⟩⟩⟩⟩, ⟨e6, ⟨e10, ⟨e18, ⟨e34, ⟨EntG.none, ⟨EntG.none, trivial, trivial⟩, ⟨EntG.none, trivial, trivial⟩⟩, ⟨e98, ⟨EntG.none, trivial, trivial⟩, trivial⟩⟩, ⟨EntG.none, ⟨EntG.none, ⟨EntG.none, trivial, trivial⟩, ⟨EntG.none, trivial, trivial⟩⟩, ⟨EntG.none, ⟨EntG.none, trivial, trivial⟩, trivial⟩⟩⟩, ⟨EntG.none, ⟨e42, ⟨EntG.none, ⟨e138, trivial, trivial⟩, ⟨EntG.none, trivial, trivial⟩⟩, ⟨EntG.none, ⟨EntG.none, trivial, trivial⟩, trivial⟩⟩, ⟨EntG.none, ⟨EntG.none, ⟨EntG.none, trivial, trivial⟩, ⟨EntG.none, trivial, trivial⟩⟩, ⟨EntG.none, ⟨EntG.none, trivial, trivial⟩, trivial⟩⟩⟩⟩, ⟨e14, ⟨e22, ⟨EntG.none, ⟨EntG.none, ⟨e134, trivial, trivial⟩, ⟨EntG.none, trivial, trivial⟩⟩, ⟨EntG.none, ⟨EntG.none, trivial, trivial⟩, trivial⟩⟩, ⟨EntG.none, ⟨e86, ⟨EntG.none, trivial, trivial⟩, ⟨EntG.none, trivial, trivial⟩⟩, ⟨EntG.none, ⟨EntG.none, trivial, trivial⟩, trivial⟩⟩⟩, ⟨EntG.none, ⟨e46, ⟨e78, ⟨EntG.none, trivial, trivial⟩, ⟨EntG.none, trivial, trivial⟩⟩, ⟨e110, ⟨EntG.none, trivial, trivial⟩, trivial⟩⟩, ⟨EntG.none, ⟨EntG.none, ⟨EntG.none, trivial, trivial⟩, trivial⟩, ⟨e126, ⟨EntG.none, trivial, trivial⟩, trivial⟩⟩⟩⟩⟩⟩⟩)
end

end Code
end Go.Proofs.YtfcmehmbjajggaaGreatDoor
