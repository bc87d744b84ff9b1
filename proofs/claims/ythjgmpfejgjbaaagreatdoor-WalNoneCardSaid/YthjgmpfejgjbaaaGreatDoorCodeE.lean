/- The compiled functions are the program's. -/
import Derived.Test.YthjgmpfejgjbaaaGreatDoorCodeT
import Derived.Test.YthjgmpfejgjbaaaGreatDoorChecked
import Derived.KernelRfl
namespace Go.Proofs.YthjgmpfejgjbaaaGreatDoor
open Go Go.Eng
namespace Code
set_option maxRecDepth 100000
set_option linter.unusedVariables false
theorem G4_eq : (cF Go.Proofs.Tryz.prog 8 (planOf Go.Proofs.Tryz.prog 8) Go.Proofs.Tryz.f4).map toG = some G4 := by kernel_rfl
theorem G5_eq : (cF Go.Proofs.Tryz.prog 8 (planOf Go.Proofs.Tryz.prog 8) Go.Proofs.Tryz.f5).map toG = some G5 := by kernel_rfl
theorem G6_eq : (cF Go.Proofs.Tryz.prog 8 (planOf Go.Proofs.Tryz.prog 8) Go.Proofs.Tryz.f6).map toG = some G6 := by kernel_rfl
theorem G8_eq : (cF Go.Proofs.Tryz.prog 8 (planOf Go.Proofs.Tryz.prog 8) Go.Proofs.Tryz.f8).map toG = some G8 := by kernel_rfl
theorem G9_eq : (cF Go.Proofs.Tryz.prog 8 (planOf Go.Proofs.Tryz.prog 8) Go.Proofs.Tryz.f9).map toG = some G9 := by kernel_rfl
theorem G10_eq : (cF Go.Proofs.Tryz.prog 8 (planOf Go.Proofs.Tryz.prog 8) Go.Proofs.Tryz.f10).map toG = some G10 := by kernel_rfl
theorem G11_eq : (cF Go.Proofs.Tryz.prog 8 (planOf Go.Proofs.Tryz.prog 8) Go.Proofs.Tryz.f11).map toG = some G11 := by kernel_rfl
theorem G12_eq : (cF Go.Proofs.Tryz.prog 8 (planOf Go.Proofs.Tryz.prog 8) Go.Proofs.Tryz.f12).map toG = some G12 := by kernel_rfl
theorem G13_eq : (cF Go.Proofs.Tryz.prog 8 (planOf Go.Proofs.Tryz.prog 8) Go.Proofs.Tryz.f13).map toG = some G13 := by kernel_rfl
theorem G14_eq : (cF Go.Proofs.Tryz.prog 8 (planOf Go.Proofs.Tryz.prog 8) Go.Proofs.Tryz.f14).map toG = some G14 := by kernel_rfl
theorem G15_eq : (cF Go.Proofs.Tryz.prog 8 (planOf Go.Proofs.Tryz.prog 8) Go.Proofs.Tryz.f15).map toG = some G15 := by kernel_rfl
theorem G17_eq : (cF Go.Proofs.Tryz.prog 8 (planOf Go.Proofs.Tryz.prog 8) Go.Proofs.Tryz.f17).map toG = some G17 := by kernel_rfl
theorem G18_eq : (cF Go.Proofs.Tryz.prog 8 (planOf Go.Proofs.Tryz.prog 8) Go.Proofs.Tryz.f18).map toG = some G18 := by kernel_rfl
theorem G19_eq : (cF Go.Proofs.Tryz.prog 8 (planOf Go.Proofs.Tryz.prog 8) Go.Proofs.Tryz.f19).map toG = some G19 := by kernel_rfl
theorem G21_eq : (cF Go.Proofs.Tryz.prog 8 (planOf Go.Proofs.Tryz.prog 8) Go.Proofs.Tryz.f21).map toG = some G21 := by kernel_rfl
theorem G22_eq : (cF Go.Proofs.Tryz.prog 8 (planOf Go.Proofs.Tryz.prog 8) Go.Proofs.Tryz.f22).map toG = some G22 := by kernel_rfl
theorem G23_eq : (cF Go.Proofs.Tryz.prog 8 (planOf Go.Proofs.Tryz.prog 8) Go.Proofs.Tryz.f23).map toG = some G23 := by kernel_rfl
theorem G24_eq : (cF Go.Proofs.Tryz.prog 8 (planOf Go.Proofs.Tryz.prog 8) Go.Proofs.Tryz.f24).map toG = some G24 := by kernel_rfl
theorem G25_eq : (cF Go.Proofs.Tryz.prog 8 (planOf Go.Proofs.Tryz.prog 8) Go.Proofs.Tryz.f25).map toG = some G25 := by kernel_rfl
theorem G26_eq : (cF Go.Proofs.Tryz.prog 8 (planOf Go.Proofs.Tryz.prog 8) Go.Proofs.Tryz.f26).map toG = some G26 := by kernel_rfl
theorem G28_eq : (cF Go.Proofs.Tryz.prog 8 (planOf Go.Proofs.Tryz.prog 8) Go.Proofs.Tryz.f28).map toG = some G28 := by kernel_rfl
theorem G29_eq : (cF Go.Proofs.Tryz.prog 8 (planOf Go.Proofs.Tryz.prog 8) Go.Proofs.Tryz.f29).map toG = some G29 := by kernel_rfl
theorem G30_eq : (cF Go.Proofs.Tryz.prog 8 (planOf Go.Proofs.Tryz.prog 8) Go.Proofs.Tryz.f30).map toG = some G30 := by kernel_rfl
theorem G31_eq : (cF Go.Proofs.Tryz.prog 8 (planOf Go.Proofs.Tryz.prog 8) Go.Proofs.Tryz.f31).map toG = some G31 := by kernel_rfl
theorem G32_eq : (cF Go.Proofs.Tryz.prog 8 (planOf Go.Proofs.Tryz.prog 8) Go.Proofs.Tryz.f32).map toG = some G32 := by kernel_rfl
theorem G33_eq : (cF Go.Proofs.Tryz.prog 8 (planOf Go.Proofs.Tryz.prog 8) Go.Proofs.Tryz.f33).map toG = some G33 := by kernel_rfl
theorem G34_eq : (cF Go.Proofs.Tryz.prog 8 (planOf Go.Proofs.Tryz.prog 8) Go.Proofs.Tryz.f34).map toG = some G34 := by kernel_rfl
theorem G35_eq : (cF Go.Proofs.Tryz.prog 8 (planOf Go.Proofs.Tryz.prog 8) Go.Proofs.Tryz.f35).map toG = some G35 := by kernel_rfl
theorem G36_eq : (cF Go.Proofs.Tryz.prog 8 (planOf Go.Proofs.Tryz.prog 8) Go.Proofs.Tryz.f36).map toG = some G36 := by kernel_rfl
theorem G37_eq : (cF Go.Proofs.Tryz.prog 8 (planOf Go.Proofs.Tryz.prog 8) Go.Proofs.Tryz.f37).map toG = some G37 := by kernel_rfl
theorem G38_eq : (cF Go.Proofs.Tryz.prog 8 (planOf Go.Proofs.Tryz.prog 8) Go.Proofs.Tryz.f38).map toG = some G38 := by kernel_rfl
theorem G42_eq : (cF Go.Proofs.Tryz.prog 8 (planOf Go.Proofs.Tryz.prog 8) Go.Proofs.Tryz.f42).map toG = some G42 := by kernel_rfl
theorem G43_eq : (cF Go.Proofs.Tryz.prog 8 (planOf Go.Proofs.Tryz.prog 8) Go.Proofs.Tryz.f43).map toG = some G43 := by kernel_rfl
theorem G47_eq : (cF Go.Proofs.Tryz.prog 8 (planOf Go.Proofs.Tryz.prog 8) Go.Proofs.Tryz.f47).map toG = some G47 := by kernel_rfl
theorem G50_eq : (cF Go.Proofs.Tryz.prog 8 (planOf Go.Proofs.Tryz.prog 8) Go.Proofs.Tryz.f50).map toG = some G50 := by kernel_rfl
theorem G51_eq : (cF Go.Proofs.Tryz.prog 8 (planOf Go.Proofs.Tryz.prog 8) Go.Proofs.Tryz.f51).map toG = some G51 := by kernel_rfl
theorem G52_eq : (cF Go.Proofs.Tryz.prog 8 (planOf Go.Proofs.Tryz.prog 8) Go.Proofs.Tryz.f52).map toG = some G52 := by kernel_rfl
theorem G54_eq : (cF Go.Proofs.Tryz.prog 8 (planOf Go.Proofs.Tryz.prog 8) Go.Proofs.Tryz.f54).map toG = some G54 := by kernel_rfl
theorem G56_eq : (cF Go.Proofs.Tryz.prog 8 (planOf Go.Proofs.Tryz.prog 8) Go.Proofs.Tryz.f56).map toG = some G56 := by kernel_rfl
theorem G57_eq : (cF Go.Proofs.Tryz.prog 8 (planOf Go.Proofs.Tryz.prog 8) Go.Proofs.Tryz.f57).map toG = some G57 := by kernel_rfl
theorem G58_eq : (cF Go.Proofs.Tryz.prog 8 (planOf Go.Proofs.Tryz.prog 8) Go.Proofs.Tryz.f58).map toG = some G58 := by kernel_rfl
theorem G59_eq : (cF Go.Proofs.Tryz.prog 8 (planOf Go.Proofs.Tryz.prog 8) Go.Proofs.Tryz.f59).map toG = some G59 := by kernel_rfl
theorem G60_eq : (cF Go.Proofs.Tryz.prog 8 (planOf Go.Proofs.Tryz.prog 8) Go.Proofs.Tryz.f60).map toG = some G60 := by kernel_rfl
theorem G61_eq : (cF Go.Proofs.Tryz.prog 8 (planOf Go.Proofs.Tryz.prog 8) Go.Proofs.Tryz.f61).map toG = some G61 := by kernel_rfl
theorem G62_eq : (cF Go.Proofs.Tryz.prog 8 (planOf Go.Proofs.Tryz.prog 8) Go.Proofs.Tryz.f62).map toG = some G62 := by kernel_rfl
theorem G63_eq : (cF Go.Proofs.Tryz.prog 8 (planOf Go.Proofs.Tryz.prog 8) Go.Proofs.Tryz.f63).map toG = some G63 := by kernel_rfl
theorem G64_eq : (cF Go.Proofs.Tryz.prog 8 (planOf Go.Proofs.Tryz.prog 8) Go.Proofs.Tryz.f64).map toG = some G64 := by kernel_rfl
theorem G69_eq : (cF Go.Proofs.Tryz.prog 8 (planOf Go.Proofs.Tryz.prog 8) Go.Proofs.Tryz.f69).map toG = some G69 := by kernel_rfl
theorem G70_eq : (cF Go.Proofs.Tryz.prog 8 (planOf Go.Proofs.Tryz.prog 8) Go.Proofs.Tryz.f70).map toG = some G70 := by kernel_rfl
theorem G76_eq : (cF Go.Proofs.Tryz.prog 8 (planOf Go.Proofs.Tryz.prog 8) Go.Proofs.Tryz.f76).map toG = some G76 := by kernel_rfl
theorem G84_eq : (cF Go.Proofs.Tryz.prog 8 (planOf Go.Proofs.Tryz.prog 8) Go.Proofs.Tryz.f84).map toG = some G84 := by kernel_rfl
theorem G86_eq : (cF Go.Proofs.Tryz.prog 8 (planOf Go.Proofs.Tryz.prog 8) Go.Proofs.Tryz.f86).map toG = some G86 := by kernel_rfl
theorem G87_eq : (cF Go.Proofs.Tryz.prog 8 (planOf Go.Proofs.Tryz.prog 8) Go.Proofs.Tryz.f87).map toG = some G87 := by kernel_rfl
theorem G88_eq : (cF Go.Proofs.Tryz.prog 8 (planOf Go.Proofs.Tryz.prog 8) Go.Proofs.Tryz.f88).map toG = some G88 := by kernel_rfl
theorem G89_eq : (cF Go.Proofs.Tryz.prog 8 (planOf Go.Proofs.Tryz.prog 8) Go.Proofs.Tryz.f89).map toG = some G89 := by kernel_rfl
theorem G90_eq : (cF Go.Proofs.Tryz.prog 8 (planOf Go.Proofs.Tryz.prog 8) Go.Proofs.Tryz.f90).map toG = some G90 := by kernel_rfl
theorem G91_eq : (cF Go.Proofs.Tryz.prog 8 (planOf Go.Proofs.Tryz.prog 8) Go.Proofs.Tryz.f91).map toG = some G91 := by kernel_rfl
theorem G93_eq : (cF Go.Proofs.Tryz.prog 8 (planOf Go.Proofs.Tryz.prog 8) Go.Proofs.Tryz.f93).map toG = some G93 := by kernel_rfl
theorem G99_eq : (cF Go.Proofs.Tryz.prog 8 (planOf Go.Proofs.Tryz.prog 8) Go.Proofs.Tryz.f99).map toG = some G99 := by kernel_rfl
theorem G101_eq : (cF Go.Proofs.Tryz.prog 8 (planOf Go.Proofs.Tryz.prog 8) Go.Proofs.Tryz.f101).map toG = some G101 := by kernel_rfl
theorem G115_eq : (cF Go.Proofs.Tryz.prog 8 (planOf Go.Proofs.Tryz.prog 8) Go.Proofs.Tryz.f115).map toG = some G115 := by kernel_rfl
theorem G119_eq : (cF Go.Proofs.Tryz.prog 8 (planOf Go.Proofs.Tryz.prog 8) Go.Proofs.Tryz.f119).map toG = some G119 := by kernel_rfl
theorem G130_eq : (cF Go.Proofs.Tryz.prog 8 (planOf Go.Proofs.Tryz.prog 8) Go.Proofs.Tryz.f130).map toG = some G130 := by kernel_rfl
theorem G131_eq : (cF Go.Proofs.Tryz.prog 8 (planOf Go.Proofs.Tryz.prog 8) Go.Proofs.Tryz.f131).map toG = some G131 := by kernel_rfl
theorem G132_eq : (cF Go.Proofs.Tryz.prog 8 (planOf Go.Proofs.Tryz.prog 8) Go.Proofs.Tryz.f132).map toG = some G132 := by kernel_rfl
theorem G135_eq : (cF Go.Proofs.Tryz.prog 8 (planOf Go.Proofs.Tryz.prog 8) Go.Proofs.Tryz.f135).map toG = some G135 := by kernel_rfl
theorem G148_eq : (cF Go.Proofs.Tryz.prog 8 (planOf Go.Proofs.Tryz.prog 8) Go.Proofs.Tryz.f148).map toG = some G148 := by kernel_rfl
theorem G149_eq : (cF Go.Proofs.Tryz.prog 8 (planOf Go.Proofs.Tryz.prog 8) Go.Proofs.Tryz.f149).map toG = some G149 := by kernel_rfl
theorem G150_eq : (cF Go.Proofs.Tryz.prog 8 (planOf Go.Proofs.Tryz.prog 8) Go.Proofs.Tryz.f150).map toG = some G150 := by kernel_rfl
theorem G151_eq : (cF Go.Proofs.Tryz.prog 8 (planOf Go.Proofs.Tryz.prog 8) Go.Proofs.Tryz.f151).map toG = some G151 := by kernel_rfl
theorem G179_eq : (cF Go.Proofs.Tryz.prog 8 (planOf Go.Proofs.Tryz.prog 8) Go.Proofs.Tryz.f179).map toG = some G179 := by kernel_rfl
theorem G180_eq : (cF Go.Proofs.Tryz.prog 8 (planOf Go.Proofs.Tryz.prog 8) Go.Proofs.Tryz.f180).map toG = some G180 := by kernel_rfl
theorem G181_eq : (cF Go.Proofs.Tryz.prog 8 (planOf Go.Proofs.Tryz.prog 8) Go.Proofs.Tryz.f181).map toG = some G181 := by kernel_rfl
theorem G182_eq : (cF Go.Proofs.Tryz.prog 8 (planOf Go.Proofs.Tryz.prog 8) Go.Proofs.Tryz.f182).map toG = some G182 := by kernel_rfl
theorem G183_eq : (cF Go.Proofs.Tryz.prog 8 (planOf Go.Proofs.Tryz.prog 8) Go.Proofs.Tryz.f183).map toG = some G183 := by kernel_rfl
theorem G212_eq : (cF Go.Proofs.Tryz.prog 8 (planOf Go.Proofs.Tryz.prog 8) Go.Proofs.Tryz.f212).map toG = some G212 := by kernel_rfl
theorem G218_eq : (cF Go.Proofs.Tryz.prog 8 (planOf Go.Proofs.Tryz.prog 8) Go.Proofs.Tryz.f218).map toG = some G218 := by kernel_rfl
theorem G222_eq : (cF Go.Proofs.Tryz.prog 8 (planOf Go.Proofs.Tryz.prog 8) Go.Proofs.Tryz.f222).map toG = some G222 := by kernel_rfl
theorem G254_eq : (cF Go.Proofs.Tryz.prog 8 (planOf Go.Proofs.Tryz.prog 8) Go.Proofs.Tryz.f254).map toG = some G254 := by kernel_rfl
theorem e4 {p : Path} (h : p.num = 4 := by rfl) : EntG Go.Proofs.Tryz.prog 8 (planOf Go.Proofs.Tryz.prog 8) p (some G4) := EntG.some Go.Proofs.Tryz.func4 G4_eq h
theorem e5 {p : Path} (h : p.num = 5 := by rfl) : EntG Go.Proofs.Tryz.prog 8 (planOf Go.Proofs.Tryz.prog 8) p (some G5) := EntG.some Go.Proofs.Tryz.func5 G5_eq h
theorem e6 {p : Path} (h : p.num = 6 := by rfl) : EntG Go.Proofs.Tryz.prog 8 (planOf Go.Proofs.Tryz.prog 8) p (some G6) := EntG.some Go.Proofs.Tryz.func6 G6_eq h
theorem e8 {p : Path} (h : p.num = 8 := by rfl) : EntG Go.Proofs.Tryz.prog 8 (planOf Go.Proofs.Tryz.prog 8) p (some G8) := EntG.some Go.Proofs.Tryz.func8 G8_eq h
theorem e9 {p : Path} (h : p.num = 9 := by rfl) : EntG Go.Proofs.Tryz.prog 8 (planOf Go.Proofs.Tryz.prog 8) p (some G9) := EntG.some Go.Proofs.Tryz.func9 G9_eq h
theorem e10 {p : Path} (h : p.num = 10 := by rfl) : EntG Go.Proofs.Tryz.prog 8 (planOf Go.Proofs.Tryz.prog 8) p (some G10) := EntG.some Go.Proofs.Tryz.func10 G10_eq h
theorem e11 {p : Path} (h : p.num = 11 := by rfl) : EntG Go.Proofs.Tryz.prog 8 (planOf Go.Proofs.Tryz.prog 8) p (some G11) := EntG.some Go.Proofs.Tryz.func11 G11_eq h
theorem e12 {p : Path} (h : p.num = 12 := by rfl) : EntG Go.Proofs.Tryz.prog 8 (planOf Go.Proofs.Tryz.prog 8) p (some G12) := EntG.some Go.Proofs.Tryz.func12 G12_eq h
theorem e13 {p : Path} (h : p.num = 13 := by rfl) : EntG Go.Proofs.Tryz.prog 8 (planOf Go.Proofs.Tryz.prog 8) p (some G13) := EntG.some Go.Proofs.Tryz.func13 G13_eq h
theorem e14 {p : Path} (h : p.num = 14 := by rfl) : EntG Go.Proofs.Tryz.prog 8 (planOf Go.Proofs.Tryz.prog 8) p (some G14) := EntG.some Go.Proofs.Tryz.func14 G14_eq h
theorem e15 {p : Path} (h : p.num = 15 := by rfl) : EntG Go.Proofs.Tryz.prog 8 (planOf Go.Proofs.Tryz.prog 8) p (some G15) := EntG.some Go.Proofs.Tryz.func15 G15_eq h
theorem e17 {p : Path} (h : p.num = 17 := by rfl) : EntG Go.Proofs.Tryz.prog 8 (planOf Go.Proofs.Tryz.prog 8) p (some G17) := EntG.some Go.Proofs.Tryz.func17 G17_eq h
theorem e18 {p : Path} (h : p.num = 18 := by rfl) : EntG Go.Proofs.Tryz.prog 8 (planOf Go.Proofs.Tryz.prog 8) p (some G18) := EntG.some Go.Proofs.Tryz.func18 G18_eq h
theorem e19 {p : Path} (h : p.num = 19 := by rfl) : EntG Go.Proofs.Tryz.prog 8 (planOf Go.Proofs.Tryz.prog 8) p (some G19) := EntG.some Go.Proofs.Tryz.func19 G19_eq h
theorem e21 {p : Path} (h : p.num = 21 := by rfl) : EntG Go.Proofs.Tryz.prog 8 (planOf Go.Proofs.Tryz.prog 8) p (some G21) := EntG.some Go.Proofs.Tryz.func21 G21_eq h
theorem e22 {p : Path} (h : p.num = 22 := by rfl) : EntG Go.Proofs.Tryz.prog 8 (planOf Go.Proofs.Tryz.prog 8) p (some G22) := EntG.some Go.Proofs.Tryz.func22 G22_eq h
theorem e23 {p : Path} (h : p.num = 23 := by rfl) : EntG Go.Proofs.Tryz.prog 8 (planOf Go.Proofs.Tryz.prog 8) p (some G23) := EntG.some Go.Proofs.Tryz.func23 G23_eq h
theorem e24 {p : Path} (h : p.num = 24 := by rfl) : EntG Go.Proofs.Tryz.prog 8 (planOf Go.Proofs.Tryz.prog 8) p (some G24) := EntG.some Go.Proofs.Tryz.func24 G24_eq h
theorem e25 {p : Path} (h : p.num = 25 := by rfl) : EntG Go.Proofs.Tryz.prog 8 (planOf Go.Proofs.Tryz.prog 8) p (some G25) := EntG.some Go.Proofs.Tryz.func25 G25_eq h
theorem e26 {p : Path} (h : p.num = 26 := by rfl) : EntG Go.Proofs.Tryz.prog 8 (planOf Go.Proofs.Tryz.prog 8) p (some G26) := EntG.some Go.Proofs.Tryz.func26 G26_eq h
theorem e28 {p : Path} (h : p.num = 28 := by rfl) : EntG Go.Proofs.Tryz.prog 8 (planOf Go.Proofs.Tryz.prog 8) p (some G28) := EntG.some Go.Proofs.Tryz.func28 G28_eq h
theorem e29 {p : Path} (h : p.num = 29 := by rfl) : EntG Go.Proofs.Tryz.prog 8 (planOf Go.Proofs.Tryz.prog 8) p (some G29) := EntG.some Go.Proofs.Tryz.func29 G29_eq h
theorem e30 {p : Path} (h : p.num = 30 := by rfl) : EntG Go.Proofs.Tryz.prog 8 (planOf Go.Proofs.Tryz.prog 8) p (some G30) := EntG.some Go.Proofs.Tryz.func30 G30_eq h
theorem e31 {p : Path} (h : p.num = 31 := by rfl) : EntG Go.Proofs.Tryz.prog 8 (planOf Go.Proofs.Tryz.prog 8) p (some G31) := EntG.some Go.Proofs.Tryz.func31 G31_eq h
theorem e32 {p : Path} (h : p.num = 32 := by rfl) : EntG Go.Proofs.Tryz.prog 8 (planOf Go.Proofs.Tryz.prog 8) p (some G32) := EntG.some Go.Proofs.Tryz.func32 G32_eq h
theorem e33 {p : Path} (h : p.num = 33 := by rfl) : EntG Go.Proofs.Tryz.prog 8 (planOf Go.Proofs.Tryz.prog 8) p (some G33) := EntG.some Go.Proofs.Tryz.func33 G33_eq h
theorem e34 {p : Path} (h : p.num = 34 := by rfl) : EntG Go.Proofs.Tryz.prog 8 (planOf Go.Proofs.Tryz.prog 8) p (some G34) := EntG.some Go.Proofs.Tryz.func34 G34_eq h
theorem e35 {p : Path} (h : p.num = 35 := by rfl) : EntG Go.Proofs.Tryz.prog 8 (planOf Go.Proofs.Tryz.prog 8) p (some G35) := EntG.some Go.Proofs.Tryz.func35 G35_eq h
theorem e36 {p : Path} (h : p.num = 36 := by rfl) : EntG Go.Proofs.Tryz.prog 8 (planOf Go.Proofs.Tryz.prog 8) p (some G36) := EntG.some Go.Proofs.Tryz.func36 G36_eq h
theorem e37 {p : Path} (h : p.num = 37 := by rfl) : EntG Go.Proofs.Tryz.prog 8 (planOf Go.Proofs.Tryz.prog 8) p (some G37) := EntG.some Go.Proofs.Tryz.func37 G37_eq h
theorem e38 {p : Path} (h : p.num = 38 := by rfl) : EntG Go.Proofs.Tryz.prog 8 (planOf Go.Proofs.Tryz.prog 8) p (some G38) := EntG.some Go.Proofs.Tryz.func38 G38_eq h
theorem e42 {p : Path} (h : p.num = 42 := by rfl) : EntG Go.Proofs.Tryz.prog 8 (planOf Go.Proofs.Tryz.prog 8) p (some G42) := EntG.some Go.Proofs.Tryz.func42 G42_eq h
theorem e43 {p : Path} (h : p.num = 43 := by rfl) : EntG Go.Proofs.Tryz.prog 8 (planOf Go.Proofs.Tryz.prog 8) p (some G43) := EntG.some Go.Proofs.Tryz.func43 G43_eq h
theorem e47 {p : Path} (h : p.num = 47 := by rfl) : EntG Go.Proofs.Tryz.prog 8 (planOf Go.Proofs.Tryz.prog 8) p (some G47) := EntG.some Go.Proofs.Tryz.func47 G47_eq h
theorem e50 {p : Path} (h : p.num = 50 := by rfl) : EntG Go.Proofs.Tryz.prog 8 (planOf Go.Proofs.Tryz.prog 8) p (some G50) := EntG.some Go.Proofs.Tryz.func50 G50_eq h
theorem e51 {p : Path} (h : p.num = 51 := by rfl) : EntG Go.Proofs.Tryz.prog 8 (planOf Go.Proofs.Tryz.prog 8) p (some G51) := EntG.some Go.Proofs.Tryz.func51 G51_eq h
theorem e52 {p : Path} (h : p.num = 52 := by rfl) : EntG Go.Proofs.Tryz.prog 8 (planOf Go.Proofs.Tryz.prog 8) p (some G52) := EntG.some Go.Proofs.Tryz.func52 G52_eq h
theorem e54 {p : Path} (h : p.num = 54 := by rfl) : EntG Go.Proofs.Tryz.prog 8 (planOf Go.Proofs.Tryz.prog 8) p (some G54) := EntG.some Go.Proofs.Tryz.func54 G54_eq h
theorem e56 {p : Path} (h : p.num = 56 := by rfl) : EntG Go.Proofs.Tryz.prog 8 (planOf Go.Proofs.Tryz.prog 8) p (some G56) := EntG.some Go.Proofs.Tryz.func56 G56_eq h
theorem e57 {p : Path} (h : p.num = 57 := by rfl) : EntG Go.Proofs.Tryz.prog 8 (planOf Go.Proofs.Tryz.prog 8) p (some G57) := EntG.some Go.Proofs.Tryz.func57 G57_eq h
theorem e58 {p : Path} (h : p.num = 58 := by rfl) : EntG Go.Proofs.Tryz.prog 8 (planOf Go.Proofs.Tryz.prog 8) p (some G58) := EntG.some Go.Proofs.Tryz.func58 G58_eq h
theorem e59 {p : Path} (h : p.num = 59 := by rfl) : EntG Go.Proofs.Tryz.prog 8 (planOf Go.Proofs.Tryz.prog 8) p (some G59) := EntG.some Go.Proofs.Tryz.func59 G59_eq h
theorem e60 {p : Path} (h : p.num = 60 := by rfl) : EntG Go.Proofs.Tryz.prog 8 (planOf Go.Proofs.Tryz.prog 8) p (some G60) := EntG.some Go.Proofs.Tryz.func60 G60_eq h
theorem e61 {p : Path} (h : p.num = 61 := by rfl) : EntG Go.Proofs.Tryz.prog 8 (planOf Go.Proofs.Tryz.prog 8) p (some G61) := EntG.some Go.Proofs.Tryz.func61 G61_eq h
theorem e62 {p : Path} (h : p.num = 62 := by rfl) : EntG Go.Proofs.Tryz.prog 8 (planOf Go.Proofs.Tryz.prog 8) p (some G62) := EntG.some Go.Proofs.Tryz.func62 G62_eq h
theorem e63 {p : Path} (h : p.num = 63 := by rfl) : EntG Go.Proofs.Tryz.prog 8 (planOf Go.Proofs.Tryz.prog 8) p (some G63) := EntG.some Go.Proofs.Tryz.func63 G63_eq h
theorem e64 {p : Path} (h : p.num = 64 := by rfl) : EntG Go.Proofs.Tryz.prog 8 (planOf Go.Proofs.Tryz.prog 8) p (some G64) := EntG.some Go.Proofs.Tryz.func64 G64_eq h
theorem e69 {p : Path} (h : p.num = 69 := by rfl) : EntG Go.Proofs.Tryz.prog 8 (planOf Go.Proofs.Tryz.prog 8) p (some G69) := EntG.some Go.Proofs.Tryz.func69 G69_eq h
theorem e70 {p : Path} (h : p.num = 70 := by rfl) : EntG Go.Proofs.Tryz.prog 8 (planOf Go.Proofs.Tryz.prog 8) p (some G70) := EntG.some Go.Proofs.Tryz.func70 G70_eq h
theorem e76 {p : Path} (h : p.num = 76 := by rfl) : EntG Go.Proofs.Tryz.prog 8 (planOf Go.Proofs.Tryz.prog 8) p (some G76) := EntG.some Go.Proofs.Tryz.func76 G76_eq h
theorem e84 {p : Path} (h : p.num = 84 := by rfl) : EntG Go.Proofs.Tryz.prog 8 (planOf Go.Proofs.Tryz.prog 8) p (some G84) := EntG.some Go.Proofs.Tryz.func84 G84_eq h
theorem e86 {p : Path} (h : p.num = 86 := by rfl) : EntG Go.Proofs.Tryz.prog 8 (planOf Go.Proofs.Tryz.prog 8) p (some G86) := EntG.some Go.Proofs.Tryz.func86 G86_eq h
theorem e87 {p : Path} (h : p.num = 87 := by rfl) : EntG Go.Proofs.Tryz.prog 8 (planOf Go.Proofs.Tryz.prog 8) p (some G87) := EntG.some Go.Proofs.Tryz.func87 G87_eq h
theorem e88 {p : Path} (h : p.num = 88 := by rfl) : EntG Go.Proofs.Tryz.prog 8 (planOf Go.Proofs.Tryz.prog 8) p (some G88) := EntG.some Go.Proofs.Tryz.func88 G88_eq h
theorem e89 {p : Path} (h : p.num = 89 := by rfl) : EntG Go.Proofs.Tryz.prog 8 (planOf Go.Proofs.Tryz.prog 8) p (some G89) := EntG.some Go.Proofs.Tryz.func89 G89_eq h
theorem e90 {p : Path} (h : p.num = 90 := by rfl) : EntG Go.Proofs.Tryz.prog 8 (planOf Go.Proofs.Tryz.prog 8) p (some G90) := EntG.some Go.Proofs.Tryz.func90 G90_eq h
theorem e91 {p : Path} (h : p.num = 91 := by rfl) : EntG Go.Proofs.Tryz.prog 8 (planOf Go.Proofs.Tryz.prog 8) p (some G91) := EntG.some Go.Proofs.Tryz.func91 G91_eq h
theorem e93 {p : Path} (h : p.num = 93 := by rfl) : EntG Go.Proofs.Tryz.prog 8 (planOf Go.Proofs.Tryz.prog 8) p (some G93) := EntG.some Go.Proofs.Tryz.func93 G93_eq h
theorem e99 {p : Path} (h : p.num = 99 := by rfl) : EntG Go.Proofs.Tryz.prog 8 (planOf Go.Proofs.Tryz.prog 8) p (some G99) := EntG.some Go.Proofs.Tryz.func99 G99_eq h
theorem e101 {p : Path} (h : p.num = 101 := by rfl) : EntG Go.Proofs.Tryz.prog 8 (planOf Go.Proofs.Tryz.prog 8) p (some G101) := EntG.some Go.Proofs.Tryz.func101 G101_eq h
theorem e115 {p : Path} (h : p.num = 115 := by rfl) : EntG Go.Proofs.Tryz.prog 8 (planOf Go.Proofs.Tryz.prog 8) p (some G115) := EntG.some Go.Proofs.Tryz.func115 G115_eq h
theorem e119 {p : Path} (h : p.num = 119 := by rfl) : EntG Go.Proofs.Tryz.prog 8 (planOf Go.Proofs.Tryz.prog 8) p (some G119) := EntG.some Go.Proofs.Tryz.func119 G119_eq h
theorem e130 {p : Path} (h : p.num = 130 := by rfl) : EntG Go.Proofs.Tryz.prog 8 (planOf Go.Proofs.Tryz.prog 8) p (some G130) := EntG.some Go.Proofs.Tryz.func130 G130_eq h
theorem e131 {p : Path} (h : p.num = 131 := by rfl) : EntG Go.Proofs.Tryz.prog 8 (planOf Go.Proofs.Tryz.prog 8) p (some G131) := EntG.some Go.Proofs.Tryz.func131 G131_eq h
theorem e132 {p : Path} (h : p.num = 132 := by rfl) : EntG Go.Proofs.Tryz.prog 8 (planOf Go.Proofs.Tryz.prog 8) p (some G132) := EntG.some Go.Proofs.Tryz.func132 G132_eq h
theorem e135 {p : Path} (h : p.num = 135 := by rfl) : EntG Go.Proofs.Tryz.prog 8 (planOf Go.Proofs.Tryz.prog 8) p (some G135) := EntG.some Go.Proofs.Tryz.func135 G135_eq h
theorem e148 {p : Path} (h : p.num = 148 := by rfl) : EntG Go.Proofs.Tryz.prog 8 (planOf Go.Proofs.Tryz.prog 8) p (some G148) := EntG.some Go.Proofs.Tryz.func148 G148_eq h
theorem e149 {p : Path} (h : p.num = 149 := by rfl) : EntG Go.Proofs.Tryz.prog 8 (planOf Go.Proofs.Tryz.prog 8) p (some G149) := EntG.some Go.Proofs.Tryz.func149 G149_eq h
theorem e150 {p : Path} (h : p.num = 150 := by rfl) : EntG Go.Proofs.Tryz.prog 8 (planOf Go.Proofs.Tryz.prog 8) p (some G150) := EntG.some Go.Proofs.Tryz.func150 G150_eq h
theorem e151 {p : Path} (h : p.num = 151 := by rfl) : EntG Go.Proofs.Tryz.prog 8 (planOf Go.Proofs.Tryz.prog 8) p (some G151) := EntG.some Go.Proofs.Tryz.func151 G151_eq h
theorem e179 {p : Path} (h : p.num = 179 := by rfl) : EntG Go.Proofs.Tryz.prog 8 (planOf Go.Proofs.Tryz.prog 8) p (some G179) := EntG.some Go.Proofs.Tryz.func179 G179_eq h
theorem e180 {p : Path} (h : p.num = 180 := by rfl) : EntG Go.Proofs.Tryz.prog 8 (planOf Go.Proofs.Tryz.prog 8) p (some G180) := EntG.some Go.Proofs.Tryz.func180 G180_eq h
theorem e181 {p : Path} (h : p.num = 181 := by rfl) : EntG Go.Proofs.Tryz.prog 8 (planOf Go.Proofs.Tryz.prog 8) p (some G181) := EntG.some Go.Proofs.Tryz.func181 G181_eq h
theorem e182 {p : Path} (h : p.num = 182 := by rfl) : EntG Go.Proofs.Tryz.prog 8 (planOf Go.Proofs.Tryz.prog 8) p (some G182) := EntG.some Go.Proofs.Tryz.func182 G182_eq h
theorem e183 {p : Path} (h : p.num = 183 := by rfl) : EntG Go.Proofs.Tryz.prog 8 (planOf Go.Proofs.Tryz.prog 8) p (some G183) := EntG.some Go.Proofs.Tryz.func183 G183_eq h
theorem e212 {p : Path} (h : p.num = 212 := by rfl) : EntG Go.Proofs.Tryz.prog 8 (planOf Go.Proofs.Tryz.prog 8) p (some G212) := EntG.some Go.Proofs.Tryz.func212 G212_eq h
theorem e218 {p : Path} (h : p.num = 218 := by rfl) : EntG Go.Proofs.Tryz.prog 8 (planOf Go.Proofs.Tryz.prog 8) p (some G218) := EntG.some Go.Proofs.Tryz.func218 G218_eq h
theorem e222 {p : Path} (h : p.num = 222 := by rfl) : EntG Go.Proofs.Tryz.prog 8 (planOf Go.Proofs.Tryz.prog 8) p (some G222) := EntG.some Go.Proofs.Tryz.func222 G222_eq h
theorem e254 {p : Path} (h : p.num = 254 := by rfl) : EntG Go.Proofs.Tryz.prog 8 (planOf Go.Proofs.Tryz.prog 8) p (some G254) := EntG.some Go.Proofs.Tryz.func254 G254_eq h
theorem tab_ok : AllT (EntG Go.Proofs.Tryz.prog 8 (planOf Go.Proofs.Tryz.prog 8)) tab := (show AllT _ tab from ⟨EntG.none, ⟨EntG.none, ⟨EntG.none, ⟨EntG.none, ⟨e15, ⟨e31, ⟨e63, ⟨EntG.none, ⟨EntG.none, trivial, trivial⟩, trivial⟩, ⟨EntG.none, trivial, trivial⟩⟩, ⟨EntG.none, ⟨EntG.none, ⟨EntG.none, trivial, trivial⟩, trivial⟩, ⟨EntG.none, trivial, trivial⟩⟩⟩, ⟨e47, ⟨EntG.none, ⟨EntG.none, ⟨EntG.none, trivial, trivial⟩, trivial⟩, ⟨EntG.none, trivial, trivial⟩⟩, ⟨EntG.none, ⟨EntG.none, ⟨EntG.none, trivial, trivial⟩, trivial⟩, ⟨EntG.none, trivial, trivial⟩⟩⟩⟩, ⟨e23, ⟨EntG.none, ⟨EntG.none, ⟨e135, ⟨EntG.none, trivial, trivial⟩, trivial⟩, ⟨EntG.none, trivial, trivial⟩⟩, ⟨EntG.none, ⟨EntG.none, ⟨EntG.none, trivial, trivial⟩, trivial⟩, ⟨EntG.none, trivial, trivial⟩⟩⟩, ⟨EntG.none, ⟨e87, ⟨e151, ⟨EntG.none, trivial, trivial⟩, trivial⟩, ⟨EntG.none, trivial, trivial⟩⟩, ⟨e119, ⟨e183, trivial, trivial⟩, ⟨EntG.none, trivial, trivial⟩⟩⟩⟩⟩, ⟨e11, ⟨e19, ⟨e35, ⟨EntG.none, ⟨e131, ⟨EntG.none, trivial, trivial⟩, trivial⟩, ⟨EntG.none, trivial, trivial⟩⟩, ⟨e99, ⟨EntG.none, ⟨EntG.none, trivial, trivial⟩, trivial⟩, ⟨EntG.none, trivial, trivial⟩⟩⟩, ⟨e51, ⟨EntG.none, ⟨EntG.none, ⟨EntG.none, trivial, trivial⟩, trivial⟩, ⟨EntG.none, trivial, trivial⟩⟩, ⟨e115, ⟨e179, trivial, trivial⟩, ⟨EntG.none, trivial, trivial⟩⟩⟩⟩, ⟨EntG.none, ⟨e43, ⟨EntG.none, ⟨EntG.none, ⟨EntG.none, trivial, trivial⟩, trivial⟩, ⟨EntG.none, trivial, trivial⟩⟩, ⟨EntG.none, ⟨EntG.none, ⟨EntG.none, trivial, trivial⟩, trivial⟩, ⟨EntG.none, trivial, trivial⟩⟩⟩, ⟨e59, ⟨e91, ⟨EntG.none, ⟨EntG.none, trivial, trivial⟩, trivial⟩, ⟨EntG.none, trivial, trivial⟩⟩, ⟨EntG.none, ⟨EntG.none, trivial, trivial⟩, ⟨EntG.none, trivial, trivial⟩⟩⟩⟩⟩⟩, ⟨e5, ⟨e9, ⟨e17, ⟨e33, ⟨EntG.none, ⟨EntG.none, ⟨EntG.none, trivial, trivial⟩, trivial⟩, ⟨EntG.none, trivial, trivial⟩⟩, ⟨EntG.none, ⟨EntG.none, ⟨EntG.none, trivial, trivial⟩, trivial⟩, ⟨EntG.none, trivial, trivial⟩⟩⟩, ⟨EntG.none, ⟨EntG.none, ⟨EntG.none, ⟨EntG.none, trivial, trivial⟩, trivial⟩, ⟨EntG.none, trivial, trivial⟩⟩, ⟨EntG.none, ⟨EntG.none, trivial, trivial⟩, ⟨EntG.none, trivial, trivial⟩⟩⟩⟩, ⟨e25, ⟨EntG.none, ⟨EntG.none, ⟨EntG.none, ⟨EntG.none, trivial, trivial⟩, trivial⟩, ⟨EntG.none, trivial, trivial⟩⟩, ⟨EntG.none, ⟨EntG.none, ⟨EntG.none, trivial, trivial⟩, trivial⟩, ⟨EntG.none, trivial, trivial⟩⟩⟩, ⟨e57, ⟨e89, ⟨EntG.none, ⟨EntG.none, trivial, trivial⟩, trivial⟩, ⟨EntG.none, trivial, trivial⟩⟩, ⟨EntG.none, ⟨EntG.none, trivial, trivial⟩, ⟨EntG.none, trivial, trivial⟩⟩⟩⟩⟩, ⟨e13, ⟨e21, ⟨e37, ⟨e69, ⟨EntG.none, ⟨EntG.none, trivial, trivial⟩, trivial⟩, ⟨EntG.none, trivial, trivial⟩⟩, ⟨e101, ⟨EntG.none, ⟨EntG.none, trivial, trivial⟩, trivial⟩, ⟨EntG.none, trivial, trivial⟩⟩⟩, ⟨EntG.none, ⟨EntG.none, ⟨e149, ⟨EntG.none, trivial, trivial⟩, trivial⟩, ⟨EntG.none, trivial, trivial⟩⟩, ⟨EntG.none, ⟨e181, trivial, trivial⟩, ⟨EntG.none, trivial, trivial⟩⟩⟩⟩, ⟨e29, ⟨EntG.none, ⟨EntG.none, ⟨EntG.none, ⟨EntG.none, trivial, trivial⟩, trivial⟩, ⟨EntG.none, trivial, trivial⟩⟩, ⟨EntG.none, ⟨EntG.none, ⟨EntG.none, trivial, trivial⟩, trivial⟩, ⟨EntG.none, trivial, trivial⟩⟩⟩, ⟨e61, ⟨e93, ⟨EntG.none, ⟨EntG.none, trivial, trivial⟩, trivial⟩, ⟨EntG.none, trivial, trivial⟩⟩, ⟨EntG.none, ⟨EntG.none, trivial, trivial⟩, ⟨EntG.none, trivial, trivial⟩⟩⟩⟩⟩⟩⟩, ⟨EntG.none, ⟨e4, ⟨e8, ⟨EntG.none, ⟨e32, ⟨e64, ⟨EntG.none, ⟨EntG.none, trivial, trivial⟩, trivial⟩, ⟨EntG.none, trivial, trivial⟩⟩, ⟨EntG.none, ⟨EntG.none, ⟨EntG.none, trivial, trivial⟩, trivial⟩, ⟨EntG.none, trivial, trivial⟩⟩⟩, ⟨EntG.none, ⟨EntG.none, ⟨EntG.none, ⟨EntG.none, trivial, trivial⟩, trivial⟩, ⟨EntG.none, trivial, trivial⟩⟩, ⟨EntG.none, ⟨EntG.none, trivial, trivial⟩, ⟨EntG.none, trivial, trivial⟩⟩⟩⟩, ⟨e24, ⟨EntG.none, ⟨EntG.none, ⟨EntG.none, ⟨EntG.none, trivial, trivial⟩, trivial⟩, ⟨EntG.none, trivial, trivial⟩⟩, ⟨EntG.none, ⟨EntG.none, ⟨EntG.none, trivial, trivial⟩, trivial⟩, ⟨EntG.none, trivial, trivial⟩⟩⟩, ⟨e56, ⟨e88, ⟨EntG.none, ⟨EntG.none, trivial, trivial⟩, trivial⟩, ⟨EntG.none, trivial, trivial⟩⟩, ⟨EntG.none, ⟨EntG.none, trivial, trivial⟩, ⟨EntG.none, trivial, trivial⟩⟩⟩⟩⟩, ⟨e12, ⟨EntG.none, ⟨e36, ⟨EntG.none, ⟨e132, ⟨EntG.none, trivial, trivial⟩, trivial⟩, ⟨EntG.none, trivial, trivial⟩⟩, ⟨EntG.none, ⟨EntG.none, ⟨EntG.none, trivial, trivial⟩, trivial⟩, ⟨EntG.none, trivial, trivial⟩⟩⟩, ⟨e52, ⟨e84, ⟨e148, ⟨EntG.none, trivial, trivial⟩, trivial⟩, ⟨e212, trivial, trivial⟩⟩, ⟨EntG.none, ⟨e180, trivial, trivial⟩, ⟨EntG.none, trivial, trivial⟩⟩⟩⟩, ⟨e28, ⟨EntG.none, ⟨e76, ⟨EntG.none, ⟨EntG.none, trivial, trivial⟩, trivial⟩, ⟨EntG.none, trivial, trivial⟩⟩, ⟨EntG.none, ⟨EntG.none, ⟨EntG.none, trivial, trivial⟩, trivial⟩, ⟨EntG.none, trivial, trivial⟩⟩⟩, ⟨e60, ⟨EntG.none, ⟨EntG.none, ⟨EntG.none, trivial, trivial⟩, trivial⟩, ⟨EntG.none, trivial, trivial⟩⟩, ⟨EntG.none, ⟨EntG.none, trivial, trivial⟩, ⟨EntG.none, trivial, trivial⟩⟩⟩⟩⟩⟩, ⟨e6, ⟨e10, ⟨e18, ⟨e34, ⟨EntG.none, ⟨e130, ⟨EntG.none, trivial, trivial⟩, trivial⟩, ⟨EntG.none, trivial, trivial⟩⟩, ⟨EntG.none, ⟨EntG.none, ⟨EntG.none, trivial, trivial⟩, trivial⟩, ⟨EntG.none, trivial, trivial⟩⟩⟩, ⟨e50, ⟨EntG.none, ⟨EntG.none, ⟨EntG.none, trivial, trivial⟩, trivial⟩, ⟨EntG.none, trivial, trivial⟩⟩, ⟨EntG.none, ⟨EntG.none, trivial, trivial⟩, ⟨EntG.none, trivial, trivial⟩⟩⟩⟩, ⟨e26, ⟨e42, ⟨EntG.none, ⟨EntG.none, ⟨EntG.none, trivial, trivial⟩, trivial⟩, ⟨EntG.none, trivial, trivial⟩⟩, ⟨EntG.none, ⟨EntG.none, ⟨EntG.none, trivial, trivial⟩, trivial⟩, ⟨EntG.none, trivial, trivial⟩⟩⟩, ⟨e58, ⟨e90, ⟨EntG.none, ⟨EntG.none, trivial, trivial⟩, trivial⟩, ⟨e218, trivial, trivial⟩⟩, ⟨EntG.none, ⟨EntG.none, trivial, trivial⟩, ⟨EntG.none, trivial, trivial⟩⟩⟩⟩⟩, ⟨e14, ⟨e22, ⟨e38, ⟨e70, ⟨EntG.none, ⟨EntG.none, trivial, trivial⟩, trivial⟩, ⟨EntG.none, trivial, trivial⟩⟩, ⟨EntG.none, ⟨EntG.none, ⟨EntG.none, trivial, trivial⟩, trivial⟩, ⟨EntG.none, trivial, trivial⟩⟩⟩, ⟨e54, ⟨e86, ⟨e150, ⟨EntG.none, trivial, trivial⟩, trivial⟩, ⟨EntG.none, trivial, trivial⟩⟩, ⟨EntG.none, ⟨e182, trivial, trivial⟩, ⟨EntG.none, trivial, trivial⟩⟩⟩⟩, ⟨e30, ⟨EntG.none, ⟨EntG.none, ⟨EntG.none, ⟨EntG.none, trivial, trivial⟩, trivial⟩, ⟨EntG.none, trivial, trivial⟩⟩, ⟨EntG.none, ⟨EntG.none, ⟨EntG.none, trivial, trivial⟩, trivial⟩, ⟨EntG.none, trivial, trivial⟩⟩⟩, ⟨e62, ⟨EntG.none, ⟨EntG.none, ⟨EntG.none, trivial, trivial⟩, trivial⟩, ⟨e222, trivial, trivial⟩⟩, ⟨EntG.none, ⟨EntG.none, trivial, trivial⟩, ⟨e254, trivial, trivial⟩⟩⟩⟩⟩⟩⟩⟩)

end Code
end Go.Proofs.YthjgmpfejgjbaaaGreatDoor
