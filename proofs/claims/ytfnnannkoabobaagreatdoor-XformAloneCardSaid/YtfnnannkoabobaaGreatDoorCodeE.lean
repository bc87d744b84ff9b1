/- The compiled functions are the program's. -/
import Derived.Test.YtfnnannkoabobaaGreatDoorCodeT
import Derived.Test.YtfnnannkoabobaaGreatDoorChecked
import Derived.KernelRfl
namespace Go.Proofs.YtfnnannkoabobaaGreatDoor
open Go Go.Eng
namespace Code
set_option maxRecDepth 100000
set_option linter.unusedVariables false
theorem G3_eq : (cF Go.Proofs.Tryz.prog 0 (planOf Go.Proofs.Tryz.prog 0) Go.Proofs.Tryz.f3).map toG = some G3 := by kernel_rfl
theorem G4_eq : (cF Go.Proofs.Tryz.prog 0 (planOf Go.Proofs.Tryz.prog 0) Go.Proofs.Tryz.f4).map toG = some G4 := by kernel_rfl
theorem G5_eq : (cF Go.Proofs.Tryz.prog 0 (planOf Go.Proofs.Tryz.prog 0) Go.Proofs.Tryz.f5).map toG = some G5 := by kernel_rfl
theorem G6_eq : (cF Go.Proofs.Tryz.prog 0 (planOf Go.Proofs.Tryz.prog 0) Go.Proofs.Tryz.f6).map toG = some G6 := by kernel_rfl
theorem G7_eq : (cF Go.Proofs.Tryz.prog 0 (planOf Go.Proofs.Tryz.prog 0) Go.Proofs.Tryz.f7).map toG = some G7 := by kernel_rfl
theorem G8_eq : (cF Go.Proofs.Tryz.prog 0 (planOf Go.Proofs.Tryz.prog 0) Go.Proofs.Tryz.f8).map toG = some G8 := by kernel_rfl
theorem G9_eq : (cF Go.Proofs.Tryz.prog 0 (planOf Go.Proofs.Tryz.prog 0) Go.Proofs.Tryz.f9).map toG = some G9 := by kernel_rfl
theorem G10_eq : (cF Go.Proofs.Tryz.prog 0 (planOf Go.Proofs.Tryz.prog 0) Go.Proofs.Tryz.f10).map toG = some G10 := by kernel_rfl
theorem G11_eq : (cF Go.Proofs.Tryz.prog 0 (planOf Go.Proofs.Tryz.prog 0) Go.Proofs.Tryz.f11).map toG = some G11 := by kernel_rfl
theorem G12_eq : (cF Go.Proofs.Tryz.prog 0 (planOf Go.Proofs.Tryz.prog 0) Go.Proofs.Tryz.f12).map toG = some G12 := by kernel_rfl
theorem G13_eq : (cF Go.Proofs.Tryz.prog 0 (planOf Go.Proofs.Tryz.prog 0) Go.Proofs.Tryz.f13).map toG = some G13 := by kernel_rfl
theorem G16_eq : (cF Go.Proofs.Tryz.prog 0 (planOf Go.Proofs.Tryz.prog 0) Go.Proofs.Tryz.f16).map toG = some G16 := by kernel_rfl
theorem G17_eq : (cF Go.Proofs.Tryz.prog 0 (planOf Go.Proofs.Tryz.prog 0) Go.Proofs.Tryz.f17).map toG = some G17 := by kernel_rfl
theorem G20_eq : (cF Go.Proofs.Tryz.prog 0 (planOf Go.Proofs.Tryz.prog 0) Go.Proofs.Tryz.f20).map toG = some G20 := by kernel_rfl
theorem G21_eq : (cF Go.Proofs.Tryz.prog 0 (planOf Go.Proofs.Tryz.prog 0) Go.Proofs.Tryz.f21).map toG = some G21 := by kernel_rfl
theorem G22_eq : (cF Go.Proofs.Tryz.prog 0 (planOf Go.Proofs.Tryz.prog 0) Go.Proofs.Tryz.f22).map toG = some G22 := by kernel_rfl
theorem G24_eq : (cF Go.Proofs.Tryz.prog 0 (planOf Go.Proofs.Tryz.prog 0) Go.Proofs.Tryz.f24).map toG = some G24 := by kernel_rfl
theorem G25_eq : (cF Go.Proofs.Tryz.prog 0 (planOf Go.Proofs.Tryz.prog 0) Go.Proofs.Tryz.f25).map toG = some G25 := by kernel_rfl
theorem G26_eq : (cF Go.Proofs.Tryz.prog 0 (planOf Go.Proofs.Tryz.prog 0) Go.Proofs.Tryz.f26).map toG = some G26 := by kernel_rfl
theorem G27_eq : (cF Go.Proofs.Tryz.prog 0 (planOf Go.Proofs.Tryz.prog 0) Go.Proofs.Tryz.f27).map toG = some G27 := by kernel_rfl
theorem G30_eq : (cF Go.Proofs.Tryz.prog 0 (planOf Go.Proofs.Tryz.prog 0) Go.Proofs.Tryz.f30).map toG = some G30 := by kernel_rfl
theorem G32_eq : (cF Go.Proofs.Tryz.prog 0 (planOf Go.Proofs.Tryz.prog 0) Go.Proofs.Tryz.f32).map toG = some G32 := by kernel_rfl
theorem G33_eq : (cF Go.Proofs.Tryz.prog 0 (planOf Go.Proofs.Tryz.prog 0) Go.Proofs.Tryz.f33).map toG = some G33 := by kernel_rfl
theorem G46_eq : (cF Go.Proofs.Tryz.prog 0 (planOf Go.Proofs.Tryz.prog 0) Go.Proofs.Tryz.f46).map toG = some G46 := by kernel_rfl
theorem G49_eq : (cF Go.Proofs.Tryz.prog 0 (planOf Go.Proofs.Tryz.prog 0) Go.Proofs.Tryz.f49).map toG = some G49 := by kernel_rfl
theorem G50_eq : (cF Go.Proofs.Tryz.prog 0 (planOf Go.Proofs.Tryz.prog 0) Go.Proofs.Tryz.f50).map toG = some G50 := by kernel_rfl
theorem G52_eq : (cF Go.Proofs.Tryz.prog 0 (planOf Go.Proofs.Tryz.prog 0) Go.Proofs.Tryz.f52).map toG = some G52 := by kernel_rfl
theorem G63_eq : (cF Go.Proofs.Tryz.prog 0 (planOf Go.Proofs.Tryz.prog 0) Go.Proofs.Tryz.f63).map toG = some G63 := by kernel_rfl
theorem G64_eq : (cF Go.Proofs.Tryz.prog 0 (planOf Go.Proofs.Tryz.prog 0) Go.Proofs.Tryz.f64).map toG = some G64 := by kernel_rfl
theorem G65_eq : (cF Go.Proofs.Tryz.prog 0 (planOf Go.Proofs.Tryz.prog 0) Go.Proofs.Tryz.f65).map toG = some G65 := by kernel_rfl
theorem G68_eq : (cF Go.Proofs.Tryz.prog 0 (planOf Go.Proofs.Tryz.prog 0) Go.Proofs.Tryz.f68).map toG = some G68 := by kernel_rfl
theorem G73_eq : (cF Go.Proofs.Tryz.prog 0 (planOf Go.Proofs.Tryz.prog 0) Go.Proofs.Tryz.f73).map toG = some G73 := by kernel_rfl
theorem G74_eq : (cF Go.Proofs.Tryz.prog 0 (planOf Go.Proofs.Tryz.prog 0) Go.Proofs.Tryz.f74).map toG = some G74 := by kernel_rfl
theorem G75_eq : (cF Go.Proofs.Tryz.prog 0 (planOf Go.Proofs.Tryz.prog 0) Go.Proofs.Tryz.f75).map toG = some G75 := by kernel_rfl
theorem G76_eq : (cF Go.Proofs.Tryz.prog 0 (planOf Go.Proofs.Tryz.prog 0) Go.Proofs.Tryz.f76).map toG = some G76 := by kernel_rfl
theorem G99_eq : (cF Go.Proofs.Tryz.prog 0 (planOf Go.Proofs.Tryz.prog 0) Go.Proofs.Tryz.f99).map toG = some G99 := by kernel_rfl
theorem G100_eq : (cF Go.Proofs.Tryz.prog 0 (planOf Go.Proofs.Tryz.prog 0) Go.Proofs.Tryz.f100).map toG = some G100 := by kernel_rfl
theorem G101_eq : (cF Go.Proofs.Tryz.prog 0 (planOf Go.Proofs.Tryz.prog 0) Go.Proofs.Tryz.f101).map toG = some G101 := by kernel_rfl
theorem G103_eq : (cF Go.Proofs.Tryz.prog 0 (planOf Go.Proofs.Tryz.prog 0) Go.Proofs.Tryz.f103).map toG = some G103 := by kernel_rfl
theorem G118_eq : (cF Go.Proofs.Tryz.prog 0 (planOf Go.Proofs.Tryz.prog 0) Go.Proofs.Tryz.f118).map toG = some G118 := by kernel_rfl
theorem G128_eq : (cF Go.Proofs.Tryz.prog 0 (planOf Go.Proofs.Tryz.prog 0) Go.Proofs.Tryz.f128).map toG = some G128 := by kernel_rfl
section
variable [Env]
theorem e3 {p : Path} (h : p.num = 3 := by rfl) : EntG Go.Proofs.Tryz.prog 0 (planOf Go.Proofs.Tryz.prog 0) p (some G3) := EntG.some Go.Proofs.Tryz.func3 G3_eq h
theorem e4 {p : Path} (h : p.num = 4 := by rfl) : EntG Go.Proofs.Tryz.prog 0 (planOf Go.Proofs.Tryz.prog 0) p (some G4) := EntG.some Go.Proofs.Tryz.func4 G4_eq h
theorem e5 {p : Path} (h : p.num = 5 := by rfl) : EntG Go.Proofs.Tryz.prog 0 (planOf Go.Proofs.Tryz.prog 0) p (some G5) := EntG.some Go.Proofs.Tryz.func5 G5_eq h
theorem e6 {p : Path} (h : p.num = 6 := by rfl) : EntG Go.Proofs.Tryz.prog 0 (planOf Go.Proofs.Tryz.prog 0) p (some G6) := EntG.some Go.Proofs.Tryz.func6 G6_eq h
theorem e7 {p : Path} (h : p.num = 7 := by rfl) : EntG Go.Proofs.Tryz.prog 0 (planOf Go.Proofs.Tryz.prog 0) p (some G7) := EntG.some Go.Proofs.Tryz.func7 G7_eq h
theorem e8 {p : Path} (h : p.num = 8 := by rfl) : EntG Go.Proofs.Tryz.prog 0 (planOf Go.Proofs.Tryz.prog 0) p (some G8) := EntG.some Go.Proofs.Tryz.func8 G8_eq h
theorem e9 {p : Path} (h : p.num = 9 := by rfl) : EntG Go.Proofs.Tryz.prog 0 (planOf Go.Proofs.Tryz.prog 0) p (some G9) := EntG.some Go.Proofs.Tryz.func9 G9_eq h
theorem e10 {p : Path} (h : p.num = 10 := by rfl) : EntG Go.Proofs.Tryz.prog 0 (planOf Go.Proofs.Tryz.prog 0) p (some G10) := EntG.some Go.Proofs.Tryz.func10 G10_eq h
theorem e11 {p : Path} (h : p.num = 11 := by rfl) : EntG Go.Proofs.Tryz.prog 0 (planOf Go.Proofs.Tryz.prog 0) p (some G11) := EntG.some Go.Proofs.Tryz.func11 G11_eq h
theorem e12 {p : Path} (h : p.num = 12 := by rfl) : EntG Go.Proofs.Tryz.prog 0 (planOf Go.Proofs.Tryz.prog 0) p (some G12) := EntG.some Go.Proofs.Tryz.func12 G12_eq h
theorem e13 {p : Path} (h : p.num = 13 := by rfl) : EntG Go.Proofs.Tryz.prog 0 (planOf Go.Proofs.Tryz.prog 0) p (some G13) := EntG.some Go.Proofs.Tryz.func13 G13_eq h
theorem e16 {p : Path} (h : p.num = 16 := by rfl) : EntG Go.Proofs.Tryz.prog 0 (planOf Go.Proofs.Tryz.prog 0) p (some G16) := EntG.some Go.Proofs.Tryz.func16 G16_eq h
theorem e17 {p : Path} (h : p.num = 17 := by rfl) : EntG Go.Proofs.Tryz.prog 0 (planOf Go.Proofs.Tryz.prog 0) p (some G17) := EntG.some Go.Proofs.Tryz.func17 G17_eq h
theorem e20 {p : Path} (h : p.num = 20 := by rfl) : EntG Go.Proofs.Tryz.prog 0 (planOf Go.Proofs.Tryz.prog 0) p (some G20) := EntG.some Go.Proofs.Tryz.func20 G20_eq h
theorem e21 {p : Path} (h : p.num = 21 := by rfl) : EntG Go.Proofs.Tryz.prog 0 (planOf Go.Proofs.Tryz.prog 0) p (some G21) := EntG.some Go.Proofs.Tryz.func21 G21_eq h
theorem e22 {p : Path} (h : p.num = 22 := by rfl) : EntG Go.Proofs.Tryz.prog 0 (planOf Go.Proofs.Tryz.prog 0) p (some G22) := EntG.some Go.Proofs.Tryz.func22 G22_eq h
theorem e24 {p : Path} (h : p.num = 24 := by rfl) : EntG Go.Proofs.Tryz.prog 0 (planOf Go.Proofs.Tryz.prog 0) p (some G24) := EntG.some Go.Proofs.Tryz.func24 G24_eq h
theorem e25 {p : Path} (h : p.num = 25 := by rfl) : EntG Go.Proofs.Tryz.prog 0 (planOf Go.Proofs.Tryz.prog 0) p (some G25) := EntG.some Go.Proofs.Tryz.func25 G25_eq h
theorem e26 {p : Path} (h : p.num = 26 := by rfl) : EntG Go.Proofs.Tryz.prog 0 (planOf Go.Proofs.Tryz.prog 0) p (some G26) := EntG.some Go.Proofs.Tryz.func26 G26_eq h
theorem e27 {p : Path} (h : p.num = 27 := by rfl) : EntG Go.Proofs.Tryz.prog 0 (planOf Go.Proofs.Tryz.prog 0) p (some G27) := EntG.some Go.Proofs.Tryz.func27 G27_eq h
theorem e30 {p : Path} (h : p.num = 30 := by rfl) : EntG Go.Proofs.Tryz.prog 0 (planOf Go.Proofs.Tryz.prog 0) p (some G30) := EntG.some Go.Proofs.Tryz.func30 G30_eq h
theorem e32 {p : Path} (h : p.num = 32 := by rfl) : EntG Go.Proofs.Tryz.prog 0 (planOf Go.Proofs.Tryz.prog 0) p (some G32) := EntG.some Go.Proofs.Tryz.func32 G32_eq h
theorem e33 {p : Path} (h : p.num = 33 := by rfl) : EntG Go.Proofs.Tryz.prog 0 (planOf Go.Proofs.Tryz.prog 0) p (some G33) := EntG.some Go.Proofs.Tryz.func33 G33_eq h
theorem e46 {p : Path} (h : p.num = 46 := by rfl) : EntG Go.Proofs.Tryz.prog 0 (planOf Go.Proofs.Tryz.prog 0) p (some G46) := EntG.some Go.Proofs.Tryz.func46 G46_eq h
theorem e49 {p : Path} (h : p.num = 49 := by rfl) : EntG Go.Proofs.Tryz.prog 0 (planOf Go.Proofs.Tryz.prog 0) p (some G49) := EntG.some Go.Proofs.Tryz.func49 G49_eq h
theorem e50 {p : Path} (h : p.num = 50 := by rfl) : EntG Go.Proofs.Tryz.prog 0 (planOf Go.Proofs.Tryz.prog 0) p (some G50) := EntG.some Go.Proofs.Tryz.func50 G50_eq h
theorem e52 {p : Path} (h : p.num = 52 := by rfl) : EntG Go.Proofs.Tryz.prog 0 (planOf Go.Proofs.Tryz.prog 0) p (some G52) := EntG.some Go.Proofs.Tryz.func52 G52_eq h
theorem e63 {p : Path} (h : p.num = 63 := by rfl) : EntG Go.Proofs.Tryz.prog 0 (planOf Go.Proofs.Tryz.prog 0) p (some G63) := EntG.some Go.Proofs.Tryz.func63 G63_eq h
theorem e64 {p : Path} (h : p.num = 64 := by rfl) : EntG Go.Proofs.Tryz.prog 0 (planOf Go.Proofs.Tryz.prog 0) p (some G64) := EntG.some Go.Proofs.Tryz.func64 G64_eq h
theorem e65 {p : Path} (h : p.num = 65 := by rfl) : EntG Go.Proofs.Tryz.prog 0 (planOf Go.Proofs.Tryz.prog 0) p (some G65) := EntG.some Go.Proofs.Tryz.func65 G65_eq h
theorem e68 {p : Path} (h : p.num = 68 := by rfl) : EntG Go.Proofs.Tryz.prog 0 (planOf Go.Proofs.Tryz.prog 0) p (some G68) := EntG.some Go.Proofs.Tryz.func68 G68_eq h
theorem e73 {p : Path} (h : p.num = 73 := by rfl) : EntG Go.Proofs.Tryz.prog 0 (planOf Go.Proofs.Tryz.prog 0) p (some G73) := EntG.some Go.Proofs.Tryz.func73 G73_eq h
theorem e74 {p : Path} (h : p.num = 74 := by rfl) : EntG Go.Proofs.Tryz.prog 0 (planOf Go.Proofs.Tryz.prog 0) p (some G74) := EntG.some Go.Proofs.Tryz.func74 G74_eq h
theorem e75 {p : Path} (h : p.num = 75 := by rfl) : EntG Go.Proofs.Tryz.prog 0 (planOf Go.Proofs.Tryz.prog 0) p (some G75) := EntG.some Go.Proofs.Tryz.func75 G75_eq h
theorem e76 {p : Path} (h : p.num = 76 := by rfl) : EntG Go.Proofs.Tryz.prog 0 (planOf Go.Proofs.Tryz.prog 0) p (some G76) := EntG.some Go.Proofs.Tryz.func76 G76_eq h
theorem e99 {p : Path} (h : p.num = 99 := by rfl) : EntG Go.Proofs.Tryz.prog 0 (planOf Go.Proofs.Tryz.prog 0) p (some G99) := EntG.some Go.Proofs.Tryz.func99 G99_eq h
theorem e100 {p : Path} (h : p.num = 100 := by rfl) : EntG Go.Proofs.Tryz.prog 0 (planOf Go.Proofs.Tryz.prog 0) p (some G100) := EntG.some Go.Proofs.Tryz.func100 G100_eq h
theorem e101 {p : Path} (h : p.num = 101 := by rfl) : EntG Go.Proofs.Tryz.prog 0 (planOf Go.Proofs.Tryz.prog 0) p (some G101) := EntG.some Go.Proofs.Tryz.func101 G101_eq h
theorem e103 {p : Path} (h : p.num = 103 := by rfl) : EntG Go.Proofs.Tryz.prog 0 (planOf Go.Proofs.Tryz.prog 0) p (some G103) := EntG.some Go.Proofs.Tryz.func103 G103_eq h
theorem e118 {p : Path} (h : p.num = 118 := by rfl) : EntG Go.Proofs.Tryz.prog 0 (planOf Go.Proofs.Tryz.prog 0) p (some G118) := EntG.some Go.Proofs.Tryz.func118 G118_eq h
theorem e128 {p : Path} (h : p.num = 128 := by rfl) : EntG Go.Proofs.Tryz.prog 0 (planOf Go.Proofs.Tryz.prog 0) p (some G128) := EntG.some Go.Proofs.Tryz.func128 G128_eq h
theorem tab_ok : AllT (EntG Go.Proofs.Tryz.prog 0 (planOf Go.Proofs.Tryz.prog 0)) tab := (show AllT _ tab from ⟨EntG.none, ⟨EntG.none, ⟨e3, ⟨e7, ⟨EntG.none, ⟨EntG.none, ⟨e63, ⟨EntG.none, trivial, trivial⟩, trivial⟩, ⟨EntG.none, ⟨EntG.none, trivial, trivial⟩, trivial⟩⟩, ⟨EntG.none, ⟨EntG.none, ⟨EntG.none, trivial, trivial⟩, trivial⟩, ⟨EntG.none, ⟨EntG.none, trivial, trivial⟩, trivial⟩⟩⟩, ⟨EntG.none, ⟨EntG.none, ⟨EntG.none, ⟨EntG.none, trivial, trivial⟩, trivial⟩, ⟨e103, ⟨EntG.none, trivial, trivial⟩, trivial⟩⟩, ⟨EntG.none, ⟨EntG.none, ⟨EntG.none, trivial, trivial⟩, trivial⟩, ⟨EntG.none, trivial, trivial⟩⟩⟩⟩, ⟨e11, ⟨EntG.none, ⟨EntG.none, ⟨EntG.none, ⟨EntG.none, trivial, trivial⟩, trivial⟩, ⟨e99, ⟨EntG.none, trivial, trivial⟩, trivial⟩⟩, ⟨EntG.none, ⟨EntG.none, ⟨EntG.none, trivial, trivial⟩, trivial⟩, ⟨EntG.none, trivial, trivial⟩⟩⟩, ⟨e27, ⟨EntG.none, ⟨e75, ⟨EntG.none, trivial, trivial⟩, trivial⟩, ⟨EntG.none, ⟨EntG.none, trivial, trivial⟩, trivial⟩⟩, ⟨EntG.none, ⟨EntG.none, ⟨EntG.none, trivial, trivial⟩, trivial⟩, ⟨EntG.none, trivial, trivial⟩⟩⟩⟩⟩, ⟨e5, ⟨e9, ⟨e17, ⟨e33, ⟨e65, ⟨EntG.none, trivial, trivial⟩, trivial⟩, ⟨EntG.none, ⟨EntG.none, trivial, trivial⟩, trivial⟩⟩, ⟨e49, ⟨EntG.none, ⟨EntG.none, trivial, trivial⟩, trivial⟩, ⟨EntG.none, trivial, trivial⟩⟩⟩, ⟨e25, ⟨EntG.none, ⟨e73, ⟨EntG.none, trivial, trivial⟩, trivial⟩, ⟨EntG.none, ⟨EntG.none, trivial, trivial⟩, trivial⟩⟩, ⟨EntG.none, ⟨EntG.none, ⟨EntG.none, trivial, trivial⟩, trivial⟩, ⟨EntG.none, trivial, trivial⟩⟩⟩⟩, ⟨e13, ⟨e21, ⟨EntG.none, ⟨EntG.none, ⟨EntG.none, trivial, trivial⟩, trivial⟩, ⟨e101, ⟨EntG.none, trivial, trivial⟩, trivial⟩⟩, ⟨EntG.none, ⟨EntG.none, ⟨EntG.none, trivial, trivial⟩, trivial⟩, ⟨EntG.none, trivial, trivial⟩⟩⟩, ⟨EntG.none, ⟨EntG.none, ⟨EntG.none, ⟨EntG.none, trivial, trivial⟩, trivial⟩, ⟨EntG.none, ⟨EntG.none, trivial, trivial⟩, trivial⟩⟩, ⟨EntG.none, ⟨EntG.none, ⟨EntG.none, trivial, trivial⟩, trivial⟩, ⟨EntG.none, trivial, trivial⟩⟩⟩⟩⟩⟩, ⟨EntG.none, ⟨e4, ⟨e8, ⟨e16, ⟨e32, ⟨e64, ⟨e128, trivial, trivial⟩, trivial⟩, ⟨EntG.none, ⟨EntG.none, trivial, trivial⟩, trivial⟩⟩, ⟨EntG.none, ⟨EntG.none, ⟨EntG.none, trivial, trivial⟩, trivial⟩, ⟨EntG.none, ⟨EntG.none, trivial, trivial⟩, trivial⟩⟩⟩, ⟨e24, ⟨EntG.none, ⟨EntG.none, ⟨EntG.none, trivial, trivial⟩, trivial⟩, ⟨EntG.none, ⟨EntG.none, trivial, trivial⟩, trivial⟩⟩, ⟨EntG.none, ⟨EntG.none, ⟨EntG.none, trivial, trivial⟩, trivial⟩, ⟨EntG.none, trivial, trivial⟩⟩⟩⟩, ⟨e12, ⟨e20, ⟨EntG.none, ⟨e68, ⟨EntG.none, trivial, trivial⟩, trivial⟩, ⟨e100, ⟨EntG.none, trivial, trivial⟩, trivial⟩⟩, ⟨e52, ⟨EntG.none, ⟨EntG.none, trivial, trivial⟩, trivial⟩, ⟨EntG.none, trivial, trivial⟩⟩⟩, ⟨EntG.none, ⟨EntG.none, ⟨e76, ⟨EntG.none, trivial, trivial⟩, trivial⟩, ⟨EntG.none, ⟨EntG.none, trivial, trivial⟩, trivial⟩⟩, ⟨EntG.none, ⟨EntG.none, ⟨EntG.none, trivial, trivial⟩, trivial⟩, ⟨EntG.none, trivial, trivial⟩⟩⟩⟩⟩, ⟨e6, ⟨e10, ⟨EntG.none, ⟨EntG.none, ⟨EntG.none, ⟨EntG.none, trivial, trivial⟩, trivial⟩, ⟨EntG.none, ⟨EntG.none, trivial, trivial⟩, trivial⟩⟩, ⟨e50, ⟨EntG.none, ⟨EntG.none, trivial, trivial⟩, trivial⟩, ⟨EntG.none, trivial, trivial⟩⟩⟩, ⟨e26, ⟨EntG.none, ⟨e74, ⟨EntG.none, trivial, trivial⟩, trivial⟩, ⟨EntG.none, ⟨EntG.none, trivial, trivial⟩, trivial⟩⟩, ⟨EntG.none, ⟨EntG.none, ⟨EntG.none, trivial, trivial⟩, trivial⟩, ⟨EntG.none, trivial, trivial⟩⟩⟩⟩, ⟨EntG.none, ⟨e22, ⟨EntG.none, ⟨EntG.none, ⟨EntG.none, trivial, trivial⟩, trivial⟩, ⟨EntG.none, ⟨EntG.none, trivial, trivial⟩, trivial⟩⟩, ⟨EntG.none, ⟨EntG.none, ⟨EntG.none, trivial, trivial⟩, trivial⟩, ⟨e118, trivial, trivial⟩⟩⟩, ⟨e30, ⟨e46, ⟨EntG.none, ⟨EntG.none, trivial, trivial⟩, trivial⟩, ⟨EntG.none, ⟨EntG.none, trivial, trivial⟩, trivial⟩⟩, ⟨EntG.none, ⟨EntG.none, ⟨EntG.none, trivial, trivial⟩, trivial⟩, ⟨EntG.none, trivial, trivial⟩⟩⟩⟩⟩⟩⟩)
end

end Code
end Go.Proofs.YtfnnannkoabobaaGreatDoor
