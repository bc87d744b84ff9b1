/- The compiled functions are the program's. -/
import Derived.Test.YthjgmpfejgjbaaaGreatDoorMCodeT
import Derived.Test.YthjgmpfejgjbaaaGreatDoorChecked
import Derived.KernelRfl
namespace Go.Proofs.YthjgmpfejgjbaaaGreatDoor
open Go Go.Eng
namespace Code
set_option maxRecDepth 100000
set_option linter.unusedVariables false
theorem G3_eq : (cF Go.Proofs.Tryz.prog 8 (planOf Go.Proofs.Tryz.prog 8) Go.Proofs.Tryz.f3).map toG = some G3 := by kernel_rfl
theorem G5_eq : (cF Go.Proofs.Tryz.prog 8 (planOf Go.Proofs.Tryz.prog 8) Go.Proofs.Tryz.f5).map toG = some G5 := by kernel_rfl
theorem G6_eq : (cF Go.Proofs.Tryz.prog 8 (planOf Go.Proofs.Tryz.prog 8) Go.Proofs.Tryz.f6).map toG = some G6 := by kernel_rfl
theorem G7_eq : (cF Go.Proofs.Tryz.prog 8 (planOf Go.Proofs.Tryz.prog 8) Go.Proofs.Tryz.f7).map toG = some G7 := by kernel_rfl
theorem G13_eq : (cF Go.Proofs.Tryz.prog 8 (planOf Go.Proofs.Tryz.prog 8) Go.Proofs.Tryz.f13).map toG = some G13 := by kernel_rfl
theorem G14_eq : (cF Go.Proofs.Tryz.prog 8 (planOf Go.Proofs.Tryz.prog 8) Go.Proofs.Tryz.f14).map toG = some G14 := by kernel_rfl
theorem G15_eq : (cF Go.Proofs.Tryz.prog 8 (planOf Go.Proofs.Tryz.prog 8) Go.Proofs.Tryz.f15).map toG = some G15 := by kernel_rfl
theorem G16_eq : (cF Go.Proofs.Tryz.prog 8 (planOf Go.Proofs.Tryz.prog 8) Go.Proofs.Tryz.f16).map toG = some G16 := by kernel_rfl
theorem G17_eq : (cF Go.Proofs.Tryz.prog 8 (planOf Go.Proofs.Tryz.prog 8) Go.Proofs.Tryz.f17).map toG = some G17 := by kernel_rfl
theorem G18_eq : (cF Go.Proofs.Tryz.prog 8 (planOf Go.Proofs.Tryz.prog 8) Go.Proofs.Tryz.f18).map toG = some G18 := by kernel_rfl
theorem G19_eq : (cF Go.Proofs.Tryz.prog 8 (planOf Go.Proofs.Tryz.prog 8) Go.Proofs.Tryz.f19).map toG = some G19 := by kernel_rfl
theorem G20_eq : (cF Go.Proofs.Tryz.prog 8 (planOf Go.Proofs.Tryz.prog 8) Go.Proofs.Tryz.f20).map toG = some G20 := by kernel_rfl
theorem G24_eq : (cF Go.Proofs.Tryz.prog 8 (planOf Go.Proofs.Tryz.prog 8) Go.Proofs.Tryz.f24).map toG = some G24 := by kernel_rfl
theorem G36_eq : (cF Go.Proofs.Tryz.prog 8 (planOf Go.Proofs.Tryz.prog 8) Go.Proofs.Tryz.f36).map toG = some G36 := by kernel_rfl
theorem G37_eq : (cF Go.Proofs.Tryz.prog 8 (planOf Go.Proofs.Tryz.prog 8) Go.Proofs.Tryz.f37).map toG = some G37 := by kernel_rfl
theorem G38_eq : (cF Go.Proofs.Tryz.prog 8 (planOf Go.Proofs.Tryz.prog 8) Go.Proofs.Tryz.f38).map toG = some G38 := by kernel_rfl
theorem G39_eq : (cF Go.Proofs.Tryz.prog 8 (planOf Go.Proofs.Tryz.prog 8) Go.Proofs.Tryz.f39).map toG = some G39 := by kernel_rfl
theorem G41_eq : (cF Go.Proofs.Tryz.prog 8 (planOf Go.Proofs.Tryz.prog 8) Go.Proofs.Tryz.f41).map toG = some G41 := by kernel_rfl
theorem G42_eq : (cF Go.Proofs.Tryz.prog 8 (planOf Go.Proofs.Tryz.prog 8) Go.Proofs.Tryz.f42).map toG = some G42 := by kernel_rfl
theorem G43_eq : (cF Go.Proofs.Tryz.prog 8 (planOf Go.Proofs.Tryz.prog 8) Go.Proofs.Tryz.f43).map toG = some G43 := by kernel_rfl
theorem G44_eq : (cF Go.Proofs.Tryz.prog 8 (planOf Go.Proofs.Tryz.prog 8) Go.Proofs.Tryz.f44).map toG = some G44 := by kernel_rfl
theorem G45_eq : (cF Go.Proofs.Tryz.prog 8 (planOf Go.Proofs.Tryz.prog 8) Go.Proofs.Tryz.f45).map toG = some G45 := by kernel_rfl
theorem G46_eq : (cF Go.Proofs.Tryz.prog 8 (planOf Go.Proofs.Tryz.prog 8) Go.Proofs.Tryz.f46).map toG = some G46 := by kernel_rfl
theorem G51_eq : (cF Go.Proofs.Tryz.prog 8 (planOf Go.Proofs.Tryz.prog 8) Go.Proofs.Tryz.f51).map toG = some G51 := by kernel_rfl
theorem G63_eq : (cF Go.Proofs.Tryz.prog 8 (planOf Go.Proofs.Tryz.prog 8) Go.Proofs.Tryz.f63).map toG = some G63 := by kernel_rfl
theorem G64_eq : (cF Go.Proofs.Tryz.prog 8 (planOf Go.Proofs.Tryz.prog 8) Go.Proofs.Tryz.f64).map toG = some G64 := by kernel_rfl
theorem G65_eq : (cF Go.Proofs.Tryz.prog 8 (planOf Go.Proofs.Tryz.prog 8) Go.Proofs.Tryz.f65).map toG = some G65 := by kernel_rfl
theorem G66_eq : (cF Go.Proofs.Tryz.prog 8 (planOf Go.Proofs.Tryz.prog 8) Go.Proofs.Tryz.f66).map toG = some G66 := by kernel_rfl
theorem G69_eq : (cF Go.Proofs.Tryz.prog 8 (planOf Go.Proofs.Tryz.prog 8) Go.Proofs.Tryz.f69).map toG = some G69 := by kernel_rfl
theorem G70_eq : (cF Go.Proofs.Tryz.prog 8 (planOf Go.Proofs.Tryz.prog 8) Go.Proofs.Tryz.f70).map toG = some G70 := by kernel_rfl
theorem G71_eq : (cF Go.Proofs.Tryz.prog 8 (planOf Go.Proofs.Tryz.prog 8) Go.Proofs.Tryz.f71).map toG = some G71 := by kernel_rfl
theorem G73_eq : (cF Go.Proofs.Tryz.prog 8 (planOf Go.Proofs.Tryz.prog 8) Go.Proofs.Tryz.f73).map toG = some G73 := by kernel_rfl
theorem G74_eq : (cF Go.Proofs.Tryz.prog 8 (planOf Go.Proofs.Tryz.prog 8) Go.Proofs.Tryz.f74).map toG = some G74 := by kernel_rfl
theorem G75_eq : (cF Go.Proofs.Tryz.prog 8 (planOf Go.Proofs.Tryz.prog 8) Go.Proofs.Tryz.f75).map toG = some G75 := by kernel_rfl
theorem G91_eq : (cF Go.Proofs.Tryz.prog 8 (planOf Go.Proofs.Tryz.prog 8) Go.Proofs.Tryz.f91).map toG = some G91 := by kernel_rfl
theorem G93_eq : (cF Go.Proofs.Tryz.prog 8 (planOf Go.Proofs.Tryz.prog 8) Go.Proofs.Tryz.f93).map toG = some G93 := by kernel_rfl
theorem G94_eq : (cF Go.Proofs.Tryz.prog 8 (planOf Go.Proofs.Tryz.prog 8) Go.Proofs.Tryz.f94).map toG = some G94 := by kernel_rfl
theorem G95_eq : (cF Go.Proofs.Tryz.prog 8 (planOf Go.Proofs.Tryz.prog 8) Go.Proofs.Tryz.f95).map toG = some G95 := by kernel_rfl
theorem G99_eq : (cF Go.Proofs.Tryz.prog 8 (planOf Go.Proofs.Tryz.prog 8) Go.Proofs.Tryz.f99).map toG = some G99 := by kernel_rfl
theorem G101_eq : (cF Go.Proofs.Tryz.prog 8 (planOf Go.Proofs.Tryz.prog 8) Go.Proofs.Tryz.f101).map toG = some G101 := by kernel_rfl
theorem G115_eq : (cF Go.Proofs.Tryz.prog 8 (planOf Go.Proofs.Tryz.prog 8) Go.Proofs.Tryz.f115).map toG = some G115 := by kernel_rfl
theorem G118_eq : (cF Go.Proofs.Tryz.prog 8 (planOf Go.Proofs.Tryz.prog 8) Go.Proofs.Tryz.f118).map toG = some G118 := by kernel_rfl
theorem G119_eq : (cF Go.Proofs.Tryz.prog 8 (planOf Go.Proofs.Tryz.prog 8) Go.Proofs.Tryz.f119).map toG = some G119 := by kernel_rfl
theorem G130_eq : (cF Go.Proofs.Tryz.prog 8 (planOf Go.Proofs.Tryz.prog 8) Go.Proofs.Tryz.f130).map toG = some G130 := by kernel_rfl
theorem G131_eq : (cF Go.Proofs.Tryz.prog 8 (planOf Go.Proofs.Tryz.prog 8) Go.Proofs.Tryz.f131).map toG = some G131 := by kernel_rfl
theorem G132_eq : (cF Go.Proofs.Tryz.prog 8 (planOf Go.Proofs.Tryz.prog 8) Go.Proofs.Tryz.f132).map toG = some G132 := by kernel_rfl
theorem G135_eq : (cF Go.Proofs.Tryz.prog 8 (planOf Go.Proofs.Tryz.prog 8) Go.Proofs.Tryz.f135).map toG = some G135 := by kernel_rfl
theorem G148_eq : (cF Go.Proofs.Tryz.prog 8 (planOf Go.Proofs.Tryz.prog 8) Go.Proofs.Tryz.f148).map toG = some G148 := by kernel_rfl
theorem G149_eq : (cF Go.Proofs.Tryz.prog 8 (planOf Go.Proofs.Tryz.prog 8) Go.Proofs.Tryz.f149).map toG = some G149 := by kernel_rfl
theorem G150_eq : (cF Go.Proofs.Tryz.prog 8 (planOf Go.Proofs.Tryz.prog 8) Go.Proofs.Tryz.f150).map toG = some G150 := by kernel_rfl
theorem G151_eq : (cF Go.Proofs.Tryz.prog 8 (planOf Go.Proofs.Tryz.prog 8) Go.Proofs.Tryz.f151).map toG = some G151 := by kernel_rfl
theorem G179_eq : (cF Go.Proofs.Tryz.prog 8 (planOf Go.Proofs.Tryz.prog 8) Go.Proofs.Tryz.f179).map toG = some G179 := by kernel_rfl
theorem G180_eq : (cF Go.Proofs.Tryz.prog 8 (planOf Go.Proofs.Tryz.prog 8) Go.Proofs.Tryz.f180).map toG = some G180 := by kernel_rfl
theorem G181_eq : (cF Go.Proofs.Tryz.prog 8 (planOf Go.Proofs.Tryz.prog 8) Go.Proofs.Tryz.f181).map toG = some G181 := by kernel_rfl
theorem G182_eq : (cF Go.Proofs.Tryz.prog 8 (planOf Go.Proofs.Tryz.prog 8) Go.Proofs.Tryz.f182).map toG = some G182 := by kernel_rfl
theorem G183_eq : (cF Go.Proofs.Tryz.prog 8 (planOf Go.Proofs.Tryz.prog 8) Go.Proofs.Tryz.f183).map toG = some G183 := by kernel_rfl
theorem G212_eq : (cF Go.Proofs.Tryz.prog 8 (planOf Go.Proofs.Tryz.prog 8) Go.Proofs.Tryz.f212).map toG = some G212 := by kernel_rfl
theorem G218_eq : (cF Go.Proofs.Tryz.prog 8 (planOf Go.Proofs.Tryz.prog 8) Go.Proofs.Tryz.f218).map toG = some G218 := by kernel_rfl
theorem G222_eq : (cF Go.Proofs.Tryz.prog 8 (planOf Go.Proofs.Tryz.prog 8) Go.Proofs.Tryz.f222).map toG = some G222 := by kernel_rfl
theorem G254_eq : (cF Go.Proofs.Tryz.prog 8 (planOf Go.Proofs.Tryz.prog 8) Go.Proofs.Tryz.f254).map toG = some G254 := by kernel_rfl
theorem e3 {p : Path} (h : p.num = 3 := by rfl) : EntG Go.Proofs.Tryz.prog 8 (planOf Go.Proofs.Tryz.prog 8) p (some G3) := EntG.some Go.Proofs.Tryz.func3 G3_eq h
theorem e5 {p : Path} (h : p.num = 5 := by rfl) : EntG Go.Proofs.Tryz.prog 8 (planOf Go.Proofs.Tryz.prog 8) p (some G5) := EntG.some Go.Proofs.Tryz.func5 G5_eq h
theorem e6 {p : Path} (h : p.num = 6 := by rfl) : EntG Go.Proofs.Tryz.prog 8 (planOf Go.Proofs.Tryz.prog 8) p (some G6) := EntG.some Go.Proofs.Tryz.func6 G6_eq h
theorem e7 {p : Path} (h : p.num = 7 := by rfl) : EntG Go.Proofs.Tryz.prog 8 (planOf Go.Proofs.Tryz.prog 8) p (some G7) := EntG.some Go.Proofs.Tryz.func7 G7_eq h
theorem e13 {p : Path} (h : p.num = 13 := by rfl) : EntG Go.Proofs.Tryz.prog 8 (planOf Go.Proofs.Tryz.prog 8) p (some G13) := EntG.some Go.Proofs.Tryz.func13 G13_eq h
theorem e14 {p : Path} (h : p.num = 14 := by rfl) : EntG Go.Proofs.Tryz.prog 8 (planOf Go.Proofs.Tryz.prog 8) p (some G14) := EntG.some Go.Proofs.Tryz.func14 G14_eq h
theorem e15 {p : Path} (h : p.num = 15 := by rfl) : EntG Go.Proofs.Tryz.prog 8 (planOf Go.Proofs.Tryz.prog 8) p (some G15) := EntG.some Go.Proofs.Tryz.func15 G15_eq h
theorem e16 {p : Path} (h : p.num = 16 := by rfl) : EntG Go.Proofs.Tryz.prog 8 (planOf Go.Proofs.Tryz.prog 8) p (some G16) := EntG.some Go.Proofs.Tryz.func16 G16_eq h
theorem e17 {p : Path} (h : p.num = 17 := by rfl) : EntG Go.Proofs.Tryz.prog 8 (planOf Go.Proofs.Tryz.prog 8) p (some G17) := EntG.some Go.Proofs.Tryz.func17 G17_eq h
theorem e18 {p : Path} (h : p.num = 18 := by rfl) : EntG Go.Proofs.Tryz.prog 8 (planOf Go.Proofs.Tryz.prog 8) p (some G18) := EntG.some Go.Proofs.Tryz.func18 G18_eq h
theorem e19 {p : Path} (h : p.num = 19 := by rfl) : EntG Go.Proofs.Tryz.prog 8 (planOf Go.Proofs.Tryz.prog 8) p (some G19) := EntG.some Go.Proofs.Tryz.func19 G19_eq h
theorem e20 {p : Path} (h : p.num = 20 := by rfl) : EntG Go.Proofs.Tryz.prog 8 (planOf Go.Proofs.Tryz.prog 8) p (some G20) := EntG.some Go.Proofs.Tryz.func20 G20_eq h
theorem e24 {p : Path} (h : p.num = 24 := by rfl) : EntG Go.Proofs.Tryz.prog 8 (planOf Go.Proofs.Tryz.prog 8) p (some G24) := EntG.some Go.Proofs.Tryz.func24 G24_eq h
theorem e36 {p : Path} (h : p.num = 36 := by rfl) : EntG Go.Proofs.Tryz.prog 8 (planOf Go.Proofs.Tryz.prog 8) p (some G36) := EntG.some Go.Proofs.Tryz.func36 G36_eq h
theorem e37 {p : Path} (h : p.num = 37 := by rfl) : EntG Go.Proofs.Tryz.prog 8 (planOf Go.Proofs.Tryz.prog 8) p (some G37) := EntG.some Go.Proofs.Tryz.func37 G37_eq h
theorem e38 {p : Path} (h : p.num = 38 := by rfl) : EntG Go.Proofs.Tryz.prog 8 (planOf Go.Proofs.Tryz.prog 8) p (some G38) := EntG.some Go.Proofs.Tryz.func38 G38_eq h
theorem e39 {p : Path} (h : p.num = 39 := by rfl) : EntG Go.Proofs.Tryz.prog 8 (planOf Go.Proofs.Tryz.prog 8) p (some G39) := EntG.some Go.Proofs.Tryz.func39 G39_eq h
theorem e41 {p : Path} (h : p.num = 41 := by rfl) : EntG Go.Proofs.Tryz.prog 8 (planOf Go.Proofs.Tryz.prog 8) p (some G41) := EntG.some Go.Proofs.Tryz.func41 G41_eq h
theorem e42 {p : Path} (h : p.num = 42 := by rfl) : EntG Go.Proofs.Tryz.prog 8 (planOf Go.Proofs.Tryz.prog 8) p (some G42) := EntG.some Go.Proofs.Tryz.func42 G42_eq h
theorem e43 {p : Path} (h : p.num = 43 := by rfl) : EntG Go.Proofs.Tryz.prog 8 (planOf Go.Proofs.Tryz.prog 8) p (some G43) := EntG.some Go.Proofs.Tryz.func43 G43_eq h
theorem e44 {p : Path} (h : p.num = 44 := by rfl) : EntG Go.Proofs.Tryz.prog 8 (planOf Go.Proofs.Tryz.prog 8) p (some G44) := EntG.some Go.Proofs.Tryz.func44 G44_eq h
theorem e45 {p : Path} (h : p.num = 45 := by rfl) : EntG Go.Proofs.Tryz.prog 8 (planOf Go.Proofs.Tryz.prog 8) p (some G45) := EntG.some Go.Proofs.Tryz.func45 G45_eq h
theorem e46 {p : Path} (h : p.num = 46 := by rfl) : EntG Go.Proofs.Tryz.prog 8 (planOf Go.Proofs.Tryz.prog 8) p (some G46) := EntG.some Go.Proofs.Tryz.func46 G46_eq h
theorem e51 {p : Path} (h : p.num = 51 := by rfl) : EntG Go.Proofs.Tryz.prog 8 (planOf Go.Proofs.Tryz.prog 8) p (some G51) := EntG.some Go.Proofs.Tryz.func51 G51_eq h
theorem e63 {p : Path} (h : p.num = 63 := by rfl) : EntG Go.Proofs.Tryz.prog 8 (planOf Go.Proofs.Tryz.prog 8) p (some G63) := EntG.some Go.Proofs.Tryz.func63 G63_eq h
theorem e64 {p : Path} (h : p.num = 64 := by rfl) : EntG Go.Proofs.Tryz.prog 8 (planOf Go.Proofs.Tryz.prog 8) p (some G64) := EntG.some Go.Proofs.Tryz.func64 G64_eq h
theorem e65 {p : Path} (h : p.num = 65 := by rfl) : EntG Go.Proofs.Tryz.prog 8 (planOf Go.Proofs.Tryz.prog 8) p (some G65) := EntG.some Go.Proofs.Tryz.func65 G65_eq h
theorem e66 {p : Path} (h : p.num = 66 := by rfl) : EntG Go.Proofs.Tryz.prog 8 (planOf Go.Proofs.Tryz.prog 8) p (some G66) := EntG.some Go.Proofs.Tryz.func66 G66_eq h
theorem e69 {p : Path} (h : p.num = 69 := by rfl) : EntG Go.Proofs.Tryz.prog 8 (planOf Go.Proofs.Tryz.prog 8) p (some G69) := EntG.some Go.Proofs.Tryz.func69 G69_eq h
theorem e70 {p : Path} (h : p.num = 70 := by rfl) : EntG Go.Proofs.Tryz.prog 8 (planOf Go.Proofs.Tryz.prog 8) p (some G70) := EntG.some Go.Proofs.Tryz.func70 G70_eq h
theorem e71 {p : Path} (h : p.num = 71 := by rfl) : EntG Go.Proofs.Tryz.prog 8 (planOf Go.Proofs.Tryz.prog 8) p (some G71) := EntG.some Go.Proofs.Tryz.func71 G71_eq h
theorem e73 {p : Path} (h : p.num = 73 := by rfl) : EntG Go.Proofs.Tryz.prog 8 (planOf Go.Proofs.Tryz.prog 8) p (some G73) := EntG.some Go.Proofs.Tryz.func73 G73_eq h
theorem e74 {p : Path} (h : p.num = 74 := by rfl) : EntG Go.Proofs.Tryz.prog 8 (planOf Go.Proofs.Tryz.prog 8) p (some G74) := EntG.some Go.Proofs.Tryz.func74 G74_eq h
theorem e75 {p : Path} (h : p.num = 75 := by rfl) : EntG Go.Proofs.Tryz.prog 8 (planOf Go.Proofs.Tryz.prog 8) p (some G75) := EntG.some Go.Proofs.Tryz.func75 G75_eq h
theorem e91 {p : Path} (h : p.num = 91 := by rfl) : EntG Go.Proofs.Tryz.prog 8 (planOf Go.Proofs.Tryz.prog 8) p (some G91) := EntG.some Go.Proofs.Tryz.func91 G91_eq h
theorem e93 {p : Path} (h : p.num = 93 := by rfl) : EntG Go.Proofs.Tryz.prog 8 (planOf Go.Proofs.Tryz.prog 8) p (some G93) := EntG.some Go.Proofs.Tryz.func93 G93_eq h
theorem e94 {p : Path} (h : p.num = 94 := by rfl) : EntG Go.Proofs.Tryz.prog 8 (planOf Go.Proofs.Tryz.prog 8) p (some G94) := EntG.some Go.Proofs.Tryz.func94 G94_eq h
theorem e95 {p : Path} (h : p.num = 95 := by rfl) : EntG Go.Proofs.Tryz.prog 8 (planOf Go.Proofs.Tryz.prog 8) p (some G95) := EntG.some Go.Proofs.Tryz.func95 G95_eq h
theorem e99 {p : Path} (h : p.num = 99 := by rfl) : EntG Go.Proofs.Tryz.prog 8 (planOf Go.Proofs.Tryz.prog 8) p (some G99) := EntG.some Go.Proofs.Tryz.func99 G99_eq h
theorem e101 {p : Path} (h : p.num = 101 := by rfl) : EntG Go.Proofs.Tryz.prog 8 (planOf Go.Proofs.Tryz.prog 8) p (some G101) := EntG.some Go.Proofs.Tryz.func101 G101_eq h
theorem e115 {p : Path} (h : p.num = 115 := by rfl) : EntG Go.Proofs.Tryz.prog 8 (planOf Go.Proofs.Tryz.prog 8) p (some G115) := EntG.some Go.Proofs.Tryz.func115 G115_eq h
theorem e118 {p : Path} (h : p.num = 118 := by rfl) : EntG Go.Proofs.Tryz.prog 8 (planOf Go.Proofs.Tryz.prog 8) p (some G118) := EntG.some Go.Proofs.Tryz.func118 G118_eq h
theorem e119 {p : Path} (h : p.num = 119 := by rfl) : EntG Go.Proofs.Tryz.prog 8 (planOf Go.Proofs.Tryz.prog 8) p (some G119) := EntG.some Go.Proofs.Tryz.func119 G119_eq h
theorem e130 {p : Path} (h : p.num = 130 := by rfl) : EntG Go.Proofs.Tryz.prog 8 (planOf Go.Proofs.Tryz.prog 8) p (some G130) := EntG.some Go.Proofs.Tryz.func130 G130_eq h
theorem e131 {p : Path} (h : p.num = 131 := by rfl) : EntG Go.Proofs.Tryz.prog 8 (planOf Go.Proofs.Tryz.prog 8) p (some G131) := EntG.some Go.Proofs.Tryz.func131 G131_eq h
theorem e132 {p : Path} (h : p.num = 132 := by rfl) : EntG Go.Proofs.Tryz.prog 8 (planOf Go.Proofs.Tryz.prog 8) p (some G132) := EntG.some Go.Proofs.Tryz.func132 G132_eq h
theorem e135 {p : Path} (h : p.num = 135 := by rfl) : EntG Go.Proofs.Tryz.prog 8 (planOf Go.Proofs.Tryz.prog 8) p (some G135) := EntG.some Go.Proofs.Tryz.func135 G135_eq h
theorem e148 {p : Path} (h : p.num = 148 := by rfl) : EntG Go.Proofs.Tryz.prog 8 (planOf Go.Proofs.Tryz.prog 8) p (some G148) := EntG.some Go.Proofs.Tryz.func148 G148_eq h
theorem e149 {p : Path} (h : p.num = 149 := by rfl) : EntG Go.Proofs.Tryz.prog 8 (planOf Go.Proofs.Tryz.prog 8) p (some G149) := EntG.some Go.Proofs.Tryz.func149 G149_eq h
theorem e150 {p : Path} (h : p.num = 150 := by rfl) : EntG Go.Proofs.Tryz.prog 8 (planOf Go.Proofs.Tryz.prog 8) p (some G150) := EntG.some Go.Proofs.Tryz.func150 G150_eq h
theorem e151 {p : Path} (h : p.num = 151 := by rfl) : EntG Go.Proofs.Tryz.prog 8 (planOf Go.Proofs.Tryz.prog 8) p (some G151) := EntG.some Go.Proofs.Tryz.func151 G151_eq h
theorem e179 {p : Path} (h : p.num = 179 := by rfl) : EntG Go.Proofs.Tryz.prog 8 (planOf Go.Proofs.Tryz.prog 8) p (some G179) := EntG.some Go.Proofs.Tryz.func179 G179_eq h
theorem e180 {p : Path} (h : p.num = 180 := by rfl) : EntG Go.Proofs.Tryz.prog 8 (planOf Go.Proofs.Tryz.prog 8) p (some G180) := EntG.some Go.Proofs.Tryz.func180 G180_eq h
theorem e181 {p : Path} (h : p.num = 181 := by rfl) : EntG Go.Proofs.Tryz.prog 8 (planOf Go.Proofs.Tryz.prog 8) p (some G181) := EntG.some Go.Proofs.Tryz.func181 G181_eq h
theorem e182 {p : Path} (h : p.num = 182 := by rfl) : EntG Go.Proofs.Tryz.prog 8 (planOf Go.Proofs.Tryz.prog 8) p (some G182) := EntG.some Go.Proofs.Tryz.func182 G182_eq h
theorem e183 {p : Path} (h : p.num = 183 := by rfl) : EntG Go.Proofs.Tryz.prog 8 (planOf Go.Proofs.Tryz.prog 8) p (some G183) := EntG.some Go.Proofs.Tryz.func183 G183_eq h
theorem e212 {p : Path} (h : p.num = 212 := by rfl) : EntG Go.Proofs.Tryz.prog 8 (planOf Go.Proofs.Tryz.prog 8) p (some G212) := EntG.some Go.Proofs.Tryz.func212 G212_eq h
theorem e218 {p : Path} (h : p.num = 218 := by rfl) : EntG Go.Proofs.Tryz.prog 8 (planOf Go.Proofs.Tryz.prog 8) p (some G218) := EntG.some Go.Proofs.Tryz.func218 G218_eq h
theorem e222 {p : Path} (h : p.num = 222 := by rfl) : EntG Go.Proofs.Tryz.prog 8 (planOf Go.Proofs.Tryz.prog 8) p (some G222) := EntG.some Go.Proofs.Tryz.func222 G222_eq h
theorem e254 {p : Path} (h : p.num = 254 := by rfl) : EntG Go.Proofs.Tryz.prog 8 (planOf Go.Proofs.Tryz.prog 8) p (some G254) := EntG.some Go.Proofs.Tryz.func254 G254_eq h
theorem tab_ok : AllT (EntG Go.Proofs.Tryz.prog 8 (planOf Go.Proofs.Tryz.prog 8)) tab := (show AllT _ tab from ⟨EntG.none, ⟨EntG.none, ⟨e3, ⟨e7, ⟨e15, ⟨EntG.none, ⟨e63, ⟨EntG.none, ⟨EntG.none, trivial, trivial⟩, trivial⟩, ⟨EntG.none, trivial, trivial⟩⟩, ⟨e95, ⟨EntG.none, ⟨EntG.none, trivial, trivial⟩, trivial⟩, ⟨EntG.none, trivial, trivial⟩⟩⟩, ⟨EntG.none, ⟨EntG.none, ⟨EntG.none, ⟨EntG.none, trivial, trivial⟩, trivial⟩, ⟨EntG.none, trivial, trivial⟩⟩, ⟨EntG.none, ⟨EntG.none, ⟨EntG.none, trivial, trivial⟩, trivial⟩, ⟨EntG.none, trivial, trivial⟩⟩⟩⟩, ⟨EntG.none, ⟨e39, ⟨e71, ⟨e135, ⟨EntG.none, trivial, trivial⟩, trivial⟩, ⟨EntG.none, trivial, trivial⟩⟩, ⟨EntG.none, ⟨EntG.none, ⟨EntG.none, trivial, trivial⟩, trivial⟩, ⟨EntG.none, trivial, trivial⟩⟩⟩, ⟨EntG.none, ⟨EntG.none, ⟨e151, ⟨EntG.none, trivial, trivial⟩, trivial⟩, ⟨EntG.none, trivial, trivial⟩⟩, ⟨e119, ⟨e183, trivial, trivial⟩, ⟨EntG.none, trivial, trivial⟩⟩⟩⟩⟩, ⟨EntG.none, ⟨e19, ⟨EntG.none, ⟨EntG.none, ⟨e131, ⟨EntG.none, trivial, trivial⟩, trivial⟩, ⟨EntG.none, trivial, trivial⟩⟩, ⟨e99, ⟨EntG.none, ⟨EntG.none, trivial, trivial⟩, trivial⟩, ⟨EntG.none, trivial, trivial⟩⟩⟩, ⟨e51, ⟨EntG.none, ⟨EntG.none, ⟨EntG.none, trivial, trivial⟩, trivial⟩, ⟨EntG.none, trivial, trivial⟩⟩, ⟨e115, ⟨e179, trivial, trivial⟩, ⟨EntG.none, trivial, trivial⟩⟩⟩⟩, ⟨EntG.none, ⟨e43, ⟨e75, ⟨EntG.none, ⟨EntG.none, trivial, trivial⟩, trivial⟩, ⟨EntG.none, trivial, trivial⟩⟩, ⟨EntG.none, ⟨EntG.none, ⟨EntG.none, trivial, trivial⟩, trivial⟩, ⟨EntG.none, trivial, trivial⟩⟩⟩, ⟨EntG.none, ⟨e91, ⟨EntG.none, ⟨EntG.none, trivial, trivial⟩, trivial⟩, ⟨EntG.none, trivial, trivial⟩⟩, ⟨EntG.none, ⟨EntG.none, trivial, trivial⟩, ⟨EntG.none, trivial, trivial⟩⟩⟩⟩⟩⟩, ⟨e5, ⟨EntG.none, ⟨e17, ⟨EntG.none, ⟨e65, ⟨EntG.none, ⟨EntG.none, trivial, trivial⟩, trivial⟩, ⟨EntG.none, trivial, trivial⟩⟩, ⟨EntG.none, ⟨EntG.none, ⟨EntG.none, trivial, trivial⟩, trivial⟩, ⟨EntG.none, trivial, trivial⟩⟩⟩, ⟨EntG.none, ⟨EntG.none, ⟨EntG.none, ⟨EntG.none, trivial, trivial⟩, trivial⟩, ⟨EntG.none, trivial, trivial⟩⟩, ⟨EntG.none, ⟨EntG.none, trivial, trivial⟩, ⟨EntG.none, trivial, trivial⟩⟩⟩⟩, ⟨EntG.none, ⟨e41, ⟨e73, ⟨EntG.none, ⟨EntG.none, trivial, trivial⟩, trivial⟩, ⟨EntG.none, trivial, trivial⟩⟩, ⟨EntG.none, ⟨EntG.none, ⟨EntG.none, trivial, trivial⟩, trivial⟩, ⟨EntG.none, trivial, trivial⟩⟩⟩, ⟨EntG.none, ⟨EntG.none, ⟨EntG.none, ⟨EntG.none, trivial, trivial⟩, trivial⟩, ⟨EntG.none, trivial, trivial⟩⟩, ⟨EntG.none, ⟨EntG.none, trivial, trivial⟩, ⟨EntG.none, trivial, trivial⟩⟩⟩⟩⟩, ⟨e13, ⟨EntG.none, ⟨e37, ⟨e69, ⟨EntG.none, ⟨EntG.none, trivial, trivial⟩, trivial⟩, ⟨EntG.none, trivial, trivial⟩⟩, ⟨e101, ⟨EntG.none, ⟨EntG.none, trivial, trivial⟩, trivial⟩, ⟨EntG.none, trivial, trivial⟩⟩⟩, ⟨EntG.none, ⟨EntG.none, ⟨e149, ⟨EntG.none, trivial, trivial⟩, trivial⟩, ⟨EntG.none, trivial, trivial⟩⟩, ⟨EntG.none, ⟨e181, trivial, trivial⟩, ⟨EntG.none, trivial, trivial⟩⟩⟩⟩, ⟨EntG.none, ⟨e45, ⟨EntG.none, ⟨EntG.none, ⟨EntG.none, trivial, trivial⟩, trivial⟩, ⟨EntG.none, trivial, trivial⟩⟩, ⟨EntG.none, ⟨EntG.none, ⟨EntG.none, trivial, trivial⟩, trivial⟩, ⟨EntG.none, trivial, trivial⟩⟩⟩, ⟨EntG.none, ⟨e93, ⟨EntG.none, ⟨EntG.none, trivial, trivial⟩, trivial⟩, ⟨EntG.none, trivial, trivial⟩⟩, ⟨EntG.none, ⟨EntG.none, trivial, trivial⟩, ⟨EntG.none, trivial, trivial⟩⟩⟩⟩⟩⟩⟩, ⟨EntG.none, ⟨EntG.none, ⟨EntG.none, ⟨e16, ⟨EntG.none, ⟨e64, ⟨EntG.none, ⟨EntG.none, trivial, trivial⟩, trivial⟩, ⟨EntG.none, trivial, trivial⟩⟩, ⟨EntG.none, ⟨EntG.none, ⟨EntG.none, trivial, trivial⟩, trivial⟩, ⟨EntG.none, trivial, trivial⟩⟩⟩, ⟨EntG.none, ⟨EntG.none, ⟨EntG.none, ⟨EntG.none, trivial, trivial⟩, trivial⟩, ⟨EntG.none, trivial, trivial⟩⟩, ⟨EntG.none, ⟨EntG.none, trivial, trivial⟩, ⟨EntG.none, trivial, trivial⟩⟩⟩⟩, ⟨e24, ⟨EntG.none, ⟨EntG.none, ⟨EntG.none, ⟨EntG.none, trivial, trivial⟩, trivial⟩, ⟨EntG.none, trivial, trivial⟩⟩, ⟨EntG.none, ⟨EntG.none, ⟨EntG.none, trivial, trivial⟩, trivial⟩, ⟨EntG.none, trivial, trivial⟩⟩⟩, ⟨EntG.none, ⟨EntG.none, ⟨EntG.none, ⟨EntG.none, trivial, trivial⟩, trivial⟩, ⟨EntG.none, trivial, trivial⟩⟩, ⟨EntG.none, ⟨EntG.none, trivial, trivial⟩, ⟨EntG.none, trivial, trivial⟩⟩⟩⟩⟩, ⟨EntG.none, ⟨e20, ⟨e36, ⟨EntG.none, ⟨e132, ⟨EntG.none, trivial, trivial⟩, trivial⟩, ⟨EntG.none, trivial, trivial⟩⟩, ⟨EntG.none, ⟨EntG.none, ⟨EntG.none, trivial, trivial⟩, trivial⟩, ⟨EntG.none, trivial, trivial⟩⟩⟩, ⟨EntG.none, ⟨EntG.none, ⟨e148, ⟨EntG.none, trivial, trivial⟩, trivial⟩, ⟨e212, trivial, trivial⟩⟩, ⟨EntG.none, ⟨e180, trivial, trivial⟩, ⟨EntG.none, trivial, trivial⟩⟩⟩⟩, ⟨EntG.none, ⟨e44, ⟨EntG.none, ⟨EntG.none, ⟨EntG.none, trivial, trivial⟩, trivial⟩, ⟨EntG.none, trivial, trivial⟩⟩, ⟨EntG.none, ⟨EntG.none, ⟨EntG.none, trivial, trivial⟩, trivial⟩, ⟨EntG.none, trivial, trivial⟩⟩⟩, ⟨EntG.none, ⟨EntG.none, ⟨EntG.none, ⟨EntG.none, trivial, trivial⟩, trivial⟩, ⟨EntG.none, trivial, trivial⟩⟩, ⟨EntG.none, ⟨EntG.none, trivial, trivial⟩, ⟨EntG.none, trivial, trivial⟩⟩⟩⟩⟩⟩, ⟨e6, ⟨EntG.none, ⟨e18, ⟨EntG.none, ⟨e66, ⟨e130, ⟨EntG.none, trivial, trivial⟩, trivial⟩, ⟨EntG.none, trivial, trivial⟩⟩, ⟨EntG.none, ⟨EntG.none, ⟨EntG.none, trivial, trivial⟩, trivial⟩, ⟨EntG.none, trivial, trivial⟩⟩⟩, ⟨EntG.none, ⟨EntG.none, ⟨EntG.none, ⟨EntG.none, trivial, trivial⟩, trivial⟩, ⟨EntG.none, trivial, trivial⟩⟩, ⟨EntG.none, ⟨EntG.none, trivial, trivial⟩, ⟨EntG.none, trivial, trivial⟩⟩⟩⟩, ⟨EntG.none, ⟨e42, ⟨e74, ⟨EntG.none, ⟨EntG.none, trivial, trivial⟩, trivial⟩, ⟨EntG.none, trivial, trivial⟩⟩, ⟨EntG.none, ⟨EntG.none, ⟨EntG.none, trivial, trivial⟩, trivial⟩, ⟨EntG.none, trivial, trivial⟩⟩⟩, ⟨EntG.none, ⟨EntG.none, ⟨EntG.none, ⟨EntG.none, trivial, trivial⟩, trivial⟩, ⟨e218, trivial, trivial⟩⟩, ⟨EntG.none, ⟨EntG.none, trivial, trivial⟩, ⟨EntG.none, trivial, trivial⟩⟩⟩⟩⟩, ⟨e14, ⟨EntG.none, ⟨e38, ⟨e70, ⟨EntG.none, ⟨EntG.none, trivial, trivial⟩, trivial⟩, ⟨EntG.none, trivial, trivial⟩⟩, ⟨EntG.none, ⟨EntG.none, ⟨EntG.none, trivial, trivial⟩, trivial⟩, ⟨EntG.none, trivial, trivial⟩⟩⟩, ⟨EntG.none, ⟨EntG.none, ⟨e150, ⟨EntG.none, trivial, trivial⟩, trivial⟩, ⟨EntG.none, trivial, trivial⟩⟩, ⟨e118, ⟨e182, trivial, trivial⟩, ⟨EntG.none, trivial, trivial⟩⟩⟩⟩, ⟨EntG.none, ⟨e46, ⟨EntG.none, ⟨EntG.none, ⟨EntG.none, trivial, trivial⟩, trivial⟩, ⟨EntG.none, trivial, trivial⟩⟩, ⟨EntG.none, ⟨EntG.none, ⟨EntG.none, trivial, trivial⟩, trivial⟩, ⟨EntG.none, trivial, trivial⟩⟩⟩, ⟨EntG.none, ⟨e94, ⟨EntG.none, ⟨EntG.none, trivial, trivial⟩, trivial⟩, ⟨e222, trivial, trivial⟩⟩, ⟨EntG.none, ⟨EntG.none, trivial, trivial⟩, ⟨e254, trivial, trivial⟩⟩⟩⟩⟩⟩⟩⟩)

end Code
end Go.Proofs.YthjgmpfejgjbaaaGreatDoor
