/- XformFollows: what xform.Op answers where one operation sets an empty cell and the other one is on lines: by the engine, with axis.May, axis.Index and op.Eq told by their walks. -/
import Derived.Test.YtglgibmjcgfecaaGreatDoorXAxis
import Derived.Deep.MidRow
import Derived.Deep.WholeRow
import Derived.Shelf.Abstract
import Derived.OwnWalk
import Derived.OneCell
set_option linter.unusedSimpArgs false
set_option linter.unusedVariables false
namespace Go.Proofs.YtglgibmjcgfecaaGreatDoor
open Go Go.Eng Go.Xf
namespace Code
set_option maxRecDepth 100000
set_option linter.unusedVariables false
noncomputable def yR : V := .y 0 0 0 2199023255551
noncomputable def yC : V := .y 1 0 0 2199023255551
noncomputable def yK : V := .y 5 0 (-9223372036854775808) 9223372036854775807
noncomputable def yA : V := .y 3 0 (-9223372036854775808) 9223372036854775807
noncomputable def yT : V := .y 4 0 (-9223372036854775808) 9223372036854775807
noncomputable def lnO : V := .a [yK, yA, yT]
noncomputable def lineO (kk : Nat) : V := .a ([n6 kk, sV, n6 0, n6 0] ++ (cZ ++ [yK, yA, yT, .sl0, n6 0, .s []]))
noncomputable def noneO : V := .a ([n6 0, .s [], n6 0, n6 0] ++ (cZ ++ [n6 0, n6 0, n6 0, .sl0, n6 0, .s []]))
noncomputable def memo21 : List (List V × V) := [([lnO], .b true)]
noncomputable def memo24 (v6 : V) : List (List V × V) := [([setO yR yC, setO yR yC], .b true), ([setO v6 yC, setO v6 yC], .b true), ([setO yR v6, setO yR v6], .b true), ([lineO 2, lineO 2], .b true), ([lineO 3, lineO 3], .b true)]
noncomputable def memo42 (v6 : V) : List (List V × V) := [([lnO, yR], v6)]
noncomputable def memo42c (v6 : V) : List (List V × V) := [([lnO, yC], v6)]
noncomputable def O21 : G := toG (orcF 10 (memoO memo21))
noncomputable def O24 (v6 : V) : G := toG (orcF 10 (memoO (memo24 v6)))
noncomputable def O42 (m : List (List V × V)) : G := toG (orcF 10 (memoO m))
noncomputable def tabO (v6 : V) (m : List (List V × V)) : Tr (Option G) := (.nd (.nd (.nd (.nd (.nd (.nd (.nd (.nd .nil (some G127) .nil) none .nil) (some G31) (.nd (.nd .nil none .nil) none .nil)) (some G15) (.nd (.nd (.nd .nil none .nil) none .nil) none (.nd (.nd .nil none .nil) none .nil))) none (.nd (.nd (.nd (.nd .nil none .nil) none .nil) (some G39) (.nd (.nd .nil none .nil) none .nil)) none (.nd (.nd (.nd .nil none .nil) none .nil) (some G55) (.nd (.nd .nil none .nil) none .nil)))) none (.nd (.nd (.nd (.nd (.nd .nil none .nil) none .nil) (some G35) (.nd (.nd .nil none .nil) none .nil)) (some G19) (.nd (.nd (.nd .nil none .nil) (some G83) .nil) none (.nd (.nd .nil none .nil) none .nil))) none (.nd (.nd (.nd (.nd .nil none .nil) none .nil) none (.nd (.nd .nil none .nil) none .nil)) none (.nd (.nd (.nd .nil none .nil) none .nil) (some G59) (.nd .nil none .nil))))) none (.nd (.nd (.nd (.nd (.nd (.nd .nil none .nil) none .nil) (some G33) (.nd (.nd .nil none .nil) none .nil)) none (.nd (.nd (.nd .nil none .nil) none .nil) none (.nd (.nd .nil none .nil) none .nil))) none (.nd (.nd (.nd (.nd .nil (some G137) .nil) (some G73) .nil) (some G41) (.nd (.nd .nil none .nil) none .nil)) (some G25) (.nd (.nd (.nd .nil none .nil) none .nil) none (.nd (.nd .nil none .nil) none .nil)))) (some G5) (.nd (.nd (.nd (.nd (.nd .nil none .nil) none .nil) none (.nd (.nd .nil none .nil) none .nil)) (some O21) (.nd (.nd (.nd .nil none .nil) (some G85) .nil) none (.nd (.nd .nil none .nil) none .nil))) none (.nd (.nd (.nd (.nd .nil none .nil) (some G77) .nil) none (.nd (.nd .nil none .nil) (some G109) .nil)) (some G29) (.nd (.nd (.nd .nil none .nil) none .nil) (some G61) (.nd .nil none .nil)))))) none (.nd (.nd (.nd (.nd (.nd (.nd (.nd .nil none .nil) none .nil) none (.nd (.nd .nil none .nil) none .nil)) (some G16) (.nd (.nd (.nd .nil none .nil) none .nil) none (.nd (.nd .nil none .nil) (some G112) .nil))) (some G8) (.nd (.nd (.nd (.nd .nil none .nil) (some G72) .nil) none (.nd (.nd .nil none .nil) none .nil)) (some (O24 v6)) (.nd (.nd (.nd .nil none .nil) none .nil) none (.nd (.nd .nil none .nil) none .nil)))) none (.nd (.nd (.nd (.nd (.nd .nil none .nil) none .nil) (some G36) (.nd (.nd .nil none .nil) none .nil)) (some G20) (.nd (.nd (.nd .nil none .nil) (some G84) .nil) none (.nd (.nd .nil none .nil) none .nil))) none (.nd (.nd (.nd (.nd .nil none .nil) none .nil) none (.nd (.nd .nil none .nil) (some G108) .nil)) (some G28) (.nd (.nd (.nd .nil none .nil) none .nil) none (.nd .nil none .nil))))) none (.nd (.nd (.nd (.nd (.nd (.nd .nil none .nil) none .nil) (some G34) (.nd (.nd .nil none .nil) none .nil)) (some G18) (.nd (.nd (.nd .nil none .nil) (some G82) .nil) none (.nd (.nd .nil none .nil) none .nil))) (some G10) (.nd (.nd (.nd (.nd .nil none .nil) (some G74) .nil) (some (O42 m)) (.nd (.nd .nil none .nil) none .nil)) none (.nd (.nd (.nd .nil none .nil) none .nil) (some G58) (.nd .nil none .nil)))) none (.nd (.nd (.nd (.nd (.nd .nil none .nil) none .nil) none (.nd (.nd .nil none .nil) none .nil)) none (.nd (.nd (.nd .nil none .nil) none .nil) none (.nd (.nd .nil none .nil) none .nil))) (some G14) (.nd (.nd (.nd (.nd .nil none .nil) none .nil) none (.nd (.nd .nil none .nil) (some G110) .nil)) none (.nd (.nd (.nd .nil none .nil) none .nil) none (.nd .nil none .nil)))))))
section
variable [Env]
theorem tabO_ok {v6 : V} {m : List (List V × V)} (h21 : OrcOk Go.Proofs.Tryz.prog 0 q21 (memoO memo21)) (h24 : OrcOk Go.Proofs.Tryz.prog 0 q24 (memoO (memo24 v6))) (h42 : OrcOk Go.Proofs.Tryz.prog 0 q42 (memoO m)) : AllT (EntG Go.Proofs.Tryz.prog 0 (planOf Go.Proofs.Tryz.prog 0)) (tabO v6 m) := (show AllT _ (tabO v6 m) from ⟨EntG.none, ⟨EntG.none, ⟨EntG.none, ⟨EntG.none, ⟨e15, ⟨e31, ⟨EntG.none, ⟨e127, trivial, trivial⟩, trivial⟩, ⟨EntG.none, ⟨EntG.none, trivial, trivial⟩, trivial⟩⟩, ⟨EntG.none, ⟨EntG.none, ⟨EntG.none, trivial, trivial⟩, trivial⟩, ⟨EntG.none, ⟨EntG.none, trivial, trivial⟩, trivial⟩⟩⟩, ⟨EntG.none, ⟨e39, ⟨EntG.none, ⟨EntG.none, trivial, trivial⟩, trivial⟩, ⟨EntG.none, ⟨EntG.none, trivial, trivial⟩, trivial⟩⟩, ⟨e55, ⟨EntG.none, ⟨EntG.none, trivial, trivial⟩, trivial⟩, ⟨EntG.none, ⟨EntG.none, trivial, trivial⟩, trivial⟩⟩⟩⟩, ⟨EntG.none, ⟨e19, ⟨e35, ⟨EntG.none, ⟨EntG.none, trivial, trivial⟩, trivial⟩, ⟨EntG.none, ⟨EntG.none, trivial, trivial⟩, trivial⟩⟩, ⟨EntG.none, ⟨e83, ⟨EntG.none, trivial, trivial⟩, trivial⟩, ⟨EntG.none, ⟨EntG.none, trivial, trivial⟩, trivial⟩⟩⟩, ⟨EntG.none, ⟨EntG.none, ⟨EntG.none, ⟨EntG.none, trivial, trivial⟩, trivial⟩, ⟨EntG.none, ⟨EntG.none, trivial, trivial⟩, trivial⟩⟩, ⟨e59, ⟨EntG.none, ⟨EntG.none, trivial, trivial⟩, trivial⟩, ⟨EntG.none, trivial, trivial⟩⟩⟩⟩⟩, ⟨e5, ⟨EntG.none, ⟨EntG.none, ⟨e33, ⟨EntG.none, ⟨EntG.none, trivial, trivial⟩, trivial⟩, ⟨EntG.none, ⟨EntG.none, trivial, trivial⟩, trivial⟩⟩, ⟨EntG.none, ⟨EntG.none, ⟨EntG.none, trivial, trivial⟩, trivial⟩, ⟨EntG.none, ⟨EntG.none, trivial, trivial⟩, trivial⟩⟩⟩, ⟨e25, ⟨e41, ⟨e73, ⟨e137, trivial, trivial⟩, trivial⟩, ⟨EntG.none, ⟨EntG.none, trivial, trivial⟩, trivial⟩⟩, ⟨EntG.none, ⟨EntG.none, ⟨EntG.none, trivial, trivial⟩, trivial⟩, ⟨EntG.none, ⟨EntG.none, trivial, trivial⟩, trivial⟩⟩⟩⟩, ⟨EntG.none, ⟨(EntG.orc h21), ⟨EntG.none, ⟨EntG.none, ⟨EntG.none, trivial, trivial⟩, trivial⟩, ⟨EntG.none, ⟨EntG.none, trivial, trivial⟩, trivial⟩⟩, ⟨EntG.none, ⟨e85, ⟨EntG.none, trivial, trivial⟩, trivial⟩, ⟨EntG.none, ⟨EntG.none, trivial, trivial⟩, trivial⟩⟩⟩, ⟨e29, ⟨EntG.none, ⟨e77, ⟨EntG.none, trivial, trivial⟩, trivial⟩, ⟨e109, ⟨EntG.none, trivial, trivial⟩, trivial⟩⟩, ⟨e61, ⟨EntG.none, ⟨EntG.none, trivial, trivial⟩, trivial⟩, ⟨EntG.none, trivial, trivial⟩⟩⟩⟩⟩⟩, ⟨EntG.none, ⟨EntG.none, ⟨e8, ⟨e16, ⟨EntG.none, ⟨EntG.none, ⟨EntG.none, trivial, trivial⟩, trivial⟩, ⟨EntG.none, ⟨EntG.none, trivial, trivial⟩, trivial⟩⟩, ⟨EntG.none, ⟨EntG.none, ⟨EntG.none, trivial, trivial⟩, trivial⟩, ⟨e112, ⟨EntG.none, trivial, trivial⟩, trivial⟩⟩⟩, ⟨(EntG.orc h24), ⟨EntG.none, ⟨e72, ⟨EntG.none, trivial, trivial⟩, trivial⟩, ⟨EntG.none, ⟨EntG.none, trivial, trivial⟩, trivial⟩⟩, ⟨EntG.none, ⟨EntG.none, ⟨EntG.none, trivial, trivial⟩, trivial⟩, ⟨EntG.none, ⟨EntG.none, trivial, trivial⟩, trivial⟩⟩⟩⟩, ⟨EntG.none, ⟨e20, ⟨e36, ⟨EntG.none, ⟨EntG.none, trivial, trivial⟩, trivial⟩, ⟨EntG.none, ⟨EntG.none, trivial, trivial⟩, trivial⟩⟩, ⟨EntG.none, ⟨e84, ⟨EntG.none, trivial, trivial⟩, trivial⟩, ⟨EntG.none, ⟨EntG.none, trivial, trivial⟩, trivial⟩⟩⟩, ⟨e28, ⟨EntG.none, ⟨EntG.none, ⟨EntG.none, trivial, trivial⟩, trivial⟩, ⟨e108, ⟨EntG.none, trivial, trivial⟩, trivial⟩⟩, ⟨EntG.none, ⟨EntG.none, ⟨EntG.none, trivial, trivial⟩, trivial⟩, ⟨EntG.none, trivial, trivial⟩⟩⟩⟩⟩, ⟨EntG.none, ⟨e10, ⟨e18, ⟨e34, ⟨EntG.none, ⟨EntG.none, trivial, trivial⟩, trivial⟩, ⟨EntG.none, ⟨EntG.none, trivial, trivial⟩, trivial⟩⟩, ⟨EntG.none, ⟨e82, ⟨EntG.none, trivial, trivial⟩, trivial⟩, ⟨EntG.none, ⟨EntG.none, trivial, trivial⟩, trivial⟩⟩⟩, ⟨EntG.none, ⟨(EntG.orc h42), ⟨e74, ⟨EntG.none, trivial, trivial⟩, trivial⟩, ⟨EntG.none, ⟨EntG.none, trivial, trivial⟩, trivial⟩⟩, ⟨e58, ⟨EntG.none, ⟨EntG.none, trivial, trivial⟩, trivial⟩, ⟨EntG.none, trivial, trivial⟩⟩⟩⟩, ⟨e14, ⟨EntG.none, ⟨EntG.none, ⟨EntG.none, ⟨EntG.none, trivial, trivial⟩, trivial⟩, ⟨EntG.none, ⟨EntG.none, trivial, trivial⟩, trivial⟩⟩, ⟨EntG.none, ⟨EntG.none, ⟨EntG.none, trivial, trivial⟩, trivial⟩, ⟨EntG.none, ⟨EntG.none, trivial, trivial⟩, trivial⟩⟩⟩, ⟨EntG.none, ⟨EntG.none, ⟨EntG.none, ⟨EntG.none, trivial, trivial⟩, trivial⟩, ⟨e110, ⟨EntG.none, trivial, trivial⟩, trivial⟩⟩, ⟨EntG.none, ⟨EntG.none, ⟨EntG.none, trivial, trivial⟩, trivial⟩, ⟨EntG.none, trivial, trivial⟩⟩⟩⟩⟩⟩⟩)
end
noncomputable def tabN (v6 : V) : Tr (Option G) := (.nd (.nd (.nd (.nd (.nd (.nd (.nd (.nd .nil (some G127) .nil) none .nil) (some G31) (.nd (.nd .nil none .nil) none .nil)) (some G15) (.nd (.nd (.nd .nil none .nil) none .nil) none (.nd (.nd .nil none .nil) none .nil))) none (.nd (.nd (.nd (.nd .nil none .nil) none .nil) (some G39) (.nd (.nd .nil none .nil) none .nil)) none (.nd (.nd (.nd .nil none .nil) none .nil) (some G55) (.nd (.nd .nil none .nil) none .nil)))) none (.nd (.nd (.nd (.nd (.nd .nil none .nil) none .nil) (some G35) (.nd (.nd .nil none .nil) none .nil)) (some G19) (.nd (.nd (.nd .nil none .nil) (some G83) .nil) none (.nd (.nd .nil none .nil) none .nil))) none (.nd (.nd (.nd (.nd .nil none .nil) none .nil) none (.nd (.nd .nil none .nil) none .nil)) none (.nd (.nd (.nd .nil none .nil) none .nil) (some G59) (.nd .nil none .nil))))) none (.nd (.nd (.nd (.nd (.nd (.nd .nil none .nil) none .nil) (some G33) (.nd (.nd .nil none .nil) none .nil)) none (.nd (.nd (.nd .nil none .nil) none .nil) none (.nd (.nd .nil none .nil) none .nil))) none (.nd (.nd (.nd (.nd .nil (some G137) .nil) (some G73) .nil) (some G41) (.nd (.nd .nil none .nil) none .nil)) (some G25) (.nd (.nd (.nd .nil none .nil) none .nil) none (.nd (.nd .nil none .nil) none .nil)))) (some G5) (.nd (.nd (.nd (.nd (.nd .nil none .nil) none .nil) none (.nd (.nd .nil none .nil) none .nil)) (some O21) (.nd (.nd (.nd .nil none .nil) (some G85) .nil) none (.nd (.nd .nil none .nil) none .nil))) none (.nd (.nd (.nd (.nd .nil none .nil) (some G77) .nil) none (.nd (.nd .nil none .nil) (some G109) .nil)) (some G29) (.nd (.nd (.nd .nil none .nil) none .nil) (some G61) (.nd .nil none .nil)))))) none (.nd (.nd (.nd (.nd (.nd (.nd (.nd .nil none .nil) none .nil) none (.nd (.nd .nil none .nil) none .nil)) (some G16) (.nd (.nd (.nd .nil none .nil) none .nil) none (.nd (.nd .nil none .nil) (some G112) .nil))) (some G8) (.nd (.nd (.nd (.nd .nil none .nil) (some G72) .nil) none (.nd (.nd .nil none .nil) none .nil)) (some (O24 v6)) (.nd (.nd (.nd .nil none .nil) none .nil) none (.nd (.nd .nil none .nil) none .nil)))) none (.nd (.nd (.nd (.nd (.nd .nil none .nil) none .nil) (some G36) (.nd (.nd .nil none .nil) none .nil)) (some G20) (.nd (.nd (.nd .nil none .nil) (some G84) .nil) none (.nd (.nd .nil none .nil) none .nil))) none (.nd (.nd (.nd (.nd .nil none .nil) none .nil) none (.nd (.nd .nil none .nil) (some G108) .nil)) (some G28) (.nd (.nd (.nd .nil none .nil) none .nil) none (.nd .nil none .nil))))) none (.nd (.nd (.nd (.nd (.nd (.nd .nil none .nil) none .nil) (some G34) (.nd (.nd .nil none .nil) none .nil)) (some G18) (.nd (.nd (.nd .nil none .nil) (some G82) .nil) none (.nd (.nd .nil none .nil) none .nil))) (some G10) (.nd (.nd (.nd (.nd .nil none .nil) (some G74) .nil) none (.nd (.nd .nil none .nil) none .nil)) none (.nd (.nd (.nd .nil none .nil) none .nil) (some G58) (.nd .nil none .nil)))) none (.nd (.nd (.nd (.nd (.nd .nil none .nil) none .nil) none (.nd (.nd .nil none .nil) none .nil)) none (.nd (.nd (.nd .nil none .nil) none .nil) none (.nd (.nd .nil none .nil) none .nil))) (some G14) (.nd (.nd (.nd (.nd .nil none .nil) none .nil) none (.nd (.nd .nil none .nil) (some G110) .nil)) none (.nd (.nd (.nd .nil none .nil) none .nil) none (.nd .nil none .nil)))))))
section
variable [Env]
theorem tabN_ok {v6 : V} (h21 : OrcOk Go.Proofs.Tryz.prog 0 q21 (memoO memo21)) (h24 : OrcOk Go.Proofs.Tryz.prog 0 q24 (memoO (memo24 v6))) : AllT (EntG Go.Proofs.Tryz.prog 0 (planOf Go.Proofs.Tryz.prog 0)) (tabN v6) := (show AllT _ (tabN v6) from ⟨EntG.none, ⟨EntG.none, ⟨EntG.none, ⟨EntG.none, ⟨e15, ⟨e31, ⟨EntG.none, ⟨e127, trivial, trivial⟩, trivial⟩, ⟨EntG.none, ⟨EntG.none, trivial, trivial⟩, trivial⟩⟩, ⟨EntG.none, ⟨EntG.none, ⟨EntG.none, trivial, trivial⟩, trivial⟩, ⟨EntG.none, ⟨EntG.none, trivial, trivial⟩, trivial⟩⟩⟩, ⟨EntG.none, ⟨e39, ⟨EntG.none, ⟨EntG.none, trivial, trivial⟩, trivial⟩, ⟨EntG.none, ⟨EntG.none, trivial, trivial⟩, trivial⟩⟩, ⟨e55, ⟨EntG.none, ⟨EntG.none, trivial, trivial⟩, trivial⟩, ⟨EntG.none, ⟨EntG.none, trivial, trivial⟩, trivial⟩⟩⟩⟩, ⟨EntG.none, ⟨e19, ⟨e35, ⟨EntG.none, ⟨EntG.none, trivial, trivial⟩, trivial⟩, ⟨EntG.none, ⟨EntG.none, trivial, trivial⟩, trivial⟩⟩, ⟨EntG.none, ⟨e83, ⟨EntG.none, trivial, trivial⟩, trivial⟩, ⟨EntG.none, ⟨EntG.none, trivial, trivial⟩, trivial⟩⟩⟩, ⟨EntG.none, ⟨EntG.none, ⟨EntG.none, ⟨EntG.none, trivial, trivial⟩, trivial⟩, ⟨EntG.none, ⟨EntG.none, trivial, trivial⟩, trivial⟩⟩, ⟨e59, ⟨EntG.none, ⟨EntG.none, trivial, trivial⟩, trivial⟩, ⟨EntG.none, trivial, trivial⟩⟩⟩⟩⟩, ⟨e5, ⟨EntG.none, ⟨EntG.none, ⟨e33, ⟨EntG.none, ⟨EntG.none, trivial, trivial⟩, trivial⟩, ⟨EntG.none, ⟨EntG.none, trivial, trivial⟩, trivial⟩⟩, ⟨EntG.none, ⟨EntG.none, ⟨EntG.none, trivial, trivial⟩, trivial⟩, ⟨EntG.none, ⟨EntG.none, trivial, trivial⟩, trivial⟩⟩⟩, ⟨e25, ⟨e41, ⟨e73, ⟨e137, trivial, trivial⟩, trivial⟩, ⟨EntG.none, ⟨EntG.none, trivial, trivial⟩, trivial⟩⟩, ⟨EntG.none, ⟨EntG.none, ⟨EntG.none, trivial, trivial⟩, trivial⟩, ⟨EntG.none, ⟨EntG.none, trivial, trivial⟩, trivial⟩⟩⟩⟩, ⟨EntG.none, ⟨(EntG.orc h21), ⟨EntG.none, ⟨EntG.none, ⟨EntG.none, trivial, trivial⟩, trivial⟩, ⟨EntG.none, ⟨EntG.none, trivial, trivial⟩, trivial⟩⟩, ⟨EntG.none, ⟨e85, ⟨EntG.none, trivial, trivial⟩, trivial⟩, ⟨EntG.none, ⟨EntG.none, trivial, trivial⟩, trivial⟩⟩⟩, ⟨e29, ⟨EntG.none, ⟨e77, ⟨EntG.none, trivial, trivial⟩, trivial⟩, ⟨e109, ⟨EntG.none, trivial, trivial⟩, trivial⟩⟩, ⟨e61, ⟨EntG.none, ⟨EntG.none, trivial, trivial⟩, trivial⟩, ⟨EntG.none, trivial, trivial⟩⟩⟩⟩⟩⟩, ⟨EntG.none, ⟨EntG.none, ⟨e8, ⟨e16, ⟨EntG.none, ⟨EntG.none, ⟨EntG.none, trivial, trivial⟩, trivial⟩, ⟨EntG.none, ⟨EntG.none, trivial, trivial⟩, trivial⟩⟩, ⟨EntG.none, ⟨EntG.none, ⟨EntG.none, trivial, trivial⟩, trivial⟩, ⟨e112, ⟨EntG.none, trivial, trivial⟩, trivial⟩⟩⟩, ⟨(EntG.orc h24), ⟨EntG.none, ⟨e72, ⟨EntG.none, trivial, trivial⟩, trivial⟩, ⟨EntG.none, ⟨EntG.none, trivial, trivial⟩, trivial⟩⟩, ⟨EntG.none, ⟨EntG.none, ⟨EntG.none, trivial, trivial⟩, trivial⟩, ⟨EntG.none, ⟨EntG.none, trivial, trivial⟩, trivial⟩⟩⟩⟩, ⟨EntG.none, ⟨e20, ⟨e36, ⟨EntG.none, ⟨EntG.none, trivial, trivial⟩, trivial⟩, ⟨EntG.none, ⟨EntG.none, trivial, trivial⟩, trivial⟩⟩, ⟨EntG.none, ⟨e84, ⟨EntG.none, trivial, trivial⟩, trivial⟩, ⟨EntG.none, ⟨EntG.none, trivial, trivial⟩, trivial⟩⟩⟩, ⟨e28, ⟨EntG.none, ⟨EntG.none, ⟨EntG.none, trivial, trivial⟩, trivial⟩, ⟨e108, ⟨EntG.none, trivial, trivial⟩, trivial⟩⟩, ⟨EntG.none, ⟨EntG.none, ⟨EntG.none, trivial, trivial⟩, trivial⟩, ⟨EntG.none, trivial, trivial⟩⟩⟩⟩⟩, ⟨EntG.none, ⟨e10, ⟨e18, ⟨e34, ⟨EntG.none, ⟨EntG.none, trivial, trivial⟩, trivial⟩, ⟨EntG.none, ⟨EntG.none, trivial, trivial⟩, trivial⟩⟩, ⟨EntG.none, ⟨e82, ⟨EntG.none, trivial, trivial⟩, trivial⟩, ⟨EntG.none, ⟨EntG.none, trivial, trivial⟩, trivial⟩⟩⟩, ⟨EntG.none, ⟨EntG.none, ⟨e74, ⟨EntG.none, trivial, trivial⟩, trivial⟩, ⟨EntG.none, ⟨EntG.none, trivial, trivial⟩, trivial⟩⟩, ⟨e58, ⟨EntG.none, ⟨EntG.none, trivial, trivial⟩, trivial⟩, ⟨EntG.none, trivial, trivial⟩⟩⟩⟩, ⟨e14, ⟨EntG.none, ⟨EntG.none, ⟨EntG.none, ⟨EntG.none, trivial, trivial⟩, trivial⟩, ⟨EntG.none, ⟨EntG.none, trivial, trivial⟩, trivial⟩⟩, ⟨EntG.none, ⟨EntG.none, ⟨EntG.none, trivial, trivial⟩, trivial⟩, ⟨EntG.none, ⟨EntG.none, trivial, trivial⟩, trivial⟩⟩⟩, ⟨EntG.none, ⟨EntG.none, ⟨EntG.none, ⟨EntG.none, trivial, trivial⟩, trivial⟩, ⟨e110, ⟨EntG.none, trivial, trivial⟩, trivial⟩⟩, ⟨EntG.none, ⟨EntG.none, ⟨EntG.none, trivial, trivial⟩, trivial⟩, ⟨EntG.none, trivial, trivial⟩⟩⟩⟩⟩⟩⟩)
end
noncomputable def y6 (lo hi : Int) : V := .y 6 0 lo hi
theorem set2on : endsV (goT (tabO (y6 0 2199023255551) (memo42 (y6 0 2199023255551))) 100000 q10 [setO yR yC, lineO 2, .b false] ⟨.nil, .e⟩) (.t [setO (y6 0 2199023255551) yC, .b true]) = true := by kernel_rfl
theorem set2lo : endsV (goT (tabO (y6 (-1) (-1)) (memo42 (y6 (-1) (-1)))) 100000 q10 [setO yR yC, lineO 2, .b false] ⟨.nil, .e⟩) (.t [noneO, .b false]) = true := by kernel_rfl
theorem set2hi : endsV (goT (tabO (y6 2199023255552 2199023255552) (memo42 (y6 2199023255552 2199023255552))) 100000 q10 [setO yR yC, lineO 2, .b false] ⟨.nil, .e⟩) (.t [noneO, .b false]) = true := by kernel_rfl
theorem line2 : endsV (goT (tabN (y6 0 0)) 100000 q10 [lineO 2, setO yR yC, .b true] ⟨.nil, .e⟩) (.t [lineO 2, .b true]) = true := by kernel_rfl
theorem set3on : endsV (goT (tabO (y6 0 2199023255551) (memo42c (y6 0 2199023255551))) 100000 q10 [setO yR yC, lineO 3, .b false] ⟨.nil, .e⟩) (.t [setO yR (y6 0 2199023255551), .b true]) = true := by kernel_rfl
theorem set3lo : endsV (goT (tabO (y6 (-1) (-1)) (memo42c (y6 (-1) (-1)))) 100000 q10 [setO yR yC, lineO 3, .b false] ⟨.nil, .e⟩) (.t [noneO, .b false]) = true := by kernel_rfl
theorem set3hi : endsV (goT (tabO (y6 2199023255552 2199023255552) (memo42c (y6 2199023255552 2199023255552))) 100000 q10 [setO yR yC, lineO 3, .b false] ⟨.nil, .e⟩) (.t [noneO, .b false]) = true := by kernel_rfl
theorem line3 : endsV (goT (tabN (y6 0 0)) 100000 q10 [lineO 3, setO yR yC, .b true] ⟨.nil, .e⟩) (.t [lineO 3, .b true]) = true := by kernel_rfl
end Code
end Go.Proofs.YtglgibmjcgfecaaGreatDoor

set_option linter.unusedSimpArgs false
set_option linter.unusedVariables false
namespace Go.Proofs.YtglgibmjcgfecaaGreatDoor
open Go Go.RowKit Go.Proofs Go.Xf

theorem info40 : (Tryz.prog.info? 40).map (·.size) = some 23 := by kernel_rfl

theorem ld40 {ops : Array Oper} {rest : List Oper} {op : Oper} {a : Act} {w : World} {Q : Exit → Act → World → Prop} (x : Operand) (hgd : op.guard = none) (ho : op.op = .load 40 x)
    (b o : Nat) (hx : a.eval x = .pointer (some ⟨b, o, none⟩)) (cs : List Value) (hl : cs.length = 23) (hc : w.rangeAt b o cs)
    (h : wpList Tryz.prog ops Q rest (a.put op.dst (.agg cs.toArray)) w) : wpList Tryz.prog ops Q (op :: rest) a w :=
  wpList_load_mid hgd 40 x ho b o hx cs _ hc Tryz.underlying40 rfl (by rw [hl]; exact info40) h

theorem ld40g {ops : Array Oper} {rest : List Oper} {op : Oper} {a : Act} {w : World} {Q : Exit → Act → World → Prop} (x : Operand) (ho : op.op = .load 40 x)
    (b o : Nat) (hx : a.eval x = .pointer (some ⟨b, o, none⟩)) (cs : List Value) (hl : cs.length = 23) (hc : w.rangeAt b o cs) (hw : Region.wanted op (yielded ops a.tmps) = true)
    (h : wpList Tryz.prog ops Q rest (a.put op.dst (.agg cs.toArray)) w) : wpList Tryz.prog ops Q (op :: rest) a w := by
  unfold wpList
  rw [if_pos hw]
  exact .inl (wp_load_mid 40 x ho b o hx cs _ hc Tryz.underlying40 rfl (by rw [hl]; exact info40) h)
theorem st40 {ops : Array Oper} {rest : List Oper} {op : Oper} {a : Act} {w : World} {Q : Exit → Act → World → Prop} (x y : Operand) (hgd : op.guard = none) (ho : op.op = .store 40 x y)
    (b o : Nat) (hx : a.eval x = .pointer (some ⟨b, o, none⟩)) (cs : List Value) (hy : a.eval y = .agg cs.toArray) (hl : cs.length = 23) (ht : w.there b o 23) (h1 : ∀ v ∈ cs, v.oneCell' = true)
    (h : wpList Tryz.prog ops Q rest (a.put op.dst undef) (w.setCells b o cs)) : wpList Tryz.prog ops Q (op :: rest) a w :=
  wpList_store_mid hgd 40 x y ho b o cs.toArray hx hy (by simpa [hl] using ht) (by simpa [hl] using info40) (all_oneCell_toArray h1) h

set_option maxRecDepth 100000 in
theorem stNew40 {ops : Array Oper} {rest : List Oper} {op : Oper} {a : Act} {w : World} {c : Array Value} {Q : Exit → Act → World → Prop} (x y : Operand) (hgd : op.guard = none) (ho : op.op = .store 40 x y)
    (b : Nat) (hx : a.eval x = .pointer (some ⟨b, 0, none⟩)) (hb : b = w.heap.size) (cs : List Value) (hy : a.eval y = .agg cs.toArray) (hl : cs.length = 23) (hcl : c.size = 23) (h1 : ∀ v ∈ cs, v.oneCell' = true)
    (h : wpList Tryz.prog ops Q rest (a.put op.dst undef) (w.alloc (.cells cs.toArray 40))) : wpList Tryz.prog ops Q (op :: rest) a (w.alloc (.cells c 40)) := by
  refine wpList_plain hgd fun K hK => ?_
  unfold Oper.wp execOp
  subst hb
  simp only [ho, hx, hy, Instr.storeAt, Instr.sureAddr, Sem.run_bind, Sem.run_pure, Result.andThen_ok, run_storeVar_new w 40 c cs.toArray (P := Tryz.prog) (by simpa [hl] using info40) (by simp [hl, hcl]) (all_oneCell_toArray h1)]
  exact hK _ _ h

set_option maxRecDepth 100000 in
theorem opL_one (k r c lk a t : Int) : ∀ v ∈ opL k r c lk a t, v.oneCell' = true := by
  have h : (opL k r c lk a t).all (·.oneCell') = true := rfl
  exact List.all_eq_true.1 h

theorem set_self {w : World} {b o : Nat} {x v : Value} (h : w.cell? ⟨b, o, none⟩ = some v) : (w.setCell ⟨b, o, none⟩ x).cell? ⟨b, o, none⟩ = some x := by
  unfold World.cell? at h ⊢
  simp only [World.setCell, Array.getElem?_modify, if_true] at h ⊢
  cases hb : w.heap[b]? with
  | none => simp [hb] at h
  | some ob =>
    cases ob with
    | cells c e f =>
      simp only [hb] at h
      simp only [Option.isSome, if_false, Bool.false_eq_true] at h
      obtain ⟨hlt, _⟩ := Array.getElem?_eq_some_iff.1 h
      simp only [hb, Option.map_some, Option.isSome, if_false, Bool.false_eq_true]
      rw [Array.getElem?_setIfInBounds_self_of_lt hlt]
    | _ => simp [hb] at h
theorem set_ne {w : World} {b o b' o' : Nat} {x : Value} (hne : b ≠ b' ∨ o ≠ o') : (w.setCell ⟨b, o, none⟩ x).cell? ⟨b', o', none⟩ = w.cell? ⟨b', o', none⟩ := by
  unfold World.cell?
  simp only [World.setCell, Array.getElem?_modify]
  by_cases hb : b = b'
  · subst hb
    rw [if_pos rfl]
    cases hb : w.heap[b]? with
    | none => rfl
    | some ob =>
      cases ob with
      | cells c e f =>
        have ho : o ≠ o' := by rcases hne with h | h; exact absurd rfl h; exact h
        simp [Option.map, Array.getElem?_setIfInBounds, ho]
      | _ => rfl
  · rw [if_neg hb]
/-- A cell that is set among some that are known. -/
theorem range_set {w : World} {b o : Nat} {cs : List Value} (h : w.rangeAt b o cs) (i : Nat) (x : Value) (hi : i < cs.length) : (w.setCell ⟨b, o + i, none⟩ x).rangeAt b o (cs.set i x) := by
  intro j v hj
  by_cases e : i = j
  · subst e
    rw [List.getElem?_set_self hi] at hj
    cases hj
    exact set_self (h i _ (List.getElem?_eq_getElem hi))
  · rw [List.getElem?_set_ne e] at hj
    rw [set_ne (.inr (by omega))]
    exact h j v hj
theorem range_other {w : World} {b o b' o' : Nat} {cs : List Value} {x : Value} (h : w.rangeAt b o cs) (hne : b' ≠ b) : (w.setCell ⟨b', o', none⟩ x).rangeAt b o cs := by
  intro j v hj
  rw [set_ne (.inl hne)]
  exact h j v hj
theorem range_below {w w' : World} {B b o : Nat} {cs : List Value} (h : w.rangeAt b o cs) (hb : Below B w w') (hB : b < B) : w'.rangeAt b o cs := fun j v hj => (hb.cell hB).trans (h j v hj)
theorem range_laid (w : World) (cs : List Value) (e : TypeId) : (w.alloc (.cells cs.toArray e)).rangeAt w.heap.size 0 cs := by
  intro j v hj
  rw [Nat.zero_add, laid_cell w cs.toArray e j]
  simpa using hj
theorem laid_frozen (w : World) (cs : Array Value) (e : TypeId) (j : Nat) : (w.alloc (.cells cs e)).frozen? ⟨w.heap.size, j, none⟩ = false := by unfold World.frozen?; simp only; rw [heap_alloc_new]; simp
end Go.Proofs.YtglgibmjcgfecaaGreatDoor

set_option linter.unusedSimpArgs false
set_option linter.unusedVariables false
set_option maxRecDepth 100000
namespace Go.Proofs.YtglgibmjcgfecaaGreatDoor
open Go Go.RowKit Go.Proofs Go.Xf Go.Eng

def prL (r c : Int) (l : Ln) (z : Int) : Nat → Int
  | 0 => r | 1 => c | 3 => l.a | 4 => l.t | 5 => l.k | 6 => z | _ => 0
abbrev opNL : List Value := [n64 0, sE, n64 0, n64 0, .bool false, n64 0, n64 0, sE, .bool false, n64 0, n64 0, n64 0, sE, .bool false, n64 0, sN, sN, n64 0, n64 0, n64 0, sN, n64 0, sE]
abbrev opN : Value := .agg opNL.toArray

theorem callOk_con {pr : Nat → Int} {f : Path} {args : List V} {v : V} {xs0 : List Value} {u0 : Value} (hent : ∀ xs w, (callFunc f.num xs).run Tryz.prog w = .ok (.enter f.num xs) w)
    (hx : ∀ ρ, @concs (parEnv pr) ρ args = some xs0) (hv : ∀ ρ, @conc (parEnv pr) ρ v = some u0) (hc : ∀ w, Calls Tryz.prog f.num xs0.toArray w fun e w' => e = .returned u0 ∧ Below w.heap.size w w') (h : H) : @CallOk (parEnv pr) Tryz.prog 0 f args h v h := by
  intro ρ w xs hxs hrel hE
  rw [hx ρ] at hxs
  cases hxs
  exact ⟨hent _ _, (hc w).mono fun e w' ⟨he, hb⟩ => ⟨u0, ρ, he, hv ρ, @HRel.below (parEnv pr) _ _ _ _ hrel hb, Ext.below hb⟩⟩

section
variable {r c : Int} {l : Ln} {z : Int} (ρ : Ren)
theorem cR (h : 0 ≤ r ∧ r < 2199023255552) : @conc (parEnv (prL r c l z)) ρ Code.yR = some (n64 r) := conc_par _ 0 r _ _ ρ rfl (by omega) (by omega)
theorem cC (h : 0 ≤ c ∧ c < 2199023255552) : @conc (parEnv (prL r c l z)) ρ Code.yC = some (n64 c) := conc_par _ 1 c _ _ ρ rfl (by omega) (by omega)
theorem cA (h : Fits l.a) : @conc (parEnv (prL r c l z)) ρ Code.yA = some (n64 l.a) := conc_par _ 3 l.a _ _ ρ rfl h.1 h.2
theorem cT (h : Fits l.t) : @conc (parEnv (prL r c l z)) ρ Code.yT = some (n64 l.t) := conc_par _ 4 l.t _ _ ρ rfl h.1 h.2
theorem cK (h : Fits l.k) : @conc (parEnv (prL r c l z)) ρ Code.yK = some (n64 l.k) := conc_par _ 5 l.k _ _ ρ rfl h.1 h.2
theorem c6 {lo hi : Int} (h : lo ≤ z ∧ z ≤ hi) : @conc (parEnv (prL r c l z)) ρ (Code.y6 lo hi) = some (n64 z) := conc_par _ 6 z _ _ ρ rfl h.1 h.2
end
theorem set_cells {E : Env} {ρ : Ren} {x y : V} {r c : Int} (hx : @conc E ρ x = some (n64 r)) (hy : @conc E ρ y = some (n64 c)) (h1 : x.one = true) (h2 : y.one = true) : @conc E ρ (Code.setO x y) = some (opV 1 r c 0 0 0) := by
  unfold Code.setO Code.cZ Code.vZ Code.xZ
  simp only [List.cons_append, List.nil_append]
  refine @conc_all E _ _ (opL 1 r c 0 0 0) (by simp only [List.all_cons, h1, h2, List.all_nil, Bool.true_and]; rfl) ?_
  simp only [concs, hx, hy]
  rfl
theorem ln_cells {E : Env} {ρ : Ren} {l : Ln} (hk : @conc E ρ Code.yK = some (n64 l.k)) (ha : @conc E ρ Code.yA = some (n64 l.a)) (ht : @conc E ρ Code.yT = some (n64 l.t)) : @conc E ρ Code.lnO = some (.agg #[n64 l.k, n64 l.a, n64 l.t]) := by
  unfold Code.lnO
  refine @conc_all E _ _ [n64 l.k, n64 l.a, n64 l.t] rfl ?_
  simp only [concs, hk, ha, ht]
  rfl
theorem line_cells {E : Env} {ρ : Ren} {l : Ln} (kk : Nat) (hk : @conc E ρ Code.yK = some (n64 l.k)) (ha : @conc E ρ Code.yA = some (n64 l.a)) (ht : @conc E ρ Code.yT = some (n64 l.t)) : @conc E ρ (Code.lineO kk) = some (opV kk 0 0 l.k l.a l.t) := by
  unfold Code.lineO Code.cZ Code.vZ Code.xZ
  simp only [List.cons_append, List.nil_append]
  refine @conc_all E _ _ (opL kk 0 0 l.k l.a l.t) rfl ?_
  simp only [concs, hk, ha, ht]
  rfl
theorem ent21 : ∀ xs w, (callFunc 21 xs).run Tryz.prog w = .ok (.enter 21 xs) w := enters_of Tryz.func21 (by kernel_rfl) rfl
theorem ent24 : ∀ xs w, (callFunc 24 xs).run Tryz.prog w = .ok (.enter 24 xs) w := enters_of Tryz.func24 (by kernel_rfl) rfl
theorem ent42 : ∀ xs w, (callFunc 42 xs).run Tryz.prog w = .ok (.enter 42 xs) w := enters_of Tryz.func42 (by kernel_rfl) rfl

theorem orc21 {r c : Int} {l : Ln} {z : Int} (hr : 0 ≤ r ∧ r < 2199023255552) (hc : 0 ≤ c ∧ c < 2199023255552) (hk : Fits l.k) (ha : Fits l.a) (ht : Fits l.t) (hm : MayL l) : @OrcOk (parEnv (prL r c l z)) Tryz.prog 0 Code.q21 (memoO Code.memo21) :=
  @memo_ok (parEnv (prL r c l z)) _ _ _ _ fun a v hav h => by
    simp only [Code.memo21, List.mem_singleton, Prod.mk.injEq] at hav
    obtain ⟨rfl, rfl⟩ := hav
    have e := fun ρ => @ln_cells (parEnv (prL r c l z)) ρ l (cK ρ hk) (cA ρ ha) (cT ρ ht)
    exact callOk_con (f := Code.q21) (xs0 := [.agg #[n64 l.k, n64 l.a, n64 l.t]]) (u0 := .bool true) ent21 (fun ρ => by simp only [concs, e ρ]; rfl) (fun ρ => rfl) (fun w => by have := may_a l ha ht w; rw [(mayL_eq l).2 hm] at this; exact this) h
theorem orc24 {r c : Int} {l : Ln} {z : Int} (hr : 0 ≤ r ∧ r < 2199023255552) (hc : 0 ≤ c ∧ c < 2199023255552) (hk : Fits l.k) (ha : Fits l.a) (ht : Fits l.t) (hm : MayL l) {lo hi : Int} (hz : lo ≤ z ∧ z ≤ hi) : @OrcOk (parEnv (prL r c l z)) Tryz.prog 0 Code.q24 (memoO (Code.memo24 (Code.y6 lo hi))) :=
  @memo_ok (parEnv (prL r c l z)) _ _ _ _ fun a v hav h => by
    have two : ∀ {x : V} {k r' c' lk a' t' : Int}, (∀ ρ, @conc (parEnv (prL r c l z)) ρ x = some (opV k r' c' lk a' t')) → @CallOk (parEnv (prL r c l z)) Tryz.prog 0 Code.q24 [x, x] h (.b true) h := fun {x k r' c' lk a' t'} hx =>
      callOk_con (f := Code.q24) (xs0 := [opV k r' c' lk a' t', opV k r' c' lk a' t']) (u0 := .bool true) ent24 (fun ρ => by simp only [concs, hx ρ]; rfl) (fun ρ => rfl) (fun w => eq_w k r' c' lk a' t' w) h
    simp only [Code.memo24, List.mem_cons, List.not_mem_nil, or_false, Prod.mk.injEq] at hav
    rcases hav with ⟨rfl, rfl⟩ | ⟨rfl, rfl⟩ | ⟨rfl, rfl⟩ | ⟨rfl, rfl⟩ | ⟨rfl, rfl⟩
    · exact two fun ρ => set_cells (cR ρ hr) (cC ρ hc) rfl rfl
    · exact two fun ρ => set_cells (c6 ρ hz) (cC ρ hc) rfl rfl
    · exact two fun ρ => set_cells (cR ρ hr) (c6 ρ hz) rfl rfl
    · exact two fun ρ => line_cells 2 (cK ρ hk) (cA ρ ha) (cT ρ ht)
    · exact two fun ρ => line_cells 3 (cK ρ hk) (cA ρ ha) (cT ρ ht)
theorem orc42r {r c : Int} {l : Ln} {z : Int} (hr : 0 ≤ r ∧ r < 2199023255552) (hc : 0 ≤ c ∧ c < 2199023255552) (hk : Fits l.k) (ha : Fits l.a) (ht : Fits l.t) (hm : MayL l) {lo hi : Int} (hz : lo ≤ z ∧ z ≤ hi) (e : z = idx l r) : @OrcOk (parEnv (prL r c l z)) Tryz.prog 0 Code.q42 (memoO (Code.memo42 (Code.y6 lo hi))) :=
  @memo_ok (parEnv (prL r c l z)) _ _ _ _ fun a v hav h => by
    simp only [Code.memo42, List.mem_singleton, Prod.mk.injEq] at hav
    obtain ⟨rfl, rfl⟩ := hav
    have e1 := fun ρ => @ln_cells (parEnv (prL r c l z)) ρ l (cK ρ hk) (cA ρ ha) (cT ρ ht)
    exact callOk_con (f := Code.q42) (xs0 := [.agg #[n64 l.k, n64 l.a, n64 l.t], n64 r]) (u0 := n64 z) ent42 (fun ρ => by simp only [concs, e1 ρ, cR ρ hr]; rfl) (fun ρ => c6 ρ hz) (fun w => by rw [e]; exact idx_a1 l r hk ha ht ⟨by omega, by omega⟩ hm ⟨by omega, by omega⟩ w) h
theorem orc42c {r c : Int} {l : Ln} {z : Int} (hr : 0 ≤ r ∧ r < 2199023255552) (hc : 0 ≤ c ∧ c < 2199023255552) (hk : Fits l.k) (ha : Fits l.a) (ht : Fits l.t) (hm : MayL l) {lo hi : Int} (hz : lo ≤ z ∧ z ≤ hi) (e : z = idx l c) : @OrcOk (parEnv (prL r c l z)) Tryz.prog 0 Code.q42 (memoO (Code.memo42c (Code.y6 lo hi))) :=
  @memo_ok (parEnv (prL r c l z)) _ _ _ _ fun a v hav h => by
    simp only [Code.memo42c, List.mem_singleton, Prod.mk.injEq] at hav
    obtain ⟨rfl, rfl⟩ := hav
    have e1 := fun ρ => @ln_cells (parEnv (prL r c l z)) ρ l (cK ρ hk) (cA ρ ha) (cT ρ ht)
    exact callOk_con (f := Code.q42) (xs0 := [.agg #[n64 l.k, n64 l.a, n64 l.t], n64 c]) (u0 := n64 z) ent42 (fun ρ => by simp only [concs, e1 ρ, cC ρ hc]; rfl) (fun ρ => c6 ρ hz) (fun w => by rw [e]; exact idx_a1 l c hk ha ht ⟨by omega, by omega⟩ hm ⟨by omega, by omega⟩ w) h

theorem told2 {pr : Nat → Int} {tg : Tr (Option G)} (hG : AllT (@EntG (parEnv pr) Tryz.prog 0 (planOf Tryz.prog 0)) tg) {n : Nat} {f : Path} {args : List V} {v : V} (hrun : endsV (goT tg n f args ⟨.nil, .e⟩) v = true) (hfa : flats args = true)
    {xs : List Value} (hxs : @concs (parEnv pr) (fun _ => none) args = some xs) {u : Value} (hu : @conc (parEnv pr) (fun _ => none) v = some u) (w : World) : Calls Tryz.prog f.num xs.toArray w fun e w' => e = .returned u ∧ Below w.heap.size w w' :=
  (@calls_flat (parEnv pr) Tryz.prog 0 tg (by kernel_rfl) hG n f args v hrun hfa (fun _ => none) ⟨.nil, .e⟩ w xs hxs (parRel pr w) (parGlob pr _)).2.mono fun e w' ⟨u', he, hu', hb⟩ => ⟨by rw [he]; rw [hu] at hu'; rw [Option.some.inj hu'], hb⟩
theorem tup_cells {E : Env} {ρ : Ren} {x : V} {u : Value} {b : Bool} (hx : @conc E ρ x = some u) : @conc E ρ (.t [x, .b b]) = some (.tuple #[u, .bool b]) := by
  simp only [conc, concs, hx]; rfl
theorem none_cells {E : Env} {ρ : Ren} : @conc E ρ Code.noneO = some opN := by
  unfold Code.noneO Code.cZ Code.vZ Code.xZ
  simp only [List.cons_append, List.nil_append]
  exact @conc_all E _ _ opNL rfl rfl

theorem op_set2 (r c : Int) (l : Ln) (hr : 0 ≤ r ∧ r < 2199023255552) (hc : 0 ≤ c ∧ c < 2199023255552) (hk : Fits l.k) (ha : Fits l.a) (ht : Fits l.t) (hm : MayL l) (hz : 0 ≤ idx l r ∧ idx l r < 2199023255552) (w : World) :
    Calls Tryz.prog 10 #[opV 1 r c 0 0 0, opV 2 0 0 l.k l.a l.t, .bool false] w fun e w' => e = .returned (.tuple #[opV 1 (idx l r) c 0 0 0, .bool true]) ∧ Below w.heap.size w w' := by
  have hz' : (0 : Int) ≤ idx l r ∧ idx l r ≤ 2199023255551 := ⟨hz.1, by omega⟩
  have hO := @Code.tabO_ok (parEnv (prL r c l (idx l r))) _ _ (orc21 hr hc hk ha ht hm) (orc24 hr hc hk ha ht hm hz') (orc42r hr hc hk ha ht hm hz' rfl)
  refine told2 hO Code.set2on (by kernel_rfl) (xs := [opV 1 r c 0 0 0, opV 2 0 0 l.k l.a l.t, .bool false]) ?_ (tup_cells (set_cells (c6 _ hz') (cC _ hc) rfl rfl)) w
  simp only [concs, set_cells (cR _ hr) (cC _ hc) rfl rfl, line_cells 2 (cK _ hk) (cA _ ha) (cT _ ht)]
  rfl
theorem op_gone2 (r c : Int) (l : Ln) (hr : 0 ≤ r ∧ r < 2199023255552) (hc : 0 ≤ c ∧ c < 2199023255552) (hk : Fits l.k) (ha : Fits l.a) (ht : Fits l.t) (hm : MayL l) (hz : ¬ (0 ≤ idx l r ∧ idx l r < 2199023255552)) (w : World) :
    Calls Tryz.prog 10 #[opV 1 r c 0 0 0, opV 2 0 0 l.k l.a l.t, .bool false] w fun e w' => e = .returned (.tuple #[opN, .bool false]) ∧ Below w.heap.size w w' := by
  have h1 := idx_lo l r
  have h2 := idx_hi l r (by omega)
  by_cases hn : idx l r = -1
  · have hz' : (-1 : Int) ≤ idx l r ∧ idx l r ≤ -1 := by omega
    have hO := @Code.tabO_ok (parEnv (prL r c l (idx l r))) _ _ (orc21 hr hc hk ha ht hm) (orc24 hr hc hk ha ht hm hz') (orc42r hr hc hk ha ht hm hz' rfl)
    refine told2 hO Code.set2lo (by kernel_rfl) (xs := [opV 1 r c 0 0 0, opV 2 0 0 l.k l.a l.t, .bool false]) ?_ (tup_cells none_cells) w
    simp only [concs, set_cells (cR _ hr) (cC _ hc) rfl rfl, line_cells 2 (cK _ hk) (cA _ ha) (cT _ ht)]
    rfl
  · have hz' : (2199023255552 : Int) ≤ idx l r ∧ idx l r ≤ 2199023255552 := by omega
    have hO := @Code.tabO_ok (parEnv (prL r c l (idx l r))) _ _ (orc21 hr hc hk ha ht hm) (orc24 hr hc hk ha ht hm hz') (orc42r hr hc hk ha ht hm hz' rfl)
    refine told2 hO Code.set2hi (by kernel_rfl) (xs := [opV 1 r c 0 0 0, opV 2 0 0 l.k l.a l.t, .bool false]) ?_ (tup_cells none_cells) w
    simp only [concs, set_cells (cR _ hr) (cC _ hc) rfl rfl, line_cells 2 (cK _ hk) (cA _ ha) (cT _ ht)]
    rfl
theorem op_set3 (r c : Int) (l : Ln) (hr : 0 ≤ r ∧ r < 2199023255552) (hc : 0 ≤ c ∧ c < 2199023255552) (hk : Fits l.k) (ha : Fits l.a) (ht : Fits l.t) (hm : MayL l) (hz : 0 ≤ idx l c ∧ idx l c < 2199023255552) (w : World) :
    Calls Tryz.prog 10 #[opV 1 r c 0 0 0, opV 3 0 0 l.k l.a l.t, .bool false] w fun e w' => e = .returned (.tuple #[opV 1 r (idx l c) 0 0 0, .bool true]) ∧ Below w.heap.size w w' := by
  have hz' : (0 : Int) ≤ idx l c ∧ idx l c ≤ 2199023255551 := ⟨hz.1, by omega⟩
  have hO := @Code.tabO_ok (parEnv (prL r c l (idx l c))) _ _ (orc21 hr hc hk ha ht hm) (orc24 hr hc hk ha ht hm hz') (orc42c hr hc hk ha ht hm hz' rfl)
  refine told2 hO Code.set3on (by kernel_rfl) (xs := [opV 1 r c 0 0 0, opV 3 0 0 l.k l.a l.t, .bool false]) ?_ (tup_cells (set_cells (cR _ hr) (c6 _ hz') rfl rfl)) w
  simp only [concs, set_cells (cR _ hr) (cC _ hc) rfl rfl, line_cells 3 (cK _ hk) (cA _ ha) (cT _ ht)]
  rfl
theorem op_gone3 (r c : Int) (l : Ln) (hr : 0 ≤ r ∧ r < 2199023255552) (hc : 0 ≤ c ∧ c < 2199023255552) (hk : Fits l.k) (ha : Fits l.a) (ht : Fits l.t) (hm : MayL l) (hz : ¬ (0 ≤ idx l c ∧ idx l c < 2199023255552)) (w : World) :
    Calls Tryz.prog 10 #[opV 1 r c 0 0 0, opV 3 0 0 l.k l.a l.t, .bool false] w fun e w' => e = .returned (.tuple #[opN, .bool false]) ∧ Below w.heap.size w w' := by
  have h1 := idx_lo l c
  have h2 := idx_hi l c (by omega)
  by_cases hn : idx l c = -1
  · have hz' : (-1 : Int) ≤ idx l c ∧ idx l c ≤ -1 := by omega
    have hO := @Code.tabO_ok (parEnv (prL r c l (idx l c))) _ _ (orc21 hr hc hk ha ht hm) (orc24 hr hc hk ha ht hm hz') (orc42c hr hc hk ha ht hm hz' rfl)
    refine told2 hO Code.set3lo (by kernel_rfl) (xs := [opV 1 r c 0 0 0, opV 3 0 0 l.k l.a l.t, .bool false]) ?_ (tup_cells none_cells) w
    simp only [concs, set_cells (cR _ hr) (cC _ hc) rfl rfl, line_cells 3 (cK _ hk) (cA _ ha) (cT _ ht)]
    rfl
  · have hz' : (2199023255552 : Int) ≤ idx l c ∧ idx l c ≤ 2199023255552 := by omega
    have hO := @Code.tabO_ok (parEnv (prL r c l (idx l c))) _ _ (orc21 hr hc hk ha ht hm) (orc24 hr hc hk ha ht hm hz') (orc42c hr hc hk ha ht hm hz' rfl)
    refine told2 hO Code.set3hi (by kernel_rfl) (xs := [opV 1 r c 0 0 0, opV 3 0 0 l.k l.a l.t, .bool false]) ?_ (tup_cells none_cells) w
    simp only [concs, set_cells (cR _ hr) (cC _ hc) rfl rfl, line_cells 3 (cK _ hk) (cA _ ha) (cT _ ht)]
    rfl
theorem op_line2 (r c : Int) (l : Ln) (hr : 0 ≤ r ∧ r < 2199023255552) (hc : 0 ≤ c ∧ c < 2199023255552) (hk : Fits l.k) (ha : Fits l.a) (ht : Fits l.t) (hm : MayL l) (w : World) :
    Calls Tryz.prog 10 #[opV 2 0 0 l.k l.a l.t, opV 1 r c 0 0 0, .bool true] w fun e w' => e = .returned (.tuple #[opV 2 0 0 l.k l.a l.t, .bool true]) ∧ Below w.heap.size w w' := by
  have hO := @Code.tabN_ok (parEnv (prL r c l 0)) _ (orc21 hr hc hk ha ht hm) (orc24 hr hc hk ha ht hm (lo := 0) (hi := 0) (by omega))
  refine told2 hO Code.line2 (by kernel_rfl) (xs := [opV 2 0 0 l.k l.a l.t, opV 1 r c 0 0 0, .bool true]) ?_ (tup_cells (line_cells 2 (cK _ hk) (cA _ ha) (cT _ ht))) w
  simp only [concs, set_cells (cR _ hr) (cC _ hc) rfl rfl, line_cells 2 (cK _ hk) (cA _ ha) (cT _ ht)]
  rfl
theorem op_line3 (r c : Int) (l : Ln) (hr : 0 ≤ r ∧ r < 2199023255552) (hc : 0 ≤ c ∧ c < 2199023255552) (hk : Fits l.k) (ha : Fits l.a) (ht : Fits l.t) (hm : MayL l) (w : World) :
    Calls Tryz.prog 10 #[opV 3 0 0 l.k l.a l.t, opV 1 r c 0 0 0, .bool true] w fun e w' => e = .returned (.tuple #[opV 3 0 0 l.k l.a l.t, .bool true]) ∧ Below w.heap.size w w' := by
  have hO := @Code.tabN_ok (parEnv (prL r c l 0)) _ (orc21 hr hc hk ha ht hm) (orc24 hr hc hk ha ht hm (lo := 0) (hi := 0) (by omega))
  refine told2 hO Code.line3 (by kernel_rfl) (xs := [opV 3 0 0 l.k l.a l.t, opV 1 r c 0 0 0, .bool true]) ?_ (tup_cells (line_cells 3 (cK _ hk) (cA _ ha) (cT _ ht))) w
  simp only [concs, set_cells (cR _ hr) (cC _ hc) rfl rfl, line_cells 3 (cK _ hk) (cA _ ha) (cT _ ht)]
  rfl
end Go.Proofs.YtglgibmjcgfecaaGreatDoor

set_option linter.unusedSimpArgs false
set_option linter.unusedVariables false
namespace Go.Proofs.YtglgibmjcgfecaaGreatDoor
open Go Go.RowKit Go.Proofs Go.Xf

def opO (b : Bool × Ln) : List Value := opL (if b.1 then 2 else 3) 0 0 b.2.k b.2.a b.2.t
def opS (p : Int × Int) : List Value := opL 1 p.1 p.2 0 0 0
def cellsO (os : List (Bool × Ln)) : List Value := os.flatMap opO
@[simp] theorem opO_len (b : Bool × Ln) : (opO b).length = 23 := rfl
@[simp] theorem opS_len (p : Int × Int) : (opS p).length = 23 := rfl
@[simp] theorem cellsO_len (os : List (Bool × Ln)) : (cellsO os).length = os.length * 23 := by
  induction os with
  | nil => rfl
  | cons b os ih => simp only [cellsO, List.flatMap_cons, List.length_append] at *; rw [ih, opO_len, List.length_cons]; omega
theorem cellsO_snoc (os : List (Bool × Ln)) (b : Bool × Ln) : cellsO (os ++ [b]) = cellsO os ++ opO b := by simp [cellsO]
theorem cellsO_get : ∀ (os : List (Bool × Ln)) (i t : Nat), i < os.length → t < 23 → (cellsO os)[i * 23 + t]? = (opO os[i]!)[t]?
  | [], i, _, h, _ => absurd h (Nat.not_lt_zero _)
  | b :: os, 0, t, _, ht => by
    rw [cellsO, List.flatMap_cons, Nat.zero_mul, Nat.zero_add, List.getElem?_append_left (by simpa using ht)]; simp
  | b :: os, i + 1, t, h, ht => by
    rw [cellsO, List.flatMap_cons, List.getElem?_append_right (by simp; omega), show (i + 1) * 23 + t - (opO b).length = i * 23 + t by simp; omega]
    rw [show (os.flatMap opO) = cellsO os from rfl, cellsO_get os i t (by simpa using h) ht]; simp
set_option maxRecDepth 100000 in
theorem opO_one (b : Bool × Ln) : ∀ v ∈ opO b, v.oneCell' = true := opL_one _ _ _ _ _ _
theorem opS_one (p : Int × Int) : ∀ v ∈ opS p, v.oneCell' = true := opL_one _ _ _ _ _ _
theorem cellsO_one (os : List (Bool × Ln)) : ∀ v ∈ cellsO os, v.oneCell' = true := by
  intro v hv
  obtain ⟨b, _, hb⟩ := List.mem_flatMap.1 hv
  exact opO_one b v hb
theorem opN_one : ∀ v ∈ opNL, v.oneCell' = true := by
  have h : opNL.all (·.oneCell') = true := rfl
  exact List.all_eq_true.1 h

theorem Tryz.info40 : (Tryz.prog.info? 40).map (fun i => (i.zero, i.size, i.bytes)) = some (some opN, 23, 264) := by kernel_rfl

theorem fold_set : ∀ (cs : List Value) (z : List Value) (pre : List Value), z.length = cs.length →
    List.foldl (fun (c : Array Value) (x : Value × Nat) => c.setIfInBounds x.snd x.fst) (pre ++ z).toArray (cs.zipIdx pre.length) = (pre ++ cs).toArray
  | [], z, pre, h => by
    have : z = [] := List.length_eq_zero_iff.1 h
    subst this; rfl
  | c :: cs, [], pre, h => by cases h
  | c :: cs, y :: z, pre, h => by
    simp only [List.zipIdx_cons, List.foldl_cons]
    have e : (pre ++ y :: z).toArray.setIfInBounds pre.length c = (pre ++ [c] ++ z).toArray := by
      simp
    rw [e]
    have := fold_set cs z (pre ++ [c]) (by simpa using h)
    rw [List.length_append, List.length_singleton] at this
    rw [this]; simp
theorem fold_all {cs z : List Value} (h : z.length = cs.length) : List.foldl (fun (c : Array Value) (x : Value × Nat) => c.setIfInBounds x.snd x.fst) z.toArray cs.zipIdx = cs.toArray := by
  have := fold_set cs z [] h
  simpa using this
theorem fold_O : ∀ b : Bool × Ln, List.foldl (fun cs x => cs.setIfInBounds x.snd x.fst) #[Value.int IntKind.i64 0, Value.string { data := #[] }, Value.int IntKind.i64 0, Value.int IntKind.i64 0, Value.bool false, Value.int IntKind.i64 0, Value.int IntKind.i64 0, Value.string { data := #[] }, Value.bool false, Value.int IntKind.i64 0, Value.int IntKind.i64 0, Value.int IntKind.i64 0, Value.string { data := #[] }, Value.bool false, Value.int IntKind.i64 0, Value.slice none 0 0, Value.slice none 0 0, Value.int IntKind.i64 0, Value.int IntKind.i64 0, Value.int IntKind.i64 0, Value.slice none 0 0, Value.int IntKind.i64 0, Value.string { data := #[] }] (opO b).zipIdx = (opO b).toArray := fun b => fold_all rfl
theorem fold_S : ∀ b : Int × Int, List.foldl (fun cs x => cs.setIfInBounds x.snd x.fst) #[Value.int IntKind.i64 0, Value.string { data := #[] }, Value.int IntKind.i64 0, Value.int IntKind.i64 0, Value.bool false, Value.int IntKind.i64 0, Value.int IntKind.i64 0, Value.string { data := #[] }, Value.bool false, Value.int IntKind.i64 0, Value.int IntKind.i64 0, Value.int IntKind.i64 0, Value.string { data := #[] }, Value.bool false, Value.int IntKind.i64 0, Value.slice none 0 0, Value.slice none 0 0, Value.int IntKind.i64 0, Value.int IntKind.i64 0, Value.int IntKind.i64 0, Value.slice none 0 0, Value.int IntKind.i64 0, Value.string { data := #[] }] (opS b).zipIdx = (opS b).toArray := fun b => fold_all rfl

/-- A block of an operation's cells. -/
def Blk (w : World) (g : Nat) (cs : List Value) : Prop := w.heap[g]? = some (.cells cs.toArray 40 (0, 0))
theorem Blk.lt {w : World} {g : Nat} {cs : List Value} (h : Blk w g cs) : g < w.heap.size := (Array.getElem?_eq_some_iff.1 h).1
theorem Blk.range {w : World} {g : Nat} {cs : List Value} (h : Blk w g cs) : w.rangeAt g 0 cs := by
  intro j v hj
  unfold World.cell?
  have h' : w.heap[g]? = some (.cells cs.toArray 40 (0, 0)) := h
  rw [Nat.zero_add]
  simp only [h']
  simpa using hj
theorem Blk.below {w w' : World} {g B : Nat} {cs : List Value} (h : Blk w g cs) (hb : Below B w w') (hB : g < B) : Blk w' g cs := (hb.block g hB).trans h
theorem Blk.new (w : World) (cs : List Value) : Blk (w.alloc (.cells cs.toArray 40)) w.heap.size cs := heap_alloc_last w _
theorem range_block {w w' : World} {g o : Nat} {cs : List Value} (h : w.rangeAt g o cs) (hb : w'.heap[g]? = w.heap[g]?) : w'.rangeAt g o cs := fun j v hj => (World.cell?_of_block (w := w) hb).trans (h j v hj)
theorem owns_block {w w' : World} {B : Nat} {e : TypeId} {size : Nat} {v : Value} {n : Nat} {xs : List Value} (h : w.ownsRow B e size v n xs) (hb : ∀ g, B ≤ g → g < w.heap.size → w'.heap[g]? = w.heap[g]?) : w'.ownsRow B e size v n xs := by
  refine ⟨h.1, ?_⟩
  rcases h.2 with hn | ⟨g, cap, cur, rfl, hg, hgg, rest⟩
  · exact .inl hn
  · exact .inr ⟨g, cap, cur, rfl, hg, by rw [hb g hg (Array.getElem?_eq_some_iff.1 hgg).1]; exact hgg, rest⟩

/-- A store of a whole operation into a block of one. -/
theorem stBlk {ops : Array Oper} {rest : List Oper} {op : Oper} {a : Act} {w : World} {Q : Exit → Act → World → Prop} (x y : Operand) (hgd : op.guard = none) (ho : op.op = .store 40 x y)
    (g : Nat) (hx : a.eval x = .pointer (some ⟨g, 0, none⟩)) (cs : List Value) (hy : a.eval y = .agg cs.toArray) (hl : cs.length = 23) (h1 : ∀ v ∈ cs, v.oneCell' = true) (old : List Value) (hold : old.length = 23) (hb : Blk w g old)
    (h : ∀ w2, Blk w2 g cs → (∀ k, k ≠ g → w2.heap[k]? = w.heap[k]?) → w2.heap.size = w.heap.size → Below g w w2 → wpList Tryz.prog ops Q rest (a.put op.dst undef) w2) : wpList Tryz.prog ops Q (op :: rest) a w := by
  refine wpList_plain hgd fun K hK => wp_store_row 40 x y ho g cs.toArray hx hy 40 old.toArray hb (by simpa [hl] using Go.Proofs.YtglgibmjcgfecaaGreatDoor.info40) (by simp [hl, hold]) (all_oneCell_toArray h1) (hK _ _ (h _ ?_ ?_ ?_ ?_))
  · exact setRow_heap w g _ _ 40 _ hb
  · intro k hk
    simp only [World.setRow, Array.getElem?_modify]
    rw [if_neg (fun e => hk e.symm)]
  · simp [World.setRow]
  · refine ⟨rfl, rfl, rfl, by simp [World.setRow], fun k hk => ?_⟩
    simp only [World.setRow, Array.getElem?_modify]
    rw [if_neg (by omega)]
/-- The same into the block that was made last. -/
theorem stLast {ops : Array Oper} {rest : List Oper} {op : Oper} {a : Act} {w : World} {c : Array Value} {Q : Exit → Act → World → Prop} (x y : Operand) (hgd : op.guard = none) (ho : op.op = .store 40 x y)
    (g : Nat) (hx : a.eval x = .pointer (some ⟨g, 0, none⟩)) (hg : g = w.heap.size) (cs : List Value) (hy : a.eval y = .agg cs.toArray) (hl : cs.length = 23) (hcl : c.size = 23) (h1 : ∀ v ∈ cs, v.oneCell' = true)
    (h : ∀ w2, Blk w2 g cs → Below g w w2 → w2.heap.size = g + 1 → wpList Tryz.prog ops Q rest (a.put op.dst undef) w2) : wpList Tryz.prog ops Q (op :: rest) a (w.alloc (.cells c 40)) := by
  refine stNew40 x y hgd ho g hx hg cs hy hl hcl h1 (h _ ?_ ?_ ?_)
  · rw [hg]; exact Blk.new w cs
  · rw [hg]; exact (Below.refl _ _).alloc (Nat.le_refl _) _
  · rw [hg]; simp

/-- What holds in the round over the operations on lines: those stand in their row; the one that is taken behind them in a block; and the rest in a row of the call's own. -/
structure Stt (w : World) (gb gx B n : Nat) (os : List (Bool × Ln)) (u : World) (cs : List Value) (v : Value) (k : Nat) : Prop where
  gbB : gb < B
  gxB : gx < B
  ne : gb ≠ gx
  wx : w.heap.size ≤ gx
  wB : w.heap.size ≤ B
  below : Below w.heap.size w u
  size : B ≤ u.heap.size
  rows : ∀ j, j < n → u.rangeAt gb (j * 23) (opO os[j]!)
  blk : Blk u gx cs
  rest : ∃ xs, u.ownsRow B 40 23 v k xs
variable {w : World} {gb gx B n : Nat} {os : List (Bool × Ln)} {u u' : World} {cs : List Value} {v : Value} {k : Nat}
theorem Stt.fresh (h : Stt w gb gx B n os u cs v k) (hb : Below u.heap.size u u') : Stt w gb gx B n os u' cs v k :=
  ⟨h.gbB, h.gxB, h.ne, h.wx, h.wB, h.below.trans (hb.mono h.below.size), Nat.le_trans h.size hb.size, fun j hj => range_block (h.rows j hj) (hb.block _ (Nat.lt_of_lt_of_le h.gbB h.size)), h.blk.below hb h.blk.lt,
    let ⟨xs, hx⟩ := h.rest; ⟨xs, owns_block hx fun g _ hg => hb.block g hg⟩⟩
theorem Stt.last (h : Stt w gb gx B n os u cs v k) {g : Nat} (hg : g = u.heap.size) (hb : Below g u u') : Stt w gb gx B n os u' cs v k := h.fresh (by rw [← hg]; exact hb)
theorem Stt.put (h : Stt w gb gx B n os u cs v k) {cs' : List Value} (hb : Blk u' gx cs') (ho : ∀ k, k ≠ gx → u'.heap[k]? = u.heap[k]?) (hs : u'.heap.size = u.heap.size) (hbl : Below gx u u') : Stt w gb gx B n os u' cs' v k :=
  ⟨h.gbB, h.gxB, h.ne, h.wx, h.wB, h.below.trans (hbl.mono h.wx), by rw [hs]; exact h.size, fun j hj => range_block (h.rows j hj) (ho gb h.ne), hb, let ⟨xs, hx⟩ := h.rest; ⟨xs, owns_block hx fun g hg _ => ho g (by have := h.gxB; omega)⟩⟩
theorem Stt.app (h : Stt w gb gx B n os u cs v k) {xs' : List Value} {v' : Value} (ho : u'.ownsRow B 40 23 v' (k + 1) xs') {xs : List Value} (hv : u.ownsRow B 40 23 v k xs) (hg : u.grownBy u' v.ownBlock) : Stt w gb gx B n os u' cs v' (k + 1) := by
  have hr : ∀ r, v.ownBlock = some r → B ≤ r := fun r hr => (hv.lt r hr).1
  have hbl : Below B u u' := (Below.refl _ _).grown hg h.size hr
  exact ⟨h.gbB, h.gxB, h.ne, h.wx, h.wB, h.below.trans (hbl.mono h.wB), Nat.le_trans h.size hbl.size, fun j hj => range_block (h.rows j hj) (hbl.block _ h.gbB), h.blk.below hbl h.gxB, ⟨_, ho⟩⟩
theorem Stt.elem (h : Stt w gb gx B n os u cs v k) {j : Nat} (hj : j < n) : u.rangeAt gb (j * 23) (opO os[j]!) := h.rows j hj
end Go.Proofs.YtglgibmjcgfecaaGreatDoor

