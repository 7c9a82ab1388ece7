import Derived.Test.YtmhjalagcnhfiaaGreatModM
import Derived.Test.YtmhjalagcnhfiaaGreatEngG
import Derived.Test.YtmhjalagcnhfiaaGreatEngJ
import Derived.Test.YtmhjalagcnhfiaaGreatConcatB
/- A block absorbed by the program's engine; the house's engine. -/
set_option linter.unusedSimpArgs false
set_option linter.unusedVariables false
namespace Go.Proofs.YtmhjalagcnhfiaaGreat
open Go Go.Vc
set_option maxRecDepth 10000
set_option maxHeartbeats 4000000
theorem len16 {a : List UInt8} (h : a.length = 16) (b : List UInt8) (hb : b.length = 16) : (a ++ b).length = 32 := by rw [List.length_append, h, hb]
theorem instL_eng0 {box bb pl bp : List UInt8} {h1 h2 : Nat} {rd : Int} (N : Nat) : V.instL [] N (engC box bb pl bp h1 h2 rd) = engC box bb pl bp (N + h1) (N + h2) rd := by simp [engC, V.instL, V.inst, instL_app, instL_bs]
end Go.Proofs.YtmhjalagcnhfiaaGreat
