import Derived.Test.YtpapocmoielldaaVcgQ
/- A block of bytes taken whole. -/
namespace Go.Proofs.Ytpapocmoielldaa
open Go Go.Vc
theorem tk {l : List UInt8} : List.take l.length (bs l) = bs l := take_all (bs_length l).symm
theorem tkn {l : List UInt8} {n : Nat} (h : l.length = n) : List.take n (bs l) = bs l := take_all (by rw [bs_length, h])
theorem tk16 {l : List UInt8} (h : l.length = 16) : List.take 16 l = l := List.take_of_length_le (Nat.le_of_eq h)
theorem tk32 {l : List UInt8} (h : l.length = 32) : List.take 32 l = l := List.take_of_length_le (Nat.le_of_eq h)
theorem tk8 {l : List UInt8} (h : l.length = 8) : List.take 8 l = l := List.take_of_length_le (Nat.le_of_eq h)
end Go.Proofs.Ytpapocmoielldaa
