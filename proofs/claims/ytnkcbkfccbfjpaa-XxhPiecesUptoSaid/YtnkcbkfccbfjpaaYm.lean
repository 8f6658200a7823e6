/- Sums of 64 bits (XXH64) as plain functions of numbers and lists. No Go, no memory. -/
import Derived.Test.YtnkcbkfccbfjpaaXm
import Derived.Laws.Bits64
namespace Go.Proofs.Ytnkcbkfccbfjpaa.X
set_option linter.unusedVariables false
def rot64 (x : Int) (k : Nat) : Int := (x * 2 ^ k) % 18446744073709551616 + x / 2 ^ (64 - k)
def le64 (l : List Int) : Int := le32 l + le32 (l.drop 4) * 4294967296
def round64 (v w : Int) : Int := rot64 ((v + w * 14029467366897019727) % 18446744073709551616) 31 * 11400714785074694791 % 18446744073709551616
def init64 (s : Int) : V4 := ⟨(((s + 11400714785074694791) % 18446744073709551616) + 14029467366897019727) % 18446744073709551616, (s + 14029467366897019727) % 18446744073709551616, s, (s - 11400714785074694791) % 18446744073709551616⟩
def stripe64 (v : V4) (l : List Int) : V4 := ⟨round64 v.a (le64 l), round64 v.b (le64 (l.drop 8)), round64 v.c (le64 (l.drop 16)), round64 v.d (le64 (l.drop 24))⟩
def run64 : Nat → V4 → List Int → V4
  | 0, v, _ => v
  | n + 1, v, l => run64 n (stripe64 v l) (l.drop 32)
def fold64 (h v : Int) : Int := (Go.bits .xor .u64 h (round64 0 v) * 11400714785074694791 + 9650029242287828579) % 18446744073709551616
def merge64 (v : V4) : Int := fold64 (fold64 (fold64 (fold64 ((rot64 v.a 1 + rot64 v.b 7 + rot64 v.c 12 + rot64 v.d 18) % 18446744073709551616) v.a) v.b) v.c) v.d
def word64 (h w : Int) : Int := (rot64 (Go.bits .xor .u64 h (round64 0 w)) 27 * 11400714785074694791 + 9650029242287828579) % 18446744073709551616
def half64 (h w : Int) : Int := (rot64 (Go.bits .xor .u64 h (w * 11400714785074694791 % 18446744073709551616)) 23 * 14029467366897019727 + 1609587929392839161) % 18446744073709551616
def byte64 (h b : Int) : Int := rot64 (Go.bits .xor .u64 h (b * 2870177450012600261 % 18446744073709551616)) 11 * 11400714785074694791 % 18446744073709551616
def words64 : Nat → Int → List Int → Int
  | 0, h, _ => h
  | n + 1, h, l => words64 n (word64 h (le64 l)) (l.drop 8)
def bytes64 (h : Int) (l : List Int) : Int := l.foldl byte64 h
def fin64 (h : Int) : Int :=
  let h1 := (Go.bits .xor .u64 h (h / 8589934592) * 14029467366897019727) % 18446744073709551616
  let h2 := (Go.bits .xor .u64 h1 (h1 / 536870912) * 1609587929392839161) % 18446744073709551616
  Go.bits .xor .u64 h2 (h2 / 4294967296)
def mid64 (h : Int) (r : List Int) : Int := if 4 ≤ r.length then half64 h (le32 r) else h
def rest64 (r : List Int) : List Int := if 4 ≤ r.length then r.drop 4 else r
def tail64 (h : Int) (r : List Int) : Int := fin64 (bytes64 (mid64 (words64 (r.length / 8) h r) (rest 8 r)) (rest64 (rest 8 r)))
def head64 (N : Nat) (s : Int) (v : V4) : Int := if 32 ≤ N then merge64 v else (s + 2870177450012600261) % 18446744073709551616
def sum64 (s : Int) (l : List Int) : Int := tail64 ((head64 l.length s (run64 (l.length / 32) (init64 s) l) + (l.length : Int)) % 18446744073709551616) (rest 32 l)
end Go.Proofs.Ytnkcbkfccbfjpaa.X
