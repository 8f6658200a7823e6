/- Sums of 32 bits (XXH32) and of 64 bits (XXH64) as plain functions of numbers and lists: what the program's digests and the document's reference come to. No Go, no memory. -/
import Derived.Laws.BitsLemmas
namespace Go.Proofs.Ytnkcbkfccbfjpaa.X
set_option linter.unusedVariables false
/-- element i of a list of numbers, 0 beyond -/
def at' (l : List Int) (i : Nat) : Int := l.getD i 0
def rot32 (x : Int) (k : Nat) : Int := (x * 2 ^ k) % 4294967296 + x / 2 ^ (32 - k)
def le32 (l : List Int) : Int := at' l 0 + at' l 1 * 256 + at' l 2 * 65536 + at' l 3 * 16777216
def step32 (v w : Int) : Int := rot32 ((v + w * 2246822519) % 4294967296) 13 * 2654435761 % 4294967296
structure V4 where
  a : Int
  b : Int
  c : Int
  d : Int
def init32 (s : Int) : V4 := ⟨(((s + 2654435761) % 4294967296) + 2246822519) % 4294967296, (s + 2246822519) % 4294967296, s, (s - 2654435761) % 4294967296⟩
def stripe32 (v : V4) (l : List Int) : V4 := ⟨step32 v.a (le32 l), step32 v.b (le32 (l.drop 4)), step32 v.c (le32 (l.drop 8)), step32 v.d (le32 (l.drop 12))⟩
def run32 : Nat → V4 → List Int → V4
  | 0, v, _ => v
  | n + 1, v, l => run32 n (stripe32 v l) (l.drop 16)
def merge32 (v : V4) : Int := (rot32 v.a 1 + rot32 v.b 7 + rot32 v.c 12 + rot32 v.d 18) % 4294967296
def word32 (h w : Int) : Int := rot32 ((h + w * 3266489917) % 4294967296) 17 * 668265263 % 4294967296
def byte32 (h b : Int) : Int := rot32 ((h + b * 374761393) % 4294967296) 11 * 2654435761 % 4294967296
def words32 : Nat → Int → List Int → Int
  | 0, h, _ => h
  | n + 1, h, l => words32 n (word32 h (le32 l)) (l.drop 4)
def bytes32 (h : Int) (l : List Int) : Int := l.foldl byte32 h
def fin32 (h : Int) : Int :=
  let h1 := (Go.bits .xor .u32 h (h / 32768) * 2246822519) % 4294967296
  let h2 := (Go.bits .xor .u32 h1 (h1 / 8192) * 3266489917) % 4294967296
  Go.bits .xor .u32 h2 (h2 / 65536)
/-- the rest behind the last whole stripe -/
def rest (u : Nat) (l : List Int) : List Int := l.drop (u * (l.length / u))
def tail32 (h : Int) (r : List Int) : Int := fin32 (bytes32 (words32 (r.length / 4) h r) (rest 4 r))
def sum32 (s : Int) (l : List Int) : Int :=
  let h := if 16 ≤ l.length then merge32 (run32 (l.length / 16) (init32 s) l) else (s + 374761393) % 4294967296
  tail32 ((h + (l.length : Int) % 4294967296) % 4294967296) (rest 16 l)
end Go.Proofs.Ytnkcbkfccbfjpaa.X
