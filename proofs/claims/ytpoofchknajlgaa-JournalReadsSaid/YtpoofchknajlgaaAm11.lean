/- A part of a proof: a machine of abstract values that tells what functions of the program compute, and the plain facts on them. -/
import Derived.Test.YtpoofchknajlgaaAm10
set_option linter.unusedVariables false
set_option linter.unusedSimpArgs false
set_option linter.unnecessarySimpa false
set_option linter.unusedSectionVars false
namespace Go.Am
open Go
def sum4 (b : List Int) : ByteArray := bytesOf ((sumL (sumL b)).take 4)
theorem Q3c (b : List Int) : (sum4 b).size = 4 := by
 unfold sum4
 rw [Q1N, List.length_take, Q4y]
 rfl
theorem Q4x {k : Nat} (hk : 128 < k) {s : ByteArray} (hs : s.size ≤ 140737488354000) (hf : s.size / 64 + 1 < k) : Q0X k s = some (sum4 (QM s), ()) := by
 unfold Q0X Q0X.c
 rw [Q9A hk hs hf]
 rfl
theorem Q5Q {k : Nat} (hk : 128 < k) {s : ByteArray} (hs : s.size ≤ 140737488354000) (hf : s.size / 64 + 2 < k) : Q0h k s = some (sum4 (QM s), ()) := by
 unfold Q0h Q0h.c
 rw [Q9e hk hs hf]
 rfl
abbrev lo8 (n : Int) : ByteArray := bytesOf (lowI n 8)
theorem Q2E (n : Int) : (lo8 n).size = 8 := by rw [Q1N, Q1y]
theorem Q3N {k : Nat} (hk : 9 ≤ k) (n : Int) : Q0Q k n = some (lo8 n, ()) := by
 unfold Q0Q Q0Q.c
 rw [show Q0M k = some ((((), ((), ())), ()), [], ()) from rfl]
 simp only [Option.bind_some]
 rw [wu64 hk n (by simp)]
 rfl
abbrev QdT : ByteArray := ⟨List.toArray [98, 101, 100, 114, 111, 99, 107, 106]⟩
def Q70 (e : Int) : ByteArray := QdT ++ lo8 e
def Qaz (e : Int) : ByteArray := Q70 e ++ sum4 (QM (Q70 e))
theorem Q5v (e : Int) : (Q70 e).size = 16 := by
 unfold Q70
 rw [ByteArray.size_append, Q2E]
 rfl
theorem Qe1 (e : Int) : (Qaz e).size = 20 := by
 unfold Qaz
 rw [ByteArray.size_append, Q5v, Q3c]
theorem Q7g {k : Nat} (hk : 128 < k) (e : Int) : Q0p k e = some (Qaz e, ()) := by
 unfold Q0p Q0p.c
 rw [Q3N (by omega)]
 simp only [Option.bind_some]
 have h := Q5v e
 rw [Q14 (Q1J (by rw [Q2E]; omega))]
 show (Q0X k (Q70 e)).bind _ = _
 rw [Q4x hk (by rw [h]; omega) (by rw [h]; omega)]
 simp only [Option.bind_some]
 exact Q14 (Q1J (by rw [Q3c]; show (Q70 e).size + 4 ≤ _; omega))
theorem Q8G {k : Nat} (hk : 128 < k) {e : Int} (he : 0 ≤ e ∧ e ≤ 18446744073709551615) : Q0g k e = some (Qaz e, ()) := by
 unfold Q0g Q0g.c
 rw [show (8 : Int) = ((8 : Nat) : Int) from rfl, Q37 (by omega) e he 8 (by omega)]
 simp only [Option.bind_some]
 have h := Q5v e
 rw [Q14 (Q1J (by rw [Q2E]; omega))]
 show (Q0h k (Q70 e)).bind _ = _
 rw [Q5Q hk (by rw [h]; omega) (by rw [h]; omega)]
 simp only [Option.bind_some]
 exact Q14 (Q1J (by rw [Q3c]; show (Q70 e).size + 4 ≤ _; omega))
def recT (n : Int) (s : ByteArray) : ByteArray := bytesOf (lowI (s.size : Int) 4) ++ lo8 n ++ s
def recU (e n : Int) (s : ByteArray) : ByteArray := lo8 e ++ recT n s
def recS (e n : Int) (s : ByteArray) : ByteArray := recT n s ++ sum4 (QM (recU e n s))
theorem Q4T (n : Int) (s : ByteArray) : (recT n s).size = 12 + s.size := by
 unfold recT
 rw [ByteArray.size_append, ByteArray.size_append, Q2E, Q1N, Q1y]
theorem Q8I (e n : Int) (s : ByteArray) : (recU e n s).size = 20 + s.size := by
 unfold recU
 rw [ByteArray.size_append, Q2E, Q4T]
 omega
theorem Qea (e n : Int) (s : ByteArray) : (recS e n s).size = 16 + s.size := by
 unfold recS
 rw [ByteArray.size_append, Q4T, Q3c]
 omega
theorem Qb6 (n : Int) (s : ByteArray) : recT n s = bytesOf (lowI (s.size : Int) 4 ++ lowI n 8 ++ QM s) := by
 unfold recT
 rw [Q4j, ← Q4j _ (QM s), Q7i]
theorem Q3y {k : Nat} (hk : 2000 ≤ k) (e n : Int) (s : ByteArray) : Q09 k e n s = some (if s.size > 65536 then (⟨List.toArray []⟩, 121, ()) else (recS e n s, 0, ())) := by
 unfold Q09 Q09.c
 by_cases c : s.size > 65536
 ·rw [Q0F (by omega), if_pos c]
 rw [Q1D (by omega), if_neg c]
 rw [show Q0M k = some ((((), ((), ())), ()), [], ()) from rfl]
 simp only [Option.bind_some]
 rw [Q3s (by omega), wu32 (by omega) ⟨by omega, by omega⟩ (by simp)]
 simp only [Option.bind_some]
 rw [wu64 (by omega) n (by rw [List.length_append, Q1y]; simp)]
 simp only [Option.bind_some]
 rw [wb (by rw [List.length_append, List.length_append, Q1y, Q1y]; simp; omega)]
 simp only [Option.bind_some]
 have ht : Q0n k (((), ((), ())), ()) (([] ++ lowI (s.size : Int) 4) ++ lowI n 8 ++ QM s) = some (recT n s, ()) := by
  rw [Qb6, List.nil_append]
  unfold Q0n Q0n.c
  exact Q14 (Q1J (by simp only [List.length_append, Q1y, Q19]; omega))
 rw [ht]
 simp only [Option.bind_some]
 rw [Q3N (by omega)]
 simp only [Option.bind_some]
 have h1 := Q4T n s
 have h2 := Q8I e n s
 rw [Q14 (Q1J (by rw [Q2E]; omega))]
 show (Q0X k (recU e n s)).bind _ = _
 rw [Q4x (by omega) (by rw [h2]; omega) (by rw [h2]; omega)]
 simp only [Option.bind_some]
 exact Q14 (Q1J (by rw [Q3c]; omega))
theorem Q7h {k : Nat} (hk : 2000 ≤ k) {e n : Int} (he : 0 ≤ e ∧ e ≤ 18446744073709551615) (hn : 0 ≤ n ∧ n ≤ 18446744073709551615) {s : ByteArray} (hs : s.size ≤ 65536) : Q02 k e n s = some (recS e n s, ()) := by
 unfold Q02 Q02.c
 rw [u64_in (by omega), show (4 : Int) = ((4 : Nat) : Int) from rfl, Q37 (by omega) _ (by omega) 4 (by omega)]
 simp only [Option.bind_some]
 rw [show (8 : Int) = ((8 : Nat) : Int) from rfl, Q37 (by omega) n hn 8 (by omega)]
 simp only [Option.bind_some]
 have h1 := Q4T n s
 have h2 := Q8I e n s
 rw [Q14 (Q1J (by rw [Q2E, Q1N, Q1y]; omega)), Q14 (Q1J (by rw [ByteArray.size_append, Q2E, Q1N, Q1y]; omega)), Q37 (by omega) e he 8 (by omega)]
 simp only [Option.bind_some]
 rw [Q14 (Q1J (by show _ + (recT n s).size ≤ _; rw [Q2E]; omega))]
 show (Q0h k (recU e n s)).bind _ = _
 rw [Q5Q (by omega) (by rw [h2]; omega) (by rw [h2]; omega)]
 simp only [Option.bind_some]
 exact Q14 (Q1J (by rw [Q3c]; show (recT n s).size + 4 ≤ _; omega))
end Go.Am
