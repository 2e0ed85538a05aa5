/- A part of a proof: a machine of abstract values that tells what functions of the program compute, and the plain facts on them. -/
import Derived.Test.YtpoofchknajlgaaAm10
set_option linter.unusedVariables false
set_option linter.unusedSimpArgs false
set_option linter.unnecessarySimpa false
set_option linter.unusedSectionVars false
namespace Go.Am
open Go
def sum4 (b : List Int) : ByteArray := bytesOf ((sumL (sumL b)).take 4)
theorem Q32 (b : List Int) : (sum4 b).size = 4 := by
 unfold sum4
 rw [Q1H, List.length_take, Q4i]
 rfl
theorem Q4l {k : Nat} (hk : 128 < k) {s : ByteArray} (hs : s.size ≤ 140737488354000) (hf : s.size / 64 + 1 < k) : Q0V k s = some (sum4 (Q0I s), ()) := by
 unfold Q0V Q0V.c
 rw [Q9g hk hs hf]
 rfl
theorem Q5w {k : Nat} (hk : 128 < k) {s : ByteArray} (hs : s.size ≤ 140737488354000) (hf : s.size / 64 + 2 < k) : Q0e k s = some (sum4 (Q0I s), ()) := by
 unfold Q0e Q0e.c
 rw [Q8Q hk hs hf]
 rfl
abbrev lo8 (n : Int) : ByteArray := bytesOf (lowI n 8)
theorem Q2w (n : Int) : (lo8 n).size = 8 := by rw [Q1H, Q1t]
theorem Q3F {k : Nat} (hk : 9 ≤ k) (n : Int) : Q0M k n = some (lo8 n, ()) := by
 unfold Q0M Q0M.c
 rw [show Q0G k = some ((((), ((), ())), ()), [], ()) from rfl]
 simp only [Option.bind_some]
 rw [wu64 hk n (by simp)]
 rfl
abbrev Qdv : ByteArray := ⟨List.toArray [98, 101, 100, 114, 111, 99, 107, 106]⟩
def Q6x (e : Int) : ByteArray := Qdv ++ lo8 e
def QaW (e : Int) : ByteArray := Q6x e ++ sum4 (Q0I (Q6x e))
theorem Q5a (e : Int) : (Q6x e).size = 16 := by
 unfold Q6x
 rw [ByteArray.size_append, Q2w]
 rfl
theorem QdB (e : Int) : (QaW e).size = 20 := by
 unfold QaW
 rw [ByteArray.size_append, Q5a, Q32]
theorem Q71 {k : Nat} (hk : 128 < k) (e : Int) : Q0n k e = some (QaW e, ()) := by
 unfold Q0n Q0n.c
 rw [Q3F (by omega)]
 simp only [Option.bind_some]
 have h := Q5a e
 rw [Q1f (Q1M (by rw [Q2w]; omega))]
 show (Q0V k (Q6x e)).bind _ = _
 rw [Q4l hk (by rw [h]; omega) (by rw [h]; omega)]
 simp only [Option.bind_some]
 exact Q1f (Q1M (by rw [Q32]; show (Q6x e).size + 4 ≤ _; omega))
theorem Q8f {k : Nat} (hk : 128 < k) {e : Int} (he : 0 ≤ e ∧ e ≤ 18446744073709551615) : Q0d k e = some (QaW e, ()) := by
 unfold Q0d Q0d.c
 rw [show (8 : Int) = ((8 : Nat) : Int) from rfl, Q2W (by omega) e he 8 (by omega)]
 simp only [Option.bind_some]
 have h := Q5a e
 rw [Q1f (Q1M (by rw [Q2w]; omega))]
 show (Q0e k (Q6x e)).bind _ = _
 rw [Q5w hk (by rw [h]; omega) (by rw [h]; omega)]
 simp only [Option.bind_some]
 exact Q1f (Q1M (by rw [Q32]; show (Q6x e).size + 4 ≤ _; omega))
def recT (n : Int) (s : ByteArray) : ByteArray := bytesOf (lowI (s.size : Int) 4) ++ lo8 n ++ s
def recU (e n : Int) (s : ByteArray) : ByteArray := lo8 e ++ recT n s
def recS (e n : Int) (s : ByteArray) : ByteArray := recT n s ++ sum4 (Q0I (recU e n s))
theorem Q4I (n : Int) (s : ByteArray) : (recT n s).size = 12 + s.size := by
 unfold recT
 rw [ByteArray.size_append, ByteArray.size_append, Q2w, Q1H, Q1t]
theorem Q8w (e n : Int) (s : ByteArray) : (recU e n s).size = 20 + s.size := by
 unfold recU
 rw [ByteArray.size_append, Q2w, Q4I]
 omega
theorem QdJ (e n : Int) (s : ByteArray) : (recS e n s).size = 16 + s.size := by
 unfold recS
 rw [ByteArray.size_append, Q4I, Q32]
 omega
theorem QaH (n : Int) (s : ByteArray) : recT n s = bytesOf (lowI (s.size : Int) 4 ++ lowI n 8 ++ Q0I s) := by
 unfold recT
 rw [Q4f, ← Q4f _ (Q0I s), Q72]
theorem Q5M {k : Nat} (hk : 2000 ≤ k) (e n : Int) (s : ByteArray) : Q05 k e n s = some (if s.size > 65536 then (⟨List.toArray []⟩, 121, ()) else (recS e n s, 0, ())) := by
 unfold Q05 Q05.c
 by_cases c : s.size > 65536
 ·rw [Q0X (by omega), if_pos c]
 rw [Q1R (by omega), if_neg c]
 rw [show Q0G k = some ((((), ((), ())), ()), [], ()) from rfl]
 simp only [Option.bind_some]
 rw [Q3x (by omega), wu32 (by omega) ⟨by omega, by omega⟩ (by simp)]
 simp only [Option.bind_some]
 rw [wu64 (by omega) n (by rw [List.length_append, Q1t]; simp)]
 simp only [Option.bind_some]
 rw [wb (by rw [List.length_append, List.length_append, Q1t, Q1t]; simp; omega)]
 simp only [Option.bind_some]
 have ht : Q0l k (((), ((), ())), ()) (([] ++ lowI (s.size : Int) 4) ++ lowI n 8 ++ Q0I s) = some (recT n s, ()) := by
  rw [QaH, List.nil_append]
  unfold Q0l Q0l.c
  exact Q1f (Q1M (by simp only [List.length_append, Q1t, Q1z]; omega))
 rw [ht]
 simp only [Option.bind_some]
 rw [Q3F (by omega)]
 simp only [Option.bind_some]
 have h1 := Q4I n s
 have h2 := Q8w e n s
 rw [Q1f (Q1M (by rw [Q2w]; omega))]
 show (Q0V k (recU e n s)).bind _ = _
 rw [Q4l (by omega) (by rw [h2]; omega) (by rw [h2]; omega)]
 simp only [Option.bind_some]
 exact Q1f (Q1M (by rw [Q32]; omega))
theorem Q73 {k : Nat} (hk : 2000 ≤ k) {e n : Int} (he : 0 ≤ e ∧ e ≤ 18446744073709551615) (hn : 0 ≤ n ∧ n ≤ 18446744073709551615) {s : ByteArray} (hs : s.size ≤ 65536) : QZ k e n s = some (recS e n s, ()) := by
 unfold QZ QZ.c
 rw [u64_in (by omega), show (4 : Int) = ((4 : Nat) : Int) from rfl, Q2W (by omega) _ (by omega) 4 (by omega)]
 simp only [Option.bind_some]
 rw [show (8 : Int) = ((8 : Nat) : Int) from rfl, Q2W (by omega) n hn 8 (by omega)]
 simp only [Option.bind_some]
 have h1 := Q4I n s
 have h2 := Q8w e n s
 rw [Q1f (Q1M (by rw [Q2w, Q1H, Q1t]; omega)), Q1f (Q1M (by rw [ByteArray.size_append, Q2w, Q1H, Q1t]; omega)), Q2W (by omega) e he 8 (by omega)]
 simp only [Option.bind_some]
 rw [Q1f (Q1M (by show _ + (recT n s).size ≤ _; rw [Q2w]; omega))]
 show (Q0e k (recU e n s)).bind _ = _
 rw [Q5w (by omega) (by rw [h2]; omega) (by rw [h2]; omega)]
 simp only [Option.bind_some]
 exact Q1f (Q1M (by rw [Q32]; show (recT n s).size + 4 ≤ _; omega))
end Go.Am
