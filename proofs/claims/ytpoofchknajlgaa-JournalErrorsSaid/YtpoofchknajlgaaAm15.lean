/- A part of a proof: a machine of abstract values that tells what functions of the program compute, and the plain facts on them. -/
import Derived.Test.YtpoofchknajlgaaAm11
import Derived.Test.YtpoofchknajlgaaAm14
import Derived.KernelRfl
set_option linter.unusedVariables false
set_option linter.unusedSimpArgs false
set_option linter.unnecessarySimpa false
set_option linter.unusedSectionVars false
namespace Go.Am
open Go
def sum4 (b : List Int) : ByteArray := bytesOf ((sumL (sumL b)).take 4)
theorem Q3u (b : List Int) : (sum4 b).size = 4 := by
 unfold sum4
 rw [Q27, List.length_take, Q5l]
 rfl
theorem Q50 {k : Nat} (hk : 128 < k) {s : ByteArray} (hs : s.size ≤ 140737488354000) (hf : s.size / 64 + 1 < k) : Q1c k s = some (sum4 (Q0Z s), ()) := by
 unfold Q1c Q1c.c
 rw [Q9D hk hs hf]
 rfl
theorem Q69 {k : Nat} (hk : 128 < k) {s : ByteArray} (hs : s.size ≤ 140737488354000) (hf : s.size / 64 + 2 < k) : Q0w k s = some (sum4 (Q0Z s), ()) := by
 unfold Q0w Q0w.c
 rw [Q9H hk hs hf]
 rfl
abbrev lo8 (n : Int) : ByteArray := bytesOf (lowI n 8)
theorem Q2Y (n : Int) : (lo8 n).size = 8 := by rw [Q27, Q1S]
theorem Q4f {k : Nat} (hk : 9 ≤ k) (n : Int) : Q11 k n = some (lo8 n, ()) := by
 unfold Q11 Q11.c
 rw [show Q0X k = some ((((), ((), ())), ()), [], ()) from rfl]
 simp only [Option.bind_some]
 rw [wu64 hk n (by simp)]
 rfl
abbrev QeU : ByteArray := ⟨List.toArray [98, 101, 100, 114, 111, 99, 107, 106]⟩
def Q7f (e : Int) : ByteArray := QeU ++ lo8 e
def Qca (e : Int) : ByteArray := Q7f e ++ sum4 (Q0Z (Q7f e))
theorem Q5R (e : Int) : (Q7f e).size = 16 := by
 unfold Q7f
 rw [ByteArray.size_append, Q2Y]
 rfl
theorem Qf0 (e : Int) : (Qca e).size = 20 := by
 unfold Qca
 rw [ByteArray.size_append, Q5R, Q3u]
theorem Qd1 {k : Nat} (hk : 128 < k) (e : Int) : Q08 k e = some (Qca e, ()) := by
 unfold Q08 Q08.c
 rw [Q4f (by omega)]
 simp only [Option.bind_some]
 have h := Q5R e
 rw [Q1C (Q2a (by rw [Q2Y]; omega))]
 show (Q1c k (Q7f e)).bind _ = _
 rw [Q50 hk (by rw [h]; omega) (by rw [h]; omega)]
 simp only [Option.bind_some]
 exact Q1C (Q2a (by rw [Q3u]; show (Q7f e).size + 4 ≤ _; omega))
theorem QdR {k : Nat} (hk : 128 < k) {e : Int} (he : 0 ≤ e ∧ e ≤ 18446744073709551615) : Q0I k e = some (Qca e, ()) := by
 unfold Q0I Q0I.c
 rw [show (8 : Int) = ((8 : Nat) : Int) from rfl, Q3p (by omega) e he 8 (by omega)]
 simp only [Option.bind_some]
 have h := Q5R e
 rw [Q1C (Q2a (by rw [Q2Y]; omega))]
 show (Q0w k (Q7f e)).bind _ = _
 rw [Q69 hk (by rw [h]; omega) (by rw [h]; omega)]
 simp only [Option.bind_some]
 exact Q1C (Q2a (by rw [Q3u]; show (Q7f e).size + 4 ≤ _; omega))
def recT (n : Int) (s : ByteArray) : ByteArray := bytesOf (lowI (s.size : Int) 4) ++ lo8 n ++ s
def recU (e n : Int) (s : ByteArray) : ByteArray := lo8 e ++ recT n s
def recS (e n : Int) (s : ByteArray) : ByteArray := recT n s ++ sum4 (Q0Z (recU e n s))
theorem Q5r (n : Int) (s : ByteArray) : (recT n s).size = 12 + s.size := by
 unfold recT
 rw [ByteArray.size_append, ByteArray.size_append, Q2Y, Q27, Q1S]
theorem Q9y (e n : Int) (s : ByteArray) : (recU e n s).size = 20 + s.size := by
 unfold recU
 rw [ByteArray.size_append, Q2Y, Q5r]
 omega
theorem Qf3 (e n : Int) (s : ByteArray) : (recS e n s).size = 16 + s.size := by
 unfold recS
 rw [ByteArray.size_append, Q5r, Q3u]
 omega
theorem QbO (n : Int) (s : ByteArray) : recT n s = bytesOf (lowI (s.size : Int) 4 ++ lowI n 8 ++ Q0Z s) := by
 unfold recT
 rw [Q59, ← Q59 _ (Q0Z s), Q7F]
theorem Q6D {k : Nat} (hk : 2000 ≤ k) (e n : Int) (s : ByteArray) : Q05 k e n s = some (if s.size > 65536 then (⟨List.toArray []⟩, 121, ()) else (recS e n s, 0, ())) := by
 unfold Q05 Q05.c
 by_cases c : s.size > 65536
 ·rw [Q13 (by omega), if_pos c]
 rw [Q1R (by omega), if_neg c]
 rw [show Q0X k = some ((((), ((), ())), ()), [], ()) from rfl]
 simp only [Option.bind_some]
 rw [Q47 (by omega), wu32 (by omega) ⟨by omega, by omega⟩ (by simp)]
 simp only [Option.bind_some]
 rw [wu64 (by omega) n (by rw [List.length_append, Q1S]; simp)]
 simp only [Option.bind_some]
 rw [wb (by rw [List.length_append, List.length_append, Q1S, Q1S]; simp; omega)]
 simp only [Option.bind_some]
 have ht : Q0D k (((), ((), ())), ()) (([] ++ lowI (s.size : Int) 4) ++ lowI n 8 ++ Q0Z s) = some (recT n s, ()) := by
  rw [QbO, List.nil_append]
  unfold Q0D Q0D.c
  exact Q1C (Q2a (by simp only [List.length_append, Q1S, Q1G]; omega))
 rw [ht]
 simp only [Option.bind_some]
 rw [Q4f (by omega)]
 simp only [Option.bind_some]
 have h1 := Q5r n s
 have h2 := Q9y e n s
 rw [Q1C (Q2a (by rw [Q2Y]; omega))]
 show (Q1c k (recU e n s)).bind _ = _
 rw [Q50 (by omega) (by rw [h2]; omega) (by rw [h2]; omega)]
 simp only [Option.bind_some]
 exact Q1C (Q2a (by rw [Q3u]; omega))
theorem Qd2 {k : Nat} (hk : 2000 ≤ k) {e n : Int} (he : 0 ≤ e ∧ e ≤ 18446744073709551615) (hn : 0 ≤ n ∧ n ≤ 18446744073709551615) {s : ByteArray} (hs : s.size ≤ 65536) : Q0s k e n s = some (recS e n s, ()) := by
 unfold Q0s Q0s.c
 rw [u64_in (by omega), show (4 : Int) = ((4 : Nat) : Int) from rfl, Q3p (by omega) _ (by omega) 4 (by omega)]
 simp only [Option.bind_some]
 rw [show (8 : Int) = ((8 : Nat) : Int) from rfl, Q3p (by omega) n hn 8 (by omega)]
 simp only [Option.bind_some]
 have h1 := Q5r n s
 have h2 := Q9y e n s
 rw [Q1C (Q2a (by rw [Q2Y, Q27, Q1S]; omega)), Q1C (Q2a (by rw [ByteArray.size_append, Q2Y, Q27, Q1S]; omega)), Q3p (by omega) e he 8 (by omega)]
 simp only [Option.bind_some]
 rw [Q1C (Q2a (by show _ + (recT n s).size ≤ _; rw [Q2Y]; omega))]
 show (Q0w k (recU e n s)).bind _ = _
 rw [Q69 (by omega) (by rw [h2]; omega) (by rw [h2]; omega)]
 simp only [Option.bind_some]
 exact Q1C (Q2a (by rw [Q3u]; show (recT n s).size + 4 ≤ _; omega))
end Go.Am
namespace Go.Am
open Go
abbrev KK : Nat := 140737488355328
def Q3C (v : Int) : Bool := !((decide (v < 97) || decide (v > 122)) && (decide (v < 48) || decide (v > 57)) && (v != 46) && (v != 45))
def Q3x (s : ByteArray) (i : Nat) : Nat → Bool
 | 0 => true
 | d + 1 => Q3C (Q1I s i) && Q3x s (i + 1) d
def Q2j (s : ByteArray) : Bool := decide (1 ≤ s.size ∧ s.size ≤ 32) && Q3x s 0 s.size
theorem nest {α : Type} (v : Int) (A B : α) :
    (bif decide (v < 97) then (bif decide (v < 48) then (bif v != 46 then (bif v != 45 then B else A) else A) else (bif decide (v > 57) then (bif v != 46 then (bif v != 45 then B else A) else A) else A))
     else (bif decide (v > 122) then (bif decide (v < 48) then (bif v != 46 then (bif v != 45 then B else A) else A) else (bif decide (v > 57) then (bif v != 46 then (bif v != 45 then B else A) else A) else A)) else A)) = bif Q3C v then A else B := by
  unfold Q3C
  cases decide (v < 97) <;> cases decide (v < 48) <;> cases decide (v > 57) <;> cases decide (v > 122) <;> cases (v != 46) <;> cases (v != 45) <;> rfl
theorem Qek {k : Nat} {s : ByteArray} (hs : s.size ≤ 140737488351232) {names : List ByteArray} {n j : Int} {i : Nat} (hi : i < s.size) {ρ : Type} (kn : Ql.l2.σ → Option ρ) (ke : Ql.l2.τ → Option ρ) :
  Ql.l2.r k (s, names, n, j, (s.size : Int), (i : Int), ()) kn ke = bif Q3C (Q1I s i) then kn (s, names, n, j, (s.size : Int), ((i + 1 : Nat) : Int), ()) else ke (.inl (70, ())) := by
 simp only [Ql.l2.r]
 rw [Q13 (by omega), Q13 (by omega), Int.toNat_natCast, i64_in (by omega)]
 exact nest _ _ _
theorem Qc8 {k : Nat} {s : ByteArray} (hs : s.size ≤ 140737488351232) {names : List ByteArray} {n j : Int} : ∀ (d i fuel : Nat), i + d = s.size → d < fuel →
  Q1p (Ql.l2.r k) fuel (s, names, n, j, (s.size : Int), (i : Int), ()) = some (bif Q3x s i d then .inr (names, n, j, ()) else .inl (70, ()))
 | 0, i, fuel, h, hf => by
  obtain ⟨g, rfl⟩ : ∃ g, fuel = g + 1 := ⟨fuel - 1, by omega⟩
  show Ql.l2.r k (s, names, n, j, (s.size : Int), (i : Int), ()) _ _ = _
  simp only [Ql.l2.r]
  rw [Q1R (by omega)]
  rfl
 | d + 1, i, fuel, h, hf => by
  obtain ⟨g, rfl⟩ : ∃ g, fuel = g + 1 := ⟨fuel - 1, by omega⟩
  show Ql.l2.r k (s, names, n, j, (s.size : Int), (i : Int), ()) (Q1p (Ql.l2.r k) g) some = _
  rw [Qek hs (by omega)]
  simp only [Q3x]
  cases Q3C (Q1I s i) with
  | true => rw [Bool.true_and, cond_true, Qc8 hs d (i + 1) g (by omega) (by omega)]
  | false => rfl
theorem QdA {k : Nat} (hk : 40 ≤ k) {s : ByteArray} (hs : s.size ≤ 140737488351232) : Ql k [s] = some (bif Q2j s then 0 else 70, ()) := by
 unfold Ql Ql.c
 obtain ⟨g, rfl⟩ : ∃ g, k = g + 2 := ⟨k - 2, by omega⟩
 have hp : Ql.p1 (g + 2) (s, [s], 1, 0, ()) = some (if 1 ≤ s.size ∧ s.size ≤ 32 then .inr (s, [s], 1, 0, ()) else .inl (70, ())) := by
  unfold Ql.p1
  simp only [Ql.p1.r]
  by_cases c1 : 1 ≤ s.size
  ·rw [Q1R (by omega)]
   by_cases c2 : s.size ≤ 32
   ·rw [Q1R (by omega), if_pos ⟨c1, c2⟩]
   ·rw [Q13 (by omega), if_neg (by omega)]
  ·rw [Q13 (by omega), if_neg (by omega)]
 have l0 : Ql.l0 (g + 2) (g + 2) ([s], 1, 0, ()) = some (bif Q2j s then .inr () else .inl (70, ())) := by
  show Ql.l0.r (g + 2) ([s], 1, 0, ()) (Ql.l0.r (g + 2) · (Q1p (Ql.l0.r (g + 2)) g) some) some = _
  have e1 : Ql.l0.r (g + 2) ([s], 1, 1, ()) (Q1p (Ql.l0.r (g + 2)) g) some = some (.inr ()) := by
   simp only [Ql.l0.r]
   rw [Q1R (by omega)]
  simp only [Ql.l0.r] at e1 ⊢
  rw [Q13 (by omega), Q13 (by simp only [List.length_singleton]; omega)]
  show (Ql.p1 (g + 2) (s, [s], 1, 0, ())).bind _ = _
  rw [hp]
  unfold Q2j
  by_cases c : 1 ≤ s.size ∧ s.size ≤ 32
  ·rw [if_pos c, decide_eq_true c, Bool.true_and]
   simp only [Option.bind_some]
   show (Q1p (Ql.l2.r (g + 2)) (g + 2) (s, [s], 1, 0, (s.size : Int), ((0 : Nat) : Int), ())).bind _ = _
   rw [Qc8 hs s.size 0 (g + 2) (by omega) (by omega)]
   cases Q3x s 0 s.size with
   | true =>
    simp only [cond_true, Option.bind_some]
    rw [i64_in (by omega)]
    exact e1
   | false => rfl
  ·rw [if_neg c, decide_eq_false c, Bool.false_and]
   rfl
 show (Ql.l0 (g + 2) (g + 2) ([s], 1, 0, ())).bind _ = _
 rw [l0]
 cases Q2j s <;> rfl
abbrev Bk : Type := Unit × Unit × Unit × Int × Unit × Bool × Unit
abbrev dk (m : Int) (dd : Bool) : Bk := ((), (), (), m, (), dd, ())
abbrev Fs : Type := List (ByteArray × ByteArray)
theorem Q7K {s : ByteArray} (hs : s.size ≤ 140737488351232) (m : Int) (S N : Fs) : Q0G KK [s] (dk m false) S N = some (bif Q2j s then 0 else 70, dk m false, S, N, ()) := by
 unfold Q0G Q0G.c
 show (Ql KK [s]).bind _ = _
 rw [QdA (by decide) hs]
 rfl
theorem Q5X {s : ByteArray} (hs : s.size ≤ 140737488351232) (hg : Q2j s = true) (m : Int) (S : Fs) : Q0k KK s (dk m false) S [] = some (⟨List.toArray []⟩, 2, dk m false, S, [], ()) := by
 unfold Q0k Q0k.c
 show (Q0G KK [s] (dk m false) S []).bind _ = _
 rw [Q7K hs, hg]
 rfl
abbrev eB : ByteArray := ⟨List.toArray []⟩
abbrev Chg : Type := Int × ByteArray × ByteArray × Int × ByteArray × Unit
theorem Qax {s : ByteArray} (hs : s.size ≤ 140737488351232) (hg : Q2j s = true) : Q0a KK s 0 eB (dk 0 false) [] [] = some (.inr (0, dk 1 false, [], [(s, eB)], [(0, s, eB, 0, eB, ())], ())) := by
 unfold Q0a Q0a.c
 show (Q0G KK [s] (dk 0 false) [] []).bind _ = _
 rw [Q7K hs, hg]
 kernel_rfl
theorem QcL {s : ByteArray} (hs : s.size ≤ 140737488351232) (hg : Q2j s = false) (t : ByteArray) : Q0a KK s 0 t (dk 0 false) [] [] = some (.inl (70, dk 0 false, [], [], ())) := by
 unfold Q0a Q0a.c
 show (Q0G KK [s] (dk 0 false) [] []).bind _ = _
 rw [Q7K hs, hg]
 rfl
theorem Qbg {s : ByteArray} (hs : s.size ≤ 140737488351232) (hg : Q2j s = true) : Q0a KK s 0 Run.head0 (dk 0 false) [] [] = some (.inr (0, dk 1 false, [], [(s, Run.head0)], [(0, s, eB, 0, Run.head0, ())], ())) := by
 unfold Q0a Q0a.c
 show (Q0G KK [s] (dk 0 false) [] []).bind _ = _
 rw [Q7K hs, hg]
 kernel_rfl
theorem Q9J {s : ByteArray} (hs : s.size ≤ 140737488351232) : Q19 KK s = some (Q2j s, ()) := by
 unfold Q19 Q19.c
 show (Q0a KK s 0 eB (dk 0 false) [] []).bind _ = _
 cases hg : Q2j s with
 | true => rw [Qax hs hg]; rfl
 | false => rw [QcL hs hg]; rfl
theorem Q9n {s : ByteArray} (hs : s.size ≤ 140737488351232) (hg : Q2j s = true) (m : Int) (S : Fs) : Q0K KK s (dk m false) S [] = some (eB, 2, dk m false, S, [], ()) := by
 unfold Q0K Q0K.c
 show (Q0k KK s (dk m false) S []).bind _ = _
 rw [Q5X hs hg]
 rfl
theorem QcU {s : ByteArray} (hs : s.size ≤ 140737488351232) (hg : Q2j s = true) (m : Int) (S : Fs) : Q0R KK s (dk m false) S [] = some (0, 2, dk m false, S, [], ()) := by
 unfold Q0R Q0R.c
 show (Q0k KK s (dk m false) S []).bind _ = _
 rw [Q5X hs hg]
 rfl
theorem Qb1 {s : ByteArray} (hs : s.size ≤ 140737488351232) (hg : Q2j s = true) (m : Int) (S : Fs) : Q0B KK s (dk m false) S [] = some (.inl (2, dk m false, S, [], ())) := by
 unfold Q0B Q0B.c
 show (Q0k KK s (dk m false) S []).bind _ = _
 rw [Q5X hs hg]
 rfl
theorem QcV (s : ByteArray) (N : Fs) : Q9 KK (dk 1 false) [] N [(0, s, eB, 0, Run.head0, ())] = some (.inr (0, dk 1 false, [(s, Run.head0)], N, ())) := by
 kernel_rfl
theorem Qdo {s : ByteArray} (hs : s.size ≤ 140737488351232) (hg : Q2j s = true) : QR KK s (dk 0 false) [] [] = some (.inl (0, dk 1 false, [(s, Run.head0)], [(s, Run.head0)], ())) := by
 unfold QR QR.c
 have hp : QR.p0 KK (s, dk 0 false, [], [], ()) = some (.inr (.inl (s, dk 0 false, [], [], ()))) := by
  unfold QR.p0
  simp only [QR.p0.r]
  show (Q0R KK s (dk 0 false) [] []).bind _ = _
  rw [QcU hs hg]
  rfl
 show (QR.p0 KK (s, dk 0 false, [], [], ())).bind _ = _
 rw [hp]
 simp only [Option.bind_some]
 rw [Run.head_eq]
 simp only [Option.bind_some]
 show (Q0a KK s 0 Run.head0 (dk 0 false) [] []).bind _ = _
 rw [Qbg hs hg]
 simp only [Option.bind_some]
 show (bif ((0 : Int) != 0) then _ else (Q9 KK (dk 1 false) [] [(s, Run.head0)] [(0, s, eB, 0, Run.head0, ())]).bind _) = _
 rw [Q20 (by rfl), QcV]
 rfl
theorem Qcv {s : ByteArray} (hs : s.size ≤ 140737488351232) (hg : Q2j s = true) : QH KK s (dk 0 false) [] [] = some (.inl (Run.head0, 0, dk 1 false, [(s, Run.head0)], [(s, Run.head0)], ())) := by
 unfold QH QH.c
 show (Q0K KK s (dk 0 false) [] []).bind _ = _
 rw [Q9n hs hg]
 simp only [Option.bind_some]
 have hp : QH.p0 KK (s, eB, 2, dk 0 false, [], [], ()) = some (.inr (s, eB, dk 0 false, [], [], ())) := rfl
 show (QH.p0 KK (s, eB, 2, dk 0 false, [], [], ())).bind _ = _
 rw [hp]
 simp only [Option.bind_some]
 rw [Q1R (by decide)]
 show (QR KK s (dk 0 false) [] []).bind _ = _
 rw [Qdo hs hg]
 simp only [Option.bind_some]
 show (bif ((0 : Int) != 0) then _ else (Q08 KK 0).bind _) = _
 rw [Q20 (by rfl), Run.head_eq]
 rfl
abbrev tmpB : ByteArray := ⟨List.toArray [46, 116, 109, 112]⟩
theorem Q7G {s t : ByteArray} {i : Nat} (h : i < s.size) : Q1I (s ++ t) i = Q1I s i := by
 rw [Q4e, Q4e, Q3E, List.getD_eq_getElem?_getD, List.getD_eq_getElem?_getD, List.getElem?_append_left (by rw [Q1G]; exact h)]
theorem Q2I {s t : ByteArray} (i : Nat) : Q1I (s ++ t) (s.size + i) = Q1I t i := by
 rw [Q4e, Q4e, Q3E, List.getD_eq_getElem?_getD, List.getD_eq_getElem?_getD, List.getElem?_append_right (by rw [Q1G]; omega), Q1G, Nat.add_sub_cancel_left]
theorem Q5F (s : ByteArray) : ∀ (d i : Nat), i + d = s.size → Q3x s i d = true → Q3x (s ++ tmpB) i (d + 4) = true
 | 0, i, h, _ => by
  obtain rfl : i = s.size := by omega
  show (Q3C (Q1I (s ++ tmpB) s.size) && (Q3C (Q1I (s ++ tmpB) (s.size + 1)) && (Q3C (Q1I (s ++ tmpB) (s.size + 2)) && (Q3C (Q1I (s ++ tmpB) (s.size + 3)) && true)))) = true
  rw [Q2I 1, Q2I 2, Q2I 3]
  have := Q2I (s := s) (t := tmpB) 0
  rw [Nat.add_zero] at this
  rw [this]
  decide +kernel
 | d + 1, i, h, hok => by
  simp only [Q3x, Bool.and_eq_true] at hok
  show (Q3C (Q1I (s ++ tmpB) i) && Q3x (s ++ tmpB) (i + 1) (d + 4)) = true
  rw [Q7G (by omega), hok.1, Q5F s d (i + 1) (by omega) hok.2]
  rfl
theorem Qcx {s : ByteArray} (hg : Q2j s = true) (h28 : s.size ≤ 28) : Q2j (s ++ tmpB) = true := by
 unfold Q2j at hg ⊢
 simp only [Bool.and_eq_true, decide_eq_true_eq] at hg ⊢
 have hz : (s ++ tmpB).size = s.size + 4 := by rw [ByteArray.size_append]; rfl
 rw [hz]
 exact ⟨by omega, Q5F s s.size 0 (by omega) hg.2⟩
theorem QbC : Qm KK Run.head0 = some (.inl (0, 0, 0, ())) := by kernel_rfl
theorem Qd8 : QZ KK [] = some ([], ()) := by kernel_rfl
abbrev Jk : Type := Unit × ByteArray × Int × Unit × Unit × Int × Bool × Unit
abbrev jk (s : ByteArray) (dd : Bool) : Jk := ((), s, 0, (), (), 0, dd, ())
theorem Qdb {s : ByteArray} (hs : s.size ≤ 140737488351232) (h : s.size > 28 ∨ Q2j s = false) : Q3 KK s (dk 0 false) [] [] = some (.inl (70, dk 0 false, [], [], ())) := by
 unfold Q3 Q3.c
 have hp : Q3.p0 KK (s, dk 0 false, [], [], ()) = some (.inl (70, dk 0 false, [], [], ())) := by
  unfold Q3.p0
  simp only [Q3.p0.r]
  by_cases c : s.size > 28
  ·rw [Q13 (by omega)]
  ·rw [Q1R (by omega), Q9J hs, h.resolve_left c]
   rfl
 show (Q3.p0 KK (s, dk 0 false, [], [], ())).bind _ = _
 rw [hp]
 rfl
theorem Qct {s : ByteArray} (hs : s.size ≤ 28) (hg : Q2j s = true) : Q3 KK s (dk 0 false) [] [] = some (.inr (.inl (0, dk 1 false, [(s, Run.head0)], [(s, Run.head0)], jk s false, [], ()))) := by
 have hs' : s.size ≤ 140737488351232 := by omega
 unfold Q3 Q3.c
 have h0 : Q3.p0 KK (s, dk 0 false, [], [], ()) = some (.inr (s, dk 0 false, [], [], ())) := by
  unfold Q3.p0
  simp only [Q3.p0.r]
  rw [Q1R (by omega), Q9J hs', hg]
  rfl
 show (Q3.p0 KK (s, dk 0 false, [], [], ())).bind _ = _
 rw [h0]
 simp only [Option.bind_some]
 show (Q0K KK s (dk 0 false) [] []).bind _ = _
 rw [Q9n hs' hg]
 simp only [Option.bind_some]
 have h1 : Q3.p1 KK (s, eB, 2, dk 0 false, [], [], ()) = some (.inr (s, eB, dk 0 false, [], [], ())) := rfl
 show (Q3.p1 KK (s, eB, 2, dk 0 false, [], [], ())).bind _ = _
 rw [h1]
 simp only [Option.bind_some]
 have h2 : Q3.p2 KK (s, eB, dk 0 false, [], [], ()) = some (.inr (s, dk 0 false, [], [], ())) := by
  unfold Q3.p2
  simp only [Q3.p2.r]
  rw [Q1R (by decide)]
 show (Q3.p2 KK (s, eB, dk 0 false, [], [], ())).bind _ = _
 rw [h2]
 simp only [Option.bind_some]
 have h3 : Q3.p3 KK (s, dk 0 false, [], [], ()) = some (.inr (.inl (s, dk 0 false, [], [], ()))) := by
  unfold Q3.p3
  simp only [Q3.p3.r]
  rw [Q1C (Q2a (by omega))]
  show (Q0B KK (s ++ tmpB) (dk 0 false) [] []).bind _ = _
  rw [Qb1 (by rw [ByteArray.size_append, show tmpB.size = 4 from rfl]; omega) (Qcx hg hs)]
  rfl
 show (Q3.p3 KK (s, dk 0 false, [], [], ())).bind _ = _
 rw [h3]
 simp only [Option.bind_some]
 show (QH KK s (dk 0 false) [] []).bind _ = _
 rw [Qcv hs' hg]
 simp only [Option.bind_some]
 show (bif ((0 : Int) != 0) then _ else (Qm KK Run.head0).bind _) = _
 rw [Q20 (by rfl), QbC]
 simp only [Option.bind_some]
 rw [Qd8]
 rfl
end Go.Am
namespace Go.Am
open Go
theorem Qdm (m : Int) (S N : Fs) : Q0J KK 0 0 (dk m false) S N = some (.inl (dk m true, S, N, S, ())) := by kernel_rfl
theorem Qdj (s t : ByteArray) (m : Int) (S N : Fs) : Q0d KK t (jk s false) (dk m true) S N [] = some (if t.size > 65536 then .inl (121, jk s false, dk m true, S, N, [], ()) else .inl (7, jk s true, dk m true, S, N, [], ())) := by
 unfold Q0d Q0d.c
 have hm : Q09 KK (jk s false) (dk m true) S N [] = some (0, jk s false, dk m true, S, N, [], ()) := rfl
 show (Q09 KK (jk s false) (dk m true) S N []).bind _ = _
 rw [hm]
 simp only [Option.bind_some]
 rw [Q20 (by rfl)]
 show (Q05 KK 0 (IntKind.u64.wrap 0) t).bind _ = _
 rw [u64_in (by omega), Q6D (by decide)]
 by_cases c : t.size > 65536
 ·rw [if_pos c, if_pos c]
  rfl
 ·rw [if_neg c, if_neg c]
  rfl
theorem Q8J (s : ByteArray) (dd : Bool) (m : Int) (S N : Fs) : Q07 KK (jk s dd) (dk m true) S N [] = some (7, jk s true, dk m true, S, N, [], ()) := by
 cases dd <;> rfl
theorem Q8E (s : ByteArray) (m : Int) (S N : Fs) : Q8 KK [] (jk s true) (dk m true) S N [] = some (7, jk s true, dk m true, S, N, [], ()) := rfl
theorem Q9s (s : ByteArray) (m : Int) (S N : Fs) : QY KK (jk s true) (dk m true) S N [] = some (true, jk s true, dk m true, S, N, [], ()) := rfl
theorem QcT {s : ByteArray} (hs : s.size ≤ 28) (hg : Q2j s = true) (m : Int) (S N : Fs) : Q3 KK s (dk m true) S N = some (.inl (7, dk m true, S, N, ())) := by
 have hs' : s.size ≤ 140737488351232 := by omega
 unfold Q3 Q3.c
 have h0 : Q3.p0 KK (s, dk m true, S, N, ()) = some (.inr (s, dk m true, S, N, ())) := by
  unfold Q3.p0
  simp only [Q3.p0.r]
  rw [Q1R (by omega), Q9J hs', hg]
  rfl
 show (Q3.p0 KK (s, dk m true, S, N, ())).bind _ = _
 rw [h0]
 rfl
def Q3a (s : ByteArray) (i : Nat) : Nat → Bool
 | 0 => false
 | d + 1 => !Q3C (Q1I s i) || Q3a s (i + 1) d
theorem Q63 (s : ByteArray) : ∀ d i, Q3a s i d = !Q3x s i d
 | 0, _ => rfl
 | d + 1, i => by simp only [Q3a, Q3x, Q63 s d (i + 1), Bool.not_and]
end Go.Am
namespace Go.Am
open Go
theorem Qep {α : Type} (v : Int) (A : Bool → α) :
    (bif decide (v ≥ 97) then (bif decide (v ≤ 122) then A false else (bif decide (v ≥ 48) then (bif decide (v ≤ 57) then A false else (bif v == 46 then A false else A (!(v == 45)))) else (bif v == 46 then A false else A (!(v == 45)))))
     else (bif decide (v ≥ 48) then (bif decide (v ≤ 57) then A false else (bif v == 46 then A false else A (!(v == 45)))) else (bif v == 46 then A false else A (!(v == 45))))) = A (!Q3C v) := by
  have e1 : decide (v ≥ 97) = !decide (v < 97) := by by_cases h : v < 97 <;> simp [h] <;> omega
  have e2 : decide (v ≤ 122) = !decide (v > 122) := by by_cases h : v > 122 <;> simp [h] <;> omega
  have e3 : decide (v ≥ 48) = !decide (v < 48) := by by_cases h : v < 48 <;> simp [h] <;> omega
  have e4 : decide (v ≤ 57) = !decide (v > 57) := by by_cases h : v > 57 <;> simp [h] <;> omega
  unfold Q3C
  simp only [e1, e2, e3, e4, bne]
  cases decide (v < 97) <;> cases decide (v > 122) <;> cases decide (v < 48) <;> cases decide (v > 57) <;> cases (v == 46) <;> cases (v == 45) <;> rfl
theorem Qab {k : Nat} {s t : ByteArray} (hs : s.size ≤ 140737488351232) {v m : Int} {dd : Bool} {S N : Fs} : ∀ (d i fuel : Nat) (b : Bool), i + d = s.size → d < fuel →
  Q1p (Q0.l1.r k) fuel (s, t, v, b, (s.size : Int), (i : Int), dk m dd, S, N, ()) = some (s, t, v, b || Q3a s i d, dk m dd, S, N, ())
 | 0, i, fuel, b, h, hf => by
  obtain ⟨g, rfl⟩ : ∃ g, fuel = g + 1 := ⟨fuel - 1, by omega⟩
  show Q0.l1.r k (s, t, v, b, (s.size : Int), (i : Int), dk m dd, S, N, ()) _ _ = _
  simp only [Q0.l1.r]
  rw [Q1R (by omega)]
  simp only [Q3a, Bool.or_false]
 | d + 1, i, fuel, b, h, hf => by
  obtain ⟨g, rfl⟩ : ∃ g, fuel = g + 1 := ⟨fuel - 1, by omega⟩
  show Q0.l1.r k (s, t, v, b, (s.size : Int), (i : Int), dk m dd, S, N, ()) (Q1p (Q0.l1.r k) g) some = _
  simp only [Q0.l1.r]
  rw [Q13 (by omega), Q13 (by omega), Int.toNat_natCast, i64_in (by omega)]
  cases b with
  | true =>
   rw [cond_true]
   refine (Qab hs d (i + 1) g true (by omega) (by omega)).trans ?_
   simp only [Bool.true_or]
  | false =>
   rw [cond_false]
   refine (Qep (Q1I s i) (fun b => Q1p (Q0.l1.r k) g (s, t, v, b, (s.size : Int), ((i : Int) + 1), dk m dd, S, N, ()))).trans ?_
   refine (Qab hs d (i + 1) g (!Q3C (Q1I s i)) (by omega) (by omega)).trans ?_
   simp only [Q3a, Bool.false_or]
theorem Q9G {k : Nat} {s t : ByteArray} (hs : s.size ≤ 140737488351232) {v m : Int} {dd : Bool} {S N : Fs} {J : Jk} {E : List Int} : ∀ (d i fuel : Nat) (b : Bool), i + d = s.size → d < fuel →
  Q1p (Q0.l6.r k) fuel (s, t, v, b, (s.size : Int), (i : Int), dk m dd, S, N, J, E, ()) = some (s, t, v, b || Q3a s i d, dk m dd, S, N, J, E, ())
 | 0, i, fuel, b, h, hf => by
  obtain ⟨g, rfl⟩ : ∃ g, fuel = g + 1 := ⟨fuel - 1, by omega⟩
  show Q0.l6.r k (s, t, v, b, (s.size : Int), (i : Int), dk m dd, S, N, J, E, ()) _ _ = _
  simp only [Q0.l6.r]
  rw [Q1R (by omega)]
  simp only [Q3a, Bool.or_false]
 | d + 1, i, fuel, b, h, hf => by
  obtain ⟨g, rfl⟩ : ∃ g, fuel = g + 1 := ⟨fuel - 1, by omega⟩
  show Q0.l6.r k (s, t, v, b, (s.size : Int), (i : Int), dk m dd, S, N, J, E, ()) (Q1p (Q0.l6.r k) g) some = _
  simp only [Q0.l6.r]
  rw [Q13 (by omega), Q13 (by omega), Int.toNat_natCast, i64_in (by omega)]
  cases b with
  | true =>
   rw [cond_true]
   refine (Q9G hs d (i + 1) g true (by omega) (by omega)).trans ?_
   simp only [Bool.true_or]
  | false =>
   rw [cond_false]
   refine (Qep (Q1I s i) (fun b => Q1p (Q0.l6.r k) g (s, t, v, b, (s.size : Int), ((i : Int) + 1), dk m dd, S, N, J, E, ()))).trans ?_
   refine (Q9G hs d (i + 1) g (!Q3C (Q1I s i)) (by omega) (by omega)).trans ?_
   simp only [Q3a, Bool.false_or]
theorem Qf7 (name s : ByteArray) (m : Int) (S N : Fs) : Q0.p9 KK (name, s, dk m true, S, N, jk name false, [], ()) = some (.inr (.inl (name, s, dk m true, S, N, ()))) := by
 unfold Q0.p9
 simp only [Q0.p9.r]
 show (Q0d KK s (jk name false) (dk m true) S N []).bind _ = _
 rw [Qdj]
 by_cases c : s.size > 65536
 ·rw [if_pos c]
  simp only [Option.bind_some]
  rw [Q20 (by rfl)]
  show (Q07 KK (jk name false) (dk m true) S N []).bind _ = _
  rw [Q8J]
  simp only [Option.bind_some]
  rw [Q20 (by rfl)]
  show (Q8 KK [] (jk name true) (dk m true) S N []).bind _ = _
  rw [Q8E]
  simp only [Option.bind_some]
  rw [Q20 (by rfl)]
  show (QY KK (jk name true) (dk m true) S N []).bind _ = _
  rw [Q9s]
  rfl
 ·rw [if_neg c]
  simp only [Option.bind_some]
  rw [Q20 (by rfl)]
  show (Q07 KK (jk name true) (dk m true) S N []).bind _ = _
  rw [Q8J]
  simp only [Option.bind_some]
  rw [Q20 (by rfl)]
  show (Q8 KK [] (jk name true) (dk m true) S N []).bind _ = _
  rw [Q8E]
  simp only [Option.bind_some]
  rw [Q20 (by rfl)]
  show (QY KK (jk name true) (dk m true) S N []).bind _ = _
  rw [Q9s]
  rfl
theorem Q5V {name s : ByteArray} (hn : name.size ≤ 140737488351232) : Q0 KK name s = some (true, ()) := by
 unfold Q0 Q0.c
 have hnew : Q1u KK = some (dk 0 false, [], [], ()) := rfl
 have hopn : Q0V KK name = some (1, ()) := rfl
 rw [hnew]
 simp only [Option.bind_some]
 rw [hopn]
 simp only [Option.bind_some]
 show (Q3 KK name (dk 0 false) [] []).bind _ = _
 by_cases hg : name.size ≤ 28 ∧ Q2j name = true
 ·obtain ⟨h28, hg⟩ := hg
  rw [Qct h28 hg]
  simp only [Option.bind_some]
  have h5 : Q0.p5 KK (name, s, 1, 0, dk 1 false, [(name, Run.head0)], [(name, Run.head0)], jk name false, [], ()) = some (.inr (name, s, 0, dk 1 false, [(name, Run.head0)], [(name, Run.head0)], jk name false, [], ())) := rfl
  show (Q0.p5 KK (name, s, 1, 0, dk 1 false, [(name, Run.head0)], [(name, Run.head0)], jk name false, [], ())).bind _ = _
  rw [h5]
  simp only [Option.bind_some]
  have hg' := hg
  unfold Q2j at hg'
  simp only [Bool.and_eq_true, decide_eq_true_eq] at hg'
  have hne : Q1Q name ⟨List.toArray []⟩ = false := Q7n fun e => by
   have : name.size = 0 := by rw [e]; rfl
   omega
  rw [hne, cond_false]
  have hl : Q0.l6 KK KK (name, s, 0, decide ((name.size : Int) > 28), (name.size : Int), 0, dk 1 false, [(name, Run.head0)], [(name, Run.head0)], jk name false, [], ()) = some (name, s, 0, false, dk 1 false, [(name, Run.head0)], [(name, Run.head0)], jk name false, [], ()) := by
   refine (Q9G (k := KK) hn name.size 0 KK _ (by omega) (by show name.size < 140737488355328; omega)).trans ?_
   rw [decide_eq_false (by omega), Q63, hg'.2]
   rfl
  show (Q0.l6 KK KK (name, s, 0, decide ((name.size : Int) > 28), (name.size : Int), 0, dk 1 false, [(name, Run.head0)], [(name, Run.head0)], jk name false, [], ())).bind _ = _
  rw [hl]
  simp only [Option.bind_some]
  have h7 : Q0.p7 KK (name, s, 0, false, dk 1 false, [(name, Run.head0)], [(name, Run.head0)], jk name false, [], ()) = some (.inr (name, s, false, dk 1 false, [(name, Run.head0)], [(name, Run.head0)], jk name false, [], ())) := rfl
  show (Q0.p7 KK (name, s, 0, false, dk 1 false, [(name, Run.head0)], [(name, Run.head0)], jk name false, [], ())).bind _ = _
  rw [h7]
  simp only [Option.bind_some]
  have h8 : Q0.p8 KK (name, s, false, dk 1 false, [(name, Run.head0)], [(name, Run.head0)], jk name false, [], ()) = some (.inr (s, ())) := by
   unfold Q0.p8
   simp only [Q0.p8.r]
   rw [Bool.not_false, cond_true]
   show (Q0J KK 0 0 (dk 1 false) [(name, Run.head0)] [(name, Run.head0)]).bind _ = _
   rw [Qdm]
   simp only [Option.bind_some]
   show (Q0.p9 KK (name, s, dk 1 true, [(name, Run.head0)], [(name, Run.head0)], jk name false, [], ())).bind _ = _
   rw [Qf7]
   simp only [Option.bind_some]
   show (Q3 KK name (dk 1 true) [(name, Run.head0)] [(name, Run.head0)]).bind _ = _
   rw [QcT h28 hg]
   rfl
  show (Q0.p8 KK (name, s, false, dk 1 false, [(name, Run.head0)], [(name, Run.head0)], jk name false, [], ())).bind _ = _
  rw [h8]
  kernel_rfl
 ·have hbad : name.size > 28 ∨ Q2j name = false := by
   by_cases h28 : name.size > 28
   ·exact .inl h28
   ·right
    cases h : Q2j name with
    | false => rfl
    | true => exact absurd ⟨by omega, h⟩ hg
  rw [Qdb hn hbad]
  simp only [Option.bind_some]
  have h0 : Q0.p0 KK (name, s, 1, 70, dk 0 false, [], [], ()) = some (.inr (name, s, 70, dk 0 false, [], [], ())) := rfl
  show (Q0.p0 KK (name, s, 1, 70, dk 0 false, [], [], ())).bind _ = _
  rw [h0]
  simp only [Option.bind_some]
  have fin : ∀ b : Bool, (b || Q3a name 0 name.size) = true → Q0.l1 KK KK (name, s, 70, b, (name.size : Int), 0, dk 0 false, [], [], ()) = some (name, s, 70, true, dk 0 false, [], [], ()) := fun b hb => by
   refine (Qab (k := KK) hn name.size 0 KK b (by omega) (by show name.size < 140737488355328; omega)).trans ?_
   rw [hb]
  have h2 : Q0.p2 KK (name, s, 70, true, dk 0 false, [], [], ()) = some (.inr (name, s, true, dk 0 false, [], [], ())) := rfl
  have h3 : Q0.p3 KK (name, s, true, dk 0 false, [], [], ()) = some (.inr (s, ())) := rfl
  by_cases he : name = ⟨List.toArray []⟩
  ·rw [Q6E.2 he, cond_true]
   show (Q0.l1 KK KK (name, s, 70, true, (name.size : Int), 0, dk 0 false, [], [], ())).bind _ = _
   rw [fin true (by simp)]
   simp only [Option.bind_some]
   show (Q0.p2 KK (name, s, 70, true, dk 0 false, [], [], ())).bind _ = _
   rw [h2]
   simp only [Option.bind_some]
   show (Q0.p3 KK (name, s, true, dk 0 false, [], [], ())).bind _ = _
   rw [h3]
   kernel_rfl
  ·rw [Q7n he, cond_false]
   have hsz : 1 ≤ name.size := by
    rcases Nat.lt_or_ge name.size 1 with h | h
    ·exfalso
     apply he
     have h0 : name.size = 0 := by omega
     cases name with
     | mk d => 
      congr 1
      apply Array.eq_empty_of_size_eq_zero
      exact h0
    ·exact h
   show (Q0.l1 KK KK (name, s, 70, decide ((name.size : Int) > 28), (name.size : Int), 0, dk 0 false, [], [], ())).bind _ = _
   rw [fin _ (by
    by_cases h28 : name.size > 28
    ·rw [decide_eq_true (by omega)]; rfl
    ·have := hbad.resolve_left h28
     unfold Q2j at this
     rw [decide_eq_true (by omega), Bool.true_and] at this
     rw [Q63, this]
     simp)]
   simp only [Option.bind_some]
   show (Q0.p2 KK (name, s, 70, true, dk 0 false, [], [], ())).bind _ = _
   rw [h2]
   simp only [Option.bind_some]
   show (Q0.p3 KK (name, s, true, dk 0 false, [], [], ())).bind _ = _
   rw [h3]
   kernel_rfl
end Go.Am
