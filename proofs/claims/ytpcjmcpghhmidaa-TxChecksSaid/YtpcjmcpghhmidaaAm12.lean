/- A part of a proof: a machine of abstract values that tells what functions of the program compute, and the plain facts on them. -/
import Derived.Test.YtpcjmcpghhmidaaAm10
import Derived.Test.YtpcjmcpghhmidaaAm11
import Derived.KernelRfl
set_option linter.unusedVariables false
set_option linter.unusedSimpArgs false
set_option linter.unnecessarySimpa false
set_option linter.unusedSectionVars false
namespace Go.Am
open Go
def Q1d (n : Int) : Int := if n < 253 then 1 else if n < 65536 then 3 else if n < 4294967296 then 5 else 9
def Q17 (n : Int) : List Int := if n < 253 then lowI n 1 else if n < 65536 then 253 :: lowI n 2 else if n < 4294967296 then 254 :: lowI n 4 else 255 :: lowI n 8
theorem Q1Y (n : Int) : ((Q17 n).length : Int) = Q1d n := by
 unfold Q17 Q1d
 split
 ·simp [Q0B]
 ·split
  ·simp [Q0B]
  ·split <;> simp [Q0B]
theorem Q5q (n : Int) : Q1j (Q17 n) := by
 have cons : ∀ (x : Int) l, 0 ≤ x ∧ x < 256 → Q1j l → Q1j (x :: l) := fun x l h h2 y hy => by
  rcases List.mem_cons.1 hy with rfl | hy
  ·exact h
  ·exact h2 y hy
 unfold Q17
 split
 ·exact Q3j _ _
 ·split
  ·exact cons _ _ (by omega) (Q3j _ _)
  ·split <;> exact cons _ _ (by omega) (Q3j _ _)
theorem Q24 (k : Nat) (n : Int) : Q0h k n = some (Q1d n, ()) := by
 unfold Q0h Q0h.c Q1d
 by_cases h1 : n < 253
 ·rw [decide_eq_true h1, if_pos h1]; rfl
 ·rw [decide_eq_false h1, if_neg h1, cond_false]
  by_cases h2 : n < 65536
  ·rw [decide_eq_true h2, if_pos h2]; rfl
  ·rw [decide_eq_false h2, if_neg h2, cond_false]
   by_cases h3 : n < 4294967296
   ·rw [decide_eq_true h3, if_pos h3]; rfl
   ·rw [decide_eq_false h3, if_neg h3, cond_false]
theorem lay1 {k : Nat} (hk : 9 ≤ k) (x : Int) (hx : 0 ≤ x ∧ x < 256) : Q0r k x 1 = some (bytesOf [x], ()) := by
 have := Q2M hk x 1 (by omega)
 simp only [lowI, show x % 256 = x by omega] at this
 exact this
theorem Qat {k : Nat} (hk : 9 ≤ k) (n : Int) : Q0S k n = some (bytesOf (Q17 n), ()) := by
 unfold Q0S Q0S.c
 rw [Q24]
 simp only [Option.bind_some]
 unfold Q1d Q17
 have l2 := Q2M hk n 2 (by omega)
 have l4 := Q2M hk n 4 (by omega)
 have l8 := Q2M hk n 8 (by omega)
 have hb : ∀ (x : Int) (j : Nat), j ≤ 8 → Nat.ble ((bytesOf [x]).size + (bytesOf (lowI n j)).size) 9223372036854775807 = true := fun x j hj => Q1p (by rw [Q0A, Q0A, Q0B]; simp; omega)
 split
 ·show (bif true then _ else _) = _
  have := Q2M hk n 1 (by omega)
  rw [cond_true]
  show (Q0r k n ((1 : Nat) : Int)).bind _ = _
  rw [this]; rfl
 ·split
  ·show (Q0r k 253 1).bind _ = _
   rw [lay1 hk 253 (by omega)]
   show (Q0r k n ((2 : Nat) : Int)).bind _ = _
   rw [l2]
   simp only [Option.bind_some, hb 253 2 (by omega), cond_true, Q0W, List.singleton_append]
  ·split
   ·show (Q0r k 254 1).bind _ = _
    rw [lay1 hk 254 (by omega)]
    show (Q0r k n ((4 : Nat) : Int)).bind _ = _
    rw [l4]
    simp only [Option.bind_some, hb 254 4 (by omega), cond_true, Q0W, List.singleton_append]
   ·show (Q0r k 255 1).bind _ = _
    rw [lay1 hk 255 (by omega)]
    show (Q0r k n ((8 : Nat) : Int)).bind _ = _
    rw [l8]
    simp only [Option.bind_some, hb 255 8 (by omega), cond_true, Q0W, List.singleton_append]
def Qaz (s : ByteArray) (a : Int) : Int × Int × Int × Unit :=
 if a < 0 ∨ a > s.size then (0, 0, 1, ()) else
  match (QB s).drop a.toNat with
  | [] => (0, 0, 4, ())
  | b :: l =>
   if b < 253 then (b, a + 1, 0, ()) else
    let m : Nat := if b = 253 then 2 else if b = 254 then 4 else 8
    if l.length < m then (0, 0, 4, ()) else
     let n := leI (l.take m)
     if Q1d n = 1 + m then (n, a + (1 + m), 0, ()) else (0, 0, 6, ())
theorem QdH (k : Nat) (s : ByteArray) (a : Int) : QE.p0 k (s, a, ()) = some (if a < 0 ∨ a > (s.size : Int) then .inl (0, 0, 1, ()) else .inr (s, a, ())) := by
 unfold QE.p0
 simp only [QE.p0.r]
 by_cases h1 : a < 0
 ·rw [Qy h1, if_pos (.inl h1)]
 ·rw [Q0I h1]
  by_cases h2 : a > (s.size : Int)
  ·rw [Qy h2, if_pos (.inr h2)]
  ·rw [Q0I h2, if_neg (by omega)]
theorem Q6O {k : Nat} (hk : 9 ≤ k) (s : ByteArray) (a : Int) (hs : s.size ≤ 9223372036854775807) : QE k s a = some (Qaz s a) := by
 unfold QE QE.c Qaz
 rw [QdH]
 by_cases h0 : a < 0 ∨ a > (s.size : Int)
 ·rw [if_pos h0, if_pos h0]; rfl
 rw [if_neg h0, if_neg h0]
 simp only [Option.bind_some]
 rw [decide_eq_true (by omega), cond_true]
 have he : QB (s.extract a.toNat ((s.size : Nat) : Int).toNat) = (QB s).drop a.toNat := by
  rw [Q2h, List.take_of_length_le]
  rw [List.length_drop, Q0i]; omega
 generalize hv : s.extract a.toNat ((s.size : Nat) : Int).toNat = v at he ⊢
 rw [← he]
 have hsz := Q0i v
 have hlen : v.size = s.size - a.toNat := by rw [← hsz, he, List.length_drop, Q0i]
 have hat := Q3e v 0
 have hrng := Q2y v 0
 generalize hl : QB v = l at hsz hat ⊢
 cases l with
 | nil =>
  have : v = ⟨List.toArray []⟩ := Q54 (by rw [hl]; rfl)
  rw [this]; dsimp only; rw [Q4j]; rfl
 | cons b l =>
  have hne : Q25 v ⟨List.toArray []⟩ = false := Q7I fun e => by rw [e] at hl; cases hl
  simp only [List.length_cons] at hsz
  simp only [List.getD_cons_zero] at hat
  dsimp only
  rw [hne, cond_false, decide_eq_true (by omega), cond_true, hat]
  rw [hat] at hrng
  by_cases h3 : b < 253
  ·rw [decide_eq_true h3, if_pos h3, cond_true, cond_true, i64_in (by omega), u64_in (by omega)]
  rw [decide_eq_false h3, if_neg h3, cond_false, cond_true]
  have key : ∀ (m : Nat), m ≤ 8 → 1 ≤ m → Q27 IntKind.i64 2 (IntKind.u8.wrap (b - 253)) = (m : Int) → 0 ≤ IntKind.u8.wrap (b - 253) →
    (bif decide ((0 : Int) ≤ IntKind.u8.wrap (b - 253)) then
     (bif decide (((v.size : Nat) : Int) < IntKind.i64.wrap (1 + Q27 IntKind.i64 2 (IntKind.u8.wrap (b - 253)))) then some ((0 : Int), (0 : Int), (4 : Int), ()) else
      (bif decide ((0 : Int) ≤ 1 ∧ (1 : Int) ≤ IntKind.i64.wrap (1 + Q27 IntKind.i64 2 (IntKind.u8.wrap (b - 253))) ∧ IntKind.i64.wrap (1 + Q27 IntKind.i64 2 (IntKind.u8.wrap (b - 253))) ≤ ((v.size : Nat) : Int)) then
       (Q0l k (v.extract 1 (IntKind.i64.wrap (1 + Q27 IntKind.i64 2 (IntKind.u8.wrap (b - 253)))).toNat)).bind fun t5 => (Q0h k t5.1).bind fun t6 =>
        bif t6.1 != IntKind.i64.wrap (1 + Q27 IntKind.i64 2 (IntKind.u8.wrap (b - 253))) then some ((0 : Int), (0 : Int), (6 : Int), ()) else
         some (t5.1, IntKind.i64.wrap (a + IntKind.i64.wrap (1 + Q27 IntKind.i64 2 (IntKind.u8.wrap (b - 253)))), (0 : Int), ())
      else none)) else none) =
    some (if l.length < m then (0, 0, 4, ()) else if Q1d (leI (l.take m)) = 1 + m then (leI (l.take m), a + (1 + m), 0, ()) else (0, 0, 6, ())) := by
   intro m hm hm1 e1 e2
   rw [e1, decide_eq_true e2, cond_true, i64_in (by omega)]
   by_cases h4 : l.length < m
   ·rw [if_pos h4, decide_eq_true (by omega), cond_true]
   ·rw [if_neg h4, decide_eq_false (by omega), cond_false, decide_eq_true (by omega), cond_true]
    have hx : QB (v.extract 1 (1 + (m : Int)).toNat) = l.take m := by
     rw [Q2h, hl, List.drop_succ_cons, List.drop_zero]
     congr 1; omega
    have hxs : (v.extract 1 (1 + (m : Int)).toNat).size = m := by
     rw [← Q0i, hx, List.length_take]; omega
    rw [Q7p hk _ (by omega), hx]
    simp only [Option.bind_some, Q24]
    by_cases h5 : Q1d (leI (l.take m)) = 1 + (m : Int)
    ·rw [if_pos h5, h5, bne_self_eq_false, cond_false, i64_in (by omega)]
    ·rw [if_neg h5]
     have : (Q1d (leI (l.take m)) != 1 + (m : Int)) = true := by simpa using h5
     rw [this, cond_true]
  have hb : b = 253 ∨ b = 254 ∨ b = 255 := by omega
  rcases hb with rfl | rfl | rfl
  ·exact key 2 (by omega) (by omega) (by decide) (by decide)
  ·exact key 4 (by omega) (by omega) (by decide) (by decide)
  ·exact key 8 (by omega) (by omega) (by decide) (by decide)
theorem Q5u (n : Int) : (Q17 n).length ≤ 9 := by
 have h := Q1Y n
 unfold Q1d at h
 split at h
 ·omega
 ·split at h
  ·omega
  ·split at h <;> omega
theorem QfQ {k : Nat} (hk : 9 ≤ k) {r : Rd} (h : RdOK r) : Q0t k r = some (numS r 4, (Q2T r 4).1, ()) := by
 unfold Q0t Q0t.c
 show (QV k 4 r).bind _ = _
 rw [QaT k h]
 simp only [Option.bind_some]
 rw [show (4 : Int) = ((4 : Nat) : Int) from rfl, Q8d hk h 4 (by omega)]
 have := QeG h 4
 simp only [Option.bind_some]
 rw [Q3N (by omega)]
end Go.Am
namespace Go.Am
open Go
abbrev Tk : Type := ByteArray × Int × Int × Int × Unit
def TkOK (x : Tk) : Prop := x.1.size ≤ 4611686018427387904 ∧ 0 ≤ x.2.1 ∧ x.2.1 ≤ x.2.2.1 ∧ x.2.2.1 ≤ (x.1.size : Int)
abbrev eb : ByteArray := ⟨List.toArray []⟩
def QC (x : Tk) (n : Int) : Tk × ByteArray :=
 if x.2.2.2.1 ≠ 0 then (x, eb) else
 if n > 4096 - (x.2.2.1 - x.2.1) then ((x.1, x.2.1, x.2.2.1, 101, ()), eb) else
 if n > (x.1.size : Int) - x.2.2.1 then ((x.1, x.2.1, x.2.2.1, 4, ()), eb) else
 ((x.1, x.2.1, x.2.2.1 + n, x.2.2.2.1, ()), x.1.extract x.2.2.1.toNat (x.2.2.1 + n).toNat)
theorem Q0H {x : Tk} (h : TkOK x) {n : Int} (hn : 0 ≤ n) : TkOK (QC x n).1 ∧ (QC x n).1.1 = x.1 ∧ (QC x n).1.2.1 = x.2.1 := by
 obtain ⟨h1, h2, h3, h4⟩ := h
 unfold QC
 split
 ·exact ⟨⟨h1, h2, h3, h4⟩, rfl, rfl⟩
 ·split
  ·exact ⟨⟨h1, h2, h3, h4⟩, rfl, rfl⟩
  ·split
   ·exact ⟨⟨h1, h2, h3, h4⟩, rfl, rfl⟩
   ·exact ⟨⟨h1, h2, by dsimp only; omega, by dsimp only; omega⟩, rfl, rfl⟩
theorem Q7t {x : Tk} {n : Int} (he : (QC x n).1.2.2.2.1 ≠ 0) : (QC x n).2 = eb := by
 unfold QC at *
 split
 ·rfl
 ·rename_i h0
  rw [if_neg h0] at he
  split
  ·rfl
  ·rename_i h1
   rw [if_neg h1] at he
   split
   ·rfl
   ·rename_i h2
    rw [if_neg h2] at he
    exact absurd he h0
theorem Q2b {x : Tk} (h : TkOK x) {n : Int} (hn : 0 ≤ n) (he : (QC x n).1.2.2.2.1 = 0) :
  x.2.2.2.1 = 0 ∧ (QC x n).1 = (x.1, x.2.1, x.2.2.1 + n, 0, ()) ∧ n ≤ 4096 - (x.2.2.1 - x.2.1) ∧ n ≤ (x.1.size : Int) - x.2.2.1 ∧ QB (QC x n).2 = ((QB x.1).drop x.2.2.1.toNat).take n.toNat := by
 obtain ⟨h1, h2, h3, h4⟩ := h
 unfold QC at *
 by_cases c0 : x.2.2.2.1 ≠ 0
 ·rw [if_pos c0] at he; exact absurd he c0
 ·rw [if_neg c0] at he ⊢
  have c0' : x.2.2.2.1 = 0 := by simpa using c0
  by_cases c1 : n > 4096 - (x.2.2.1 - x.2.1)
  ·rw [if_pos c1] at he; simp at he
  ·rw [if_neg c1] at he ⊢
   by_cases c2 : n > (x.1.size : Int) - x.2.2.1
   ·rw [if_pos c2] at he; simp at he
   ·rw [if_neg c2]
    refine ⟨c0', by rw [c0'], by omega, by omega, ?_⟩
    rw [Q2h]
    congr 1
    omega
theorem Q2d {x : Tk} (h : TkOK x) {n : Int} (hn : 0 ≤ n) : (QC x n).2.size = 0 ∨ (QC x n).2.size = n.toNat := by
 by_cases he : (QC x n).1.2.2.2.1 = 0
 ·right
  obtain ⟨_, _, _, hl, hb⟩ := Q2b h hn he
  have := congrArg List.length hb
  rw [Q0i, List.length_take, List.length_drop, Q0i] at this
  have := h.2.1
  have := h.2.2.1
  omega
 ·left; rw [Q7t he]; rfl
theorem Q2S (k : Nat) {x : Tk} (h : TkOK x) {n : Int} (hn : 0 ≤ n ∧ n ≤ 1099511627776) : QU k n x = some ((QC x n).2, (QC x n).1, ()) := by
 obtain ⟨s, f, a, e, u⟩ := x
 obtain ⟨h1, h2, h3, h4⟩ := h
 dsimp only at h1 h2 h3 h4
 unfold QU QU.c QC
 dsimp only
 by_cases c0 : e ≠ 0
 ·rw [if_pos c0, QR (by simpa using c0)]
 ·rw [if_neg c0, Q0v (by simpa using c0), i64_in (n := a - f) (by omega), i64_in (n := 4096 - (a - f)) (by omega)]
  by_cases c1 : n > 4096 - (a - f)
  ·rw [if_pos c1, Qy c1]
  ·rw [if_neg c1, Q0I c1, i64_in (n := (s.size : Int) - a) (by omega)]
   by_cases c2 : n > (s.size : Int) - a
   ·rw [if_pos c2, Qy c2]
   ·rw [if_neg c2, Q0I c2, i64_in (n := a + n) (by omega), i64_in (n := a + n - n) (by omega), Qy (by omega), show a + n - n = a by omega]
theorem Q36 (k : Nat) {x : Tk} (h : TkOK x) {n : Int} (hn : 0 ≤ n ∧ n ≤ 1099511627776) : QK k x n = some ((QC x n).1, (QC x n).2, ()) := by
 obtain ⟨s, f, a, e, u⟩ := x
 obtain ⟨h1, h2, h3, h4⟩ := h
 dsimp only at h1 h2 h3 h4
 unfold QK QK.c QC
 dsimp only
 by_cases c0 : e ≠ 0
 ·rw [if_pos c0, QR (by simpa using c0)]
 ·rw [if_neg c0, Q0v (by simpa using c0), i64_in (n := a - f) (by omega), i64_in (n := a - f + n) (by omega)]
  by_cases c1 : n > 4096 - (a - f)
  ·rw [if_pos c1, Qy (by omega)]
  ·rw [if_neg c1, Q0I (by omega), i64_in (n := (s.size : Int) - a) (by omega)]
   by_cases c2 : n > (s.size : Int) - a
   ·rw [if_pos c2, Qy (by omega)]
   ·rw [if_neg c2, Q0I (by omega), i64_in (n := a + n) (by omega), i64_in (n := a + n - n) (by omega), Qy (by omega), show a + n - n = a by omega]
def Q08 (x : Tk) (n : Int) : Tk × Int := ((QC x n).1, leI (QB (QC x n).2))
theorem Q2R {x : Tk} (h : TkOK x) {n : Nat} : 0 ≤ (Q08 x n).2 ∧ (Q08 x n).2 < 256 ^ n := by
 have hs := Q2d h (n := (n : Int)) (by omega)
 exact QaA (Q2a _) (by rw [Q0i]; omega)
theorem Q9S {b : ByteArray} {n : Nat} (h : b.size = 0 ∨ b.size = n) (hn : 0 < n) : numS (b, 0, 0, ()) (n : Int) = leI (QB b) := by
 unfold numS Q2T
 dsimp only
 rw [if_neg (by simp), if_neg (by omega)]
 rcases h with h | h
 ·rw [if_pos (by omega)]
  have : QB b = [] := List.eq_nil_of_length_eq_zero (by rw [Q0i]; exact h)
  rw [this]
  rfl
 ·rw [if_neg (by omega)]
  dsimp only
  rw [Q2h, show (0 : Int).toNat = 0 from rfl, List.drop_zero, List.take_of_length_le (by rw [Q0i]; omega)]
theorem Q5l {k : Nat} (hk : 9 ≤ k) {x : Tk} (h : TkOK x) : Q0u k x = some ((Q08 x 4).2, (Q08 x 4).1, ()) := by
 unfold Q0u Q0u.c
 show (QU k 4 x).bind _ = _
 rw [Q2S k h (by omega)]
 simp only [Option.bind_some]
 have hs := Q2d h (n := 4) (by omega)
 rw [show Q07 k (QC x 4).2 = some (((QC x 4).2, 0, 0, ()), ()) from rfl]
 simp only [Option.bind_some]
 have hnf := Q9S (n := 4) hs (by omega)
 rw [QfQ hk ⟨by dsimp only; omega, by dsimp only; omega, by dsimp only; omega⟩, show numS ((QC x 4).2, 0, 0, ()) 4 = leI (QB (QC x 4).2) from hnf]
 rfl
theorem Q6m (k : Nat) (s : ByteArray) (hs : s.size ≤ 8) (r z : Tk) {fuel : Nat} (hf : s.size < fuel) :
  Qf.l0 k fuel (s, (0 : Int), (s.size : Int) - 1, r, z, ()) = some (leI (QB s), r, z, ()) := by
 have hl := Q0i s
 have := Q0V (r := Qf.l0.r k) (fun i => (s, leI ((QB s).drop (s.size - i)), (s.size : Int) - 1 - (i : Int), r, z, ())) s.size (leI (QB s), r, z, ()) ?_ ?_ hf
 ·have e0 : leI ((QB s).drop (s.size - 0)) = 0 := by rw [List.drop_eq_nil_of_le (by omega)]; rfl
  rw [e0] at this
  rw [show (s.size : Int) - 1 = (s.size : Int) - 1 - ((0 : Nat) : Int) by omega]
  exact this
 ·intro i hi kn ke
  simp only [Qf.l0.r]
  have hd : (QB s).drop (s.size - (i + 1)) = Q1e s (s.size - (i + 1)) :: (QB s).drop (s.size - i) := by
   rw [List.drop_eq_getElem_cons (by omega), show s.size - (i + 1) + 1 = s.size - i by omega, Q3e, List.getD_eq_getElem?_getD, List.getElem?_eq_getElem (by omega)]
   rfl
  have hr := Q3A (xs := (QB s).drop (s.size - i)) (fun x hx => Q2a s x (List.mem_of_mem_drop hx))
  rw [List.length_drop, hl] at hr
  have hb := Q2y s (s.size - (i + 1))
  have hr2 := QaA (l := (QB s).drop (s.size - (i + 1))) (fun x hx => Q2a s x (List.mem_of_mem_drop hx)) (m := 8) (by rw [List.length_drop, hl]; omega)
  have h8 : (256 : Int) ^ 8 = 18446744073709551616 := by decide
  rw [h8] at hr2
  rw [hd] at hr2
  simp only [leI] at hr2
  rw [Qy (by omega), Qy (by omega), show ((s.size : Int) - 1 - (i : Int)).toNat = s.size - (i + 1) by omega, u64_in (n := 256 * leI ((QB s).drop (s.size - i))) (by omega), u64_in (n := Q1e s (s.size - (i + 1))) (by omega),
   u64_in (n := 256 * leI ((QB s).drop (s.size - i)) + Q1e s (s.size - (i + 1))) (by omega), i64_in (by omega), hd]
  simp only [leI]
  rw [Int.add_comm, show (s.size : Int) - 1 - (i : Int) - 1 = (s.size : Int) - 1 - ((i + 1 : Nat) : Int) by omega]
 ·intro kn ke
  simp only [Qf.l0.r]
  rw [Q0I (by omega), Nat.sub_self, List.drop_zero]
theorem Q1N {k : Nat} (hk : 9 ≤ k) {x : Tk} (h : TkOK x) {n : Nat} (hn : n ≤ 8) : Qf k x (n : Int) = some ((Q08 x n).1, (Q08 x n).2, ()) := by
 unfold Qf Qf.c
 show (QK k x (n : Int)).bind _ = _
 rw [Q36 k h (by omega)]
 simp only [Option.bind_some]
 have hs := Q2d h (n := (n : Int)) (by omega)
 rw [i64_in (by omega)]
 show (Qf.l0 k k ((QC x n).2, (0 : Int), ((QC x n).2.size : Int) - 1, (QC x n).1, _, ())).bind _ = _
 rw [Q6m k _ (by omega) _ _ (by omega)]
 rfl
theorem Q1P {k : Nat} (hk : 9 ≤ k) (n : Int) (hn : 0 ≤ n ∧ n ≤ 18446744073709551615) (b : Nat) (hb : b ≤ 8) : Qo k n (b : Int) = some (bytesOf (lowI n b), ()) := by
 unfold Qo Qo.c
 have hl : Qo.l0 k k (n, (b : Int), (0 : Int), List.replicate 0 (0 : Int), ()) = some (lowI n b, ()) := by
  have := Q0V (r := Qo.l0.r k) (fun i => (n / 256 ^ i, (b : Int), (i : Int), lowI n i, ())) b (lowI n b, ()) ?_ ?_ (fuel := k) (by omega)
  ·rw [Int.pow_zero, Int.ediv_one] at this
   exact this
  ·intro i hi kn ke
   simp only [Qo.l0.r]
   have hp : (0 : Int) < 256 ^ i := Int.pow_pos (by decide)
   have h0 : 0 ≤ n / 256 ^ i := Int.ediv_nonneg hn.1 (Int.le_of_lt hp)
   have h1 : n / 256 ^ i ≤ n := Int.ediv_le_self _ hn.1
   have hll := Q0B n i
   rw [Qy (by omega), Int.tmod_eq_emod_of_nonneg h0, Int.tdiv_eq_ediv_of_nonneg h0]
   have e1 : (List.set (List.replicate 1 (0 : Int)) 0 (IntKind.u8.wrap (n / 256 ^ i % 256))) = [n / 256 ^ i % 256] := by rw [u8_in (by omega)]; rfl
   rw [e1, QR (Q1p (by simp only [List.length_singleton]; omega)), ← Q79, u64_in (by omega), i64_in (by omega)]
   rw [show n / 256 ^ i / 256 = n / 256 ^ (i + 1) by rw [Int.pow_succ, Int.ediv_ediv_of_nonneg (Int.le_of_lt hp)]]
   rfl
  ·intro kn ke
   simp only [Qo.l0.r]
   rw [Q0I (by omega)]
 rw [hl]
 rfl
theorem Q2s {k : Nat} (hk : 9 ≤ k) (n : Int) (hn : 0 ≤ n ∧ n ≤ 18446744073709551615) : QS k n = some (bytesOf (Q17 n), ()) := by
 unfold QS QS.c Q17
 have l1 := Q1P hk n hn 1 (by omega)
 have l2 := Q1P hk n hn 2 (by omega)
 have l4 := Q1P hk n hn 4 (by omega)
 have l8 := Q1P hk n hn 8 (by omega)
 by_cases h1 : n < 253
 ·rw [Qy h1, if_pos h1, show (1 : Int) = ((1 : Nat) : Int) from rfl, l1]; rfl
 ·rw [Q0I h1, if_neg h1]
  by_cases h2 : n < 65536
  ·rw [Qy h2, if_pos h2, show (2 : Int) = ((2 : Nat) : Int) from rfl, l2]
   simp only [Option.bind_some]
   rw [QR (Q1p (by rw [Q0A, Q0B]; omega)), show (⟨(List.toArray [253])⟩ : ByteArray) = bytesOf [253] from rfl, Q0W]
   rfl
  ·rw [Q0I h2, if_neg h2]
   by_cases h3 : n < 4294967296
   ·rw [Qy h3, if_pos h3, show (4 : Int) = ((4 : Nat) : Int) from rfl, l4]
    simp only [Option.bind_some]
    rw [QR (Q1p (by rw [Q0A, Q0B]; omega)), show (⟨(List.toArray [254])⟩ : ByteArray) = bytesOf [254] from rfl, Q0W]
    rfl
   ·rw [Q0I h3, if_neg h3, show (8 : Int) = ((8 : Nat) : Int) from rfl, l8]
    simp only [Option.bind_some]
    rw [QR (Q1p (by rw [Q0A, Q0B]; omega)), show (⟨(List.toArray [255])⟩ : ByteArray) = bytesOf [255] from rfl, Q0W]
    rfl
end Go.Am
namespace Go.Am
open Go
def cm (b : Int) : Nat := if b = 253 then 2 else if b = 254 then 4 else if b = 255 then 8 else 0
theorem Qeo (b : Int) : cm b ≤ 8 := by unfold cm; split <;> (try split) <;> (try split) <;> omega
abbrev tkL (x : Tk) : List Int := (QB x.1).drop x.2.2.1.toNat
abbrev tkV (x : Tk) : Int := if cm ((tkL x).headD 0) = 0 then (tkL x).headD 0 else leI (((tkL x).drop 1).take (cm ((tkL x).headD 0)))
def QN (x : Tk) (most e : Int) : Tk × Int :=
 if x.2.2.2.1 ≠ 0 then (x, 0) else
 let y := (QC x (1 + (cm ((tkL x).headD 0) : Int))).1
 if y.2.2.2.1 ≠ 0 then (y, 0) else
 if Q1d (tkV x) ≠ 1 + (cm ((tkL x).headD 0) : Int) then ((y.1, y.2.1, y.2.2.1, 6, ()), 0) else
 if tkV x > most then ((y.1, y.2.1, y.2.2.1, e, ()), 0) else (y, tkV x)
theorem Q11 {x : Tk} (h : TkOK x) (most e : Int) : TkOK (QN x most e).1 ∧ (QN x most e).1.1 = x.1 ∧ (QN x most e).1.2.1 = x.2.1 := by
 unfold QN
 split
 ·exact ⟨h, rfl, rfl⟩
 ·obtain ⟨⟨h1, h2, h3, h4⟩, h5, h6⟩ := Q0H h (n := 1 + (cm ((tkL x).headD 0) : Int)) (by omega)
  dsimp only
  split
  ·exact ⟨⟨h1, h2, h3, h4⟩, h5, h6⟩
  ·split
   ·exact ⟨⟨h1, h2, h3, h4⟩, h5, h6⟩
   ·split
    ·exact ⟨⟨h1, h2, h3, h4⟩, h5, h6⟩
    ·exact ⟨⟨h1, h2, h3, h4⟩, h5, h6⟩
theorem Q2u {x : Tk} (h : TkOK x) : ((tkL x).length : Int) = (x.1.size : Int) - x.2.2.1 := by
 obtain ⟨h1, h2, h3, h4⟩ := h
 rw [List.length_drop, Q0i]; omega
theorem Qa8 (x : Tk) : Q1j (tkL x) := fun y hy => Q2a _ y (List.mem_of_mem_drop hy)
theorem Q4c {x : Tk} : 0 ≤ tkV x ∧ tkV x ≤ 18446744073709551615 := by
 unfold tkV
 have hh : 0 ≤ (tkL x).headD 0 ∧ (tkL x).headD 0 < 256 := by
  cases hc : tkL x with
  | nil => simp
  | cons b l => exact Qa8 x b (by rw [hc]; simp)
 split
 ·omega
 ·have := QaA (l := ((tkL x).drop 1).take (cm ((tkL x).headD 0))) (fun y hy => Qa8 x y (List.mem_of_mem_drop (List.mem_of_mem_take hy))) (m := 8) (by rw [List.length_take]; have := Qeo ((tkL x).headD 0); omega)
  have h8 : (256 : Int) ^ 8 = 18446744073709551616 := by decide
  omega
theorem Q13 {x : Tk} (most e : Int) (hm : 0 ≤ most) : 0 ≤ (QN x most e).2 ∧ (QN x most e).2 ≤ most := by
 have := Q4c (x := x)
 unfold QN
 dsimp only
 split
 ·exact ⟨Int.le_refl _, hm⟩
 ·split
  ·exact ⟨Int.le_refl _, hm⟩
  ·split
   ·exact ⟨Int.le_refl _, hm⟩
   ·split
    ·exact ⟨Int.le_refl _, hm⟩
    ·exact ⟨this.1, by omega⟩
theorem QbI {b : Int} (h : b < 253) : Q1d b = 1 := by unfold Q1d; rw [if_pos h]
theorem QaM {x : Tk} (h : TkOK x) {n : Nat} (he : (QC x (1 + (n : Int))).1.2.2.2.1 = 0) : ∃ b l, tkL x = b :: l ∧ n ≤ l.length ∧ (0 ≤ b ∧ b < 256) := by
 obtain ⟨_, _, _, h4, _⟩ := Q2b h (n := 1 + (n : Int)) (by omega) he
 have hl := Q2u h
 cases hc : tkL x with
 | nil => rw [hc] at hl; simp only [List.length_nil] at hl; omega
 | cons b l =>
  rw [hc] at hl
  simp only [List.length_cons] at hl
  exact ⟨b, l, rfl, by omega, Qa8 x b (by rw [hc]; simp)⟩
theorem Q5a {k : Nat} (hk : 9 ≤ k) {x : Tk} (h : TkOK x) {most e : Int} (hm : 0 ≤ most ∧ most ≤ 4096) : Qt k most e x = some ((QN x most e).2, (QN x most e).1, ()) := by
 unfold Qt Qt.c
 by_cases c0 : x.2.2.2.1 ≠ 0
 ·have hp : Qt.p0 k (most, e, (1 : Int), x, ()) = some (most, e, (1 : Int), x, ()) := by
   unfold Qt.p0
   simp only [Qt.p0.r]
   rw [Q0v (by simpa using c0)]
  have hb : QC x 1 = (x, eb) := by unfold QC; rw [if_pos c0]
  show (Qt.p0 k (most, e, (1 : Int), x, ())).bind _ = _
  rw [hp]
  simp only [Option.bind_some]
  show (QU k 1 x).bind _ = _
  rw [Q2S k h (by omega), hb]
  simp only [Option.bind_some]
  rw [QR (by simpa using c0)]
  unfold QN
  rw [if_pos c0]
 ·have c0' : x.2.2.2.1 = 0 := by simpa using c0
  obtain ⟨h1, h2, h3, h4⟩ := h
  have h : TkOK x := ⟨h1, h2, h3, h4⟩
  have hlen := Q2u h
  have hp : Qt.p0 k (most, e, (1 : Int), x, ()) = some (most, e, 1 + (cm ((tkL x).headD 0) : Int), x, ()) := by
   unfold Qt.p0
   simp only [Qt.p0.r]
   rw [QR (by simpa using c0')]
   by_cases c1 : x.2.2.1 < (x.1.size : Int)
   ·have hb : Q1e x.1 x.2.2.1.toNat = (tkL x).headD 0 := by
     rw [Q3e]
     cases hc : tkL x with
     | nil => rw [hc] at hlen; simp only [List.length_nil] at hlen; omega
     | cons b l =>
      have := congrArg (·[0]?) hc
      simp only [List.getElem?_drop, Nat.add_zero, List.getElem?_cons_zero] at this
      rw [List.getD_eq_getElem?_getD, this]
      rfl
    rw [Qy c1, Qy (by omega), hb]
    unfold cm
    by_cases e1 : (tkL x).headD 0 = 253
    ·rw [QR (by simpa using e1), if_pos e1]; rfl
    ·rw [Q0v (by simpa using e1), if_neg e1]
     by_cases e2 : (tkL x).headD 0 = 254
     ·rw [QR (by simpa using e2), if_pos e2]; rfl
     ·rw [Q0v (by simpa using e2), if_neg e2]
      by_cases e3 : (tkL x).headD 0 = 255
      ·rw [QR (by simpa using e3), if_pos e3]; rfl
      ·rw [Q0v (by simpa using e3), if_neg e3]; rfl
   ·have : tkL x = [] := List.eq_nil_of_length_eq_zero (by omega)
    rw [Q0I c1, this]
    rfl
  show (Qt.p0 k (most, e, (1 : Int), x, ())).bind _ = _
  rw [hp]
  simp only [Option.bind_some]
  have hcm := Qeo ((tkL x).headD 0)
  show (QU k (1 + (cm ((tkL x).headD 0) : Int)) x).bind _ = _
  rw [Q2S k h (by omega)]
  simp only [Option.bind_some]
  unfold QN
  rw [if_neg c0]
  dsimp only
  by_cases c2 : (QC x (1 + (cm ((tkL x).headD 0) : Int))).1.2.2.2.1 ≠ 0
  ·rw [if_pos c2, QR (by simpa using c2)]
  ·have c2' : (QC x (1 + (cm ((tkL x).headD 0) : Int))).1.2.2.2.1 = 0 := by simpa using c2
   rw [if_neg c2, Q0v (by simpa using c2')]
   obtain ⟨_, f1, f2, f3, f4⟩ := Q2b h (n := 1 + (cm ((tkL x).headD 0) : Int)) (by omega) c2'
   obtain ⟨b, l, g1, g2, g3⟩ := QaM h c2'
   have hc : cm ((tkL x).headD 0) = cm b := by rw [g1]; rfl
   have g2' : cm b ≤ l.length := by rw [← hc]; exact g2
   rw [Q6O hk _ _ (by have := Q2d h (n := 1 + (cm ((tkL x).headD 0) : Int)) (by omega); omega)]
   simp only [Option.bind_some]
   have hV : tkV x = if cm b = 0 then b else leI (l.take (cm b)) := by unfold tkV; rw [g1]; rfl
   have f4' : QB (QC x (1 + (cm ((tkL x).headD 0) : Int))).2 = b :: l.take (cm b) := by
    rw [f4]
    show List.take _ (tkL x) = _
    rw [g1, show ((1 : Int) + (cm ((b :: l).headD 0) : Int)).toNat = cm b + 1 by simp only [List.headD_cons]; omega]
    rfl
   have hT : Qaz (QC x (1 + (cm ((tkL x).headD 0) : Int))).2 0 = (if Q1d (tkV x) = 1 + (cm b : Int) then (tkV x, 1 + (cm b : Int), 0, ()) else (0, 0, 6, ())) := by
    unfold Qaz
    rw [if_neg (by omega), show (0 : Int).toNat = 0 from rfl, List.drop_zero, f4']
    dsimp only
    by_cases c3 : b < 253
    ·have : cm b = 0 := by unfold cm; rw [if_neg (by omega), if_neg (by omega), if_neg (by omega)]
     rw [if_pos c3, hV, this, if_pos rfl, QbI c3]
     rfl
    ·rw [if_neg c3]
     have e0 : (if b = 253 then 2 else if b = 254 then 4 else 8) = cm b ∧ cm b ≠ 0 := by
      unfold cm
      by_cases e1 : b = 253
      ·rw [if_pos e1, if_pos e1]; exact ⟨rfl, by decide⟩
      ·rw [if_neg e1, if_neg e1]
       by_cases e2 : b = 254
       ·rw [if_pos e2, if_pos e2]; exact ⟨rfl, by decide⟩
       ·rw [if_neg e2, if_neg e2, if_pos (show b = 255 by omega)]; exact ⟨rfl, by decide⟩
     rw [e0.1, if_neg (by rw [List.length_take]; omega), hV, if_neg e0.2, List.take_of_length_le (by rw [List.length_take]; omega)]
     simp only [Int.zero_add]
   rw [hT]
   rw [hc]
   by_cases c4 : Q1d (tkV x) = 1 + (cm b : Int)
   ·rw [if_pos c4, if_neg (by simpa using c4)]
    dsimp only
    rw [show ((0 : Int) != 0) = false from rfl, cond_false, u64_in (by omega)]
    by_cases c5 : tkV x > most
    ·rw [Qy c5, if_pos c5]
    ·have := Q4c (x := x)
     rw [Q0I c5, if_neg c5, i64_in (by omega)]
   ·rw [if_neg c4, if_pos c4]
    rfl
theorem Q31 {k : Nat} (hk : 9 ≤ k) {x : Tk} (h : TkOK x) {most e : Int} (hm : 0 ≤ most ∧ most ≤ 4096) : Q7 k x most e = some ((QN x most e).1, (QN x most e).2, ()) := by
 unfold Q7 Q7.c
 have hnum := Q1N hk h (n := 1) (by omega)
 show (Qf k x ((1 : Nat) : Int)).bind _ = _
 rw [hnum]
 simp only [Option.bind_some]
 have hp0 : ∀ (v : Int) (y z : Tk), Q7.p0 k (most, e, v, v, (0 : Int), y, z, x, ()) = some (most, e, v, (cm v : Int), y, z, x, ()) := by
  intro v y z
  unfold Q7.p0 cm
  simp only [Q7.p0.r]
  by_cases e1 : v = 253
  ·rw [QR (by simpa using e1), if_pos e1]; rfl
  ·rw [Q0v (by simpa using e1), if_neg e1]
   by_cases e2 : v = 254
   ·rw [QR (by simpa using e2), if_pos e2]; rfl
   ·rw [Q0v (by simpa using e2), if_neg e2]
    by_cases e3 : v = 255
    ·rw [QR (by simpa using e3), if_pos e3]; rfl
    ·rw [Q0v (by simpa using e3), if_neg e3]; rfl
 show (Q7.p0 k (most, e, (Q08 x 1).2, (Q08 x 1).2, (0 : Int), (Q08 x 1).1, _, x, ())).bind _ = _
 rw [hp0]
 simp only [Option.bind_some]
 obtain ⟨h1, h2, h3, h4⟩ := h
 have h : TkOK x := ⟨h1, h2, h3, h4⟩
 have hlen := Q2u h
 have hxe : x = (x.1, x.2.1, x.2.2.1, x.2.2.2.1, ()) := rfl
 by_cases ce : (QC x 1).1.2.2.2.1 ≠ 0
 ·-- the first byte is not there
  have hv : (Q08 x 1).2 = 0 := by unfold Q08; dsimp only; rw [Q7t ce]; rfl
  have hat : (QC x 1).1 = (x.1, x.2.1, x.2.2.1, (QC x 1).1.2.2.2.1, ()) := by
   unfold QC at ce ⊢
   split
   ·rfl
   ·rename_i c0
    rw [if_neg c0] at ce
    split
    ·rfl
    ·rename_i c1
     rw [if_neg c1] at ce
     split
     ·rfl
     ·rename_i c2
      rw [if_neg c2] at ce
      exact absurd ce (by simpa using c0)
  have hres : QN x most e = ((QC x 1).1, 0) := by
   unfold QN
   by_cases c0 : x.2.2.2.1 ≠ 0
   ·rw [if_pos c0]
    unfold QC
    rw [if_pos c0]
   ·rw [if_neg c0]
    have hb : (QC x (1 + (cm ((tkL x).headD 0) : Int))).1 = (QC x 1).1 := by
     unfold QC at ce ⊢
     rw [if_neg c0] at ce ⊢
     rw [if_neg c0]
     by_cases c1 : (1 : Int) > 4096 - (x.2.2.1 - x.2.1)
     ·rw [if_pos c1, if_pos (by omega)]
     ·rw [if_neg c1] at ce ⊢
      by_cases c2 : (1 : Int) > (x.1.size : Int) - x.2.2.1
      ·have : tkL x = [] := List.eq_nil_of_length_eq_zero (by omega)
       have hc0 : cm ((tkL x).headD 0) = 0 := by rw [this]; rfl
       rw [hc0, if_pos c2]
       simp only [Int.ofNat_zero, Int.cast_ofNat_Int, Int.add_zero]
       rw [if_neg c1, if_pos c2]
      ·rw [if_neg c2] at ce
       exact absurd ce (by simpa using c0)
    dsimp only
    rw [hb, if_pos ce]
  have hp1 : Q7.p1 k (most, e, (Q08 x 1).2, (cm (Q08 x 1).2 : Int), (Q08 x 1).1, (eb, 0, 0, 0, ()), x, ()) = some (most, e, (Q08 x 1).2, (cm (Q08 x 1).2 : Int), (Q08 x 1).1, (eb, 0, 0, 0, ()), x, ()) := by
   unfold Q7.p1
   simp only [Q7.p1.r]
   rw [hv]
   rfl
  show (Q7.p1 k (most, e, (Q08 x 1).2, (cm (Q08 x 1).2 : Int), (Q08 x 1).1, (eb, 0, 0, 0, ()), x, ())).bind _ = _
  rw [hp1]
  simp only [Option.bind_some]
  rw [QR (show ((Q08 x 1).1.2.2.2.1 != 0) = true by simpa [Q08] using ce), hres]
  show some (((QC x 1).1.1, (QC x 1).1.2.1, x.2.2.1, (QC x 1).1.2.2.2.1, ()), (0 : Int), ()) = _
  rw [hat]
 ·have ce' : (QC x 1).1.2.2.2.1 = 0 := by simpa using ce
  obtain ⟨z0, z1, z2, z3, z4⟩ := Q2b h (n := 1) (by omega) ce'
  obtain ⟨b, l, g1, _, g3⟩ := QaM h (n := 0) (by simpa using ce')
  have hv : (Q08 x 1).2 = b := by
   unfold Q08
   dsimp only
   rw [z4]
   show leI (List.take _ (tkL x)) = b
   rw [g1]
   simp [leI]
  have hh : (tkL x).headD 0 = b := by rw [g1]; rfl
  have hy : (Q08 x 1).1 = (x.1, x.2.1, x.2.2.1 + 1, 0, ()) := z1
  rw [hv, hy]
  have hyok : TkOK (x.1, x.2.1, x.2.2.1 + 1, 0, ()) := ⟨h1, h2, by dsimp only; omega, by dsimp only; omega⟩
  have hcm := Qeo b
  have hp1 : Q7.p1 k (most, e, b, (cm b : Int), (x.1, x.2.1, x.2.2.1 + 1, 0, ()), (eb, 0, 0, 0, ()), x, ()) =
    some (most, e, (if cm b = 0 then b else (Q08 (x.1, x.2.1, x.2.2.1 + 1, 0, ()) (cm b)).2), (cm b : Int), (if cm b = 0 then (x.1, x.2.1, x.2.2.1 + 1, 0, ()) else (Q08 (x.1, x.2.1, x.2.2.1 + 1, 0, ()) (cm b)).1), (eb, 0, 0, 0, ()), x, ()) := by
   unfold Q7.p1
   simp only [Q7.p1.r]
   by_cases c : cm b = 0
   ·rw [Q0I (by omega), if_pos c, if_pos c]
   ·rw [Qy (by omega), if_neg c, if_neg c, Q1N hk hyok (by omega)]
    rfl
  show (Q7.p1 k (most, e, b, (cm b : Int), (x.1, x.2.1, x.2.2.1 + 1, 0, ()), (eb, 0, 0, 0, ()), x, ())).bind _ = _
  rw [hp1]
  simp only [Option.bind_some]
  have key : ∃ er, (if cm b = 0 then (x.1, x.2.1, x.2.2.1 + 1, 0, ()) else (Q08 (x.1, x.2.1, x.2.2.1 + 1, 0, ()) (cm b)).1) = (x.1, x.2.1, (if er = 0 then x.2.2.1 + 1 + (cm b : Int) else x.2.2.1 + 1), er, ()) ∧
    (QC x (1 + (cm b : Int))).1 = (x.1, x.2.1, (if er = 0 then x.2.2.1 + (1 + (cm b : Int)) else x.2.2.1), er, ()) ∧ (er = 0 → (if cm b = 0 then b else (Q08 (x.1, x.2.1, x.2.2.1 + 1, 0, ()) (cm b)).2) = tkV x) := by
   by_cases c : cm b = 0
   ·refine ⟨0, ?_, ?_, fun _ => ?_⟩
    ·rw [if_pos c, if_pos rfl, c]; simp
    ·rw [c]
     simpa using z1
    ·rw [if_pos c]
     unfold tkV
     rw [hh, if_pos c]
   ·rw [if_neg c]
    unfold Q08
    dsimp only
    have e1 : QC x (1 + (cm b : Int)) = if 1 + (cm b : Int) > 4096 - (x.2.2.1 - x.2.1) then ((x.1, x.2.1, x.2.2.1, 101, ()), eb) else
      if 1 + (cm b : Int) > (x.1.size : Int) - x.2.2.1 then ((x.1, x.2.1, x.2.2.1, 4, ()), eb) else ((x.1, x.2.1, x.2.2.1 + (1 + (cm b : Int)), x.2.2.2.1, ()), x.1.extract x.2.2.1.toNat (x.2.2.1 + (1 + (cm b : Int))).toNat) := by
     unfold QC; rw [if_neg (by simpa using z0)]
    have e2 : QC (x.1, x.2.1, x.2.2.1 + 1, 0, ()) (cm b : Int) = if (cm b : Int) > 4096 - (x.2.2.1 + 1 - x.2.1) then ((x.1, x.2.1, x.2.2.1 + 1, 101, ()), eb) else
      if (cm b : Int) > (x.1.size : Int) - (x.2.2.1 + 1) then ((x.1, x.2.1, x.2.2.1 + 1, 4, ()), eb) else ((x.1, x.2.1, x.2.2.1 + 1 + (cm b : Int), 0, ()), x.1.extract (x.2.2.1 + 1).toNat (x.2.2.1 + 1 + (cm b : Int)).toNat) := by
     unfold QC; rw [if_neg (by simp)]
    rw [e1, e2]
    by_cases c1 : 1 + (cm b : Int) > 4096 - (x.2.2.1 - x.2.1)
    ·refine ⟨101, ?_, ?_, fun hz => absurd hz (by decide)⟩
     ·rw [if_pos (by omega), if_neg (by decide)]
     ·rw [if_pos c1, if_neg (by decide)]
    ·by_cases c2 : 1 + (cm b : Int) > (x.1.size : Int) - x.2.2.1
     ·refine ⟨4, ?_, ?_, fun hz => absurd hz (by decide)⟩
      ·rw [if_neg (by omega), if_pos (by omega), if_neg (by decide)]
      ·rw [if_neg c1, if_pos c2, if_neg (by decide)]
     ·refine ⟨0, ?_, ?_, fun _ => ?_⟩
      ·rw [if_neg (by omega), if_neg (by omega), if_pos rfl]
      ·rw [if_neg c1, if_neg c2, if_pos rfl, z0]
      ·rw [if_neg c, if_neg (by omega), if_neg (by omega)]
       unfold tkV
       rw [hh, if_neg c, Q2h]
       congr 1
       show _ = List.take _ (List.drop 1 (List.drop _ _))
       rw [List.drop_drop, show (x.2.2.1 + 1).toNat = x.2.2.1.toNat + 1 by omega, show (x.2.2.1 + 1 + (cm b : Int)).toNat - (x.2.2.1.toNat + 1) = cm b by omega]
  obtain ⟨er, k1, k2, k3⟩ := key
  rw [k1]
  dsimp only
  unfold QN
  rw [if_neg (show ¬ x.2.2.2.1 ≠ 0 by simpa using z0)]
  dsimp only
  rw [hh, k2]
  dsimp only
  by_cases ce2 : er ≠ 0
  ·rw [QR (by simpa using ce2), if_pos ce2, if_neg ce2]
  ·have ce3 : er = 0 := by simpa using ce2
   rw [Q0v (by simpa using ce3), if_neg ce2, k3 ce3, Q2s hk _ Q4c]
   simp only [Option.bind_some]
   have hr := Q4c (x := x)
   rw [Q0A, Q1Y, i64_in (n := 1 + (cm b : Int)) (by omega), ce3, if_pos rfl, if_pos rfl, show x.2.2.1 + 1 + (cm b : Int) = x.2.2.1 + (1 + (cm b : Int)) by omega]
   by_cases c4 : Q1d (tkV x) = 1 + (cm b : Int)
   ·rw [Q0v (by simpa using c4), if_neg (by simpa using c4), u64_in (by omega)]
    by_cases c5 : tkV x > most
    ·rw [Qy c5, if_pos c5]
    ·rw [Q0I c5, if_neg c5, i64_in (by omega)]
   ·rw [QR (by simpa using c4), if_pos c4]
end Go.Am
namespace Go.Am
open Go
abbrev TIn : Type := (List Int × Int × Unit) × ByteArray × Int × Unit
abbrev TOut : Type := Int × ByteArray × Unit
abbrev RIn : Type := List Int × Int × ByteArray × Int × Unit
abbrev TTx : Type := Int × List TIn × List TOut × Int × Unit
abbrev RTx : Type := Int × List RIn × List TOut × Int × Unit
def gIn (x : TIn) : RIn := (x.1.1, x.1.2.1, x.2.1, x.2.2.1, ())
def gTx (t : TTx) : RTx := (t.1, t.2.1.map gIn, t.2.2.1, t.2.2.2.1, ())
def Q3p (b : ByteArray) : List Int := if b.size = 32 then QB b else List.replicate 32 0
theorem Qdo {b : ByteArray} (h : b.size = 0 ∨ b.size = 32) : Q2t (List.replicate 32 (0 : Int)) 0 (QB b) (Min.min (List.length (QB b)) 32) = Q3p b := by
 have hl := Q0i b
 unfold Q3p Q2t
 rcases h with h | h
 ·have : QB b = [] := List.eq_nil_of_length_eq_zero (by omega)
  rw [this, if_neg (by omega)]
  rfl
 ·rw [if_pos h, hl, h]
  simp [List.take_of_length_le (show (QB b).length ≤ 32 by omega)]
theorem Q2j {x : Tk} (h : TkOK x) {n : Int} (hn : 0 ≤ n) : TkOK (Q08 x n).1 := (Q0H h hn).1
def Q1B (x : Tk) : Tk × TIn :=
 let a := QC x 32
 let i := Q08 a.1 4
 let c := QN i.1 520 100
 let s := QC c.1 c.2
 let q := Q08 s.1 4
 (q.1, (Q3p a.2, i.2, ()), s.2, q.2, ())
def Q1s (x : Tk) : Tk × TOut :=
 let v := Q08 x 8
 let c := QN v.1 520 100
 let s := QC c.1 c.2
 (s.1, v.2, s.2, ())
theorem Q2v {x : Tk} (h : TkOK x) : TkOK (Q1B x).1 := by
 unfold Q1B
 have h1 := (Q0H h (n := 32) (by omega)).1
 have h2 := Q2j h1 (n := 4) (by omega)
 have h3 := (Q11 h2 520 100).1
 have h4 := (Q0H h3 (n := (QN (Q08 (QC x 32).1 4).1 520 100).2) (Q13 520 100 (by omega)).1).1
 exact (Q0H h4 (n := 4) (by omega)).1
theorem Q2o {x : Tk} (h : TkOK x) : TkOK (Q1s x).1 := by
 unfold Q1s
 have h1 := (Q0H h (n := 8) (by omega)).1
 have h3 := (Q11 h1 520 100).1
 exact (Q0H h3 (n := (QN (Q08 x 8).1 520 100).2) (Q13 520 100 (by omega)).1).1
def Q0R {α : Type} (f : Tk → Tk × α) : Nat → Tk → List α → Tk × List α
 | 0, x, l => (x, l)
 | n + 1, x, l => if x.2.2.2.1 ≠ 0 then (x, l) else Q0R f n (f x).1 (l ++ [(f x).2])
theorem Q2n {α : Type} {f : Tk → Tk × α} (hok : ∀ x, TkOK x → TkOK (f x).1) : ∀ (n : Nat) {x : Tk} (l : List α), TkOK x → TkOK (Q0R f n x l).1
 | 0, _, _, h => h
 | n + 1, x, l, h => by
  unfold Q0R
  split
  ·exact h
  ·exact Q2n hok n _ (hok x h)
theorem Q47 {α : Type} {f : Tk → Tk × α} : ∀ (n : Nat) (x : Tk) (l : List α), (Q0R f n x l).2.length ≤ l.length + n
 | 0, _, _ => Nat.le_refl _
 | n + 1, x, l => by
  unfold Q0R
  split
  ·dsimp only; omega
  ·have := Q47 (f := f) n (f x).1 (l ++ [(f x).2])
   rw [List.length_append, List.length_singleton] at this
   omega
theorem Q8D {α β : Type} (f : Tk → Tk × α) (g : α → β) : ∀ (n : Nat) (x : Tk) (l : List α), Q0R (fun x => ((f x).1, g (f x).2)) n x (l.map g) = ((Q0R f n x l).1, (Q0R f n x l).2.map g)
 | 0, _, _ => rfl
 | n + 1, x, l => by
  unfold Q0R
  by_cases c : x.2.2.2.1 ≠ 0
  ·rw [if_pos c, if_pos c]
  ·rw [if_neg c, if_neg c]
   dsimp only
   rw [← Q8D f g n (f x).1 (l ++ [(f x).2]), List.map_append]
   rfl
theorem Q3H {σ τ α : Type} {r : {ρ : Type} → σ → (σ → Option ρ) → (τ → Option ρ) → Option ρ} (f : Tk → Tk × α) (S : Nat → Tk → List α → σ) (T : Tk → List α → τ) (N B : Nat)
  (hok : ∀ x, TkOK x → TkOK (f x).1)
  (hstep : ∀ n x l, n < N → TkOK x → l.length + (n + 1) ≤ B → x.2.2.2.1 = 0 → ∀ (kn : σ → Option τ) (ke : τ → Option τ), r (S (n + 1) x l) kn ke = kn (S n (f x).1 (l ++ [(f x).2])))
  (hstop : ∀ n x l, n ≤ N → TkOK x → (n = 0 ∨ x.2.2.2.1 ≠ 0) → ∀ (kn : σ → Option τ) (ke : τ → Option τ), r (S n x l) kn ke = ke (T x l)) :
  ∀ (n : Nat) (x : Tk) (l : List α) (fuel : Nat), n ≤ N → TkOK x → l.length + n ≤ B → n < fuel → Q0Q r fuel (S n x l) = some (T (Q0R f n x l).1 (Q0R f n x l).2)
 | 0, x, l, fuel + 1, hN, hx, _, _ => hstop 0 x l hN hx (.inl rfl) _ _
 | n + 1, x, l, fuel + 1, hN, hx, hl, hf => by
  show r (S (n + 1) x l) (Q0Q r fuel) some = _
  unfold Q0R
  by_cases c : x.2.2.2.1 ≠ 0
  ·rw [if_pos c]
   exact hstop (n + 1) x l hN hx (.inr c) _ _
  ·rw [if_neg c, hstep n x l (by omega) hx hl (by simpa using c)]
   exact Q3H f S T N B hok hstep hstop n (f x).1 (l ++ [(f x).2]) fuel (by omega) (hok x hx) (by rw [List.length_append, List.length_singleton]; omega) (by omega)
abbrev T0 : Type := Int × Unit × Unit × Int × Unit
theorem Q6v {k : Nat} (hk : 9 ≤ k) {x : Tk} (h : TkOK x) :
  Q0b k x = some ((QC (QN x 520 100).1 (QN x 520 100).2).2, (QC (QN x 520 100).1 (QN x 520 100).2).1, ()) := by
 unfold Q0b Q0b.c
 show (Qt k 520 100 x).bind _ = _
 rw [Q5a hk h (by omega)]
 simp only [Option.bind_some]
 have hv := Q13 (x := x) 520 100 (by omega)
 show (QU k (QN x 520 100).2 (QN x 520 100).1).bind _ = _
 rw [Q2S k (Q11 h 520 100).1 (by omega)]
 rfl
theorem QdE {k : Nat} (hk : 9 ≤ k) (t0 t : T0) (n : Nat) (hn : n ≤ 4096) {x : Tk} (hx : TkOK x) (hf : n < k) :
  Qn.l1 k k ((n : Int), t0, x, t, [], ()) = some (t0, (Q0R Q1B n x []).1, t, (Q0R Q1B n x []).2, ()) := by
 refine Q3H (r := Qn.l1.r k) Q1B (fun n x l => ((n : Int), t0, x, t, l, ())) (fun x l => (t0, x, t, l, ())) 4096 4096 (fun x h => Q2v h) ?_ ?_ n x [] k hn hx (by simpa using hn) hf
 ·intro n x l hn hx hl he kn ke
  simp only [Qn.l1.r]
  have hp : Qn.p2 k (((n + 1 : Nat) : Int), t0, x, t, l, ()) = some (.inl (((n + 1 : Nat) : Int), t0, x, t, l, ())) := by
   unfold Qn.p2
   simp only [Qn.p2.r]
   rw [Qy (by omega), QR (by simpa using he)]
  show (Qn.p2 k (((n + 1 : Nat) : Int), t0, x, t, l, ())).bind _ = _
  rw [hp]
  simp only [Option.bind_some]
  have h1 := (Q0H hx (n := 32) (by omega)).1
  have h2 := Q2j h1 (n := 4) (by omega)
  have h3 := (Q11 h2 520 100).1
  have hv := Q13 (x := (Q08 (QC x 32).1 4).1) 520 100 (by omega)
  have h4 := (Q0H h3 (n := (QN (Q08 (QC x 32).1 4).1 520 100).2) hv.1).1
  show (QU k 32 x).bind _ = _
  rw [Q2S k hx (by omega)]
  simp only [Option.bind_some]
  show (Q0u k (QC x 32).1).bind _ = _
  rw [Q5l hk h1]
  simp only [Option.bind_some]
  show (Q0b k (Q08 (QC x 32).1 4).1).bind _ = _
  rw [Q6v hk h2]
  simp only [Option.bind_some]
  show (Q0u k (QC (QN (Q08 (QC x 32).1 4).1 520 100).1 (QN (Q08 (QC x 32).1 4).1 520 100).2).1).bind _ = _
  rw [Q5l hk h4]
  simp only [Option.bind_some]
  rw [QR (Q1p (by simp only [List.length_set, List.length_replicate]; omega)), Qdo (Q2d hx (n := 32) (by omega)), i64_in (n := ((n + 1 : Nat) : Int) - 1) (by omega), show ((n + 1 : Nat) : Int) - 1 = (n : Int) by omega]
  rfl
 ·intro n x l hn hx he kn ke
  simp only [Qn.l1.r]
  have hp : Qn.p2 k ((n : Int), t0, x, t, l, ()) = some (.inr (t0, x, t, l, ())) := by
   unfold Qn.p2
   simp only [Qn.p2.r]
   rcases he with he | he
   ·rw [Q0I (by omega)]
   ·by_cases c : n = 0
    ·rw [Q0I (by omega)]
    ·rw [Qy (by omega), Q0v (by simpa using he)]
  show (Qn.p2 k ((n : Int), t0, x, t, l, ())).bind _ = _
  rw [hp]
  rfl
theorem QbR {k : Nat} (hk : 9 ≤ k) (t0 t : T0) (ins : List TIn) (n : Nat) (hn : n ≤ 4096) {x : Tk} (hx : TkOK x) (hf : n < k) :
  Qn.l3 k k ((n : Int), t0, x, t, ins, [], ()) = some (t0, (Q0R Q1s n x []).1, t, ins, (Q0R Q1s n x []).2, ()) := by
 refine Q3H (r := Qn.l3.r k) Q1s (fun n x l => ((n : Int), t0, x, t, ins, l, ())) (fun x l => (t0, x, t, ins, l, ())) 4096 4096 (fun x h => Q2o h) ?_ ?_ n x [] k hn hx (by simpa using hn) hf
 ·intro n x l hn hx hl he kn ke
  simp only [Qn.l3.r]
  have hp : Qn.p4 k (((n + 1 : Nat) : Int), t0, x, t, ins, l, ()) = some (.inl (((n + 1 : Nat) : Int), t0, x, t, ins, l, ())) := by
   unfold Qn.p4
   simp only [Qn.p4.r]
   rw [Qy (by omega), QR (by simpa using he)]
  show (Qn.p4 k (((n + 1 : Nat) : Int), t0, x, t, ins, l, ())).bind _ = _
  rw [hp]
  simp only [Option.bind_some]
  have h1 := Q2j hx (n := 8) (by omega)
  have hs := Q2d hx (n := 8) (by omega)
  show (QU k 8 x).bind _ = _
  rw [Q2S k hx (by omega)]
  simp only [Option.bind_some]
  rw [show Q07 k (QC x 8).2 = some (((QC x 8).2, 0, 0, ()), ()) from rfl]
  simp only [Option.bind_some]
  have hnf := Q9S (n := 8) hs (by omega)
  rw [Qfr hk ⟨by dsimp only; omega, by dsimp only; omega, by dsimp only; omega⟩, show numS ((QC x 8).2, 0, 0, ()) 8 = leI (QB (QC x 8).2) from hnf]
  simp only [Option.bind_some]
  show (Q0b k (Q08 x 8).1).bind _ = _
  rw [Q6v hk h1]
  simp only [Option.bind_some]
  rw [QR (Q1p (by simp only [List.length_set, List.length_replicate]; omega)), i64_in (n := ((n + 1 : Nat) : Int) - 1) (by omega), show ((n + 1 : Nat) : Int) - 1 = (n : Int) by omega]
  rfl
 ·intro n x l hn hx he kn ke
  simp only [Qn.l3.r]
  have hp : Qn.p4 k ((n : Int), t0, x, t, ins, l, ()) = some (.inr (t0, x, t, ins, l, ())) := by
   unfold Qn.p4
   simp only [Qn.p4.r]
   rcases he with he | he
   ·rw [Q0I (by omega)]
   ·by_cases c : n = 0
    ·rw [Q0I (by omega)]
    ·rw [Qy (by omega), Q0v (by simpa using he)]
  show (Qn.p4 k ((n : Int), t0, x, t, ins, l, ())).bind _ = _
  rw [hp]
  rfl
def Q12 (s : ByteArray) (a : Int) : TTx × Int × Int :=
 if a < 0 ∨ a > (s.size : Int) then ((0, [], [], 0, ()), 0, 1) else
 let v := Q08 (s, a, a, 0, ()) 4
 let ni := QN v.1 4096 5
 let is := Q0R Q1B ni.2.toNat ni.1 []
 let no := QN is.1 4096 5
 let os := Q0R Q1s no.2.toNat no.1 []
 let t := Q08 os.1 4
 if t.1.2.2.2.1 ≠ 0 then ((0, [], [], 0, ()), 0, t.1.2.2.2.1) else ((v.2, is.2, os.2, t.2, ()), t.1.2.2.1, 0)
theorem Q9b {k : Nat} (hk : 4100 ≤ k) {s : ByteArray} (hs : s.size ≤ 4611686018427387904) (a : Int) : Qn k s a = some ((Q12 s a).1, (Q12 s a).2.1, (Q12 s a).2.2, ()) := by
 unfold Qn Qn.c
 have hp0 : Qn.p0 k (s, a, (0, (), (), 0, ()), ()) = some (if a < 0 ∨ a > (s.size : Int) then .inl (0, 1, (0, (), (), 0, ()), ()) else .inr (s, a, (0, (), (), 0, ()), ())) := by
  unfold Qn.p0
  simp only [Qn.p0.r]
  by_cases h1 : a < 0
  ·rw [Qy h1, if_pos (.inl h1)]
  ·rw [Q0I h1]
   by_cases h2 : a > (s.size : Int)
   ·rw [Qy h2, if_pos (.inr h2)]
   ·rw [Q0I h2, if_neg (by omega)]
 rw [hp0]
 simp only [Option.bind_some]
 unfold Q12
 by_cases h : a < 0 ∨ a > (s.size : Int)
 ·rw [if_pos h, if_pos h]
 ·rw [if_neg h, if_neg h]
  dsimp only
  have hx : TkOK (s, a, a, 0, ()) := ⟨hs, by dsimp only; omega, by dsimp only; omega, by dsimp only; omega⟩
  have h1 := Q2j hx (n := 4) (by omega)
  rw [Q5l (by omega) hx]
  simp only [Option.bind_some]
  show (Qt k 4096 5 (Q08 (s, a, a, 0, ()) 4).1).bind _ = _
  rw [Q5a (by omega) h1 (by omega)]
  simp only [Option.bind_some]
  have h2 := (Q11 h1 4096 5).1
  have hv2 := Q13 (x := (Q08 (s, a, a, 0, ()) 4).1) 4096 5 (by omega)
  obtain ⟨n, hn⟩ := Int.eq_ofNat_of_zero_le hv2.1
  have l1 := QdE (k := k) (by omega) (0, (), (), 0, ()) ((Q08 (s, a, a, 0, ()) 4).2, (), (), 0, ()) n (by omega) h2 (by omega)
  rw [← hn] at l1
  show (Qn.l1 k k ((QN (Q08 (s, a, a, 0, ()) 4).1 4096 5).2, (0, (), (), 0, ()), (QN (Q08 (s, a, a, 0, ()) 4).1 4096 5).1, ((Q08 (s, a, a, 0, ()) 4).2, (), (), 0, ()), [], ())).bind _ = _
  rw [show (QN (Q08 (s, a, a, 0, ()) 4).1 4096 5).2.toNat = n by omega, l1]
  simp only [Option.bind_some]
  have h3 := Q2n (fun x h => Q2v h) n [] h2
  generalize Q0R Q1B n (QN (Q08 (s, a, a, 0, ()) 4).1 4096 5).1 [] = is at *
  show (Qt k 4096 5 is.1).bind _ = _
  rw [Q5a (by omega) h3 (by omega)]
  simp only [Option.bind_some]
  have h4 := (Q11 h3 4096 5).1
  have hv4 := Q13 (x := is.1) 4096 5 (by omega)
  obtain ⟨n2, hn2⟩ := Int.eq_ofNat_of_zero_le hv4.1
  have l3 := QbR (k := k) (by omega) (0, (), (), 0, ()) ((Q08 (s, a, a, 0, ()) 4).2, (), (), 0, ()) is.2 n2 (by omega) h4 (by omega)
  rw [← hn2] at l3
  show (Qn.l3 k k ((QN is.1 4096 5).2, (0, (), (), 0, ()), (QN is.1 4096 5).1, ((Q08 (s, a, a, 0, ()) 4).2, (), (), 0, ()), is.2, [], ())).bind _ = _
  rw [show (QN is.1 4096 5).2.toNat = n2 by omega, l3]
  simp only [Option.bind_some]
  have h5 := Q2n (fun x h => Q2o h) n2 [] h4
  generalize Q0R Q1s n2 (QN is.1 4096 5).1 [] = os at *
  show (Q0u k os.1).bind _ = _
  rw [Q5l (by omega) h5]
  simp only [Option.bind_some]
  by_cases c : (Q08 os.1 4).1.2.2.2.1 ≠ 0
  ·rw [QR (by simpa using c), if_pos c]
  ·rw [Q0v (by simpa using c), if_neg c]
theorem QcA (k : Nat) (hk : 40 ≤ k) (N i : Int) {b : ByteArray} (h : b.size = 0 ∨ b.size = 32) (t0 t : T0) (r : Tk) (l : List RIn) :
  Q0.l3 k k (N, i, b, (0 : Int), t0, r, t, l, (List.replicate 32 (0 : Int), 0, eb, 0, ()), ()) = some (N, i, t0, r, t, l, (Q3p b, 0, eb, 0, ()), ()) := by
 have hz := Q0i b
 have := Q0V (r := Q0.l3.r k) (fun j => (N, i, b, (j : Int), t0, r, t, l, ((List.range j).map (fun j => (QB b).getD j 0) ++ (List.replicate 32 (0 : Int)).drop j, (0 : Int), eb, (0 : Int), ()), ())) b.size (N, i, t0, r, t, l, (Q3p b, 0, eb, 0, ()), ()) ?_ ?_ (fuel := k) (by omega)
 ·exact this
 ·intro j hj kn ke
  simp only [Q0.l3.r]
  rw [Qy (by omega), Qy (by omega), Qy (by omega), i64_in (by omega), Q3e, show (j : Int).toNat = j by omega, Q6c (f := fun j => (QB b).getD j 0) (by simp; omega)]
  rfl
 ·intro kn ke
  simp only [Q0.l3.r]
  rw [Q0I (by omega)]
  have e : (List.range b.size).map (fun j => (QB b).getD j 0) ++ (List.replicate 32 (0 : Int)).drop b.size = Q3p b := by
   unfold Q3p
   rcases h with h | h
   ·rw [h, if_neg (by omega)]; rfl
   ·rw [h, if_pos rfl]
    rw [Q6g (by simp)]
    apply List.ext_getElem
    ·simp; omega
    ·intro j h1 h2
     simp only [List.length_map, List.length_range] at h1
     simp only [List.getElem_map, List.getElem_range, List.getD_eq_getElem?_getD]
     rw [List.getElem?_eq_getElem (by omega)]
     rfl
  rw [e]
theorem Q7Y {x : Tk} (h : TkOK x) : IntKind.u32.wrap (Q08 x 4).2 = (Q08 x 4).2 := by
 have := Q2R h (n := 4)
 have e : (256 : Int) ^ 4 = 4294967296 := by decide
 exact Q3N (by have h1 := this.1; have h2 := this.2; rw [e] at h2; exact ⟨h1, by have : (Q08 x ((4 : Nat) : Int)).2 = (Q08 x 4).2 := rfl; omega⟩)
theorem QaD {k : Nat} (hk : 40 ≤ k) (t0 t : T0) (N : Nat) (hn : N ≤ 4096) {x : Tk} (hx : TkOK x) (hf : N < k) :
  Q0.l1 k k ((N : Int), (0 : Int), t0, x, t, [], ()) = some (t0, (Q0R Q1B N x []).1, t, (Q0R Q1B N x []).2.map gIn, ()) := by
 have hmap := Q8D Q1B gIn N x []
 rw [List.map_nil] at hmap
 have := Q3H (r := Q0.l1.r k) (fun x => ((Q1B x).1, gIn (Q1B x).2)) (fun n x l => ((N : Int), ((N - n : Nat) : Int), t0, x, t, l, ())) (fun x l => (t0, x, t, l, ())) N 4096 (fun x h => Q2v h) ?_ ?_ N x [] k (Nat.le_refl _) hx (by simpa using hn) hf
 ·rw [hmap] at this
  rw [Nat.sub_self] at this
  exact this
 ·intro n x l hn hx hl he kn ke
  simp only [Q0.l1.r]
  have hp : Q0.p2 k ((N : Int), ((N - (n + 1) : Nat) : Int), t0, x, t, l, ()) = some (.inl ((N : Int), ((N - (n + 1) : Nat) : Int), t0, x, t, l, ())) := by
   unfold Q0.p2
   simp only [Q0.p2.r]
   rw [Qy (by omega), QR (by simpa using he)]
  show (Q0.p2 k ((N : Int), ((N - (n + 1) : Nat) : Int), t0, x, t, l, ())).bind _ = _
  rw [hp]
  simp only [Option.bind_some]
  have h1 := (Q0H hx (n := 32) (by omega)).1
  have h2 := Q2j h1 (n := 4) (by omega)
  have h3 := (Q11 h2 520 100).1
  have hv := Q13 (x := (Q08 (QC x 32).1 4).1) 520 100 (by omega)
  have h4 := (Q0H h3 (n := (QN (Q08 (QC x 32).1 4).1 520 100).2) hv.1).1
  show (QK k x 32).bind _ = _
  rw [Q36 k hx (by omega)]
  simp only [Option.bind_some]
  show (Q0.l3 k k ((N : Int), ((N - (n + 1) : Nat) : Int), (QC x 32).2, (0 : Int), t0, (QC x 32).1, t, l, (List.replicate 32 (0 : Int), 0, eb, 0, ()), ())).bind _ = _
  rw [QcA k hk _ _ (Q2d hx (n := 32) (by omega)) t0 t _ l]
  simp only [Option.bind_some]
  show (Qf k (QC x 32).1 ((4 : Nat) : Int)).bind _ = _
  rw [Q1N (by omega) h1 (by omega)]
  simp only [Option.bind_some]
  show (Q7 k (Q08 (QC x 32).1 4).1 520 100).bind _ = _
  rw [Q31 (by omega) h2 (by omega)]
  simp only [Option.bind_some]
  show (QK k (QN (Q08 (QC x 32).1 4).1 520 100).1 (QN (Q08 (QC x 32).1 4).1 520 100).2).bind _ = _
  rw [Q36 k h3 (by omega)]
  simp only [Option.bind_some]
  show (Qf k (QC (QN (Q08 (QC x 32).1 4).1 520 100).1 (QN (Q08 (QC x 32).1 4).1 520 100).2).1 ((4 : Nat) : Int)).bind _ = _
  rw [Q1N (by omega) h4 (by omega)]
  simp only [Option.bind_some]
  rw [QR (Q1p (by simp only [List.length_set, List.length_replicate]; omega)), i64_in (n := ((N - (n + 1) : Nat) : Int) + 1) (by omega), show ((N - (n + 1) : Nat) : Int) + 1 = ((N - n : Nat) : Int) by omega]
  have w1 := Q7Y h1
  have w2 := Q7Y h4
  show kn _ = kn _
  congr 1
  have e : (List.set (List.replicate 1 (List.replicate 32 (0 : Int), (0 : Int), ByteArray.empty, (0 : Int), ())) 0 (Q3p (QC x 32).2, IntKind.u32.wrap (Q08 (QC x 32).1 4).2, (QC (QN (Q08 (QC x 32).1 4).1 520 100).1 (QN (Q08 (QC x 32).1 4).1 520 100).2).2,
    IntKind.u32.wrap (Q08 (QC (QN (Q08 (QC x 32).1 4).1 520 100).1 (QN (Q08 (QC x 32).1 4).1 520 100).2).1 4).2, ())) = [gIn (Q1B x).2] := by
   rw [w1, w2]
   rfl
  show ((N : Int), ((N - n : Nat) : Int), t0, _, t, l ++ _, ()) = ((N : Int), ((N - n : Nat) : Int), t0, _, t, l ++ _, ())
  rw [← e]
  rfl
 ·intro n x l hn hx he kn ke
  simp only [Q0.l1.r]
  have hp : Q0.p2 k ((N : Int), ((N - n : Nat) : Int), t0, x, t, l, ()) = some (.inr (t0, x, t, l, ())) := by
   unfold Q0.p2
   simp only [Q0.p2.r]
   rcases he with he | he
   ·rw [Q0I (by omega)]
   ·by_cases c : n = 0
    ·rw [Q0I (by omega)]
    ·rw [Qy (by omega), Q0v (by simpa using he)]
  show (Q0.p2 k ((N : Int), ((N - n : Nat) : Int), t0, x, t, l, ())).bind _ = _
  rw [hp]
  rfl
theorem Q9h {k : Nat} (hk : 40 ≤ k) (t0 t : T0) (ins : List RIn) (N : Nat) (hn : N ≤ 4096) {x : Tk} (hx : TkOK x) (hf : N < k) :
  Q0.l4 k k ((N : Int), (0 : Int), t0, x, t, ins, [], ()) = some (t0, (Q0R Q1s N x []).1, t, ins, (Q0R Q1s N x []).2, ()) := by
 have := Q3H (r := Q0.l4.r k) Q1s (fun n x l => ((N : Int), ((N - n : Nat) : Int), t0, x, t, ins, l, ())) (fun x l => (t0, x, t, ins, l, ())) N 4096 (fun x h => Q2o h) ?_ ?_ N x [] k (Nat.le_refl _) hx (by simpa using hn) hf
 ·rw [Nat.sub_self] at this
  exact this
 ·intro n x l hn hx hl he kn ke
  simp only [Q0.l4.r]
  have hp : Q0.p5 k ((N : Int), ((N - (n + 1) : Nat) : Int), t0, x, t, ins, l, ()) = some (.inl ((N : Int), ((N - (n + 1) : Nat) : Int), t0, x, t, ins, l, ())) := by
   unfold Q0.p5
   simp only [Q0.p5.r]
   rw [Qy (by omega), QR (by simpa using he)]
  show (Q0.p5 k ((N : Int), ((N - (n + 1) : Nat) : Int), t0, x, t, ins, l, ())).bind _ = _
  rw [hp]
  simp only [Option.bind_some]
  have h1 := Q2j hx (n := 8) (by omega)
  have h3 := (Q11 h1 520 100).1
  have hv := Q13 (x := (Q08 x 8).1) 520 100 (by omega)
  show (Qf k x ((8 : Nat) : Int)).bind _ = _
  rw [Q1N (by omega) hx (by omega)]
  simp only [Option.bind_some]
  show (Q7 k (Q08 x 8).1 520 100).bind _ = _
  rw [Q31 (by omega) h1 (by omega)]
  simp only [Option.bind_some]
  show (QK k (QN (Q08 x 8).1 520 100).1 (QN (Q08 x 8).1 520 100).2).bind _ = _
  rw [Q36 k h3 (by omega)]
  simp only [Option.bind_some]
  rw [QR (Q1p (by simp only [List.length_set, List.length_replicate]; omega)), i64_in (n := ((N - (n + 1) : Nat) : Int) + 1) (by omega), show ((N - (n + 1) : Nat) : Int) + 1 = ((N - n : Nat) : Int) by omega]
  rfl
 ·intro n x l hn hx he kn ke
  simp only [Q0.l4.r]
  have hp : Q0.p5 k ((N : Int), ((N - n : Nat) : Int), t0, x, t, ins, l, ()) = some (.inr (t0, x, t, ins, l, ())) := by
   unfold Q0.p5
   simp only [Q0.p5.r]
   rcases he with he | he
   ·rw [Q0I (by omega)]
   ·by_cases c : n = 0
    ·rw [Q0I (by omega)]
    ·rw [Qy (by omega), Q0v (by simpa using he)]
  show (Q0.p5 k ((N : Int), ((N - n : Nat) : Int), t0, x, t, ins, l, ())).bind _ = _
  rw [hp]
  rfl
theorem Q5x {k : Nat} (hk : 4100 ≤ k) {s : ByteArray} (hs : s.size ≤ 4611686018427387904) (a : Int) : Q0 k s a = some (gTx (Q12 s a).1, (Q12 s a).2.1, (Q12 s a).2.2, ()) := by
 unfold Q0 Q0.c
 have hp0 : Q0.p0 k (s, a, (0, (), (), 0, ()), ()) = some (if a < 0 ∨ a > (s.size : Int) then .inl (0, 1, (0, (), (), 0, ()), ()) else .inr (s, a, (0, (), (), 0, ()), ())) := by
  unfold Q0.p0
  simp only [Q0.p0.r]
  by_cases h1 : a < 0
  ·rw [Qy h1, if_pos (.inl h1)]
  ·rw [Q0I h1]
   by_cases h2 : a > (s.size : Int)
   ·rw [Qy h2, if_pos (.inr h2)]
   ·rw [Q0I h2, if_neg (by omega)]
 rw [hp0]
 simp only [Option.bind_some]
 unfold Q12
 by_cases h : a < 0 ∨ a > (s.size : Int)
 ·rw [if_pos h, if_pos h]
  rfl
 ·rw [if_neg h, if_neg h]
  dsimp only
  have hx : TkOK (s, a, a, 0, ()) := ⟨hs, by dsimp only; omega, by dsimp only; omega, by dsimp only; omega⟩
  have h1 := Q2j hx (n := 4) (by omega)
  show (Qf k (s, a, a, 0, ()) ((4 : Nat) : Int)).bind _ = _
  rw [Q1N (by omega) hx (by omega)]
  simp only [Option.bind_some]
  show (Q7 k (Q08 (s, a, a, 0, ()) 4).1 4096 5).bind _ = _
  rw [Q31 (by omega) h1 (by omega)]
  simp only [Option.bind_some]
  have h2 := (Q11 h1 4096 5).1
  have hv2 := Q13 (x := (Q08 (s, a, a, 0, ()) 4).1) 4096 5 (by omega)
  obtain ⟨n, hn⟩ := Int.eq_ofNat_of_zero_le hv2.1
  have l1 := QaD (k := k) (by omega) (0, (), (), 0, ()) ((Q08 (s, a, a, 0, ()) 4).2, (), (), 0, ()) n (by omega) h2 (by omega)
  rw [← hn] at l1
  have hw := Q7Y hx
  show (Q0.l1 k k ((QN (Q08 (s, a, a, 0, ()) 4).1 4096 5).2, (0 : Int), (0, (), (), 0, ()), (QN (Q08 (s, a, a, 0, ()) 4).1 4096 5).1, (IntKind.u32.wrap (Q08 (s, a, a, 0, ()) 4).2, (), (), 0, ()), [], ())).bind _ = _
  rw [hw, show (QN (Q08 (s, a, a, 0, ()) 4).1 4096 5).2.toNat = n by omega, l1]
  simp only [Option.bind_some]
  have h3 := Q2n (fun x h => Q2v h) n [] h2
  generalize Q0R Q1B n (QN (Q08 (s, a, a, 0, ()) 4).1 4096 5).1 [] = is at *
  show (Q7 k is.1 4096 5).bind _ = _
  rw [Q31 (by omega) h3 (by omega)]
  simp only [Option.bind_some]
  have h4 := (Q11 h3 4096 5).1
  have hv4 := Q13 (x := is.1) 4096 5 (by omega)
  obtain ⟨n2, hn2⟩ := Int.eq_ofNat_of_zero_le hv4.1
  have l3 := Q9h (k := k) (by omega) (0, (), (), 0, ()) ((Q08 (s, a, a, 0, ()) 4).2, (), (), 0, ()) (is.2.map gIn) n2 (by omega) h4 (by omega)
  rw [← hn2] at l3
  show (Q0.l4 k k ((QN is.1 4096 5).2, (0 : Int), (0, (), (), 0, ()), (QN is.1 4096 5).1, ((Q08 (s, a, a, 0, ()) 4).2, (), (), 0, ()), is.2.map gIn, [], ())).bind _ = _
  rw [show (QN is.1 4096 5).2.toNat = n2 by omega, l3]
  simp only [Option.bind_some]
  have h5 := Q2n (fun x h => Q2o h) n2 [] h4
  generalize Q0R Q1s n2 (QN is.1 4096 5).1 [] = os at *
  show (Qf k os.1 ((4 : Nat) : Int)).bind _ = _
  rw [Q1N (by omega) h5 (by omega)]
  simp only [Option.bind_some]
  by_cases c : (Q08 os.1 4).1.2.2.2.1 ≠ 0
  ·rw [QR (show ((Q08 os.1 ((4 : Nat) : Int)).1.2.2.2.1 != 0) = true by simpa using c), if_pos c]
   rfl
  ·rw [Q0v (show ((Q08 os.1 ((4 : Nat) : Int)).1.2.2.2.1 != 0) = false by simpa using c), if_neg c]
   have hw2 := Q7Y h5
   show some ((_, _, _, IntKind.u32.wrap (Q08 os.1 4).2, ()), _, _, ()) = _
   rw [hw2]
   rfl
end Go.Am
namespace Go.Am
open Go
theorem Q23 {σ τ : Type} {r : {ρ : Type} → σ → (σ → Option ρ) → (τ → Option ρ) → Option ρ} (S : Nat → σ) (n : Nat) (T U : τ) (p : Nat → Bool)
  (hgood : ∀ i, i < n → p i = true → ∀ (kn : σ → Option τ) (ke : τ → Option τ), r (S i) kn ke = kn (S (i + 1)))
  (hbad : ∀ i, i < n → p i = false → ∀ (kn : σ → Option τ) (ke : τ → Option τ), r (S i) kn ke = ke U)
  (hend : ∀ (kn : σ → Option τ) (ke : τ → Option τ), r (S n) kn ke = ke T) {fuel : Nat} (hf : n < fuel) :
  Q0Q r fuel (S 0) = some (if ∀ i, i < n → p i = true then T else U) := by
 have key : ∀ (d i fuel : Nat), i + d = n → d < fuel → (∀ j, j < i → p j = true) → Q0Q r fuel (S i) = some (if ∀ j, j < n → p j = true then T else U) := by
  intro d
  induction d with
  | zero =>
   intro i fuel hi hf hp
   cases fuel with
   | zero => omega
   | succ fuel =>
    have : i = n := by omega
    subst this
    rw [if_pos hp]
    exact hend _ _
  | succ d ih =>
   intro i fuel hi hf hp
   cases fuel with
   | zero => omega
   | succ fuel =>
    show r (S i) (Q0Q r fuel) some = _
    cases hc : p i with
    | true =>
     rw [hgood i (by omega) hc]
     refine ih (i + 1) fuel (by omega) (by omega) fun j hj => ?_
     by_cases hji : j = i
     ·rw [hji]; exact hc
     ·exact hp j (by omega)
    | false =>
     rw [hbad i (by omega) hc, if_neg (fun h => by have := h i (by omega); rw [hc] at this; cases this)]
 exact key n 0 fuel (by omega) hf fun j hj => absurd hj (Nat.not_lt_zero j)
def cat {α : Type} (f : α → List Int) (d : α) (l : List α) : Nat → List Int
 | 0 => []
 | i + 1 => cat f d l i ++ f (l.getD i d)
theorem Qej {α : Type} (f : α → List Int) (d : α) (l : List α) : ∀ i, i ≤ l.length → cat f d l i = ((l.take i).map f).flatten
 | 0, _ => rfl
 | i + 1, h => by
  rw [cat, Qej f d l i (by omega), List.take_add_one, List.getD_eq_getElem?_getD, List.getElem?_eq_getElem (by omega), Option.toList_some, List.map_append, List.flatten_append]
  simp only [List.map_cons, List.map_nil, List.flatten_cons, List.flatten_nil, List.append_nil, Option.getD_some]
theorem Q7W {α : Type} (f : α → List Int) (d : α) (l : List α) : cat f d l l.length = (l.map f).flatten := by
 rw [Qej f d l _ (Nat.le_refl _), List.take_length]
theorem Q2V {α : Type} (f : α → List Int) (d : α) (l : List α) : ∀ {i n : Nat}, i ≤ n → (cat f d l i).length ≤ (cat f d l n).length
 | i, 0, h => by rw [show i = 0 by omega]; exact Nat.le_refl _
 | i, n + 1, h => by
  rcases Nat.lt_or_ge i (n + 1) with g | g
  ·have := Q2V f d l (i := i) (n := n) (by omega)
   rw [cat, List.length_append]; omega
  ·rw [show i = n + 1 by omega]; exact Nat.le_refl _
theorem QbZ {α : Type} {f : α → List Int} {d : α} {l : List α} : ∀ i, (∀ j, j < i → Q1j (f (l.getD j d))) → Q1j (cat f d l i)
 | 0, _ => fun x hx => by simp [cat] at hx
 | i + 1, h => bytesIn_append' (QbZ i fun j hj => h j (by omega)) (h i (by omega))
where bytesIn_append' {a b : List Int} (ha : Q1j a) (hb : Q1j b) : Q1j (a ++ b) := fun x hx => (List.mem_append.1 hx).elim (ha x) (hb x)
theorem Qcn {α : Type} {f : α → List Int} {d : α} {l : List α} {m : Nat} (h : ∀ x, m ≤ (f x).length) : ∀ i, m * i ≤ (cat f d l i).length
 | 0 => Nat.zero_le _
 | i + 1 => by
  have h1 := Qcn (d := d) (l := l) h i
  have h2 := h (l.getD i d)
  rw [cat, List.length_append, Nat.mul_add]; omega
abbrev dIn : TIn := ((List.replicate 32 (0 : Int), 0, ()), ByteArray.empty, 0, ())
abbrev dOut : TOut := (0, ByteArray.empty, ())
theorem Q56 : ((List.replicate 32 (0 : Int), (0 : Int), ()), ByteArray.empty, (0 : Int), ()) = dIn := rfl
theorem Q2Z : ((0 : Int), ByteArray.empty, ()) = dOut := rfl
def Q2X (s : ByteArray) : List Int := Q17 (s.size : Int) ++ QB s
def Q1k (x : TIn) : List Int := x.1.1.take 32 ++ lowI x.1.2.1 4 ++ Q2X x.2.1 ++ lowI x.2.2.1 4
def Q1b (x : TOut) : List Int := lowI x.1 8 ++ Q2X x.2.1
abbrev Q5Q (t : TTx) : Nat → List Int := cat Q1k dIn t.2.1
abbrev Q4q (t : TTx) : Nat → List Int := cat Q1b dOut t.2.2.1
def encL (t : TTx) : List Int := lowI t.1 4 ++ Q17 (t.2.1.length : Int) ++ Q5Q t t.2.1.length ++ Q17 (t.2.2.1.length : Int) ++ Q4q t t.2.2.1.length ++ lowI t.2.2.2.1 4
def u32R (n : Int) : Prop := 0 ≤ n ∧ n ≤ 4294967295
def InOK (x : TIn) : Prop := (x.1.1.length = 32 ∧ Q1j x.1.1) ∧ u32R x.1.2.1 ∧ u32R x.2.2.1
def Q5y (x : TOut) : Prop := 0 ≤ x.1 ∧ x.1 ≤ 18446744073709551615
structure TxOK (t : TTx) : Prop where
 v : u32R t.1
 tm : u32R t.2.2.2.1
 ins : ∀ i, i < t.2.1.length → InOK (t.2.1.getD i dIn)
 outs : ∀ i, i < t.2.2.1.length → Q5y (t.2.2.1.getD i dOut)
 nin : t.2.1.length ≤ 140737488355328
 nout : t.2.2.1.length ≤ 140737488355328
theorem Q9C (s : ByteArray) : Q1j (Q2X s) := fun x hx => (List.mem_append.1 hx).elim (Q5q _ x) (Q2a s x)
theorem Q49 (s : ByteArray) : ((Q2X s).length : Int) = Q1d (s.size : Int) + s.size := by
 unfold Q2X
 rw [List.length_append, Q0i, Int.natCast_add, Q1Y]
theorem Qe9 {x : TIn} (h : InOK x) : Q1j (Q1k x) := by
 unfold Q1k
 intro y hy
 rcases List.mem_append.1 hy with hy | hy
 ·rcases List.mem_append.1 hy with hy | hy
  ·rcases List.mem_append.1 hy with hy | hy
   ·exact h.1.2 y (List.mem_of_mem_take hy)
   ·exact Q3j _ _ y hy
  ·exact Q9C _ y hy
 ·exact Q3j _ _ y hy
theorem Qde (x : TOut) : Q1j (Q1b x) := by
 intro y hy
 rcases List.mem_append.1 hy with hy | hy
 ·exact Q3j _ _ y hy
 ·exact Q9C _ y hy
theorem Q38 {x : TIn} (h : InOK x) : ((Q1k x).length : Int) = 40 + (Q1d (x.2.1.size : Int) + x.2.1.size) := by
 unfold Q1k
 have := h.1.1
 simp only [List.length_append, List.length_take, Q0B, Int.natCast_add, Q49]
 omega
theorem Q2G (x : TOut) : ((Q1b x).length : Int) = 8 + (Q1d (x.2.1.size : Int) + x.2.1.size) := by
 unfold Q1b
 simp only [List.length_append, Q0B, Int.natCast_add, Q49]
 omega
theorem Q1v (n : Int) : 1 ≤ Q1d n ∧ Q1d n ≤ 9 := by
 unfold Q1d; split <;> (try split) <;> (try split) <;> omega
theorem Q3l (t : TTx) : (encL t).length = 4 + (Q17 (t.2.1.length : Int)).length + (cat Q1k dIn t.2.1 t.2.1.length).length + (Q17 (t.2.2.1.length : Int)).length + (cat Q1b dOut t.2.2.1 t.2.2.1.length).length + 4 := by
 unfold encL Q5Q Q4q
 simp only [List.length_append, Q0B]
theorem wu32 {k : Nat} (hk : 9 ≤ k) {n : Int} (hn : u32R n) {u} {b1 : List Int} (h : b1.length ≤ 140737488350000) : Q0k k n u b1 = some (u, b1 ++ lowI n 4, ()) := by
 unfold Q0k Q0k.c
 have h1 := hn.1
 have h2 := hn.2
 rw [u64_in (by omega), show (4 : Int) = ((4 : Nat) : Int) from rfl, Q2M hk _ 4 (by omega)]
 simp only [Option.bind_some]
 rw [wrl (Q3j _ _) (by rw [Q0B]; omega)]
 rfl
theorem wcnt {k : Nat} (hk : 9 ≤ k) (n : Int) {u} {b1 : List Int} (h : b1.length ≤ 140737488350000) : QZ k n u b1 = some (u, b1 ++ Q17 n, ()) := by
 unfold QZ QZ.c
 rw [Qat hk]
 simp only [Option.bind_some]
 have := Q5u n
 rw [wrl (Q5q _) (by omega)]
 rfl
theorem wstr {k : Nat} (hk : 9 ≤ k) (s : ByteArray) {u} {b1 : List Int} (h : b1.length + s.size ≤ 140737488350000) : Q02 k s u b1 = some (u, b1 ++ Q2X s, ()) := by
 unfold Q02 Q02.c
 rw [u64_in (by omega)]
 show (QZ k (s.size : Int) u b1).bind _ = _
 rw [wcnt hk _ (by omega)]
 simp only [Option.bind_some]
 have := Q5u (s.size : Int)
 show (QD k s u (b1 ++ Q17 (s.size : Int))).bind _ = _
 rw [wb (by rw [List.length_append]; omega), List.append_assoc]
 rfl
theorem QfY (k : Nat) {l : List Int} (hl : l.length = 32 ∧ Q1j l) {u} {b1 : List Int} (h : b1.length ≤ 140737488350000) : Q0j k l u b1 = some (u, b1 ++ l.take 32, ()) := by
 unfold Q0j Q0j.c
 rw [List.drop_zero]
 dsimp only
 rw [wrl (fun x hx => hl.2 x (List.mem_of_mem_take hx)) (by rw [List.length_take]; omega)]
 rfl
theorem Q92 (k : Nat) {n : Nat} (h : n ≤ 4611686018427387904) : Q1g k (n : Int) = some (Q1d (n : Int) + n, ()) := by
 unfold Q1g Q1g.c
 have := Q1v (n : Int)
 rw [u64_in (by omega), Q24]
 simp only [Option.bind_some]
 rw [i64_in (by omega)]
theorem Q99 {k : Nat} {t : TTx} (ht : TxOK t) (hb : (encL t).length ≤ 4611686018427387904) (hk : t.2.1.length + t.2.2.1.length + 20 ≤ k) : Q0a k t = some (((encL t).length : Int), ()) := by
 obtain ⟨v, ins, outs, tm, u⟩ := t
 obtain ⟨_, _, hi, ho, hni, hno⟩ := ht
 dsimp only at hi ho hni hno hk
 have hlen : ((encL (v, ins, outs, tm, u)).length : Int) = 4 + Q1d (ins.length : Int) + (cat Q1k dIn ins ins.length).length + Q1d (outs.length : Int) + (cat Q1b dOut outs outs.length).length + 4 := by
  have h1 := Q3l (v, ins, outs, tm, u)
  have h2 := Q1Y (ins.length : Int)
  have h3 := Q1Y (outs.length : Int)
  dsimp only at h1
  omega
 have c1 := Q1v (ins.length : Int)
 have c2 := Q1v (outs.length : Int)
 have si : ∀ i, i < ins.length → (ins.getD i dIn).2.1.size ≤ 4611686018427387904 := by
  intro i h
  have m := Q2V Q1k dIn ins (i := i + 1) (n := ins.length) (by omega)
  rw [cat, List.length_append] at m
  have := Q38 (hi i h)
  have := Q1v ((ins.getD i dIn).2.1.size : Int)
  omega
 have so : ∀ i, i < outs.length → (outs.getD i dOut).2.1.size ≤ 4611686018427387904 := by
  intro i h
  have m := Q2V Q1b dOut outs (i := i + 1) (n := outs.length) (by omega)
  rw [cat, List.length_append] at m
  have := Q2G (outs.getD i dOut)
  have := Q1v ((outs.getD i dOut).2.1.size : Int)
  omega
 unfold Q0a Q0a.c
 dsimp only
 rw [u64_in (n := (ins.length : Int)) (by omega), Q24]
 simp only [Option.bind_some]
 rw [u64_in (n := (outs.length : Int)) (by omega), Q24, i64_in (n := 4 + Q1d (ins.length : Int)) (by omega)]
 simp only [Option.bind_some]
 rw [i64_in (n := 4 + Q1d (ins.length : Int) + Q1d (outs.length : Int)) (by omega), i64_in (n := 4 + Q1d (ins.length : Int) + Q1d (outs.length : Int) + 4) (by omega)]
 have l0 : Q0a.l0 k k (4 + Q1d (ins.length : Int) + Q1d (outs.length : Int) + 4, ins, (ins.length : Int), (0 : Int), (v, ins, outs, tm, ()), ()) =
   some (4 + Q1d (ins.length : Int) + Q1d (outs.length : Int) + 4 + (cat Q1k dIn ins ins.length).length, (v, ins, outs, tm, ()), ()) := by
  have := Q0V (r := Q0a.l0.r k) (fun i => (4 + Q1d (ins.length : Int) + Q1d (outs.length : Int) + 4 + (cat Q1k dIn ins i).length, ins, (ins.length : Int), (i : Int), (v, ins, outs, tm, ()), ())) ins.length
   (4 + Q1d (ins.length : Int) + Q1d (outs.length : Int) + 4 + (cat Q1k dIn ins ins.length).length, (v, ins, outs, tm, ()), ()) ?_ ?_ (fuel := k) (by omega)
  ·rw [cat, List.length_nil, Int.natCast_zero, Int.add_zero] at this
   exact this
  ·intro i h kn ke
   simp only [Q0a.l0.r]
   have m := Q2V Q1k dIn ins (i := i + 1) (n := ins.length) (by omega)
   rw [cat, List.length_append] at m
   have e := Q38 (hi i h)
   have e2 := Q1v ((ins.getD i dIn).2.1.size : Int)
   rw [Qy (by omega), Qy (by omega), show (i : Int).toNat = i by omega, Q92 k (si i h)]
   simp only [Option.bind_some]
   rw [i64_in (n := 40 + _) (by omega), i64_in (n := _ + (40 + _)) (by omega), i64_in (by omega), cat, List.length_append, Int.natCast_add, e]
   rw [Int.add_assoc (4 + Q1d (ins.length : Int) + Q1d (outs.length : Int) + 4)]
   rfl
  ·intro kn ke
   simp only [Q0a.l0.r]
   rw [Q0I (by omega)]
 rw [l0]
 simp only [Option.bind_some]
 have l1 : Q0a.l1 k k (4 + Q1d (ins.length : Int) + Q1d (outs.length : Int) + 4 + (cat Q1k dIn ins ins.length).length, outs, (outs.length : Int), (0 : Int), ()) =
   some (4 + Q1d (ins.length : Int) + Q1d (outs.length : Int) + 4 + (cat Q1k dIn ins ins.length).length + (cat Q1b dOut outs outs.length).length, ()) := by
  have := Q0V (r := Q0a.l1.r k) (fun i => (4 + Q1d (ins.length : Int) + Q1d (outs.length : Int) + 4 + (cat Q1k dIn ins ins.length).length + (cat Q1b dOut outs i).length, outs, (outs.length : Int), (i : Int), ())) outs.length
   (4 + Q1d (ins.length : Int) + Q1d (outs.length : Int) + 4 + (cat Q1k dIn ins ins.length).length + (cat Q1b dOut outs outs.length).length, ()) ?_ ?_ (fuel := k) (by omega)
  ·rw [cat, List.length_nil, Int.natCast_zero, Int.add_zero] at this
   exact this
  ·intro i h kn ke
   simp only [Q0a.l1.r]
   have m := Q2V Q1b dOut outs (i := i + 1) (n := outs.length) (by omega)
   rw [cat, List.length_append] at m
   have e := Q2G (outs.getD i dOut)
   have e2 := Q1v ((outs.getD i dOut).2.1.size : Int)
   rw [Qy (by omega), Qy (by omega), show (i : Int).toNat = i by omega, Q92 k (so i h)]
   simp only [Option.bind_some]
   rw [i64_in (n := 8 + _) (by omega), i64_in (n := _ + (8 + _)) (by omega), i64_in (by omega), cat, List.length_append, Int.natCast_add, e]
   rw [Int.add_assoc (4 + Q1d (ins.length : Int) + Q1d (outs.length : Int) + 4 + ((cat Q1k dIn ins ins.length).length : Int))]
   rfl
  ·intro kn ke
   simp only [Q0a.l1.r]
   rw [Q0I (by omega)]
 rw [l1]
 simp only [Option.bind_some]
 rw [show (4 + Q1d (ins.length : Int) + Q1d (outs.length : Int) + 4 + ((cat Q1k dIn ins ins.length).length : Int) + ((cat Q1b dOut outs outs.length).length : Int)) = ((encL (v, ins, outs, tm, u)).length : Int) by omega]
def scOK (t : TTx) : Prop := (∀ i, i < t.2.1.length → (t.2.1.getD i dIn).2.1.size ≤ 520) ∧ (∀ i, i < t.2.2.1.length → (t.2.2.1.getD i dOut).2.1.size ≤ 520)
instance (t : TTx) : Decidable (scOK t) := by unfold scOK; infer_instance
def encS (t : TTx) : ByteArray × Int := if scOK t then (if (encL t).length > 4096 then (eb, 101) else (bytesOf (encL t), 0)) else (eb, 100)
theorem Qdg {t : TTx} (ht : TxOK t) {i : Nat} (h : i ≤ t.2.1.length) : Q1j (Q5Q t i) := QbZ i fun j hj => Qe9 (ht.ins j (by omega))
theorem Qcq (t : TTx) (i : Nat) : Q1j (Q4q t i) := QbZ i fun j _ => Qde _
theorem Qau {t : TTx} (ht : TxOK t) : Q1j (encL t) := by
 unfold encL
 intro y hy
 rcases List.mem_append.1 hy with hy | hy
 ·rcases List.mem_append.1 hy with hy | hy
  ·rcases List.mem_append.1 hy with hy | hy
   ·rcases List.mem_append.1 hy with hy | hy
    ·rcases List.mem_append.1 hy with hy | hy
     ·exact Q3j _ _ y hy
     ·exact Q5q _ y hy
    ·exact Qdg ht (Nat.le_refl _) y hy
   ·exact Q5q _ y hy
  ·exact Qcq t _ y hy
 ·exact Q3j _ _ y hy
theorem Q8H {t : TTx} (ht : TxOK t) (hs : scOK t) : (encL t).length ≤ 4611686018427387904 := by
 have h1 : ∀ i, i ≤ t.2.1.length → (Q5Q t i).length ≤ i * 569 := by
  intro i
  induction i with
  | zero => intro _; simp [Q5Q, cat]
  | succ i ih =>
   intro h
   have := ih (by omega)
   have e := Q38 (ht.ins i (by omega))
   have e2 := Q1v ((t.2.1.getD i dIn).2.1.size : Int)
   have e3 := hs.1 i (by omega)
   show (cat Q1k dIn t.2.1 i ++ Q1k (t.2.1.getD i dIn)).length ≤ _
   rw [List.length_append, Nat.add_mul]
   have : (cat Q1k dIn t.2.1 i).length ≤ i * 569 := this
   omega
 have h2 : ∀ i, i ≤ t.2.2.1.length → (Q4q t i).length ≤ i * 537 := by
  intro i
  induction i with
  | zero => intro _; simp [Q4q, cat]
  | succ i ih =>
   intro h
   have := ih (by omega)
   have e := Q2G (t.2.2.1.getD i dOut)
   have e2 := Q1v ((t.2.2.1.getD i dOut).2.1.size : Int)
   have e3 := hs.2 i (by omega)
   show (cat Q1b dOut t.2.2.1 i ++ Q1b (t.2.2.1.getD i dOut)).length ≤ _
   rw [List.length_append, Nat.add_mul]
   have : (cat Q1b dOut t.2.2.1 i).length ≤ i * 537 := this
   omega
 have a1 := h1 t.2.1.length (Nat.le_refl _)
 have a2 := h2 t.2.2.1.length (Nat.le_refl _)
 have c1 := Q5u (t.2.1.length : Int)
 have c2 := Q5u (t.2.2.1.length : Int)
 have n1 := ht.nin
 have n2 := ht.nout
 rw [Q3l]
 have b1 : (cat Q1k dIn t.2.1 t.2.1.length).length ≤ t.2.1.length * 569 := a1
 have b2 : (cat Q1b dOut t.2.2.1 t.2.2.1.length).length ≤ t.2.2.1.length * 537 := a2
 omega
theorem Q3v {k : Nat} {t : TTx} (ht : TxOK t) (hk : t.2.1.length + t.2.2.1.length + 20 ≤ k) : Qh k t = some ((encS t).1, (encS t).2, ()) := by
 obtain ⟨v, ins, outs, tm, u⟩ := t
 have ht' := ht
 obtain ⟨hv, htm, hi, ho, hni, hno⟩ := ht'
 dsimp only at hv htm hi ho hni hno hk
 unfold Qh Qh.c
 dsimp only
 have l0 : Qh.l0 k k (ins, (ins.length : Int), (0 : Int), (v, ins, outs, tm, ()), ()) = some (if ∀ i, i < ins.length → decide ((ins.getD i dIn).2.1.size ≤ 520) = true then .inr ((v, ins, outs, tm, ()), ()) else .inl (eb, 100, ())) := by
  refine Q23 (r := Qh.l0.r k) (fun i => (ins, (ins.length : Int), (i : Int), (v, ins, outs, tm, ()), ())) ins.length _ _ (fun i => decide ((ins.getD i dIn).2.1.size ≤ 520)) ?_ ?_ ?_ (by omega)
  ·intro i h hp kn ke
   simp only [Qh.l0.r]
   rw [Q56]
   have := of_decide_eq_true hp
   rw [Qy (by omega), Qy (by omega), show (i : Int).toNat = i by omega, Q0I (by omega), i64_in (by omega)]
   rfl
  ·intro i h hp kn ke
   simp only [Qh.l0.r]
   rw [Q56]
   have := of_decide_eq_false hp
   rw [Qy (by omega), Qy (by omega), show (i : Int).toNat = i by omega, Qy (by omega)]
  ·intro kn ke
   simp only [Qh.l0.r]
   rw [Q0I (by omega)]
 rw [l0]
 simp only [Option.bind_some]
 by_cases c1 : ∀ i, i < ins.length → decide ((ins.getD i dIn).2.1.size ≤ 520) = true
 case neg =>
  rw [if_neg c1]
  have : ¬ scOK (v, ins, outs, tm, u) := fun h => c1 fun i hi => decide_eq_true (h.1 i hi)
  unfold encS
  rw [if_neg this]
 rw [if_pos c1]
 dsimp only
 have l1 : Qh.l1 k k (outs, (outs.length : Int), (0 : Int), (v, ins, outs, tm, ()), ()) = some (if ∀ i, i < outs.length → decide ((outs.getD i dOut).2.1.size ≤ 520) = true then .inr ((v, ins, outs, tm, ()), ()) else .inl (eb, 100, ())) := by
  refine Q23 (r := Qh.l1.r k) (fun i => (outs, (outs.length : Int), (i : Int), (v, ins, outs, tm, ()), ())) outs.length _ _ (fun i => decide ((outs.getD i dOut).2.1.size ≤ 520)) ?_ ?_ ?_ (by omega)
  ·intro i h hp kn ke
   simp only [Qh.l1.r]
   rw [Q2Z]
   have := of_decide_eq_true hp
   rw [Qy (by omega), Qy (by omega), show (i : Int).toNat = i by omega, Q0I (by omega), i64_in (by omega)]
   rfl
  ·intro i h hp kn ke
   simp only [Qh.l1.r]
   rw [Q2Z]
   have := of_decide_eq_false hp
   rw [Qy (by omega), Qy (by omega), show (i : Int).toNat = i by omega, Qy (by omega)]
  ·intro kn ke
   simp only [Qh.l1.r]
   rw [Q0I (by omega)]
 rw [l1]
 simp only [Option.bind_some]
 by_cases c2 : ∀ i, i < outs.length → decide ((outs.getD i dOut).2.1.size ≤ 520) = true
 case neg =>
  rw [if_neg c2]
  have : ¬ scOK (v, ins, outs, tm, u) := fun h => c2 fun i hi => decide_eq_true (h.2 i hi)
  unfold encS
  rw [if_neg this]
 rw [if_pos c2]
 dsimp only
 have hs : scOK (v, ins, outs, tm, u) := ⟨fun i h => of_decide_eq_true (c1 i h), fun i h => of_decide_eq_true (c2 i h)⟩
 have hbd := Q8H ht hs
 show (Q0a k (v, ins, outs, tm, u)).bind _ = _
 rw [Q99 ht hbd hk]
 simp only [Option.bind_some]
 unfold encS
 rw [if_pos hs]
 by_cases c3 : (encL (v, ins, outs, tm, u)).length > 4096
 ·rw [Qy (by omega), if_pos c3]
 ·rw [Q0I (by omega), if_neg c3]
  have hlen : (encL (v, ins, outs, tm, u)).length = 4 + (Q17 (ins.length : Int)).length + (cat Q1k dIn ins ins.length).length + (Q17 (outs.length : Int)).length + (cat Q1b dOut outs outs.length).length + 4 := Q3l (v, ins, outs, tm, u)
  rw [show Q0s k = some ((((), ((), ())), ()), [], ()) from rfl]
  simp only [Option.bind_some]
  rw [wu32 (by omega) hv (by simp), List.nil_append]
  simp only [Option.bind_some]
  rw [u64_in (n := (ins.length : Int)) (by omega), wcnt (by omega) _ (by rw [Q0B]; omega)]
  simp only [Option.bind_some]
  have l2 : Qh.l2 k k (ins, (ins.length : Int), (0 : Int), (v, ins, outs, tm, ()), (((), ((), ())), ()), lowI v 4 ++ Q17 (ins.length : Int), ()) =
    some ((v, ins, outs, tm, ()), (((), ((), ())), ()), lowI v 4 ++ Q17 (ins.length : Int) ++ cat Q1k dIn ins ins.length, ()) := by
   have := Q0V (r := Qh.l2.r k) (fun i => (ins, (ins.length : Int), (i : Int), (v, ins, outs, tm, ()), (((), ((), ())), ()), lowI v 4 ++ Q17 (ins.length : Int) ++ cat Q1k dIn ins i, ())) ins.length
    ((v, ins, outs, tm, ()), (((), ((), ())), ()), lowI v 4 ++ Q17 (ins.length : Int) ++ cat Q1k dIn ins ins.length, ()) ?_ ?_ (fuel := k) (by omega)
   ·rw [cat, List.append_nil] at this
    exact this
   ·intro i h kn ke
    simp only [Qh.l2.r]
    rw [Q56]
    have m := Q2V Q1k dIn ins (i := i + 1) (n := ins.length) (by omega)
    rw [cat, List.length_append] at m
    have ok := hi i h
    have e := Q38 ok
    have e2 := Q1v ((ins.getD i dIn).2.1.size : Int)
    have hl : (lowI v 4 ++ Q17 (ins.length : Int) ++ cat Q1k dIn ins i).length ≤ 4096 := by simp only [List.length_append, Q0B]; omega
    rw [Qy (by omega), Qy (by omega), show (i : Int).toNat = i by omega]
    generalize hP : lowI v 4 ++ Q17 (ins.length : Int) ++ cat Q1k dIn ins i = P at *
    rw [QfY k ok.1 (by omega)]
    simp only [Option.bind_some]
    rw [wu32 (by omega) ok.2.1 (by rw [List.length_append, List.length_take]; omega)]
    simp only [Option.bind_some]
    rw [wstr (by omega) _ (by simp only [List.length_append, List.length_take, Q0B]; omega)]
    simp only [Option.bind_some]
    have := Q49 (ins.getD i dIn).2.1
    rw [wu32 (by omega) ok.2.2 (by simp only [List.length_append, List.length_take, Q0B]; omega)]
    simp only [Option.bind_some]
    rw [i64_in (by omega)]
    have e4 : P ++ (ins.getD i dIn).1.1.take 32 ++ lowI (ins.getD i dIn).1.2.1 4 ++ Q2X (ins.getD i dIn).2.1 ++ lowI (ins.getD i dIn).2.2.1 4 = lowI v 4 ++ Q17 (ins.length : Int) ++ cat Q1k dIn ins (i + 1) := by
     rw [cat, ← List.append_assoc, hP]
     unfold Q1k
     simp only [List.append_assoc]
    rw [e4]
    rfl
   ·intro kn ke
    simp only [Qh.l2.r]
    rw [Q0I (by omega)]
  rw [l2]
  simp only [Option.bind_some]
  rw [u64_in (n := (outs.length : Int)) (by omega), wcnt (by omega) _ (by simp only [List.length_append, Q0B]; omega)]
  simp only [Option.bind_some]
  generalize hQ : lowI v 4 ++ Q17 (ins.length : Int) ++ cat Q1k dIn ins ins.length ++ Q17 (outs.length : Int) = Q
  have hQl : Q.length = 4 + (Q17 (ins.length : Int)).length + (cat Q1k dIn ins ins.length).length + (Q17 (outs.length : Int)).length := by rw [← hQ]; simp only [List.length_append, Q0B]
  have l3 : Qh.l3 k k (outs, (outs.length : Int), (0 : Int), (v, ins, outs, tm, ()), (((), ((), ())), ()), Q, ()) = some ((v, ins, outs, tm, ()), (((), ((), ())), ()), Q ++ cat Q1b dOut outs outs.length, ()) := by
   have := Q0V (r := Qh.l3.r k) (fun i => (outs, (outs.length : Int), (i : Int), (v, ins, outs, tm, ()), (((), ((), ())), ()), Q ++ cat Q1b dOut outs i, ())) outs.length
    ((v, ins, outs, tm, ()), (((), ((), ())), ()), Q ++ cat Q1b dOut outs outs.length, ()) ?_ ?_ (fuel := k) (by omega)
   ·rw [cat, List.append_nil] at this
    exact this
   ·intro i h kn ke
    simp only [Qh.l3.r]
    rw [Q2Z]
    have m := Q2V Q1b dOut outs (i := i + 1) (n := outs.length) (by omega)
    rw [cat, List.length_append] at m
    have e := Q2G (outs.getD i dOut)
    have e2 := Q1v ((outs.getD i dOut).2.1.size : Int)
    have hl : (Q ++ cat Q1b dOut outs i).length ≤ 4096 := by rw [List.length_append]; omega
    rw [Qy (by omega), Qy (by omega), show (i : Int).toNat = i by omega]
    generalize hP : Q ++ cat Q1b dOut outs i = P at *
    rw [wu64 (by omega) _ (by omega)]
    simp only [Option.bind_some]
    rw [wstr (by omega) _ (by simp only [List.length_append, Q0B]; omega)]
    simp only [Option.bind_some]
    rw [i64_in (by omega)]
    have e4 : P ++ lowI (outs.getD i dOut).1 8 ++ Q2X (outs.getD i dOut).2.1 = Q ++ cat Q1b dOut outs (i + 1) := by
     rw [cat, ← List.append_assoc, hP]
     unfold Q1b
     simp only [List.append_assoc]
    rw [e4]
    rfl
   ·intro kn ke
    simp only [Qh.l3.r]
    rw [Q0I (by omega)]
  rw [l3]
  simp only [Option.bind_some]
  rw [wu32 (by omega) htm (by rw [List.length_append]; omega)]
  simp only [Option.bind_some]
  have e5 : Q ++ cat Q1b dOut outs outs.length ++ lowI tm 4 = encL (v, ins, outs, tm, u) := by rw [← hQ]; rfl
  rw [e5]
  unfold Q05 Q05.c
  rw [QR (Q1p (by omega))]
  rfl
end Go.Am
namespace Go.Am
open Go
theorem Q7d {α β : Type} (f : α → β) (l : List α) (d : α) {i : Nat} (h : i < l.length) : (l.take i).map f ++ [f (l.getD i d)] = (l.take (i + 1)).map f := by
 rw [List.take_add_one, List.getD_eq_getElem?_getD, List.getElem?_eq_getElem h, Option.toList_some, List.map_append]
 rfl
theorem Q67 {k : Nat} {t : TTx} (h1 : t.2.1.length ≤ 2199023255552) (h2 : t.2.2.1.length ≤ 5864062014805) (hk : t.2.1.length + t.2.2.1.length + 1 ≤ k) : Q6 k t = some (gTx t, ()) := by
 obtain ⟨v, ins, outs, tm, u⟩ := t
 dsimp only at h1 h2 hk
 unfold Q6 Q6.c
 dsimp only
 have l0 : Q6.l0 k k (ins, (ins.length : Int), (0 : Int), (v, ins, outs, tm, ()), (0, (), (), 0, ()), (v, (), (), tm, ()), [], ()) = some ((v, ins, outs, tm, ()), (0, (), (), 0, ()), (v, (), (), tm, ()), ins.map gIn, ()) := by
  have := Q0V (r := Q6.l0.r k) (fun i => (ins, (ins.length : Int), (i : Int), (v, ins, outs, tm, ()), (0, (), (), 0, ()), (v, (), (), tm, ()), (ins.take i).map gIn, ())) ins.length
   ((v, ins, outs, tm, ()), (0, (), (), 0, ()), (v, (), (), tm, ()), ins.map gIn, ()) ?_ ?_ (fuel := k) (by omega)
  ·exact this
  ·intro i h kn ke
   simp only [Q6.l0.r]
   rw [Q56, Qy (by omega), Qy (by omega), show (i : Int).toNat = i by omega,
    QR (Q1p (by simp only [List.length_set, List.length_replicate, List.length_map, List.length_take]; omega)), i64_in (by omega)]
   have e : ∀ d : RIn, List.set (List.replicate 1 d) 0 ((ins.getD i dIn).1.1, (ins.getD i dIn).1.2.1, (ins.getD i dIn).2.1, (ins.getD i dIn).2.2.1, ()) = [gIn (ins.getD i dIn)] := fun _ => rfl
   rw [e, Q7d gIn ins dIn h]
   rfl
  ·intro kn ke
   simp only [Q6.l0.r]
   rw [Q0I (by omega), List.take_length]
 rw [l0]
 simp only [Option.bind_some]
 have l1 : Q6.l1 k k (outs, (outs.length : Int), (0 : Int), (0, (), (), 0, ()), (v, (), (), tm, ()), ins.map gIn, [], ()) = some ((0, (), (), 0, ()), (v, (), (), tm, ()), ins.map gIn, outs, ()) := by
  have := Q0V (r := Q6.l1.r k) (fun i => (outs, (outs.length : Int), (i : Int), (0, (), (), 0, ()), (v, (), (), tm, ()), ins.map gIn, (outs.take i).map id, ())) outs.length
   ((0, (), (), 0, ()), (v, (), (), tm, ()), ins.map gIn, outs, ()) ?_ ?_ (fuel := k) (by omega)
  ·exact this
  ·intro i h kn ke
   simp only [Q6.l1.r]
   rw [Q2Z, Qy (by omega), Qy (by omega), show (i : Int).toNat = i by omega,
    QR (Q1p (by simp only [List.length_set, List.length_replicate, List.length_map, List.length_take]; omega)), i64_in (by omega)]
   have e : ∀ d : TOut, List.set (List.replicate 1 d) 0 ((outs.getD i dOut).1, (outs.getD i dOut).2.1, ()) = [id (outs.getD i dOut)] := fun _ => rfl
   rw [e, Q7d id outs dOut h]
   rfl
  ·intro kn ke
   simp only [Q6.l1.r]
   rw [Q0I (by omega), List.take_length, List.map_id]
 show (Q6.l1 k k (outs, (outs.length : Int), (0 : Int), (0, (), (), 0, ()), (v, (), (), tm, ()), ins.map gIn, [], ())).bind _ = _
 rw [l1]
 rfl
theorem Q9O (s t : ByteArray) : Q25 s t = decide (s = t) := by
 by_cases h : s = t
 ·rw [h, Q4j, decide_eq_true rfl]
 ·rw [Q7I h, decide_eq_false h]
theorem QcJ (x y : RIn) : (decide (x.1 = y.1) && ((x.2.1 == y.2.1) && (Q25 x.2.2.1 y.2.2.1 && ((x.2.2.2.1 == y.2.2.2.1) && true)))) = decide (x = y) := by
 obtain ⟨a, b, c, d, u⟩ := x
 obtain ⟨a', b', c', d', u'⟩ := y
 rw [Bool.eq_iff_iff]
 simp only [Q9O, Bool.and_eq_true, decide_eq_true_eq, beq_iff_eq, Bool.and_true, Prod.mk.injEq]
 simp
theorem Qd9 (x y : TOut) : ((x.1 == y.1) && (Q25 x.2.1 y.2.1 && true)) = decide (x = y) := by
 obtain ⟨a, b, u⟩ := x
 obtain ⟨a', b', u'⟩ := y
 rw [Bool.eq_iff_iff]
 simp only [Q9O, Bool.and_eq_true, decide_eq_true_eq, beq_iff_eq, Bool.and_true, Prod.mk.injEq]
 simp
theorem Q7R {α : Type} [DecidableEq α] (d : α) {a b : List α} (h : a.length = b.length) : (∀ i, i < a.length → decide (a.getD i d = b.getD i d) = true) ↔ a = b := by
 constructor
 ·intro h2
  apply List.ext_getElem h
  intro i h3 h4
  have := of_decide_eq_true (h2 i h3)
  rw [List.getD_eq_getElem?_getD, List.getD_eq_getElem?_getD, List.getElem?_eq_getElem h3, List.getElem?_eq_getElem h4] at this
  exact this
 ·rintro rfl i _
  exact decide_eq_true rfl
instance decRIn : DecidableEq RIn := inferInstance
instance decTOut : DecidableEq TOut := inferInstance
instance decRIns : DecidableEq (List RIn) := inferInstance
instance decTOuts : DecidableEq (List TOut) := inferInstance
instance decR1 : DecidableEq (List TOut × Int × Unit) := inferInstance
instance decR2 : DecidableEq (List RIn × List TOut × Int × Unit) := inferInstance
instance decRTx : DecidableEq RTx := inferInstance
abbrev dR : RIn := (List.replicate 32 (0 : Int), 0, ByteArray.empty, 0, ())
theorem Q4H : (List.replicate 32 (0 : Int), (0 : Int), ByteArray.empty, (0 : Int), ()) = dR := rfl
theorem Q9o {k : Nat} {a b : RTx} (h1 : a.2.1.length + a.2.2.1.length + 1 ≤ k) (h2 : a.2.1.length ≤ 4611686018427387904 ∧ a.2.2.1.length ≤ 4611686018427387904) : Q4 k a b = some (decide (a = b), ()) := by
 obtain ⟨v, ins, outs, tm, u⟩ := a
 obtain ⟨v', ins', outs', tm', u'⟩ := b
 dsimp only at h1 h2
 unfold Q4 Q4.c
 have hp : Q4.p0 k ((v, ins, outs, tm, ()), (v', ins', outs', tm', ()), ()) = some (if v = v' ∧ tm = tm' ∧ ins.length = ins'.length ∧ outs.length = outs'.length then .inr ((v, ins, outs, tm, ()), (v', ins', outs', tm', ()), ()) else .inl (false, ())) := by
  unfold Q4.p0
  simp only [Q4.p0.r]
  by_cases c1 : v = v'
  ·rw [Q0v (by simpa using c1)]
   by_cases c2 : tm = tm'
   ·rw [Q0v (by simpa using c2)]
    by_cases c3 : ins.length = ins'.length
    ·rw [Q0v (show ((ins.length : Int) != (ins'.length : Int)) = false by rw [c3, bne_self_eq_false])]
     by_cases c4 : outs.length = outs'.length
     ·rw [Q0v (show ((outs.length : Int) != (outs'.length : Int)) = false by rw [c4, bne_self_eq_false]), if_pos ⟨c1, c2, c3, c4⟩]
     ·rw [QR (by rw [bne_iff_ne]; omega), if_neg (fun h => c4 h.2.2.2)]
    ·rw [QR (by rw [bne_iff_ne]; omega), if_neg (fun h => c3 h.2.2.1)]
   ·rw [QR (by simpa using c2), if_neg (fun h => c2 h.2.1)]
  ·rw [QR (by simpa using c1), if_neg (fun h => c1 h.1)]
 show (Q4.p0 k ((v, ins, outs, tm, ()), (v', ins', outs', tm', ()), ())).bind _ = _
 rw [hp]
 simp only [Option.bind_some]
 by_cases c : v = v' ∧ tm = tm' ∧ ins.length = ins'.length ∧ outs.length = outs'.length
 case neg =>
  rw [if_neg c]
  have : ¬ ((v, ins, outs, tm, u) : RTx) = (v', ins', outs', tm', u') := by
   intro h
   simp only [Prod.mk.injEq] at h
   exact c ⟨h.1, h.2.2.2.1, by rw [h.2.1], by rw [h.2.2.1]⟩
  rw [decide_eq_false this]
 rw [if_pos c]
 obtain ⟨rfl, rfl, c3, c4⟩ := c
 dsimp only
 have l1 : Q4.l1 k k ((ins.length : Int), (0 : Int), (v, ins, outs, tm, ()), (v, ins', outs', tm, ()), ()) = some (if ∀ i, i < ins.length → decide (ins.getD i dR = ins'.getD i dR) = true then .inr ((v, ins, outs, tm, ()), (v, ins', outs', tm, ()), ()) else .inl (false, ())) := by
  refine Q23 (r := Q4.l1.r k) (fun i => ((ins.length : Int), (i : Int), (v, ins, outs, tm, ()), (v, ins', outs', tm, ()), ())) ins.length _ _ (fun i => decide (ins.getD i dR = ins'.getD i dR)) ?_ ?_ ?_ (by omega)
  ·intro i h hq kn ke
   simp only [Q4.l1.r]
   rw [Qy (by omega), Qy (by omega), Qy (by omega), show (i : Int).toNat = i by omega, Q4H, QcJ, hq, i64_in (by omega)]
   rfl
  ·intro i h hq kn ke
   simp only [Q4.l1.r]
   rw [Qy (by omega), Qy (by omega), Qy (by omega), show (i : Int).toNat = i by omega, Q4H, QcJ, hq]
   rfl
  ·intro kn ke
   simp only [Q4.l1.r]
   rw [Q0I (by omega)]
 rw [l1]
 simp only [Option.bind_some]
 by_cases d1 : ins = ins'
 case neg =>
  rw [if_neg (fun h => d1 ((Q7R dR c3).1 h))]
  have : ¬ ((v, ins, outs, tm, u) : RTx) = (v, ins', outs', tm, u') := by
   intro h
   simp only [Prod.mk.injEq] at h
   exact d1 h.2.1
  rw [decide_eq_false this]
 rw [if_pos ((Q7R dR c3).2 d1)]
 dsimp only
 have l2 : Q4.l2 k k ((outs.length : Int), (0 : Int), (v, ins, outs, tm, ()), (v, ins', outs', tm, ()), ()) = some (if ∀ i, i < outs.length → decide (outs.getD i dOut = outs'.getD i dOut) = true then .inr () else .inl (false, ())) := by
  refine Q23 (r := Q4.l2.r k) (fun i => ((outs.length : Int), (i : Int), (v, ins, outs, tm, ()), (v, ins', outs', tm, ()), ())) outs.length _ _ (fun i => decide (outs.getD i dOut = outs'.getD i dOut)) ?_ ?_ ?_ (by omega)
  ·intro i h hq kn ke
   simp only [Q4.l2.r]
   rw [Qy (by omega), Qy (by omega), Qy (by omega), show (i : Int).toNat = i by omega, Q2Z, Qd9, hq, i64_in (by omega)]
   rfl
  ·intro i h hq kn ke
   simp only [Q4.l2.r]
   rw [Qy (by omega), Qy (by omega), Qy (by omega), show (i : Int).toNat = i by omega, Q2Z, Qd9, hq]
   rfl
  ·intro kn ke
   simp only [Q4.l2.r]
   rw [Q0I (by omega)]
 rw [l2]
 simp only [Option.bind_some]
 by_cases d2 : outs = outs'
 case neg =>
  rw [if_neg (fun h => d2 ((Q7R dOut c4).1 h))]
  have : ¬ ((v, ins, outs, tm, u) : RTx) = (v, ins', outs', tm, u') := by
   intro h
   simp only [Prod.mk.injEq] at h
   exact d2 h.2.2.1
  rw [decide_eq_false this]
 rw [if_pos ((Q7R dOut c4).2 d2)]
 subst d1; subst d2
 rw [decide_eq_true rfl]
theorem Q8W (s : ByteArray) (a : Int) : (Q12 s a).1.2.1.length ≤ 4096 ∧ (Q12 s a).1.2.2.1.length ≤ 4096 := by
 unfold Q12
 split
 ·exact ⟨Nat.zero_le _, Nat.zero_le _⟩
 ·dsimp only
  split
  ·exact ⟨Nat.zero_le _, Nat.zero_le _⟩
  ·have h1 := Q47 (f := Q1B) (QN (Q08 (s, a, a, 0, ()) 4).1 4096 5).2.toNat (QN (Q08 (s, a, a, 0, ()) 4).1 4096 5).1 []
   have h2 := Q13 (x := (Q08 (s, a, a, 0, ()) 4).1) 4096 5 (by omega)
   rw [List.length_nil] at h1
   refine ⟨by dsimp only; omega, ?_⟩
   dsimp only
   generalize Q0R Q1B (QN (Q08 (s, a, a, 0, ()) 4).1 4096 5).2.toNat (QN (Q08 (s, a, a, 0, ()) 4).1 4096 5).1 [] = is
   have h3 := Q47 (f := Q1s) (QN is.1 4096 5).2.toNat (QN is.1 4096 5).1 []
   have h4 := Q13 (x := is.1) 4096 5 (by omega)
   rw [List.length_nil] at h3
   omega
theorem Qdk {s : ByteArray} (hs : s.size ≤ 4611686018427387904) {a : Int} : (Q12 s a).2.1 ≤ (s.size : Int) := by
 unfold Q12
 split
 ·exact Int.natCast_nonneg _
 ·rename_i h
  dsimp only
  split
  ·exact Int.natCast_nonneg _
  ·have hx : TkOK (s, a, a, 0, ()) := ⟨hs, by dsimp only; omega, by dsimp only; omega, by dsimp only; omega⟩
   have h1 := Q2j hx (n := 4) (by omega)
   have h2 := (Q11 h1 4096 5)
   have h3 := Q2n (fun x h => Q2v h) (QN (Q08 (s, a, a, 0, ()) 4).1 4096 5).2.toNat [] h2.1
   have e : ∀ (n : Nat) (x : Tk) (l : List TIn), TkOK x → (Q0R Q1B n x l).1.1 = x.1 := by
    intro n
    induction n with
    | zero => intro x l _; rfl
    | succ n ih =>
     intro x l hx
     unfold Q0R
     split
     ·rfl
     ·rw [ih _ _ (Q2v hx)]
      unfold Q1B
      dsimp only
      have g1 := Q0H hx (n := 32) (by omega)
      have g2 := Q0H g1.1 (n := 4) (by omega)
      have g3 := Q11 (x := (Q08 (QC x 32).1 4).1) g2.1 520 100
      have g4 := Q0H g3.1 (n := (QN (Q08 (QC x 32).1 4).1 520 100).2) (Q13 520 100 (by omega)).1
      have g5 := Q0H g4.1 (n := 4) (by omega)
      exact g5.2.1.trans (g4.2.1.trans (g3.2.1.trans (g2.2.1.trans g1.2.1)))
   have e2 : ∀ (n : Nat) (x : Tk) (l : List TOut), TkOK x → (Q0R Q1s n x l).1.1 = x.1 := by
    intro n
    induction n with
    | zero => intro x l _; rfl
    | succ n ih =>
     intro x l hx
     unfold Q0R
     split
     ·rfl
     ·rw [ih _ _ (Q2o hx)]
      unfold Q1s
      dsimp only
      have g2 := Q0H hx (n := 8) (by omega)
      have g3 := Q11 (x := (Q08 x 8).1) g2.1 520 100
      have g4 := Q0H g3.1 (n := (QN (Q08 x 8).1 520 100).2) (Q13 520 100 (by omega)).1
      exact g4.2.1.trans (g3.2.1.trans g2.2.1)
   have f1 := e (QN (Q08 (s, a, a, 0, ()) 4).1 4096 5).2.toNat (QN (Q08 (s, a, a, 0, ()) 4).1 4096 5).1 [] h2.1
   generalize Q0R Q1B (QN (Q08 (s, a, a, 0, ()) 4).1 4096 5).2.toNat (QN (Q08 (s, a, a, 0, ()) 4).1 4096 5).1 [] = is at *
   have h4 := Q11 h3 4096 5
   have h5 := Q2n (fun x h => Q2o h) (QN is.1 4096 5).2.toNat [] h4.1
   have f2 := e2 (QN is.1 4096 5).2.toNat (QN is.1 4096 5).1 [] h4.1
   generalize Q0R Q1s (QN is.1 4096 5).2.toNat (QN is.1 4096 5).1 [] = os at *
   have h6 := Q0H h5 (n := 4) (by omega)
   have e0 : (Q08 os.1 4).1.1 = s := by
    have a1 : (Q08 os.1 4).1.1 = os.1.1 := h6.2.1
    have a2 : (Q08 (s, a, a, 0, ()) 4).1.1 = s := (Q0H hx (n := 4) (by omega)).2.1
    rw [a1, f2, h4.2.1, f1, h2.2.1, a2]
   have := h6.1.2.2.2
   rw [show (QC os.1 4).1.1 = s from e0] at this
   exact this
def decS (s : ByteArray) : TTx × Int := if (Q12 s 0).2.2 ≠ 0 then ((0, [], [], 0, ()), (Q12 s 0).2.2) else if (Q12 s 0).2.1 ≠ (s.size : Int) then ((0, [], [], 0, ()), 5) else ((Q12 s 0).1, 0)
theorem Q6n {k : Nat} (hk : 4100 ≤ k) {s : ByteArray} (hs : s.size ≤ 4611686018427387904) : Q0N k s = some ((decS s).1, (decS s).2, ()) := by
 unfold Q0N Q0N.c
 rw [Q9b hk hs]
 simp only [Option.bind_some]
 unfold decS
 by_cases c1 : (Q12 s 0).2.2 ≠ 0
 ·rw [QR (by simpa using c1), if_pos c1]
 ·rw [Q0v (by simpa using c1), if_neg c1]
  by_cases c2 : (Q12 s 0).2.1 ≠ (s.size : Int)
  ·rw [QR (by simpa using c2), if_pos c2]
  ·rw [Q0v (by simpa using c2), if_neg c2]
def awT : TTx := (1, [((List.replicate 32 0, 0, ()), ⟨List.toArray [107]⟩, 0, ())], [(5, eb, ())], 0, ())
theorem Qfy : TxOK awT where
 v := by unfold u32R awT; decide
 tm := by unfold u32R awT; decide
 ins := by
  intro i h
  have : i = 0 := by have : i < 1 := h; omega
  subst this
  refine ⟨⟨rfl, ?_⟩, ?_, ?_⟩
  ·intro x hx
   have := List.eq_of_mem_replicate (show x ∈ List.replicate 32 (0 : Int) from hx)
   omega
  ·show u32R 0; unfold u32R; decide
  ·show u32R 0; unfold u32R; decide
 outs := by
  intro i h
  have : i = 0 := by have : i < 1 := h; omega
  subst this
  show Q5y (5, eb, ())
  unfold Q5y; decide
 nin := by decide
 nout := by decide
set_option maxRecDepth 100000 in
theorem Qf4 : ((encS awT).2 == 0 && (((encS awT).1.size : Int) == 61) && ((decS (encS awT).1).2 == 0) && (decide (0 < (decS (encS awT).1).1.2.2.1.length) && ((List.getD (decS (encS awT).1).1.2.2.1 0 (0, ByteArray.empty, ())).1 == 5))) = true := by kernel_rfl
theorem Qae {k : Nat} (hk : 4100 ≤ k) : QJ k = some (true, ()) := by
 unfold QJ QJ.c
 have he := Qf4
 simp only [Bool.and_eq_true, beq_iff_eq, decide_eq_true_eq] at he
 obtain ⟨⟨⟨h1, h2⟩, h3⟩, h4, h5⟩ := he
 show (Qh k awT).bind _ = _
 rw [Q3v Qfy (by show 1 + 1 + 20 ≤ k; omega)]
 simp only [Option.bind_some]
 have hs : (encS awT).1.size = 61 := by omega
 rw [Q6n hk (by omega)]
 simp only [Option.bind_some]
 rw [h1, h3, h2, h5, Qy ⟨by omega, by omega⟩]
 rfl
theorem QeH {s : ByteArray} (hs : s.size ≤ 140737488351232) (a : Int) : Qk 10000 s a = some (true, ()) := by
 unfold Qk Qk.c
 generalize hk : 10000 = k
 have L := Q8W s a
 have L0 := Q8W s 0
 rw [Q9b (by omega) (by omega)]
 simp only [Option.bind_some]
 rw [Q5x (by omega) (by omega)]
 simp only [Option.bind_some]
 have hgl : ∀ t : TTx, (gTx t).2.1.length = t.2.1.length ∧ (gTx t).2.2.1.length = t.2.2.1.length := fun t => ⟨by simp [gTx], rfl⟩
 have hp : Qk.p0 k (s, (Q12 s a).2.1, (Q12 s a).2.2, (Q12 s a).2.1, (Q12 s a).2.2, (Q12 s a).1, gTx (Q12 s a).1, ()) = some (.inr (s, (Q12 s a).1, gTx (Q12 s a).1, ())) := by
  unfold Qk.p0
  simp only [Qk.p0.r]
  rw [Qae (by omega)]
  simp only [Option.bind_some, Bool.not_true, cond_false]
  show (Q6 k (Q12 s a).1).bind _ = _
  rw [Q67 (by omega) (by omega) (by omega)]
  simp only [Option.bind_some]
  show (Q4 k (gTx (Q12 s a).1) (gTx (Q12 s a).1)).bind _ = _
  rw [Q9o (by rw [(hgl _).1, (hgl _).2]; omega) (by rw [(hgl _).1, (hgl _).2]; omega), decide_eq_true (rfl : gTx (Q12 s a).1 = gTx (Q12 s a).1)]
  simp only [Option.bind_some, Bool.not_true, cond_false, bne_self_eq_false]
 show (Qk.p0 k (s, (Q12 s a).2.1, (Q12 s a).2.2, (Q12 s a).2.1, (Q12 s a).2.2, (Q12 s a).1, gTx (Q12 s a).1, ())).bind _ = _
 rw [hp]
 simp only [Option.bind_some]
 rw [Q6n (by omega) (by omega)]
 simp only [Option.bind_some]
 rw [Q5x (by omega) (by omega)]
 simp only [Option.bind_some]
 have hto := Qdk (s := s) (a := 0) (by omega)
 have hz : gTx (0, [], [], 0, ()) = (0, [], [], 0, ()) := rfl
 have hd : (decS s).1.2.1.length ≤ 4096 ∧ (decS s).1.2.2.1.length ≤ 4096 := by
  unfold decS
  split
  ·exact ⟨Nat.zero_le _, Nat.zero_le _⟩
  ·split
   ·exact ⟨Nat.zero_le _, Nat.zero_le _⟩
   ·exact L0
 have G : Q6 k (decS s).1 = some (gTx (decS s).1, ()) := Q67 (by omega) (by omega) (by omega)
 have S : ∀ b, Q4 k (gTx (decS s).1) b = some (decide (gTx (decS s).1 = b), ()) := fun b => Q9o (by rw [(hgl _).1, (hgl _).2]; omega) (by rw [(hgl _).1, (hgl _).2]; omega)
 by_cases c1 : (Q12 s 0).2.2 = 0
 ·rw [QR (by simpa using c1)]
  by_cases c2 : (Q12 s 0).2.1 < (s.size : Int)
  ·rw [Qy c2]
   show (Q6 k (decS s).1).bind _ = _
   rw [G]
   simp only [Option.bind_some]
   show (Q4 k (gTx (decS s).1) (0, [], [], 0, ())).bind _ = _
   rw [S]
   have e : decS s = ((0, [], [], 0, ()), 5) := by unfold decS; rw [if_neg (by simpa using c1), if_pos (by omega)]
   rw [e]
   simp only [Option.bind_some]
   rw [hz, decide_eq_true rfl]
   rfl
  ·rw [Q0I c2]
   show (Q6 k (decS s).1).bind _ = _
   rw [G]
   simp only [Option.bind_some]
   show (Q4 k (gTx (decS s).1) (gTx (Q12 s 0).1)).bind _ = _
   rw [S]
   have e : decS s = ((Q12 s 0).1, 0) := by unfold decS; rw [if_neg (by simpa using c1), if_neg (by simp; omega)]
   rw [e]
   simp only [Option.bind_some]
   rw [decide_true, c1]
   rfl
 ·rw [Q0v (by simpa using c1)]
  show (Q6 k (decS s).1).bind _ = _
  rw [G]
  simp only [Option.bind_some]
  show (Q4 k (gTx (decS s).1) (gTx (Q12 s 0).1)).bind _ = _
  rw [S]
  have e : decS s = ((0, [], [], 0, ()), (Q12 s 0).2.2) := by unfold decS; rw [if_pos c1]
  have e2 : (Q12 s 0).1 = (0, [], [], 0, ()) := by
   unfold Q12 at c1 ⊢
   split
   ·rfl
   ·rename_i h0
    rw [if_neg h0] at c1
    dsimp only at c1 ⊢
    split
    ·rfl
    ·rename_i h1
     rw [if_neg h1] at c1
     exact absurd rfl c1
  rw [e, e2]
  simp only [Option.bind_some]
  rw [decide_true, beq_self_eq_true]
  rfl
end Go.Am
