/- A part of a proof: a machine of abstract values that tells what functions of the program compute, and the plain facts on them. -/
import Derived.Test.YtnibopdcpbebcaaGreatAm17
import Derived.Test.YtnibopdcpbebcaaGreatAm7
import Derived.Test.YtnibopdcpbebcaaGreatAm15
import Derived.Test.YtnibopdcpbebcaaGreatAm10
import Derived.KernelRfl
set_option linter.unusedVariables false
set_option linter.unusedSimpArgs false
set_option linter.unnecessarySimpa false
set_option linter.unusedSectionVars false
set_option linter.unusedSimpArgs false
namespace Go.Am
open Go
abbrev TBlk : Type := THd × List TTx × Unit
abbrev RBlk : Type := THd × List RTx × Unit
abbrev zB : TBlk := (zHd, [], ())
def gB (b : TBlk) : RBlk := (b.1, b.2.1.map gTx, ())
def Q2y (s : ByteArray) : Nat → Int → List TTx → Int × Int × List TTx
 | 0, a, l => (a, 0, l)
 | n + 1, a, l => if (Q1M s a).2.2 ≠ 0 then (a, (Q1M s a).2.2, []) else Q2y s n (Q1M s a).2.1 (l ++ [(Q1M s a).1])
theorem Q5S {s : ByteArray} {n : Nat} {a : Int} {l : List TTx} (c : (Q1M s a).2.2 = 0) : Q2y s (n + 1) a l = Q2y s n (Q1M s a).2.1 (l ++ [(Q1M s a).1]) := by
 show (if _ then _ else _) = _
 rw [if_neg (by simpa using c)]
theorem Q6k {s : ByteArray} {n : Nat} {a : Int} {l : List TTx} (c : (Q1M s a).2.2 ≠ 0) : Q2y s (n + 1) a l = (a, (Q1M s a).2.2, []) := by
 show (if _ then _ else _) = _
 rw [if_pos c]
def decE (s : ByteArray) : Int := if (Q1u s 80).2.2.1 = 0 ∧ (Q1u s 80).1 > 8192 then 5 else (Q1u s 80).2.2.1
def decB (s : ByteArray) : TBlk × Int × Int :=
 if (s.size : Int) > 8192 then (zB, 0, 110) else
 if (thS s 0).2 ≠ 0 then (zB, 0, (thS s 0).2) else
 if decE s ≠ 0 then (zB, 80, decE s) else
 let r := Q2y s (Q1u s 80).1.toNat (Q1u s 80).2.1 []
 if r.2.1 ≠ 0 then (zB, r.1, r.2.1) else
 if r.1 < (s.size : Int) then (zB, r.1, 5) else (((thS s 0).1, r.2.2, ()), 0, 0)
abbrev dTx : TTx := (0, [], [], 0, ())
abbrev dRx : RTx := (0, [], [], 0, ())
theorem Qc3 {k : Nat} (hk : 8300 ≤ k) {s : ByteArray} (hs : s.size ≤ 4611686018427387904) (n : Nat) (hn : n ≤ 8192) (h : THd) : ∀ (d i : Nat) (fuel : Nat) (a : Int) (l : List TTx), i + d = n → l.length = i → d < fuel →
  Q15 (QU.l0.r k) fuel (s, a, (n : Int), (i : Int), (zHd, (), ()), (h, (), ()), l, ()) =
   some (if (Q2y s d a l).2.1 ≠ 0 then .inl ((Q2y s d a l).1, (Q2y s d a l).2.1, (zHd, (), ()), ()) else .inr (s, (Q2y s d a l).1, (zHd, (), ()), (h, (), ()), (Q2y s d a l).2.2, ()))
 | 0, i, fuel, a, l, hi, hl, hf => by
  obtain ⟨f, rfl⟩ : ∃ f, fuel = f + 1 := ⟨fuel - 1, by omega⟩
  show QU.l0.r k _ (Q15 (QU.l0.r k) f) some = _
  simp only [QU.l0.r]
  rw [Q0Z (by omega), if_neg (fun h => h rfl)]
  rfl
 | d + 1, i, fuel, a, l, hi, hl, hf => by
  obtain ⟨f, rfl⟩ : ∃ f, fuel = f + 1 := ⟨fuel - 1, by omega⟩
  show QU.l0.r k _ (Q15 (QU.l0.r k) f) some = _
  simp only [QU.l0.r]
  rw [Qy (by omega), Qcx (by omega) hs]
  simp only [Option.bind_some]
  by_cases c : (Q1M s a).2.2 = 0
  ·rw [Q5S c, c, bne_self_eq_false, cond_false, QX (Q1I (by simp only [List.length_set, List.length_replicate]; omega)), u64_in (n := (i : Int) + 1) (by omega)]
   exact Qc3 hk hs n hn h d (i + 1) f (Q1M s a).2.1 (l ++ [(Q1M s a).1]) (by omega) (by simp [hl]) (by omega)
  ·rw [Q6k c, QX (by rw [bne_iff_ne]; exact c), if_pos c]
theorem Q6Y {k : Nat} (hk : 8300 ≤ k) {s : ByteArray} (hs : s.size ≤ 4611686018427387904) (n : Nat) (hn : n ≤ 8192) (h : THd) : ∀ (d i : Nat) (fuel : Nat) (a : Int) (l : List TTx), i + d = n → l.length = i → d < fuel →
  Q15 (Q8.l1.r k) fuel (s, (n : Int), a, (i : Int), (zHd, (), ()), (h, (), ()), l.map gTx, ()) =
   some (if (Q2y s d a l).2.1 ≠ 0 then .inl ((Q2y s d a l).1, (Q2y s d a l).2.1, (zHd, (), ()), ()) else .inr (s, (Q2y s d a l).1, (zHd, (), ()), (h, (), ()), (Q2y s d a l).2.2.map gTx, ()))
 | 0, i, fuel, a, l, hi, hl, hf => by
  obtain ⟨f, rfl⟩ : ∃ f, fuel = f + 1 := ⟨fuel - 1, by omega⟩
  show Q8.l1.r k _ (Q15 (Q8.l1.r k) f) some = _
  simp only [Q8.l1.r]
  rw [Q0Z (by omega), if_neg (fun h => h rfl)]
  rfl
 | d + 1, i, fuel, a, l, hi, hl, hf => by
  obtain ⟨f, rfl⟩ : ∃ f, fuel = f + 1 := ⟨fuel - 1, by omega⟩
  show Q8.l1.r k _ (Q15 (Q8.l1.r k) f) some = _
  simp only [Q8.l1.r]
  rw [Qy (by omega), Q9T (by omega) hs]
  simp only [Option.bind_some]
  by_cases c : (Q1M s a).2.2 = 0
  ·rw [Q5S c, c, bne_self_eq_false, cond_false, QX (Q1I (by simp only [List.length_set, List.length_replicate, List.length_map]; omega)), u64_in (n := (i : Int) + 1) (by omega)]
   have := Q6Y hk hs n hn h d (i + 1) f (Q1M s a).2.1 (l ++ [(Q1M s a).1]) (by omega) (by simp [hl]) (by omega)
   rw [List.map_append] at this
   exact this
  ·rw [Q6k c, QX (by rw [bne_iff_ne]; exact c), if_pos c]
theorem Q9C {s : ByteArray} (h : 80 ≤ s.size) : (Q1u (s.extract 80 s.size) 0).1 = (Q1u s 80).1 ∧ (Q1u (s.extract 80 s.size) 0).2.2.1 = (Q1u s 80).2.2.1 ∧ ((Q1u s 80).2.2.1 = 0 → 80 + (Q1u (s.extract 80 s.size) 0).2.1 = (Q1u s 80).2.1) ∧ (0 ≤ (Q1u s 80).1 ∧ (Q1u s 80).1 ≤ 18446744073709551615) := by
 unfold Q1u
 have hx : (s.extract 80 s.size).size = s.size - 80 := by rw [ByteArray.size_extract]; omega
 rw [if_neg (by omega), if_neg (by omega)]
 have e : (Qq (s.extract 80 s.size)).drop (0 : Int).toNat = (Qq s).drop (80 : Int).toNat := by
  rw [Q24, List.take_of_length_le (by rw [List.length_drop, Q0b]; omega)]
  rfl
 rw [e]
 have hin : Q1y ((Qq s).drop (80 : Int).toNat) := fun x hx => Q2i _ x (List.mem_of_mem_drop hx)
 generalize (Qq s).drop (80 : Int).toNat = L at *
 cases L with
 | nil => exact ⟨rfl, rfl, fun h => absurd h (by decide), by decide⟩
 | cons b l =>
  dsimp only
  have hb := hin b (by simp)
  split
  ·exact ⟨rfl, rfl, fun _ => by dsimp only; omega, by dsimp only; omega⟩
  ·have hm : (if b = 253 then 2 else if b = 254 then 4 else 8 : Nat) ≤ 8 := by split <;> (try split) <;> omega
   generalize (if b = 253 then 2 else if b = 254 then 4 else 8 : Nat) = m at *
   split
   ·exact ⟨rfl, rfl, fun h => absurd h (by decide), by decide⟩
   ·split
    ·refine ⟨rfl, rfl, fun _ => by dsimp only; omega, ?_⟩
     have := Q6z (l := l.take m) (fun x hx => hin x (by simp [List.mem_of_mem_take hx])) (m := 8) (by rw [List.length_take]; omega)
     have e8 : (256 : Int) ^ 8 = 18446744073709551616 := by decide
     dsimp only
     omega
    ·exact ⟨rfl, rfl, fun h => absurd h (by decide), by decide⟩
theorem Qcn {s : ByteArray} (h : (thS s 0).2 = 0) : 80 ≤ s.size := by
 unfold thS at h
 split at h
 ·exact absurd h (by decide)
 ·split at h
  ·exact absurd h (by decide)
  ·omega
theorem Q5c {k : Nat} (hk : 8300 ≤ k) {s : ByteArray} (hs : s.size ≤ 140737488351232) : QU k s = some ((decB s).1, (decB s).2.1, (decB s).2.2, ()) := by
 unfold QU QU.c decB
 by_cases c1 : (s.size : Int) > 8192
 ·rw [Qy c1, if_pos c1]
 rw [Q0Z c1, if_neg c1, Q72 (by omega) hs]
 simp only [Option.bind_some]
 by_cases c2 : (thS s 0).2 = 0
 case neg => rw [QX (by rw [bne_iff_ne]; exact c2), if_pos c2]
 have h80 := Qcn c2
 obtain ⟨t1, t2, t3, t4⟩ := Q9C h80
 rw [c2, bne_self_eq_false, cond_false, if_neg (by simp), Qy (by omega), Int.toNat_natCast]
 generalize hx : s.extract 80 s.size = x at *
 have hxs : x.size = s.size - 80 := by rw [← hx, ByteArray.size_extract]; omega
 rw [show Q0A k x = some ((x, 0, 0, ()), ()) from rfl]
 simp only [Option.bind_some]
 have ok0 : RdOK (x, 0, 0, ()) := ⟨by show x.size ≤ _; omega, by simp, by simp⟩
 rw [Qe4 (by omega) ok0]
 simp only [Option.bind_some]
 have hc : Q5f (x, 0, 0, ()) 8192 = if decE s ≠ 0 then ((x, 0, decE s, ()), 0) else ((x, (Q1u x 0).2.1, 0, ()), (Q1u s 80).1) := by
  unfold Q5f decE
  rw [if_neg (by simp)]
  dsimp only
  rw [t1, t2]
 have hAt : ∀ r : Rd, Q0Y k r = some (r.2.1, r, ()) := fun r => rfl
 have hErr : ∀ r : Rd, Q0n k r = some (r.2.2.1, r, ()) := fun r => rfl
 rw [hc]
 by_cases c3 : decE s = 0
 ·rw [if_neg (by simpa using c3), if_neg (by simpa using c3)]
  dsimp only
  rw [hAt]
  simp only [Option.bind_some]
  rw [hErr]
  simp only [Option.bind_some]
  rw [bne_self_eq_false, cond_false]
  have e0 : (Q1u s 80).2.2.1 = 0 ∧ (Q1u s 80).1 ≤ 8192 := by
   unfold decE at c3
   by_cases q : (Q1u s 80).2.2.1 = 0 ∧ (Q1u s 80).1 > 8192
   ·rw [if_pos q] at c3; exact absurd c3 (by decide)
   ·rw [if_neg q] at c3; exact ⟨c3, by omega⟩
  have hp := Q6r (s := x) (a := 0) (by omega)
  rw [i64_in (by omega), t3 e0.1]
  obtain ⟨n, hn⟩ := Int.eq_ofNat_of_zero_le t4.1
  rw [hn] at e0 ⊢
  have hl := Qc3 hk (s := s) (by omega) n (by omega) (thS s 0).1 n 0 k (Q1u s 80).2.1 [] (by omega) rfl (by omega)
  show (QU.l0 k k (s, (Q1u s 80).2.1, (n : Int), ((0 : Nat) : Int), (zHd, (), ()), ((thS s 0).1, (), ()), [], ())).bind _ = _
  unfold QU.l0
  rw [hl]
  simp only [Option.bind_some]
  rw [show ((n : Nat) : Int).toNat = n by omega]
  generalize Q2y s n (Q1u s 80).2.1 [] = r
  by_cases c4 : r.2.1 = 0
  ·rw [if_neg (by simpa using c4), if_neg (by simpa using c4)]
   dsimp only
   by_cases c5 : r.1 < (s.size : Int)
   ·rw [Qy c5, if_pos c5]
   ·rw [Q0Z c5, if_neg c5]
  ·rw [if_pos c4, if_pos c4]
 ·rw [if_pos c3, if_pos c3]
  dsimp only
  rw [hAt]
  simp only [Option.bind_some]
  rw [hErr]
  simp only [Option.bind_some]
  rw [QX (by rw [bne_iff_ne]; exact c3), hErr]
  rfl
theorem Q8r {k : Nat} (hk : 8300 ≤ k) {s : ByteArray} (hs : s.size ≤ 140737488351232) : Q8 k s = some (gB (decB s).1, (decB s).2.1, (decB s).2.2, ()) := by
 unfold Q8 Q8.c decB
 by_cases c1 : (s.size : Int) > 8192
 ·rw [Qy c1, if_pos c1]
  rfl
 rw [Q0Z c1, if_neg c1, Q6Z (by omega) hs]
 simp only [Option.bind_some]
 by_cases c2 : (thS s 0).2 = 0
 case neg => rw [QX (by rw [bne_iff_ne]; exact c2), if_pos c2]; rfl
 have h80 := Qcn c2
 obtain ⟨t1, t2, t3, t4⟩ := Q9C h80
 rw [c2, bne_self_eq_false, cond_false, if_neg (by simp), Q4t (by omega) s 80 (by omega)]
 simp only [Option.bind_some]
 have hp0 : Q8.p0 k (s, (Q1u s 80).2.2.1, (Q1u s 80).1, (Q1u s 80).2.1, (zHd, (), ()), ((thS s 0).1, (), ()), ()) = some (s, decE s, (Q1u s 80).1, (Q1u s 80).2.1, (zHd, (), ()), ((thS s 0).1, (), ()), ()) := by
  unfold Q8.p0 decE
  simp only [Q8.p0.r]
  by_cases q : (Q1u s 80).2.2.1 = 0
  ·rw [q, beq_self_eq_true, cond_true]
   by_cases q2 : (Q1u s 80).1 > 8192
   ·rw [Qy q2, if_pos ⟨rfl, q2⟩]
   ·rw [Q0Z q2, if_neg (fun h => q2 h.2)]
  ·rw [Q1t (by simpa using q), if_neg (fun h => q h.1)]
 show (Q8.p0 k (s, (Q1u s 80).2.2.1, (Q1u s 80).1, (Q1u s 80).2.1, (zHd, (), ()), ((thS s 0).1, (), ()), ())).bind _ = _
 rw [hp0]
 simp only [Option.bind_some]
 by_cases c3 : decE s = 0
 ·rw [c3, bne_self_eq_false, cond_false, if_neg (by simp)]
  have e0 : (Q1u s 80).2.2.1 = 0 ∧ (Q1u s 80).1 ≤ 8192 := by
   unfold decE at c3
   by_cases q : (Q1u s 80).2.2.1 = 0 ∧ (Q1u s 80).1 > 8192
   ·rw [if_pos q] at c3; exact absurd c3 (by decide)
   ·rw [if_neg q] at c3; exact ⟨c3, by omega⟩
  obtain ⟨n, hn⟩ := Int.eq_ofNat_of_zero_le t4.1
  rw [hn] at e0 ⊢
  have hl := Q6Y hk (s := s) (by omega) n (by omega) (thS s 0).1 n 0 k (Q1u s 80).2.1 [] (by omega) rfl (by omega)
  show (Q8.l1 k k (s, (n : Int), (Q1u s 80).2.1, ((0 : Nat) : Int), (zHd, (), ()), ((thS s 0).1, (), ()), ([] : List TTx).map gTx, ())).bind _ = _
  unfold Q8.l1
  rw [hl]
  simp only [Option.bind_some]
  rw [show ((n : Nat) : Int).toNat = n by omega]
  generalize Q2y s n (Q1u s 80).2.1 [] = r
  by_cases c4 : r.2.1 = 0
  ·rw [if_neg (by simpa using c4), if_neg (by simpa using c4)]
   dsimp only
   by_cases c5 : r.1 < (s.size : Int)
   ·rw [Qy c5, if_pos c5]
    rfl
   ·rw [Q0Z c5, if_neg c5]
    rfl
  ·rw [if_pos c4, if_pos c4]
   rfl
 ·rw [QX (by rw [bne_iff_ne]; exact c3), if_pos c3]
  rfl
end Go.Am
set_option linter.unusedSimpArgs false
namespace Go.Am
open Go
theorem Q5k {α : Type} (pre : List α) (t : α) (rest : List α) (d : α) : (pre ++ t :: rest).getD pre.length d = t := by
 rw [List.getD_eq_getElem?_getD, List.getElem?_append_right (Nat.le_refl _), Nat.sub_self]
 rfl
abbrev Q21 (l : List TTx) : List Int := (l.map encL).flatten
def encB (b : TBlk) : List Int := Q26 b.1 ++ Q1q (b.2.1.length : Int) ++ Q21 b.2.1
def Q2G : List TTx → Int
 | [] => 0
 | t :: l => if (encS t).2 ≠ 0 then (encS t).2 else Q2G l
def errB (b : TBlk) : Int := if Q2G b.2.1 ≠ 0 then Q2G b.2.1 else if (encB b).length > 8192 then 110 else 0
structure TxS (t : TTx) : Prop where
 ok : TxOK t
 nin : t.2.1.length ≤ 1048576
 nout : t.2.2.1.length ≤ 1048576
structure Q3W (b : TBlk) : Prop where
 hd : HdOK b.1
 tx : ∀ t ∈ b.2.1, TxS t
 sz : (Q21 b.2.1).length ≤ 1073741824
 n : b.2.1.length ≤ 1048576
theorem Qfk {l : List TTx} {t : TTx} (h : t ∈ l) : (encL t).length ≤ (Q21 l).length := by
 induction l with
 | nil => simp at h
 | cons x l ih =>
  simp only [Q21, List.map_cons, List.flatten_cons, List.length_append]
  rcases List.mem_cons.1 h with e | h
  ·subst e
   omega
  ·have := ih h
   simp only [Q21] at this
   omega
theorem Qd1 {l : List TTx} (h : Q2G l = 0) : ∀ t ∈ l, scOK t ∧ (encL t).length ≤ 4096 := by
 induction l with
 | nil => simp
 | cons x l ih =>
  unfold Q2G at h
  split at h
  ·rename_i c
   exact absurd h c
  ·rename_i c
   have c' : (encS x).2 = 0 := by simpa using c
   have g := Q8F c'
   intro t ht
   rcases List.mem_cons.1 ht with e | ht
   ·subst e
    exact ⟨g.1, g.2.1⟩
   ·exact ih h t ht
theorem Qe8 {t : TTx} (h1 : scOK t) (h2 : (encL t).length ≤ 4096) : encS t = (bytesOf (encL t), 0) := by
 unfold encS
 rw [if_pos h1, if_neg (by omega)]
theorem Qg4 {l : List TTx} (h : ∀ t ∈ l, scOK t ∧ (encL t).length ≤ 4096) : Q2G l = 0 := by
 induction l with
 | nil => rfl
 | cons x l ih =>
  have g := h x (by simp)
  unfold Q2G
  rw [Qe8 g.1 g.2, if_neg (by simp)]
  exact ih fun t ht => h t (by simp [ht])
theorem Qfl {l : List TTx} (h : ∀ t ∈ l, TxOK t) : Q1y (Q21 l) := by
 intro x hx
 obtain ⟨m, hm, hx⟩ := List.mem_flatten.1 hx
 obtain ⟨t, ht, rfl⟩ := List.mem_map.1 hm
 exact Q6G (h t ht) x hx
theorem QaF {b : TBlk} (h : Q3W b) : Q1y (encB b) := by
 intro x hx
 unfold encB at hx
 rcases List.mem_append.1 hx with hx | hx
 ·rcases List.mem_append.1 hx with hx | hx
  ·exact Q4q h.hd x hx
  ·exact Q48 _ x hx
 ·exact Qfl (fun t ht => (h.tx t ht).ok) x hx
theorem Q4y {b : TBlk} (h : Q3W b) : (encB b).length = 80 + (Q1q (b.2.1.length : Int)).length + (Q21 b.2.1).length := by
 unfold encB
 rw [List.length_append, List.length_append, Q2e h.hd]
abbrev wr0 : (Unit × Unit × Unit) × Unit := (((), ((), ())), ())
theorem QbJ {k : Nat} (hk : 2097300 ≤ k) (n : Int) (txs : List TTx) (hn : n = (txs.length : Int)) (hb : txs.length ≤ 1048576) : ∀ (rest pre : List TTx) (fuel : Nat) (W : List Int), txs = pre ++ rest → rest.length < fuel → (∀ t ∈ rest, TxS t) → W.length + 4096 * rest.length ≤ 70368744177664 →
  Q15 (QR.l0.r k) fuel (txs, n, (pre.length : Int), wr0, W, ()) = some (if Q2G rest ≠ 0 then .inl (eb, Q2G rest, ()) else .inr (wr0, W ++ Q21 rest, ()))
 | [], pre, fuel, W, hp, hf, _, hW => by
  obtain ⟨f, rfl⟩ : ∃ f, fuel = f + 1 := ⟨fuel - 1, by simp at hf; omega⟩
  show QR.l0.r k _ (Q15 (QR.l0.r k) f) some = _
  simp only [QR.l0.r]
  have : txs.length = pre.length := by rw [hp]; simp
  rw [Q0Z (by omega), if_neg (fun h => h rfl)]
  simp [Q21]
 | t :: rest, pre, fuel, W, hp, hf, ht, hW => by
  simp only [List.length_cons] at hf hW
  obtain ⟨f, rfl⟩ : ∃ f, fuel = f + 1 := ⟨fuel - 1, by omega⟩
  show QR.l0.r k _ (Q15 (QR.l0.r k) f) some = _
  simp only [QR.l0.r]
  have hl : txs.length = pre.length + (rest.length + 1) := by rw [hp]; simp
  rw [Qy (by omega), Qy (by omega), Int.toNat_natCast]
  have hg : txs.getD pre.length ((0 : Int), ([], ([], ((0 : Int), ())))) = t := by rw [hp]; exact Q5k _ _ _ _
  rw [hg]
  have h1 := ht t (by simp)
  have h2 := h1.nin
  have h3 := h1.nout
  show (Qm k t).bind _ = _
  rw [Q7e h1.ok (by omega)]
  simp only [Option.bind_some]
  by_cases c : (encS t).2 = 0
  ·have g := Q8F c
   have e : Q2G (t :: rest) = Q2G rest := by
    show (if _ then _ else _) = _
    rw [if_neg (by simpa using c)]
   rw [c, bne_self_eq_false, cond_false, g.2.2, wrl (Q6G h1.ok) (by omega), i64_in (n := (pre.length : Int) + 1) (by omega), e]
   have := QbJ hk n txs hn hb rest (pre ++ [t]) f (W ++ encL t) (by rw [hp]; simp) (by omega) (fun x hx => ht x (by simp [hx])) (by rw [List.length_append]; omega)
   rw [List.length_append, List.length_singleton] at this
   simp only [Q21, List.map_cons, List.flatten_cons, ← List.append_assoc] at this ⊢
   exact this
  ·have e : Q2G (t :: rest) = (encS t).2 := by
    show (if _ then _ else _) = _
    rw [if_pos c]
   rw [QX (by rw [bne_iff_ne]; exact c), e, if_pos c]
theorem Q8o {k : Nat} (hk : 2097300 ≤ k) {b : TBlk} (h : Q3W b) : QR k b = some (if errB b ≠ 0 then eb else bytesOf (encB b), errB b, ()) := by
 obtain ⟨hd, txs, u⟩ := b
 have hl := Q4y h
 obtain ⟨h1, h2, h3, h4⟩ := h
 dsimp only at h1 h2 h3 h4 hl
 unfold QR QR.c
 rw [show Q0C k = some (wr0, [], ()) from rfl]
 simp only [Option.bind_some]
 show (Q1c k hd).bind _ = _
 rw [Q61 (by omega) h1]
 simp only [Option.bind_some]
 have hh := Q2e h1
 rw [wrl (Q4q h1) (by rw [hh]; decide), List.nil_append]
 simp only [Option.bind_some]
 rw [u64_in (by omega), wcnt (by omega) _ (by omega)]
 simp only [Option.bind_some]
 have hc := Q3P (txs.length : Int)
 have hlp := QbJ hk (txs.length : Int) txs rfl h4 txs [] k (Q26 hd ++ Q1q (txs.length : Int)) (by simp) (by omega) h2 (by rw [List.length_append]; omega)
 show (QR.l0 k k (txs, (txs.length : Int), (([] : List TTx).length : Int), wr0, Q26 hd ++ Q1q (txs.length : Int), ())).bind _ = _
 unfold QR.l0
 rw [hlp]
 simp only [Option.bind_some]
 by_cases c : Q2G txs = 0
 ·rw [if_neg (by simpa using c)]
  dsimp only
  show (Q0U k wr0 (encB (hd, txs, u))).bind _ = _
  have hlen : Q0U k wr0 (encB (hd, txs, u)) = some (((encB (hd, txs, u)).length : Int), wr0, encB (hd, txs, u), ()) := rfl
  rw [hlen]
  simp only [Option.bind_some]
  by_cases c2 : (encB (hd, txs, u)).length > 8192
  ·have e : errB (hd, txs, u) = 110 := by unfold errB; rw [if_neg (by simpa using c), if_pos c2]
   rw [Qy (by omega), e, if_pos (by decide)]
  ·have e : errB (hd, txs, u) = 0 := by unfold errB; rw [if_neg (by simpa using c), if_neg c2]
   rw [Q0Z (by omega), e, if_neg (by decide)]
   unfold Q06 Q06.c
   rw [QX (Q1I (by omega))]
   rfl
 ·have e : errB (hd, txs, u) = Q2G txs := by unfold errB; rw [if_pos c]
  rw [if_pos c, e, if_pos c]
end Go.Am
set_option linter.unusedSimpArgs false
namespace Go.Am
open Go
theorem Q9x {l : List TTx} (h : (Q21 l).length ≤ 1073741824) {t : TTx} (ht : t ∈ l) : (encL t).length ≤ 1073741824 := Nat.le_trans (Qfk ht) h
theorem Q3G {k : Nat} (hk : 2097300 ≤ k) {b : TBlk} (h : Q3W b) : Qj k (gB b) = some (bytesOf (encB b), ()) := by
 obtain ⟨hd, txs, u⟩ := b
 obtain ⟨h1, h2, h3, h4⟩ := h
 dsimp only at h1 h2 h3 h4
 unfold Qj Qj.c gB
 dsimp only
 show (Q08 k hd).bind _ = _
 rw [Q66 (by omega) h1]
 simp only [Option.bind_some]
 rw [List.length_map, u64_in (by omega), Q2V (by omega) _ (by omega)]
 simp only [Option.bind_some]
 have hh := Q2e h1
 have hc := Q3P (txs.length : Int)
 rw [QX (Q1I (by rw [Q0d, Q0d]; omega)), Q11]
 have key : ∀ (rest pre : List TTx) (fuel : Nat) (W : List Int), txs = pre ++ rest → rest.length < fuel → W.length + (Q21 rest).length ≤ 70368744177664 →
   Q15 (Qj.l0.r k) fuel (bytesOf W, (pre.length : Int), (hd, txs.map gTx, ()), ()) = some (bytesOf (W ++ Q21 rest), ()) := by
  intro rest
  induction rest with
  | nil =>
   intro pre fuel W hp hf hW
   obtain ⟨f, rfl⟩ : ∃ f, fuel = f + 1 := ⟨fuel - 1, by simp at hf; omega⟩
   show Qj.l0.r k _ (Q15 (Qj.l0.r k) f) some = _
   simp only [Qj.l0.r]
   have : txs.length = pre.length := by rw [hp]; simp
   rw [List.length_map, Q0Z (by omega)]
   simp [Q21]
  | cons t rest ih =>
   intro pre fuel W hp hf hW
   simp only [List.length_cons] at hf
   obtain ⟨f, rfl⟩ : ∃ f, fuel = f + 1 := ⟨fuel - 1, by omega⟩
   show Qj.l0.r k _ (Q15 (Qj.l0.r k) f) some = _
   simp only [Qj.l0.r]
   have hl : txs.length = pre.length + (rest.length + 1) := by rw [hp]; simp
   have hmem : t ∈ txs := by rw [hp]; simp
   rw [List.length_map, Qy (by omega), Qy (by omega), Int.toNat_natCast]
   have hg : (txs.map gTx).getD pre.length ((0 : Int), ([], ([], ((0 : Int), ())))) = gTx t := by
    have := Q5k (pre.map gTx) (gTx t) (rest.map gTx) ((0 : Int), ([], ([], ((0 : Int), ()))))
    rw [List.length_map] at this
    rw [hp, List.map_append, List.map_cons]
    exact this
   rw [hg]
   have g1 := h2 t hmem
   have g2 := g1.nin
   have g3 := g1.nout
   have g4 := Q9x h3 hmem
   show (Q9 k (gTx t)).bind _ = _
   rw [Q5g g1.ok (by omega) (by omega)]
   simp only [Option.bind_some]
   simp only [Q21, List.map_cons, List.flatten_cons, List.length_append] at hW
   rw [QX (Q1I (by rw [Q0d, Q0d]; omega)), Q11, i64_in (n := (pre.length : Int) + 1) (by omega)]
   have := ih (pre ++ [t]) f (W ++ encL t) (by rw [hp]; simp) (by omega) (by rw [List.length_append]; simp only [Q21]; omega)
   rw [List.length_append, List.length_singleton] at this
   simp only [Q21, List.map_cons, List.flatten_cons, ← List.append_assoc] at this ⊢
   exact this
 have := key txs [] k (Q26 hd ++ Q1q (txs.length : Int)) rfl (by omega) (by rw [List.length_append]; omega)
 show (Qj.l0 k k (bytesOf (Q26 hd ++ Q1q (txs.length : Int)), (([] : List TTx).length : Int), (hd, txs.map gTx, ()), ())).bind _ = _
 unfold Qj.l0
 rw [this]
 rfl
theorem Qe6 {k : Nat} (hk : 2097300 ≤ k) {b : TBlk} (h : Q3W b) : Qs k (gB b) = some (Q2G b.2.1, ()) := by
 obtain ⟨hd, txs, u⟩ := b
 obtain ⟨h1, h2, h3, h4⟩ := h
 dsimp only at h1 h2 h3 h4
 unfold Qs Qs.c gB
 dsimp only
 have key : ∀ (rest pre : List TTx) (fuel : Nat), txs = pre ++ rest → rest.length < fuel →
   Q15 (Qs.l0.r k) fuel ((pre.length : Int), (hd, txs.map gTx, ()), ()) = some (if Q2G rest ≠ 0 then .inl (Q2G rest, ()) else .inr ()) := by
  intro rest
  induction rest with
  | nil =>
   intro pre fuel hp hf
   obtain ⟨f, rfl⟩ : ∃ f, fuel = f + 1 := ⟨fuel - 1, by simp at hf; omega⟩
   show Qs.l0.r k _ (Q15 (Qs.l0.r k) f) some = _
   simp only [Qs.l0.r]
   have : txs.length = pre.length := by rw [hp]; simp
   rw [List.length_map, Q0Z (by omega), if_neg (fun h => h rfl)]
  | cons t rest ih =>
   intro pre fuel hp hf
   simp only [List.length_cons] at hf
   obtain ⟨f, rfl⟩ : ∃ f, fuel = f + 1 := ⟨fuel - 1, by omega⟩
   show Qs.l0.r k _ (Q15 (Qs.l0.r k) f) some = _
   simp only [Qs.l0.r]
   have hl : txs.length = pre.length + (rest.length + 1) := by rw [hp]; simp
   have hmem : t ∈ txs := by rw [hp]; simp
   rw [List.length_map, Qy (by omega), Qy (by omega), Int.toNat_natCast]
   have hg : (txs.map gTx).getD pre.length ((0 : Int), ([], ([], ((0 : Int), ())))) = gTx t := by
    have := Q5k (pre.map gTx) (gTx t) (rest.map gTx) ((0 : Int), ([], ([], ((0 : Int), ()))))
    rw [List.length_map] at this
    rw [hp, List.map_append, List.map_cons]
    exact this
   rw [hg]
   have g1 := h2 t hmem
   have g2 := g1.nin
   have g3 := g1.nout
   show (Qd k (gTx t)).bind _ = _
   rw [Q9Q g1.ok (by omega)]
   simp only [Option.bind_some]
   by_cases c : (encS t).2 = 0
   ·have e : Q2G (t :: rest) = Q2G rest := by
     show (if _ then _ else _) = _
     rw [if_neg (by simpa using c)]
    rw [c, bne_self_eq_false, cond_false, i64_in (n := (pre.length : Int) + 1) (by omega), e]
    have := ih (pre ++ [t]) f (by rw [hp]; simp) (by omega)
    rw [List.length_append, List.length_singleton] at this
    exact this
   ·have e : Q2G (t :: rest) = (encS t).2 := by
     show (if _ then _ else _) = _
     rw [if_pos c]
    rw [QX (by rw [bne_iff_ne]; exact c), e, if_pos c]
 have := key txs [] k rfl (by omega)
 show (Qs.l0 k k ((([] : List TTx).length : Int), (hd, txs.map gTx, ()), ())).bind _ = _
 unfold Qs.l0
 rw [this]
 simp only [Option.bind_some]
 by_cases c : Q2G txs = 0
 ·rw [if_neg (by simpa using c), c]
 ·rw [if_pos c]
theorem QcW {k : Nat} (hk : 2097300 ≤ k) {b : TBlk} (h : Q3W b) : Qv k b = some (gB b, ()) := by
 obtain ⟨hd, txs, u⟩ := b
 obtain ⟨h1, h2, h3, h4⟩ := h
 dsimp only at h1 h2 h3 h4
 unfold Qv Qv.c gB
 have hh : ∀ g : THd, Q0j k g = some (g, ()) := fun g => rfl
 show (Q0j k hd).bind _ = _
 rw [hh]
 simp only [Option.bind_some]
 have key : ∀ (rest pre : List TTx) (fuel : Nat), txs = pre ++ rest → rest.length < fuel →
   Q15 (Qv.l0.r k) fuel ((pre.length : Int), (hd, txs, ()), (zHd, (), ()), (hd, (), ()), pre.map gTx, ()) = some ((zHd, (), ()), (hd, (), ()), txs.map gTx, ()) := by
  intro rest
  induction rest with
  | nil =>
   intro pre fuel hp hf
   obtain ⟨f, rfl⟩ : ∃ f, fuel = f + 1 := ⟨fuel - 1, by simp at hf; omega⟩
   show Qv.l0.r k _ (Q15 (Qv.l0.r k) f) some = _
   simp only [Qv.l0.r]
   have e : txs = pre := by rw [hp]; simp
   rw [e, Q0Z (by omega)]
  | cons t rest ih =>
   intro pre fuel hp hf
   simp only [List.length_cons] at hf
   obtain ⟨f, rfl⟩ : ∃ f, fuel = f + 1 := ⟨fuel - 1, by omega⟩
   show Qv.l0.r k _ (Q15 (Qv.l0.r k) f) some = _
   simp only [Qv.l0.r]
   have hl : txs.length = pre.length + (rest.length + 1) := by rw [hp]; simp
   have hmem : t ∈ txs := by rw [hp]; simp
   rw [Qy (by omega), Qy (by omega), Int.toNat_natCast]
   have hg : txs.getD pre.length ((0 : Int), ([], ([], ((0 : Int), ())))) = t := by rw [hp]; exact Q5k _ _ _ _
   rw [hg]
   have g1 := h2 t hmem
   have g2 := g1.nin
   have g3 := g1.nout
   show (Qg k t).bind _ = _
   rw [Qga (by omega) (by omega) (by omega)]
   simp only [Option.bind_some]
   rw [QX (Q1I (by simp only [List.length_map, List.length_set, List.length_replicate]; omega)), i64_in (n := (pre.length : Int) + 1) (by omega)]
   have := ih (pre ++ [t]) f (by rw [hp]; simp) (by omega)
   rw [List.length_append, List.length_singleton, List.map_append] at this
   exact this
 have := key txs [] k rfl (by omega)
 show (Qv.l0 k k ((([] : List TTx).length : Int), (hd, txs, ()), (zHd, (), ()), (hd, (), ()), ([] : List TTx).map gTx, ())).bind _ = _
 unfold Qv.l0
 rw [this]
 rfl
theorem Q9S {k : Nat} (hk : 2097300 ≤ k) {b : TBlk} (h : Q3W b) : Q0l k b = some (((encB b).length : Int), ()) := by
 rw [Q4y h]
 obtain ⟨hd, txs, u⟩ := b
 obtain ⟨h1, h2, h3, h4⟩ := h
 dsimp only at h1 h2 h3 h4 ⊢
 unfold Q0l Q0l.c
 dsimp only
 have hc := Q3P (txs.length : Int)
 rw [Q2u, u64_in (by omega)]
 simp only [Option.bind_some]
 rw [← Q1W, i64_in (by omega)]
 have key : ∀ (rest pre : List TTx) (fuel : Nat) (W : Nat), txs = pre ++ rest → rest.length < fuel → W + (Q21 rest).length ≤ 70368744177664 →
   Q15 (Q0l.l0.r k) fuel ((W : Int), txs, (txs.length : Int), (pre.length : Int), ()) = some (((W + (Q21 rest).length : Nat) : Int), ()) := by
  intro rest
  induction rest with
  | nil =>
   intro pre fuel W hp hf hW
   obtain ⟨f, rfl⟩ : ∃ f, fuel = f + 1 := ⟨fuel - 1, by simp at hf; omega⟩
   show Q0l.l0.r k _ (Q15 (Q0l.l0.r k) f) some = _
   simp only [Q0l.l0.r]
   have : txs.length = pre.length := by rw [hp]; simp
   rw [Q0Z (by omega)]
   rfl
  | cons t rest ih =>
   intro pre fuel W hp hf hW
   simp only [List.length_cons] at hf
   obtain ⟨f, rfl⟩ : ∃ f, fuel = f + 1 := ⟨fuel - 1, by omega⟩
   show Q0l.l0.r k _ (Q15 (Q0l.l0.r k) f) some = _
   simp only [Q0l.l0.r]
   have hl : txs.length = pre.length + (rest.length + 1) := by rw [hp]; simp
   have hmem : t ∈ txs := by rw [hp]; simp
   rw [Qy (by omega), Qy (by omega), Int.toNat_natCast]
   have hg : txs.getD pre.length ((0 : Int), ([], ([], ((0 : Int), ())))) = t := by rw [hp]; exact Q5k _ _ _ _
   rw [hg]
   have g1 := h2 t hmem
   have g2 := g1.nin
   have g3 := g1.nout
   have g4 := Q9x h3 hmem
   show (Q0w k t).bind _ = _
   rw [Q96 g1.ok (by omega) (by omega)]
   simp only [Option.bind_some]
   simp only [Q21, List.map_cons, List.flatten_cons, List.length_append] at hW ⊢
   rw [i64_in (n := (W : Int) + ((encL t).length : Int)) (by omega), i64_in (n := (pre.length : Int) + 1) (by omega)]
   have := ih (pre ++ [t]) f (W + (encL t).length) (by rw [hp]; simp) (by omega) (by simp only [Q21]; omega)
   rw [List.length_append, List.length_singleton, Nat.add_assoc] at this
   exact this
 have := key txs [] k (80 + (Q1q (txs.length : Int)).length) rfl (by omega) (by omega)
 rw [show (80 : Int) + ((Q1q (txs.length : Int)).length : Int) = ((80 + (Q1q (txs.length : Int)).length : Nat) : Int) by push_cast; rfl]
 show (Q0l.l0 k k (((80 + (Q1q (txs.length : Int)).length : Nat) : Int), txs, (txs.length : Int), (([] : List TTx).length : Int), ())).bind _ = _
 unfold Q0l.l0
 rw [this]
 rfl
instance decHd3 : DecidableEq (Int × Int × Int × Unit) := inferInstance
instance decHd4 : DecidableEq (List Int × Int × Int × Int × Unit) := inferInstance
instance decHd5 : DecidableEq (List Int × List Int × Int × Int × Int × Unit) := inferInstance
instance decTHd : DecidableEq THd := inferInstance
instance decLTx : DecidableEq (List TTx) := inferInstance
instance decTxsU : DecidableEq (List TTx × Unit) := inferInstance
instance decTBlk : DecidableEq TBlk := inferInstance
theorem Qg1 (x y : THd) : ((x.1 == y.1) && ((decide (x.2.1 = y.2.1)) && ((decide (x.2.2.1 = y.2.2.1)) && ((x.2.2.2.1 == y.2.2.2.1) && ((x.2.2.2.2.1 == y.2.2.2.2.1) && ((x.2.2.2.2.2.1 == y.2.2.2.2.2.1) && true)))))) = decide (x = y) := by
 obtain ⟨a1, a2, a3, a4, a5, a6, a7⟩ := x
 obtain ⟨b1, b2, b3, b4, b5, b6, b7⟩ := y
 rw [Bool.eq_iff_iff]
 simp only [Bool.and_eq_true, decide_eq_true_eq, beq_iff_eq, Bool.and_true, Prod.mk.injEq]
 simp
theorem Q67 {k : Nat} (hk : 2097300 ≤ k) {a b : TBlk} (ha : Q3W a) : QK k a b = some (decide (a = b), ()) := by
 obtain ⟨hd, txs, u⟩ := a
 obtain ⟨hd', txs', u'⟩ := b
 obtain ⟨h1, h2, h3, h4⟩ := ha
 dsimp only at h1 h2 h3 h4
 unfold QK QK.c
 have hp : QK.p0 k ((hd, txs, ()), (hd', txs', ()), ()) = some (if hd = hd' ∧ txs.length = txs'.length then .inr ((hd, txs, ()), (hd', txs', ()), ()) else .inl (false, ())) := by
  unfold QK.p0
  simp only [QK.p0.r]
  rw [Qg1]
  by_cases c : hd = hd'
  ·rw [decide_eq_true c, Bool.not_true, cond_false]
   by_cases c2 : txs.length = txs'.length
   ·rw [c2, bne_self_eq_false, cond_false, if_pos ⟨c, rfl⟩]
   ·rw [QX (by rw [bne_iff_ne]; omega), if_neg (fun h => c2 h.2)]
  ·rw [decide_eq_false c, Bool.not_false, cond_true, if_neg (fun h => c h.1)]
 show (QK.p0 k ((hd, txs, ()), (hd', txs', ()), ())).bind _ = _
 rw [hp]
 simp only [Option.bind_some]
 by_cases c : hd = hd' ∧ txs.length = txs'.length
 ·rw [if_pos c]
  dsimp only
  obtain ⟨c1, c2⟩ := c
  subst c1
  have key : QK.l1 k k ((txs.length : Int), (0 : Int), (hd, txs, ()), (hd, txs', ()), ()) = some (if ∀ i, i < txs.length → decide (txs.getD i dTx = txs'.getD i dTx) = true then .inr () else .inl (false, ())) := by
   refine Q3L (r := QK.l1.r k) (fun i => ((txs.length : Int), (i : Int), (hd, txs, ()), (hd, txs', ()), ())) txs.length _ _ (fun i => decide (txs.getD i dTx = txs'.getD i dTx)) ?_ ?_ ?_ (by omega)
   ·intro i h hq kn ke
    simp only [QK.l1.r]
    have hm : txs.getD i dTx ∈ txs := by rw [List.getD_eq_getElem?_getD, List.getElem?_eq_getElem h]; exact List.getElem_mem _
    have g1 := h2 _ hm
    have g2 := g1.nin
    have g3 := g1.nout
    rw [Qy (by omega), Qy (by omega), Qy (by omega), Int.toNat_natCast]
    show (Q1O k (txs.getD i dTx) (txs'.getD i dTx)).bind _ = _
    rw [Q9L (by omega) (by omega), hq, i64_in (by omega)]
    rfl
   ·intro i h hq kn ke
    simp only [QK.l1.r]
    have hm : txs.getD i dTx ∈ txs := by rw [List.getD_eq_getElem?_getD, List.getElem?_eq_getElem h]; exact List.getElem_mem _
    have g1 := h2 _ hm
    have g2 := g1.nin
    have g3 := g1.nout
    rw [Qy (by omega), Qy (by omega), Qy (by omega), Int.toNat_natCast]
    show (Q1O k (txs.getD i dTx) (txs'.getD i dTx)).bind _ = _
    rw [Q9L (by omega) (by omega), hq]
    rfl
   ·intro kn ke
    simp only [QK.l1.r]
    rw [Q0Z (by omega)]
  show (QK.l1 k k ((txs.length : Int), (0 : Int), (hd, txs, ()), (hd, txs', ()), ())).bind _ = _
  rw [key]
  simp only [Option.bind_some]
  by_cases d : txs = txs'
  ·rw [if_pos ((Q5H dTx c2).2 d), d, decide_eq_true rfl]
  ·rw [if_neg (fun h => d ((Q5H dTx c2).1 h)), decide_eq_false (fun h => d (by simpa using h))]
 ·rw [if_neg c, decide_eq_false (fun h => c (by
   simp only [Prod.mk.injEq] at h
   exact ⟨h.1, by rw [h.2.1]⟩))]
end Go.Am
set_option linter.unusedSimpArgs false
namespace Go.Am
open Go
theorem QdT {h : THd} (hh : HdOK h) : decH (Q26 h) = h := by
 have hl := Q2e hh
 have := QeH hh
 unfold thS at this
 have hsz : (bytesOf ([120] ++ Q26 h)).size = 81 := by rw [Q0d, List.length_append, hl]; rfl
 rw [if_neg (by rw [hsz]; omega), if_neg (by rw [hsz]; omega)] at this
 have hb : Q1y ([120] ++ Q26 h) := fun x hx => (List.mem_append.1 hx).elim (fun g => by rw [List.mem_singleton] at g; omega) (Q4q hh x)
 rw [Q1F hb, show List.drop (Int.toNat 1) ([(120 : Int)] ++ Q26 h) = Q26 h from rfl] at this
 exact congrArg Prod.fst this
theorem Q6J {L R : List Int} {a b : Nat} (h : a + b ≤ L.length) : ((L ++ R).drop a).take b = (L.drop a).take b := by
 rw [List.drop_append_of_le_length (by omega), List.take_append_of_le_length (by rw [List.length_drop]; omega)]
theorem QeV {L R : List Int} (h : L.length = 80) : decH (L ++ R) = decH L := by
 unfold decH
 rw [Q6J (by omega), Q6J (by omega), Q6J (by omega), Q6J (by omega), Q6J (by omega), List.take_append_of_le_length (by omega)]
theorem QfA {h : THd} (hh : HdOK h) {R : List Int} (hR : Q1y R) : thS (bytesOf (Q26 h ++ R)) 0 = (h, 0) := by
 have hl := Q2e hh
 have hsz : (bytesOf (Q26 h ++ R)).size = 80 + R.length := by rw [Q0d, List.length_append, hl]
 unfold thS
 rw [if_neg (by omega), if_neg (by omega), Q1F (fun x hx => (List.mem_append.1 hx).elim (Q4q hh x) (hR x))]
 show (decH (Q26 h ++ R), (0 : Int)) = _
 rw [QeV hl, QdT hh]
theorem Qfc {s : ByteArray} (h : 80 ≤ s.size) : HdOK (decH (Qq s)) := by
 have hin : ∀ a b, Q1y (((Qq s).drop a).take b) := fun a b x hx => Q2i _ x (List.mem_of_mem_drop (List.mem_of_mem_take hx))
 have hl := Q0b s
 have e256 : (256 : Int) ^ 4 = 4294967296 := by decide
 have n4 : ∀ a, u32R (leI (((Qq s).drop a).take 4)) := fun a => by
  have := Q6z (hin a 4) (m := 4) (by rw [List.length_take]; omega)
  unfold u32R
  omega
 have n0 : u32R (leI ((Qq s).take 4)) := n4 0
 exact ⟨n0, ⟨by show (((Qq s).drop 4).take 32).length = 32; rw [List.length_take, List.length_drop]; omega, hin 4 32⟩, ⟨by show (((Qq s).drop 36).take 32).length = 32; rw [List.length_take, List.length_drop]; omega, hin 36 32⟩, n4 68, n4 72, n4 76⟩
theorem Q83 {s : ByteArray} (hs : s.size ≤ 4611686018427387904) : ∀ (n : Nat) (a : Int) (l : List TTx), 0 ≤ a → a ≤ (s.size : Int) → (Q2y s n a l).2.1 = 0 →
  ∃ l2, (Q2y s n a l).2.2 = l ++ l2 ∧ l2.length = n ∧ (∀ t ∈ l2, TxOK t ∧ scOK t ∧ (encL t).length ≤ 4096) ∧ (Q21 l2).length + a ≤ (s.size : Int)
 | 0, a, l, h0, h1, _ => ⟨[], (List.append_nil l).symm, rfl, by simp, by simp [Q21]; omega⟩
 | n + 1, a, l, h0, h1, he => by
  by_cases c : (Q1M s a).2.2 = 0
  ·rw [Q5S c] at he ⊢
   obtain ⟨b1, b2, b3, b4, b5, _⟩ := QdB hs h0 c
   obtain ⟨l2, g1, g2, g3, g4⟩ := Q83 hs n (Q1M s a).2.1 (l ++ [(Q1M s a).1]) (by omega) b5 he
   refine ⟨(Q1M s a).1 :: l2, by rw [g1]; simp, by simp [g2], ?_, ?_⟩
   ·intro t ht
    rcases List.mem_cons.1 ht with e | ht
    ·rw [e]; exact ⟨b1, b2, b3⟩
    ·exact g3 t ht
   ·simp only [Q21, List.map_cons, List.flatten_cons, List.length_append]
    simp only [Q21] at g4
    omega
  ·rw [Q6k c] at he
   exact absurd he c
def Q57 (b : TBlk) : Prop := ∀ t ∈ b.2.1, scOK t ∧ (encL t).length ≤ 4096
theorem Qbx (t : TTx) : t.2.1.length ≤ (encL t).length ∧ t.2.2.1.length ≤ (encL t).length := by
 have hlen := Q2H t
 have h1 := Q9f (f := Q1S) (d := dIn) (l := t.2.1) (m := 1) (fun x => by unfold Q1S; simp only [List.length_append, Q0k]; omega) t.2.1.length
 have h2 := Q9f (f := Q1H) (d := dOut) (l := t.2.2.1) (m := 1) (fun x => by unfold Q1H; simp only [List.length_append, Q0k]; omega) t.2.2.1.length
 omega
theorem Qbk : Q3W zB ∧ Q57 zB := by
 have z : isH Q4v := ⟨rfl, fun x hx => by have := List.eq_of_mem_replicate hx; omega⟩
 have u : u32R 0 := by unfold u32R; omega
 refine ⟨⟨⟨u, z, z, u, u, u⟩, by intro t ht; simp at ht, by simp, by simp⟩, ?_⟩
 intro t ht
 simp at ht
theorem QfE {s : ByteArray} (hs : s.size ≤ 140737488351232) : Q3W (decB s).1 ∧ Q57 (decB s).1 := by
 unfold decB
 split
 ·exact Qbk
 ·rename_i c1
  split
  ·exact Qbk
  ·rename_i c2
   have c2' : (thS s 0).2 = 0 := by simpa using c2
   have h80 := Qcn c2'
   split
   ·exact Qbk
   ·rename_i c3
    have c3' : decE s = 0 := by simpa using c3
    obtain ⟨_, t2, t3, t4⟩ := Q9C h80
    have e0 : (Q1u s 80).2.2.1 = 0 ∧ (Q1u s 80).1 ≤ 8192 := by
     unfold decE at c3'
     by_cases q : (Q1u s 80).2.2.1 = 0 ∧ (Q1u s 80).1 > 8192
     ·rw [if_pos q] at c3'; exact absurd c3' (by decide)
     ·rw [if_neg q] at c3'; exact ⟨c3', by omega⟩
    dsimp only
    split
    ·exact Qbk
    ·rename_i c4
     have c4' : (Q2y s (Q1u s 80).1.toNat (Q1u s 80).2.1 []).2.1 = 0 := by simpa using c4
     split
     ·exact Qbk
     ·have hp := Q6r (s := s) (a := 80) (by omega)
      obtain ⟨l2, g1, g2, g3, g4⟩ := Q83 (s := s) (by omega) _ _ [] hp.1 hp.2 c4'
      rw [List.nil_append] at g1
      rw [g1]
      have hth : (thS s 0).1 = decH (Qq s) := by
       unfold thS
       rw [if_neg (by omega), if_neg (by omega)]
       rfl
      rw [hth]
      have hp0 := hp.1
      refine ⟨⟨Qfc h80, ?_, ?_, ?_⟩, ?_⟩
      ·intro t ht
       have := g3 t ht
       have g := Qbx t
       exact ⟨this.1, by omega, by omega⟩
      ·dsimp only
       omega
      ·dsimp only
       omega
      ·intro t ht
       exact (g3 t ht).2
theorem Qgd {A R : List Int} {n : Int} (hA : A.length = 80) (hn : 0 ≤ n ∧ n ≤ 18446744073709551615) (hb : Q1y (A ++ (Q1q n ++ R))) : Q1u (bytesOf (A ++ (Q1q n ++ R))) 80 = (n, 80 + ((Q1q n).length : Int), 0, ()) := by
 obtain ⟨b, l, e1, e2, e3, e4⟩ := Q7c n hn
 have hlen := Q1W n
 unfold Q1u
 rw [Q0d, List.length_append, hA, if_neg (by omega), Q1F hb]
 rw [show (80 : Int).toNat = 80 from rfl, List.drop_append_of_le_length (by omega), List.drop_of_length_le (by omega), List.nil_append, e1, List.cons_append]
 dsimp only
 have hbb : 0 ≤ b ∧ b < 256 := Q48 n b (by rw [e1]; simp)
 rw [← hlen, e1] at e4
 simp only [List.length_cons] at e4 ⊢
 by_cases c : b < 253
 ·have : cm b = 0 := by unfold cm; rw [if_neg (by omega), if_neg (by omega), if_neg (by omega)]
  rw [if_pos c]
  rw [this, if_pos rfl] at e3
  rw [this] at e2
  rw [e3, e2]
  rfl
 ·rw [if_neg c]
  have hm : (if b = 253 then 2 else if b = 254 then 4 else 8 : Nat) = cm b := by
   unfold cm
   by_cases q1 : b = 253
   ·rw [if_pos q1, if_pos q1]
   ·rw [if_neg q1, if_neg q1]
    by_cases q2 : b = 254
    ·rw [if_pos q2, if_pos q2]
    ·rw [if_neg q2, if_neg q2, if_pos (by omega)]
  have hm0 : cm b ≠ 0 := by
   unfold cm
   split
   ·decide
   ·split
    ·decide
    ·rw [if_pos (by omega)]; decide
  rw [hm, List.take_append_of_le_length (by omega), List.take_of_length_le (by omega), if_neg (by rw [List.length_append]; omega)]
  rw [if_neg hm0] at e3
  rw [e3, if_pos (by rw [← hlen, e1]; simp only [List.length_cons]; omega), e2]
  refine Prod.ext rfl (Prod.ext ?_ rfl)
  dsimp only
  omega
theorem Q9A : ∀ (l2 : List TTx) (A l : List _), (∀ t ∈ l2, TxOK t ∧ scOK t ∧ (encL t).length ≤ 4096) → Q1y A → (A ++ Q21 l2).length ≤ 4611686018427383808 →
  Q2y (bytesOf (A ++ Q21 l2)) l2.length (A.length : Int) l = (((A ++ Q21 l2).length : Int), 0, l ++ l2)
 | [], A, l, _, _, _ => by simp [Q2y, Q21]
 | t :: l2, A, l, h, hA, hs => by
  obtain ⟨h1, h2, h3⟩ := h t (by simp)
  have ht := QeE (t := t) h1 h2 h3 (a := bytesOf A) (r := bytesOf (Q21 l2)) (by
   simp only [Q21, List.map_cons, List.flatten_cons, List.length_append] at hs
   rw [Q0d, Q0d]; simp only [Q21]; omega)
  rw [Q11, Q11, Q0d, List.append_assoc] at ht
  have e : A ++ Q21 (t :: l2) = A ++ (encL t ++ Q21 l2) := by simp [Q21]
  rw [e] at hs ⊢
  have h22 : (Q1M (bytesOf (A ++ (encL t ++ Q21 l2))) (A.length : Int)).2.2 = 0 := by rw [ht]
  show Q2y _ (l2.length + 1) _ _ = _
  rw [Q5S h22, ht]
  have := Q9A l2 (A ++ encL t) (l ++ [t]) (fun x hx => h x (by simp [hx])) (fun x hx => (List.mem_append.1 hx).elim (hA x) (Q6G h1 x)) (by rw [List.append_assoc]; exact hs)
  rw [List.length_append, List.append_assoc] at this
  push_cast at this ⊢
  rw [this]
  simp
theorem Q9E {b : TBlk} (h : Q3W b) (hg : Q57 b) (hl : (encB b).length ≤ 8192) : decB (bytesOf (encB b)) = (b, 0, 0) := by
 have hlen := Q4y h
 have hin := QaF h
 obtain ⟨hd, txs, u⟩ := b
 obtain ⟨h1, h2, h3, h4⟩ := h
 dsimp only at h1 h2 h3 h4 hlen
 unfold Q57 at hg
 dsimp only at hg
 have hh := Q2e h1
 have e : encB (hd, txs, u) = Q26 hd ++ (Q1q (txs.length : Int) ++ Q21 txs) := by unfold encB; rw [List.append_assoc]
 have e' : encB (hd, txs, u) = (Q26 hd ++ Q1q (txs.length : Int)) ++ Q21 txs := rfl
 have hsz : (bytesOf (encB (hd, txs, u))).size = (encB (hd, txs, u)).length := Q0d _
 have hth : thS (bytesOf (encB (hd, txs, u))) 0 = (hd, 0) := by
  rw [e]
  rw [e] at hin
  exact QfA h1 fun x hx => hin x (List.mem_append_right _ hx)
 have htc : Q1u (bytesOf (encB (hd, txs, u))) 80 = ((txs.length : Int), 80 + ((Q1q (txs.length : Int)).length : Int), 0, ()) := by
  rw [e]
  rw [e] at hin
  exact Qgd hh (by omega) hin
 have hge : txs.length ≤ (Q21 txs).length := by
  have : ∀ l : List TTx, l.length ≤ (Q21 l).length := by
   intro l
   induction l with
   | nil => simp
   | cons x l ih =>
    have := Q2H x
    simp only [Q21, List.map_cons, List.flatten_cons, List.length_append, List.length_cons] at ih ⊢
    omega
  exact this txs
 unfold decB
 rw [if_neg (by rw [hsz]; omega), hth, if_neg (by simp)]
 have hE : decE (bytesOf (encB (hd, txs, u))) = 0 := by
  unfold decE
  rw [htc]
  dsimp only
  rw [if_neg (by omega)]
 rw [hE, if_neg (by simp), htc]
 dsimp only
 have hd2 := Q9A txs (Q26 hd ++ Q1q (txs.length : Int)) [] (fun t ht => ⟨(h2 t ht).ok, hg t ht⟩) (fun x hx => by
  rw [e'] at hin
  exact hin x (List.mem_append_left _ hx)) (by rw [← e']; omega)
 rw [← e', List.length_append, hh] at hd2
 push_cast at hd2
 rw [Int.toNat_natCast, hd2]
 dsimp only
 rw [if_neg (by simp), if_neg (by rw [hsz]; omega), List.nil_append]
end Go.Am
set_option linter.unusedSimpArgs false
namespace Go.Am
open Go
def Q7T (b : TBlk) : ByteArray := if errB b ≠ 0 then eb else bytesOf (encB b)
theorem QgE {k : Nat} (s t w : ByteArray) (e : Int) (b : TBlk) (hw : w = bytesOf (encB b)) (g : RBlk) : Q2.p0 k (s, t, e, w, Q2G b.2.1, b, g, ()) = some (s, t, e, w, errB b, b, g, ()) := by
 unfold Q2.p0
 simp only [Q2.p0.r]
 by_cases c : Q2G b.2.1 = 0
 ·rw [c, beq_self_eq_true, cond_true, hw, Q0d]
  by_cases c2 : (encB b).length > 8192
  ·have e : errB b = 110 := by unfold errB; rw [if_neg (by simpa using c), if_pos c2]
   rw [Qy (by omega), e]
  ·have e : errB b = 0 := by unfold errB; rw [if_neg (by simpa using c), if_neg c2]
   rw [Q0Z (by omega), e]
 ·have e : errB b = Q2G b.2.1 := by unfold errB; rw [if_pos c]
  rw [Q1t (by simpa using c), e]
theorem QgC {k : Nat} (s t : ByteArray) (e : Int) (b : TBlk) (g : RBlk) : Q2.p1 k (s, t, e, bytesOf (encB b), errB b, b, g, ()) = some (s, t, e, Q7T b, errB b, b, g, ()) := by
 unfold Q2.p1
 simp only [Q2.p1.r]
 unfold Q7T
 by_cases c : errB b = 0
 ·rw [c, bne_self_eq_false, cond_false, if_neg (by simp)]
 ·rw [QX (by rw [bne_iff_ne]; exact c), if_pos c]
theorem QgB {k : Nat} (hk : 2097300 ≤ k) (haw : Q0g k = some (true, ())) {b x : TBlk} (hb : Q3W b) (hx : Q3W x) (t : ByteArray) (e a g : Int) :
  Q2.p2 k (t, e, t, e, a, g, a, g, b, gB b, x, gB x, ()) = some (.inr (t, t, e, b, x, ())) := by
 unfold Q2.p2
 simp only [Q2.p2.r]
 rw [haw]
 simp only [Option.bind_some]
 rw [Bool.not_true, cond_false, Q4Z, Bool.not_true, cond_false, bne_self_eq_false, cond_false]
 show (Q0l k b).bind _ = _
 rw [Q9S hk hb]
 simp only [Option.bind_some]
 show (Qj k (gB b)).bind _ = _
 rw [Q3G hk hb]
 simp only [Option.bind_some]
 rw [Q0d, bne_self_eq_false, cond_false, bne_self_eq_false, cond_false, bne_self_eq_false, cond_false]
 show (Qv k x).bind _ = _
 rw [QcW hk hx]
 simp only [Option.bind_some]
 show (Qj k (gB x)).bind _ = _
 rw [Q3G hk hx]
 simp only [Option.bind_some]
 rw [Q4Z, Bool.not_true, cond_false]
theorem Qeo {b x : TBlk} (hb : Q3W b) (gb : Q57 b) (hl : (encB b).length ≤ 8192) (hx : Q3W x) (gx : Q57 x) : decide (b = x) = Q2Y (bytesOf (encB b)) (bytesOf (encB x)) := by
 rw [Q5R]
 refine decide_eq_decide.2 ⟨fun h => by rw [h], fun h => ?_⟩
 have h2 : encB b = encB x := by
  have := congrArg Qq h
  rwa [Q1F (QaF hb), Q1F (QaF hx)] at this
 have h3 := Q9E hb gb hl
 have h4 := Q9E hx gx (by rw [← h2]; exact hl)
 rw [h2, h4] at h3
 exact (congrArg Prod.fst h3).symm
theorem Q8q {k : Nat} (hk : k = 140737488355328) (haw : Q0g k = some (true, ())) {b : TBlk} (hb : Q3W b) {s : ByteArray} (hs : s.size ≤ 140737488351232) :
  Q2 k b s = some (true, ()) := by
 have hk3 : 2097300 ≤ k := by omega
 clear hk
 obtain ⟨hx, gx⟩ := QfE hs
 unfold Q2 Q2.c
 show (QR k b).bind _ = _
 rw [Q8o hk3 hb]
 simp only [Option.bind_some]
 show (Qv k b).bind _ = _
 rw [QcW hk3 hb]
 simp only [Option.bind_some]
 show (Qj k (gB b)).bind _ = _
 rw [Q3G hk3 hb]
 simp only [Option.bind_some]
 show (Qs k (gB b)).bind _ = _
 rw [Qe6 hk3 hb]
 simp only [Option.bind_some]
 show (Q2.p0 k (s, Q7T b, errB b, bytesOf (encB b), Q2G b.2.1, b, gB b, ())).bind _ = _
 rw [QgE _ _ _ _ _ rfl]
 simp only [Option.bind_some]
 show (Q2.p1 k (s, Q7T b, errB b, bytesOf (encB b), errB b, b, gB b, ())).bind _ = _
 rw [QgC]
 simp only [Option.bind_some]
 rw [Q5c (by omega) hs]
 simp only [Option.bind_some]
 rw [Q8r (by omega) hs]
 simp only [Option.bind_some]
 show (Q2.p2 k (Q7T b, errB b, Q7T b, errB b, (decB s).2.1, (decB s).2.2, (decB s).2.1, (decB s).2.2, b, gB b, (decB s).1, gB (decB s).1, ())).bind _ = _
 rw [QgB hk3 haw hb hx]
 simp only [Option.bind_some]
 by_cases c : errB b = 0
 ·have hlen := Q4y hb
  have hw : Q7T b = bytesOf (encB b) := by unfold Q7T; rw [if_neg (by simpa using c)]
  have h1 : Q2G b.2.1 = 0 := by
   unfold errB at c
   by_cases q : Q2G b.2.1 = 0
   ·exact q
   ·rw [if_pos q] at c; exact c
  have h2 : (encB b).length ≤ 8192 := by
   unfold errB at c
   rw [if_neg (by simpa using h1)] at c
   by_cases q : (encB b).length > 8192
   ·rw [if_pos q] at c; exact absurd c (by decide)
   ·omega
  have gb : Q57 b := Qd1 h1
  rw [c, bne_self_eq_false, cond_false, hw, Q5c (by omega) (by rw [Q0d]; omega), Q9E hb gb h2]
  simp only [Option.bind_some]
  rw [beq_self_eq_true, cond_true]
  show (QK k b b).bind _ = _
  rw [Q67 hk3 hb]
  simp only [Option.bind_some, decide_true, cond_true]
  show (QK k b (decB s).1).bind _ = _
  rw [Q67 hk3 hb]
  simp only [Option.bind_some]
  show (Qv k (decB s).1).bind _ = _
  rw [QcW hk3 hx]
  simp only [Option.bind_some]
  show (Qj k (gB (decB s).1)).bind _ = _
  rw [Q3G hk3 hx]
  simp only [Option.bind_some]
  rw [Qeo hb gb h2 hx gx, beq_self_eq_true]
 ·rw [QX (by rw [bne_iff_ne]; exact c)]
end Go.Am
namespace Go.Am
open Go
abbrev inTy : Ty := .pair (.pair (.arr 32 (.int .u8)) (.pair (.int .u32) .unit)) (.pair .str (.pair (.int .u32) .unit))
abbrev Q8M : Ty := .pair (.int .u64) (.pair .str .unit)
abbrev txTy : Ty := .pair (.int .u32) (.pair (.sl inTy) (.pair (.sl Q8M) (.pair (.int .u32) .unit)))
theorem Qb7 {N : Nat} {l : List Int} (h : WF N (.arr 32 (.int .u8)) l) : l.length = 32 ∧ Q1y l :=
 ⟨h.1, Qf3 (p := fun x => 0 ≤ x ∧ x < 256) fun i hi => by
  have := QgD (h.2 i (by have := h.1; omega))
  have e : l.getD i (Ty.zero (.int .u8)) = l.getD i 0 := rfl
  rw [e] at this
  omega⟩
theorem Q5r {N : Nat} {x : Int} (h : WF N (.int .u32) x) : u32R x := Qgo h
theorem Qfr {N : Nat} {x : TIn} (h : WF N inTy x) : InOK x := ⟨Qb7 h.1.1, Q5r (N := N) h.1.2.1, Q5r (N := N) h.2.2.1⟩
theorem Qej {N : Nat} {x : TOut} (h : WF N Q8M x) : Qaf x := Qgn h.1
theorem Qfe {N : Nat} (hN : N ≤ 140737488355328) {t : TTx} (h : WF N txTy t) : TxOK t where
 v := Q5r (N := N) h.1
 tm := Q5r (N := N) h.2.2.2.1
 ins := fun i hi => Qfr (h.2.1.2 i hi)
 outs := fun i hi => Qej (h.2.2.1.2 i hi)
 nin := Nat.le_trans h.2.1.1 hN
 nout := Nat.le_trans h.2.2.1.1 hN
end Go.Am
set_option linter.unusedSimpArgs false
namespace Go.Am
open Go
abbrev QfN : Ty := .arr 32 (.int .u8)
abbrev hdTy : Ty := .pair (.int .u32) (.pair QfN (.pair QfN (.pair (.int .u32) (.pair (.int .u32) (.pair (.int .u32) .unit)))))
abbrev QeF : Ty := .pair hdTy (.pair (.sl txTy) .unit)
theorem Qbz : ∀ (l : List TIn), l.length ≤ (l.map (bulk inTy)).sum ∧ (l.map fun x => x.2.1.size).sum + l.length ≤ (l.map (bulk inTy)).sum
 | [] => ⟨Nat.le_refl _, Nat.le_refl _⟩
 | x :: l => by
  have ih := Qbz l
  have e : x.2.1.size + 1 ≤ bulk inTy x := by simp only [inTy, bulk]; omega
  simp only [List.map_cons, List.sum_cons, List.length_cons]
  omega
theorem Qai : ∀ (l : List TOut), l.length ≤ (l.map (bulk Q8M)).sum ∧ (l.map fun x => x.2.1.size).sum + l.length ≤ (l.map (bulk Q8M)).sum
 | [] => ⟨Nat.le_refl _, Nat.le_refl _⟩
 | x :: l => by
  have ih := Qai l
  have e : x.2.1.size + 1 ≤ bulk Q8M x := by simp only [Q8M, bulk]; omega
  simp only [List.map_cons, List.sum_cons, List.length_cons]
  omega
theorem Q8H {α : Type} (f : α → List Int) (g : α → Nat) (c : Nat) : ∀ (l : List α), (∀ x ∈ l, (f x).length ≤ g x + c) → ((l.map f).flatten).length ≤ (l.map g).sum + l.length * c
 | [], _ => Nat.zero_le _
 | x :: l, h => by
  have ih := Q8H f g c l fun y hy => h y (List.mem_cons_of_mem _ hy)
  have h0 := h x (List.mem_cons_self ..)
  simp only [List.map_cons, List.flatten_cons, List.length_append, List.sum_cons, List.length_cons, Nat.add_mul, Nat.one_mul]
  omega
theorem Qab {α : Type} {l : List α} {x : α} (d : α) (h : x ∈ l) : ∃ i, i < l.length ∧ l.getD i d = x := by
 obtain ⟨i, hi, e⟩ := List.mem_iff_getElem.1 h
 exact ⟨i, hi, by rw [List.getD_eq_getElem?_getD, List.getElem?_eq_getElem hi, e]; rfl⟩
theorem Qd9 {t : TTx} (ht : TxOK t) : (encL t).length ≤ 100 * bulk txTy t ∧ t.2.1.length ≤ bulk txTy t ∧ t.2.2.1.length ≤ bulk txTy t ∧ 1 ≤ bulk txTy t := by
 have b1 := Qbz t.2.1
 have b2 := Qai t.2.2.1
 have hb' : bulk txTy t = 1 + (((t.2.1.map (bulk inTy)).sum + 1) + (((t.2.2.1.map (bulk Q8M)).sum + 1) + (1 + 0))) := rfl
 have f1 := Q8H Q1S (fun x => x.2.1.size) 49 t.2.1 fun x hx => by
  obtain ⟨i, hi, rfl⟩ := Qab dIn hx
  have := Q38 (ht.ins i hi)
  have := Q1U ((t.2.1.getD i dIn).2.1.size : Int)
  omega
 have f2 := Q8H Q1H (fun x => x.2.1.size) 17 t.2.2.1 fun x hx => by
  have := Q2S x
  have := Q1U (x.2.1.size : Int)
  omega
 have l := Q2H t
 rw [Q5P, Q5P] at l
 have c1 := Q1W (t.2.1.length : Int)
 have c2 := Q1W (t.2.2.1.length : Int)
 have c3 := Q1U (t.2.1.length : Int)
 have c4 := Q1U (t.2.2.1.length : Int)
 refine ⟨?_, ?_, ?_, ?_⟩ <;> omega
theorem Qbr : ∀ (l : List TTx), (∀ t ∈ l, TxOK t) → (Q21 l).length ≤ 100 * (l.map (bulk txTy)).sum ∧ l.length ≤ (l.map (bulk txTy)).sum ∧ ∀ t ∈ l, bulk txTy t ≤ (l.map (bulk txTy)).sum
 | [], _ => ⟨by simp [Q21], by simp, by simp⟩
 | x :: l, h => by
  obtain ⟨i1, i2, i3⟩ := Qbr l fun y hy => h y (by simp [hy])
  have h1 := Qd9 (h x (by simp))
  simp only [Q21, List.map_cons, List.flatten_cons, List.length_append, List.sum_cons, List.length_cons] at i1 ⊢
  refine ⟨by omega, by omega, ?_⟩
  intro t ht
  rcases List.mem_cons.1 ht with e | ht
  ·rw [e]; omega
  ·have := i3 t ht
   omega
theorem Qee {N : Nat} (hN : N ≤ 140737488355328) {b : TBlk} (h : WF N QeF b) (hb : bulk QeF b ≤ 1048576) : Q3W b := by
 obtain ⟨hd, txs, u⟩ := b
 have g := h.1
 have ht : ∀ t ∈ txs, TxOK t := by
  intro t ht
  obtain ⟨i, hi, rfl⟩ := Qab dTx ht
  exact Qfe hN (h.2.1.2 i hi)
 obtain ⟨t1, t2, t3⟩ := Qbr txs ht
 have hb' : bulk hdTy hd + (((txs.map (bulk txTy)).sum + 1) + 0) ≤ 1048576 := hb
 refine ⟨⟨Q5r (N := N) g.1, Qb7 g.2.1, Qb7 g.2.2.1, Q5r (N := N) g.2.2.2.1, Q5r (N := N) g.2.2.2.2.1, Q5r (N := N) g.2.2.2.2.2.1⟩, ?_, ?_, ?_⟩
 ·intro t hm
  have := Qd9 (ht t hm)
  have := t3 t hm
  exact ⟨ht t hm, by omega, by omega⟩
 ·dsimp only
  omega
 ·dsimp only
  omega
end Go.Am
namespace Go.Am
open Go
theorem Qfa : Q0g 140737488355328 = some (true, ()) := by kernel_rfl
end Go.Am
