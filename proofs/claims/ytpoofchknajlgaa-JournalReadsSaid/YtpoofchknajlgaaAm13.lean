/- A part of a proof: a machine of abstract values that tells what functions of the program compute, and the plain facts on them. -/
import Derived.Test.YtpoofchknajlgaaAm11
import Derived.Test.YtpoofchknajlgaaAm12
import Derived.KernelRfl
set_option linter.unusedVariables false
set_option linter.unusedSimpArgs false
set_option linter.unnecessarySimpa false
set_option linter.unusedSectionVars false
namespace Go.Am
open Go
theorem Q8H (k : Nat) (s : ByteArray) (hs : s.size ≤ 8) : ∀ (d i fuel : Nat), i + d = s.size → d < fuel →
  Q0E.l0 k fuel (s, leI ((QM s).take i), (s.size : Int), (i : Int), ()) = some (leI (QM s), ())
 | 0, i, fuel + 1, hi, _ => by
  have : i = s.size := by omega
  subst this
  show Q0E.l0.r k _ (Q1f (Q0E.l0.r k) fuel) some = _
  simp only [Q0E.l0.r]
  rw [decide_eq_false (by omega), cond_false, ← Q19, List.take_length]
 | d + 1, i, fuel + 1, hi, hf => by
  show Q0E.l0.r k _ (Q1f (Q0E.l0.r k) fuel) some = _
  simp only [Q0E.l0.r]
  have hr := Q3a s (i : Int).toNat
  rw [decide_eq_true (by omega), cond_true, decide_eq_true (by omega), cond_true, i64_in (by omega), decide_eq_true (by omega), cond_true, i64_in (by omega), u64_in (by omega)]
  have hin : Q2j ((QM s).take i) := fun x hx => Q2i (List.mem_of_mem_take hx)
  obtain ⟨h0, h1⟩ := Q3X hin
  have hlen : ((QM s).take i).length = i := by rw [List.length_take, Q19]; omega
  rw [hlen] at h1
  have hstep : leI ((QM s).take (i + 1)) = leI ((QM s).take i) + 256 ^ i * Q1v s i := by
   have hi' : i < (QM s).length := by rw [Q19]; omega
   rw [List.take_succ_eq_append_getElem hi', QaS, hlen, Q6w, List.getD_eq_getElem?_getD, List.getElem?_eq_getElem hi']
   simp [leI]
  have hin2 : Q2j ((QM s).take (i + 1)) := fun x hx => Q2i (List.mem_of_mem_take hx)
  obtain ⟨g0, g1⟩ := Q3X hin2
  have hlen2 : ((QM s).take (i + 1)).length = i + 1 := by rw [List.length_take, Q19]; omega
  rw [hlen2] at g1
  have hpow : (256 : Int) ^ (i + 1) ≤ 18446744073709551616 := by
   have : i + 1 ≤ 8 := by omega
   have h2 : ∀ j : Nat, j ≤ 8 → (256 : Int) ^ j ≤ 18446744073709551616 := by
    intro j hj
    match j, hj with
    | 0, _ | 1, _ | 2, _ | 3, _ | 4, _ | 5, _ | 6, _ | 7, _ | 8, _ => decide
   exact h2 _ this
  have hshl : Q2P IntKind.u64 (Q1v s (i : Int).toNat) (8 * (i : Int)) = ((Q1v s i).toNat * 2 ^ (8 * i) : Nat) := by
   unfold Q2P
   rw [show (8 * (i : Int)).toNat = 8 * i by omega, show (i : Int).toNat = i by omega]
   have : min (8 * i) IntKind.u64.bits = 8 * i := by simp [IntKind.bits]; omega
   rw [this]
   have hb := Q3a s i
   have e : Q1v s i * 2 ^ (8 * i) = (((Q1v s i).toNat * 2 ^ (8 * i) : Nat) : Int) := by
    rw [Int.natCast_mul, Int.natCast_pow, show ((Q1v s i).toNat : Int) = Q1v s i by omega]; rfl
   rw [e, u64_in]
   rw [← e, pow8, Int.mul_comm]
   have : 256 ^ i * Q1v s i ≤ leI ((QM s).take (i + 1)) := by omega
   have : 0 ≤ 256 ^ i * Q1v s i := Int.mul_nonneg (Int.le_of_lt (Int.pow_pos (by omega))) hb.1
   omega
  have hb := Q3a s i
  have hor := QdR (A := (leI ((QM s).take i)).toNat) (B := (Q1v s i).toNat) (j := 8 * i) (by
   have e : ((2 ^ (8 * i) : Nat) : Int) = 256 ^ i := by rw [Int.natCast_pow]; exact pow8 i
   omega) (by
   have e : (((Q1v s i).toNat * 2 ^ (8 * i) : Nat) : Int) = 256 ^ i * Q1v s i := by
    rw [Int.natCast_mul, Int.natCast_pow, show ((2 : Nat) : Int) = 2 from rfl, pow8, Int.mul_comm, show ((Q1v s i).toNat : Int) = Q1v s i by omega]
   omega)
  rw [show ((leI ((QM s).take i)).toNat : Int) = leI ((QM s).take i) by omega] at hor
  rw [hshl, hor]
  have hfin : (((Q1v s i).toNat * 2 ^ (8 * i) + (leI ((QM s).take i)).toNat : Nat) : Int) = leI ((QM s).take (i + 1)) := by
   rw [hstep, Int.natCast_add, Int.natCast_mul, Int.natCast_pow, show ((2 : Nat) : Int) = 2 from rfl, pow8, Int.mul_comm]
   rw [show ((Q1v s i).toNat : Int) = Q1v s i by omega]
   omega
  rw [hfin]
  have ih := Q8H k s hs d (i + 1) fuel (by omega) (by omega)
  rw [show ((i + 1 : Nat) : Int) = (i : Int) + 1 by omega] at ih
  exact ih
theorem Q9T {k : Nat} (hk : 9 ≤ k) (s : ByteArray) (hs : s.size ≤ 8) : Q0E k s = some (leI (QM s), ()) := by
 unfold Q0E Q0E.c
 have := Q8H k s hs s.size 0 k (by omega) (by omega)
 simp only [List.take_zero, leI] at this
 show (Q0E.l0 k k (s, (0 : Int), (s.size : Int), ((0 : Nat) : Int), ())).bind _ = _
 rw [this]
 rfl
theorem QaC (k : Nat) (s : ByteArray) (hs : s.size ≤ 8) : ∀ (i fuel : Nat), i ≤ s.size → i < fuel →
  Qe.l0 k fuel (s, leI ((QM s).drop i), (i : Int) - 1, ()) = some (leI (QM s), ())
 | 0, fuel + 1, hi, _ => by
  have e : Qe.l0 k (fuel + 1) (s, leI ((QM s).drop 0), ((0 : Nat) : Int) - 1, ()) = Qe.l0.r k (s, leI ((QM s).drop 0), ((0 : Nat) : Int) - 1, ()) (Q1f (Qe.l0.r k) fuel) some := rfl
  rw [e]
  simp only [Qe.l0.r]
  rw [decide_eq_false (by omega), cond_false, List.drop_zero]
 | i + 1, fuel + 1, hi, hf => by
  show Qe.l0.r k _ (Q1f (Qe.l0.r k) fuel) some = _
  simp only [Qe.l0.r]
  have hr := Q3a s i
  rw [show ((i + 1 : Nat) : Int) - 1 = (i : Int) by omega, show (i : Int).toNat = i by omega]
  have hin : Q2j ((QM s).drop i) := fun x hx => Q2i (List.mem_of_mem_drop hx)
  obtain ⟨h0, h1⟩ := Q3X hin
  have hlen : ((QM s).drop i).length = s.size - i := by rw [List.length_drop, Q19]
  rw [hlen] at h1
  have hpow : (256 : Int) ^ (s.size - i) ≤ 18446744073709551616 := by
   have h2 : ∀ j : Nat, j ≤ 8 → (256 : Int) ^ j ≤ 18446744073709551616 := by
    intro j hj
    match j, hj with
    | 0, _ | 1, _ | 2, _ | 3, _ | 4, _ | 5, _ | 6, _ | 7, _ | 8, _ => decide
   exact h2 _ (by omega)
  have hstep : leI ((QM s).drop i) = Q1v s i + 256 * leI ((QM s).drop (i + 1)) := by
   have hi' : i < (QM s).length := by rw [Q19]; omega
   rw [List.drop_eq_getElem_cons hi', leI, Q6w, List.getD_eq_getElem?_getD, List.getElem?_eq_getElem hi']
   rfl
  have hin2 : Q2j ((QM s).drop (i + 1)) := fun x hx => Q2i (List.mem_of_mem_drop hx)
  have g0 := (Q3X hin2).1
  rw [decide_eq_true (by omega), cond_true, decide_eq_true (by omega), cond_true, u64_in (n := Q1v s i) (by omega), u64_in (n := 256 * _) (by omega), u64_in (by omega), i64_in (by omega)]
  rw [show 256 * leI ((QM s).drop (i + 1)) + Q1v s i = leI ((QM s).drop i) by omega]
  exact QaC k s hs i fuel (by omega) (by omega)
theorem Q30 {k : Nat} (hk : 9 ≤ k) (s : ByteArray) (hs : s.size ≤ 8) : Qe k s = some (leI (QM s), ()) := by
 unfold Qe Qe.c
 have := QaC k s hs s.size k (by omega) (by omega)
 rw [show (QM s).drop s.size = [] by rw [← Q19]; simp] at this
 simp only [leI] at this
 rw [i64_in (by omega)]
 show (Qe.l0 k k (s, (0 : Int), (s.size : Int) - 1, ())).bind _ = _
 rw [this]
 rfl
abbrev Rd : Type := ByteArray × Int × Int × Unit
def RdOK (r : Rd) : Prop := r.1.size ≤ 140737488351232 ∧ 0 ≤ r.2.1 ∧ r.2.1 ≤ (r.1.size : Int)
def Q1h (r : Rd) (n : Int) : Rd × ByteArray :=
 if r.2.2.1 ≠ 0 then (r, ⟨List.toArray []⟩) else
 if n < 0 then ((r.1, r.2.1, 1, ()), ⟨List.toArray []⟩) else
 if n > (r.1.size : Int) - r.2.1 then ((r.1, r.2.1, 4, ()), ⟨List.toArray []⟩) else
 ((r.1, r.2.1 + n, r.2.2.1, ()), r.1.extract r.2.1.toNat (r.2.1 + n).toNat)
theorem Q3P {r : Rd} (h : RdOK r) (n : Int) : RdOK (Q1h r n).1 ∧ (Q1h r n).1.1 = r.1 := by
 obtain ⟨h1, h2, h3⟩ := h
 unfold Q1h
 split
 ·exact ⟨⟨h1, h2, h3⟩, rfl⟩
 ·split
  ·exact ⟨⟨h1, h2, h3⟩, rfl⟩
  ·split
   ·exact ⟨⟨h1, h2, h3⟩, rfl⟩
   ·exact ⟨⟨h1, by dsimp only; omega, by dsimp only; omega⟩, rfl⟩
theorem Q7T {r : Rd} (h : RdOK r) (n : Int) : (Q1h r n).2.size = 0 ∨ (Q1h r n).2.size = n.toNat := by
 obtain ⟨h1, h2, h3⟩ := h
 unfold Q1h
 split
 ·exact .inl rfl
 ·split
  ·exact .inl rfl
  ·split
   ·exact .inl rfl
   ·right
    rw [ByteArray.size_extract]; omega
theorem Qec {r : Rd} (n : Int) (he : (Q1h r n).1.2.2.1 ≠ 0) : (Q1h r n).2 = ⟨List.toArray []⟩ := by
 unfold Q1h at he ⊢
 split
 ·rfl
 ·split
  ·rfl
  ·split
   ·rfl
   ·rename_i h0 h1 h2
    rw [if_neg h0, if_neg h1, if_neg h2] at he
    exact absurd he h0
theorem QdU {r : Rd} (h : RdOK r) {n : Int} (he : (Q1h r n).1.2.2.1 = 0) : (Q1h r n).2.size = n.toNat ∧ 0 ≤ n := by
 obtain ⟨h1, h2, h3⟩ := h
 unfold Q1h at he ⊢
 split
 ·rename_i h0
  rw [if_pos h0] at he
  exact absurd he h0
 ·rename_i h0
  rw [if_neg h0] at he
  split
  ·rename_i h1
   rw [if_pos h1] at he; cases he
  ·rename_i h1
   rw [if_neg h1] at he
   split
   ·rename_i h2
    rw [if_pos h2] at he; cases he
   ·exact ⟨by rw [ByteArray.size_extract]; omega, by omega⟩
theorem Q3M (k : Nat) {r : Rd} (h : RdOK r) {n : Int} : QF k n r = some ((Q1h r n).2, (Q1h r n).1, ()) := by
 obtain ⟨s, a, e, u⟩ := r
 obtain ⟨h1, h2, h3⟩ := h
 simp only at h1 h2 h3
 unfold QF QF.c Q1h
 rw [show Q0s k (s, a, e, ()) = some (e, (s, a, e, ()), ()) from rfl]
 simp only [Option.bind_some]
 by_cases he : e = 0
 ·subst he
  rw [bne_self_eq_false, cond_false, if_neg (by simp)]
  by_cases hn : n < 0
  ·rw [Q0F hn, if_pos hn]
  ·rw [Q1D hn, if_neg hn, show Q0C k (s, a, (0 : Int), ()) = some (IntKind.i64.wrap ((s.size : Int) - a), (s, a, (0 : Int), ()), ()) from rfl]
   simp only [Option.bind_some]
   rw [i64_in (n := (s.size : Int) - a) (by omega)]
   by_cases hg : n > (s.size : Int) - a
   ·rw [Q0F hg, if_pos hg]
   ·rw [Q1D hg, if_neg hg, i64_in (n := a + n) (by omega), i64_in (by omega), Q0F (by omega), show a + n - n = a by omega]
 ·rw [Q14 (by simpa using he), if_pos he]
theorem Qb3 {l : List Int} (h : Q2j l) {m : Nat} (hm : l.length ≤ m) : 0 ≤ leI l ∧ leI l < 256 ^ m := by
 obtain ⟨h1, h2⟩ := Q3X h
 refine ⟨h1, Int.lt_of_lt_of_le h2 ?_⟩
 have : (256 : Nat) ^ l.length ≤ 256 ^ m := Nat.pow_le_pow_right (by omega) hm
 have h3 : (((256 : Nat) ^ l.length : Nat) : Int) ≤ ((256 ^ m : Nat) : Int) := Int.ofNat_le.2 this
 rw [Int.natCast_pow, Int.natCast_pow] at h3
 exact h3
def numS (r : Rd) (n : Int) : Int := leI (QM (Q1h r n).2)
theorem Q9q {r : Rd} (h : RdOK r) (n : Nat) : 0 ≤ numS r n ∧ numS r n < 256 ^ n := by
 refine Qb3 (Q4n _) ?_
 rw [Q19]
 rcases Q7T h (n : Int) with h | h <;> omega
theorem Q81 {k : Nat} (hk : 9 ≤ k) {r : Rd} (h : RdOK r) (n : Nat) (hn : n ≤ 8) : Q0E k (Q1h r n).2 = some (numS r n, ()) :=
 Q9T hk _ (by rcases Q7T h (n : Int) with h | h <;> omega)
theorem QcQ {k : Nat} (hk : 9 ≤ k) {r : Rd} (h : RdOK r) : Q0B k r = some (numS r 4, (Q1h r 4).1, ()) := by
 unfold Q0B Q0B.c
 show (QF k 4 r).bind _ = _
 rw [Q3M k h]
 simp only [Option.bind_some]
 rw [show (4 : Int) = ((4 : Nat) : Int) from rfl, Q81 hk h 4 (by omega)]
 have := Q9q h 4
 simp only [Option.bind_some]
 rw [Q3s (by omega)]
theorem Qb8 {k : Nat} (hk : 9 ≤ k) {r : Rd} (h : RdOK r) : Q0w k r = some (numS r 8, (Q1h r 8).1, ()) := by
 unfold Q0w Q0w.c
 show (QF k 8 r).bind _ = _
 rw [Q3M k h]
 simp only [Option.bind_some]
 rw [show (8 : Int) = ((8 : Nat) : Int) from rfl, Q81 hk h 8 (by omega)]
 rfl
end Go.Am
namespace Go.Am
open Go
theorem Q2h {r : Rd} {n : Int} (he : (Q1h r n).1.2.2.1 = 0) : r.2.2.1 = 0 ∧ 0 ≤ n ∧ n ≤ (r.1.size : Int) - r.2.1 ∧ Q1h r n = ((r.1, r.2.1 + n, r.2.2.1, ()), r.1.extract r.2.1.toNat (r.2.1 + n).toNat) := by
 unfold Q1h at he ⊢
 by_cases h0 : r.2.2.1 ≠ 0
 ·rw [if_pos h0] at he; exact absurd he h0
 rw [if_neg h0] at he ⊢
 by_cases h1 : n < 0
 ·rw [if_pos h1] at he; cases he
 rw [if_neg h1] at he ⊢
 by_cases h2 : n > (r.1.size : Int) - r.2.1
 ·rw [if_pos h2] at he; cases he
 rw [if_neg h2] at he ⊢
 exact ⟨Classical.not_not.1 h0, by omega, by omega, rfl⟩
theorem Q24 (b : ByteArray) (p n : Nat) (h : p + n ≤ b.size) : Q1h (b, (p : Int), 0, ()) (n : Int) = ((b, ((p + n : Nat) : Int), 0, ()), b.extract p (p + n)) := by
 unfold Q1h
 rw [if_neg (by simp), if_neg (by omega), if_neg (by dsimp only; omega)]
 rfl
theorem ext2 {s : ByteArray} {a c p q : Nat} (h : a + q ≤ c) (hc : c ≤ s.size) (hpq : p ≤ q) : (s.extract a c).extract p q = s.extract (a + p) (a + q) := by
 apply Q6X
 rw [Q35, Q35, Q35, List.drop_take, List.drop_drop, List.take_take]
 congr 1
 omega
theorem Q2f {s : ByteArray} {a c : Nat} (hc : c ≤ s.size) : (s.extract a c).size = c - a := by
 rw [ByteArray.size_extract]; omega
def Q4g (e : Int) (s : ByteArray) (a i : Nat) : Option ByteArray :=
 let n := (leI (QM (s.extract a (a + 4)))).toNat
 if s.size < a + 16 then none else if n > 65536 ∨ s.size < a + 16 + n then none else
 if s.extract a (a + 16 + n) = recS e (i : Int) (s.extract (a + 12) (a + 12 + n)) then some (s.extract (a + 12) (a + 12 + n)) else none
theorem Q8j {e : Int} {s : ByteArray} {a i : Nat} {x : ByteArray} (h : Q4g e s a i = some x) : a + 16 + x.size ≤ s.size := by
 unfold Q4g at h
 dsimp only at h
 split at h
 ·cases h
 split at h
 ·cases h
 split at h
 ·cases h
  rename_i h1 h2 h3
  rw [Q2f (by omega)]
  omega
 ·cases h
theorem Q9d {s : ByteArray} {a : Nat} (h : a + 4 ≤ s.size) : 0 ≤ leI (QM (s.extract a (a + 4))) ∧ leI (QM (s.extract a (a + 4))) < 4294967296 := by
 have := Qb3 (m := 4) (Q4n (s.extract a (a + 4))) (by rw [Q19, Q2f h]; omega)
 simpa using this
theorem set1 {α : Type} (d x : α) : List.set (List.replicate 1 d) 0 x = [x] := rfl
theorem Q92 {k : Nat} (hk : 2000 ≤ k) {s : ByteArray} (hs : s.size ≤ 140737488351232) (e : Int) {a : Nat} (ha : a ≤ s.size) (l : List ByteArray) (hl : 20 + 16 * l.length ≤ a) {ρ : Type} (kn : Q9.l1.σ → Option ρ) (ke : Q9.l1.τ → Option ρ) :
  Q9.l1.r k (s, e, (a : Int), l, ()) kn ke = match Q4g e s a l.length with
   | none => ke (s, e, (a : Int), l, ())
   | some x => kn (s, e, ((a + 16 + x.size : Nat) : Int), l ++ [x], ()) := by
 simp only [Q9.l1.r]
 rw [Q0F (by omega), show (a : Int).toNat = a by omega, show (s.size : Int).toNat = s.size by omega]
 have hb : (s.extract a s.size).size = s.size - a := Q2f (Nat.le_refl _)
 have hr0 : RdOK (s.extract a s.size, 0, 0, ()) := ⟨by rw [hb]; omega, Int.le_refl 0, Int.natCast_nonneg _⟩
 rw [show Q0L k (s.extract a s.size) = some ((s.extract a s.size, 0, 0, ()), ()) from rfl]
 simp only [Option.bind_some]
 rw [QcQ (by omega) hr0]
 simp only [Option.bind_some]
 have hn : 0 ≤ numS (s.extract a s.size, 0, 0, ()) 4 ∧ numS (s.extract a s.size, 0, 0, ()) 4 < 256 ^ 4 := Q9q hr0 4
 rw [show (256 : Int) ^ 4 = 4294967296 by decide] at hn
 rw [i64_in (n := numS (s.extract a s.size, 0, 0, ()) 4) (by omega)]
 have k1 := (Q3P hr0 4).1
 show ((Q0w k (Q1h (s.extract a s.size, 0, 0, ()) 4).1).bind _) = _
 rw [Qb8 (by omega) k1]
 simp only [Option.bind_some]
 have k2 := (Q3P k1 8).1
 show ((QF k (numS (s.extract a s.size, 0, 0, ()) 4) (Q1h (Q1h (s.extract a s.size, 0, 0, ()) 4).1 8).1).bind _) = _
 rw [Q3M k k2]
 simp only [Option.bind_some]
 have k3 := (Q3P k2 (numS (s.extract a s.size, 0, 0, ()) 4)).1
 show ((QF k 4 (Q1h (Q1h (Q1h (s.extract a s.size, 0, 0, ()) 4).1 8).1 (numS (s.extract a s.size, 0, 0, ()) 4)).1).bind _) = _
 rw [Q3M k k3]
 simp only [Option.bind_some]
 show ((Q0s k (Q1h (Q1h (Q1h (Q1h (s.extract a s.size, 0, 0, ()) 4).1 8).1 (numS (s.extract a s.size, 0, 0, ()) 4)).1 4).1).bind _) = _
 have err : ∀ r : Rd, Q0s k r = some (r.2.2.1, r, ()) := fun r => rfl
 rw [err]
 simp only [Option.bind_some]
 have bad : (Q1h (Q1h (Q1h (Q1h (s.extract a s.size, 0, 0, ()) 4).1 8).1 (numS (s.extract a s.size, 0, 0, ()) 4)).1 4).1.2.2.1 = 0 → (16 : Int) + numS (s.extract a s.size, 0, 0, ()) 4 ≤ ((s.extract a s.size).size : Int) := by
  intro h
  obtain ⟨h4, _, p4, _⟩ := Q2h h
  obtain ⟨h3, _, p3, e3⟩ := Q2h h4
  obtain ⟨h2, _, p2, e2⟩ := Q2h h3
  obtain ⟨h1, _, p1, e1⟩ := Q2h h2
  rw [e3] at p4
  dsimp only at p4
  rw [e2] at p4
  dsimp only at p4
  rw [e1] at p4
  dsimp only at p4
  omega
 by_cases c1 : s.size < a + 16
 ·rw [Q14 (by
   rw [bne_iff_ne]
   intro h
   have := bad h
   omega)]
  unfold Q4g
  dsimp only
  rw [if_pos c1]
 have e1 := Q24 (s.extract a s.size) 0 4 (by omega)
 have hnum : numS (s.extract a s.size, 0, 0, ()) 4 = leI (QM (s.extract a (a + 4))) := by
  unfold numS
  rw [show ((s.extract a s.size, (0 : Int), (0 : Int), ()) : Rd) = (s.extract a s.size, ((0 : Nat) : Int), 0, ()) from rfl, show (4 : Int) = ((4 : Nat) : Int) from rfl, e1, ext2 (by omega) (Nat.le_refl _) (by omega)]
  rfl
 have hq := Q9d (s := s) (a := a) (by omega)
 rw [hnum] at bad ⊢
 obtain ⟨N, hN⟩ : ∃ N : Nat, leI (QM (s.extract a (a + 4))) = (N : Int) := ⟨_, (Int.toNat_of_nonneg hq.1).symm⟩
 have hN' : (leI (QM (s.extract a (a + 4)))).toNat = N := by omega
 unfold Q4g
 dsimp only
 rw [if_neg c1, hN']
 rw [hN] at bad ⊢
 by_cases c2 : s.size < a + 16 + N
 ·rw [Q14 (by
   rw [bne_iff_ne]
   intro h
   have := bad h
   omega), if_pos (.inr c2)]
 have e2 := Q24 (s.extract a s.size) 4 8 (by omega)
 have e3 := Q24 (s.extract a s.size) 12 N (by omega)
 have e4 := Q24 (s.extract a s.size) (12 + N) 4 (by omega)
 have E1 : (Q1h (s.extract a s.size, 0, 0, ()) 4).1 = (s.extract a s.size, ((4 : Nat) : Int), 0, ()) := congrArg Prod.fst e1
 have E2 : (Q1h (s.extract a s.size, ((4 : Nat) : Int), 0, ()) 8).1 = (s.extract a s.size, ((12 : Nat) : Int), 0, ()) := congrArg Prod.fst e2
 have E3 : (Q1h (s.extract a s.size, ((12 : Nat) : Int), 0, ()) (N : Int)).1 = (s.extract a s.size, ((12 + N : Nat) : Int), 0, ()) := congrArg Prod.fst e3
 have E4 : (Q1h (s.extract a s.size, ((12 + N : Nat) : Int), 0, ()) 4).1 = (s.extract a s.size, ((12 + N + 4 : Nat) : Int), 0, ()) := congrArg Prod.fst e4
 have B3 : (Q1h (s.extract a s.size, ((12 : Nat) : Int), 0, ()) (N : Int)).2 = s.extract (a + 12) (a + 12 + N) := by
  rw [e3, show a + 12 + N = a + (12 + N) by omega]
  exact ext2 (by omega) (Nat.le_refl _) (by omega)
 rw [E1, E2, E3, E4, B3]
 rw [Q1P (by rfl)]
 have hx : (s.extract (a + 12) (a + 12 + N)).size = N := by rw [Q2f (by omega)]; omega
 rw [u64_in (by omega), Q3y hk, hx]
 by_cases c3 : N > 65536
 ·rw [if_pos c3, if_pos (.inl c3)]
  rfl
 rw [if_neg c3, if_neg (by omega)]
 simp only [Option.bind_some]
 rw [Q1P (by rfl)]
 show (bif decide (((0 : Int) ≤ (a : Int)) ∧ (((a : Int) ≤ IntKind.i64.wrap ((a : Int) + ((12 + N + 4 : Nat) : Int))) ∧ (IntKind.i64.wrap ((a : Int) + ((12 + N + 4 : Nat) : Int)) ≤ ((s.size : Nat) : Int)))) then (bif (!(Q1M (s.extract a (IntKind.i64.wrap ((a : Int) + ((12 + N + 4 : Nat) : Int))).toNat) (recS e (l.length : Int) (s.extract (a + 12) (a + 12 + N))))) then ke (s, e, (a : Int), l, ()) else (bif Nat.ble ((l.length + 1) * 16) 140737488355328 then kn (s, e, IntKind.i64.wrap ((a : Int) + ((12 + N + 4 : Nat) : Int)), l ++ [s.extract (a + 12) (a + 12 + N)], ()) else none)) else none) = _
 rw [i64_in (by omega), Q0F (by omega), show ((a : Int) + ((12 + N + 4 : Nat) : Int)) = ((a + 16 + N : Nat) : Int) by omega, show (((a + 16 + N : Nat) : Int)).toNat = a + 16 + N by omega]
 by_cases c4 : s.extract a (a + 16 + N) = recS e (l.length : Int) (s.extract (a + 12) (a + 12 + N))
 ·rw [if_pos c4, Q1P (by rw [Q2U.2 c4]; rfl), Q14 (Q1J (by omega))]
  dsimp only
  rw [hx]
 ·rw [if_neg c4, Q14 (by rw [Q32 c4]; rfl)]
theorem Qb9 {k : Nat} (hk : 2000 ≤ k) {s : ByteArray} (hs : s.size ≤ 140737488351232) (e : Int) {a : Nat} (ha : a ≤ s.size) :
  Q9.p0 k (s, e, (a : Int), ()) = match Q4g e s a 0 with
   | none => some (.inl (s, e, (a : Int), ()))
   | some x => some (.inr (s, e, ((a + 16 + x.size : Nat) : Int), [x], ())) := by
 unfold Q9.p0
 simp only [Q9.p0.r]
 rw [Q0F (by omega), show (a : Int).toNat = a by omega, show (s.size : Int).toNat = s.size by omega]
 have hb : (s.extract a s.size).size = s.size - a := Q2f (Nat.le_refl _)
 have hr0 : RdOK (s.extract a s.size, 0, 0, ()) := ⟨by rw [hb]; omega, Int.le_refl 0, Int.natCast_nonneg _⟩
 rw [show Q0L k (s.extract a s.size) = some ((s.extract a s.size, 0, 0, ()), ()) from rfl]
 simp only [Option.bind_some]
 rw [QcQ (by omega) hr0]
 simp only [Option.bind_some]
 have hn : 0 ≤ numS (s.extract a s.size, 0, 0, ()) 4 ∧ numS (s.extract a s.size, 0, 0, ()) 4 < 256 ^ 4 := Q9q hr0 4
 rw [show (256 : Int) ^ 4 = 4294967296 by decide] at hn
 rw [i64_in (n := numS (s.extract a s.size, 0, 0, ()) 4) (by omega)]
 have k1 := (Q3P hr0 4).1
 show ((Q0w k (Q1h (s.extract a s.size, 0, 0, ()) 4).1).bind _) = _
 rw [Qb8 (by omega) k1]
 simp only [Option.bind_some]
 have k2 := (Q3P k1 8).1
 show ((QF k (numS (s.extract a s.size, 0, 0, ()) 4) (Q1h (Q1h (s.extract a s.size, 0, 0, ()) 4).1 8).1).bind _) = _
 rw [Q3M k k2]
 simp only [Option.bind_some]
 have k3 := (Q3P k2 (numS (s.extract a s.size, 0, 0, ()) 4)).1
 show ((QF k 4 (Q1h (Q1h (Q1h (s.extract a s.size, 0, 0, ()) 4).1 8).1 (numS (s.extract a s.size, 0, 0, ()) 4)).1).bind _) = _
 rw [Q3M k k3]
 simp only [Option.bind_some]
 show ((Q0s k (Q1h (Q1h (Q1h (Q1h (s.extract a s.size, 0, 0, ()) 4).1 8).1 (numS (s.extract a s.size, 0, 0, ()) 4)).1 4).1).bind _) = _
 have err : ∀ r : Rd, Q0s k r = some (r.2.2.1, r, ()) := fun r => rfl
 rw [err]
 simp only [Option.bind_some]
 have bad : (Q1h (Q1h (Q1h (Q1h (s.extract a s.size, 0, 0, ()) 4).1 8).1 (numS (s.extract a s.size, 0, 0, ()) 4)).1 4).1.2.2.1 = 0 → (16 : Int) + numS (s.extract a s.size, 0, 0, ()) 4 ≤ ((s.extract a s.size).size : Int) := by
  intro h
  obtain ⟨h4, _, p4, _⟩ := Q2h h
  obtain ⟨h3, _, p3, e3⟩ := Q2h h4
  obtain ⟨h2, _, p2, e2⟩ := Q2h h3
  obtain ⟨h1, _, p1, e1⟩ := Q2h h2
  rw [e3] at p4
  dsimp only at p4
  rw [e2] at p4
  dsimp only at p4
  rw [e1] at p4
  dsimp only at p4
  omega
 by_cases c1 : s.size < a + 16
 ·rw [Q14 (by
   rw [bne_iff_ne]
   intro h
   have := bad h
   omega)]
  unfold Q4g
  dsimp only
  rw [if_pos c1]
 have e1 := Q24 (s.extract a s.size) 0 4 (by omega)
 have hnum : numS (s.extract a s.size, 0, 0, ()) 4 = leI (QM (s.extract a (a + 4))) := by
  unfold numS
  rw [show ((s.extract a s.size, (0 : Int), (0 : Int), ()) : Rd) = (s.extract a s.size, ((0 : Nat) : Int), 0, ()) from rfl, show (4 : Int) = ((4 : Nat) : Int) from rfl, e1, ext2 (by omega) (Nat.le_refl _) (by omega)]
  rfl
 have hq := Q9d (s := s) (a := a) (by omega)
 rw [hnum] at bad ⊢
 obtain ⟨N, hN⟩ : ∃ N : Nat, leI (QM (s.extract a (a + 4))) = (N : Int) := ⟨_, (Int.toNat_of_nonneg hq.1).symm⟩
 have hN' : (leI (QM (s.extract a (a + 4)))).toNat = N := by omega
 unfold Q4g
 dsimp only
 rw [if_neg c1, hN', show ((0 : Nat) : Int) = 0 from rfl]
 rw [hN] at bad ⊢
 by_cases c2 : s.size < a + 16 + N
 ·rw [Q14 (by
   rw [bne_iff_ne]
   intro h
   have := bad h
   omega), if_pos (.inr c2)]
 have e2 := Q24 (s.extract a s.size) 4 8 (by omega)
 have e3 := Q24 (s.extract a s.size) 12 N (by omega)
 have e4 := Q24 (s.extract a s.size) (12 + N) 4 (by omega)
 have E1 : (Q1h (s.extract a s.size, 0, 0, ()) 4).1 = (s.extract a s.size, ((4 : Nat) : Int), 0, ()) := congrArg Prod.fst e1
 have E2 : (Q1h (s.extract a s.size, ((4 : Nat) : Int), 0, ()) 8).1 = (s.extract a s.size, ((12 : Nat) : Int), 0, ()) := congrArg Prod.fst e2
 have E3 : (Q1h (s.extract a s.size, ((12 : Nat) : Int), 0, ()) (N : Int)).1 = (s.extract a s.size, ((12 + N : Nat) : Int), 0, ()) := congrArg Prod.fst e3
 have E4 : (Q1h (s.extract a s.size, ((12 + N : Nat) : Int), 0, ()) 4).1 = (s.extract a s.size, ((12 + N + 4 : Nat) : Int), 0, ()) := congrArg Prod.fst e4
 have B3 : (Q1h (s.extract a s.size, ((12 : Nat) : Int), 0, ()) (N : Int)).2 = s.extract (a + 12) (a + 12 + N) := by
  rw [e3, show a + 12 + N = a + (12 + N) by omega]
  exact ext2 (by omega) (Nat.le_refl _) (by omega)
 rw [E1, E2, E3, E4, B3]
 rw [Q1P (by rfl)]
 have hx : (s.extract (a + 12) (a + 12 + N)).size = N := by rw [Q2f (by omega)]; omega
 rw [u64_in (by omega), Q3y hk, hx]
 by_cases c3 : N > 65536
 ·rw [if_pos c3, if_pos (.inl c3)]
  rfl
 rw [if_neg c3, if_neg (by omega)]
 simp only [Option.bind_some]
 rw [Q1P (by rfl)]
 show (bif decide (((0 : Int) ≤ (a : Int)) ∧ (((a : Int) ≤ IntKind.i64.wrap ((a : Int) + ((12 + N + 4 : Nat) : Int))) ∧ (IntKind.i64.wrap ((a : Int) + ((12 + N + 4 : Nat) : Int)) ≤ ((s.size : Nat) : Int)))) then (bif (!(Q1M (s.extract a (IntKind.i64.wrap ((a : Int) + ((12 + N + 4 : Nat) : Int))).toNat) (recS e (0 : Int) (s.extract (a + 12) (a + 12 + N))))) then (some (.inl (s, e, (a : Int), ())) : Option Q9.p0.τ) else (bif Nat.ble ((List.length (List.set (List.replicate 1 ByteArray.empty) 0 (s.extract (a + 12) (a + 12 + N)))) * 16) 140737488355328 then some (.inr (s, e, IntKind.i64.wrap ((a : Int) + ((12 + N + 4 : Nat) : Int)), List.set (List.replicate 1 ByteArray.empty) 0 (s.extract (a + 12) (a + 12 + N)), ())) else none)) else none) = _
 rw [i64_in (by omega), Q0F (by omega), show ((a : Int) + ((12 + N + 4 : Nat) : Int)) = ((a + 16 + N : Nat) : Int) by omega, show (((a + 16 + N : Nat) : Int)).toNat = a + 16 + N by omega]
 by_cases c4 : s.extract a (a + 16 + N) = recS e (0 : Int) (s.extract (a + 12) (a + 12 + N))
 ·rw [if_pos c4, Q1P (by rw [Q2U.2 c4]; rfl), set1, Q14 (Q1J (by simp only [List.length_singleton]; omega))]
  dsimp only
  rw [hx]
 ·rw [if_neg c4, Q14 (by rw [Q32 c4]; rfl)]
theorem Q7W {k : Nat} (hk : 2000 ≤ k) {s : ByteArray} (hs : s.size ≤ 140737488351232) {e : Int} (he : 0 ≤ e ∧ e ≤ 18446744073709551615) {a : Nat} (ha : a ≤ s.size) (l : List ByteArray) (hl : 20 + 16 * l.length ≤ a) {ρ : Type} (kn : Q1.l0.σ → Option ρ) (ke : Q1.l0.τ → Option ρ) :
  Q1.l0.r k (s, e, (a : Int), l, ()) kn ke = match Q4g e s a l.length with
   | none => ke (s, e, (a : Int), l, ())
   | some x => kn (s, e, ((a + 16 + x.size : Nat) : Int), l ++ [x], ()) := by
 simp only [Q1.l0.r]
 unfold Q4g
 dsimp only
 rw [i64_in (n := (s.size : Int) - (a : Int)) (by omega)]
 by_cases c1 : s.size < a + 16
 ·rw [Q1D (by omega), if_pos c1]
 rw [Q0F (by omega), if_neg c1, i64_in (n := (a : Int) + 4) (by omega), Q0F (by omega), show (a : Int).toNat = a by omega, show ((a : Int) + 4).toNat = a + 4 by omega]
 rw [Q30 (by omega) _ (by rw [Q2f (by omega)]; omega)]
 simp only [Option.bind_some]
 have hq := Q9d (s := s) (a := a) (by omega)
 obtain ⟨N, hN⟩ : ∃ N : Nat, leI (QM (s.extract a (a + 4))) = (N : Int) := ⟨_, (Int.toNat_of_nonneg hq.1).symm⟩
 have hN' : (leI (QM (s.extract a (a + 4)))).toNat = N := by omega
 rw [hN']
 rw [hN] at hq ⊢
 have p1 : Q1.p1 k (s, e, (a : Int), (N : Int), l, ()) = some (if N > 65536 ∨ s.size < a + 16 + N then .inl (s, e, (a : Int), l, ()) else .inr (s, e, (a : Int), (N : Int), l, ())) := by
  unfold Q1.p1
  simp only [Q1.p1.r]
  by_cases d1 : N > 65536
  ·rw [Q0F (by omega), if_pos (.inl d1)]
  rw [Q1D (by omega), i64_in (n := (s.size : Int) - (a : Int)) (by omega), i64_in (by omega), u64_in (by omega)]
  by_cases d2 : s.size < a + 16 + N
  ·rw [Q0F (by omega), if_pos (.inr d2)]
  ·rw [Q1D (by omega), if_neg (by omega)]
 show (Q1.p1 k (s, e, (a : Int), (N : Int), l, ())).bind _ = _
 rw [p1]
 by_cases c2 : N > 65536 ∨ s.size < a + 16 + N
 ·rw [if_pos c2, if_pos c2]
  rfl
 rw [if_neg c2, if_neg c2]
 simp only [Option.bind_some]
 have hx : (s.extract (a + 12) (a + 12 + N)).size = N := by rw [Q2f (by omega)]; omega
 rw [i64_in (n := (a : Int) + 12) (by omega), i64_in (n := (N : Int)) (by omega), i64_in (n := (a : Int) + 12 + (N : Int)) (by omega), Q0F (by omega), i64_in (n := (a : Int) + 16) (by omega), i64_in (n := (a : Int) + 16 + (N : Int)) (by omega), Q0F (by omega)]
 rw [show ((a : Int) + 12).toNat = a + 12 by omega, show ((a : Int) + 12 + (N : Int)).toNat = a + 12 + N by omega, show (a : Int).toNat = a by omega, show ((a : Int) + 16 + (N : Int)).toNat = a + 16 + N by omega]
 rw [u64_in (by omega), Q7h hk he (by omega) (by rw [hx]; omega)]
 simp only [Option.bind_some]
 by_cases c4 : s.extract a (a + 16 + N) = recS e (l.length : Int) (s.extract (a + 12) (a + 12 + N))
 ·rw [if_pos c4, Q1P (by rw [Q2U.2 c4]; rfl), set1, Q14 (Q1J (by simp only [List.length_singleton]; omega))]
  dsimp only
  rw [hx, i64_in (n := 16 + (N : Int)) (by omega), i64_in (by omega), show (a : Int) + (16 + (N : Int)) = ((a + 16 + N : Nat) : Int) by omega]
 ·rw [if_neg c4, Q14 (by rw [Q32 c4]; rfl)]
theorem Q96 {k : Nat} (hk : 2000 ≤ k) {s : ByteArray} (hs : s.size ≤ 140737488351232) {e : Int} (he : 0 ≤ e ∧ e ≤ 18446744073709551615) : ∀ (d a : Nat) (l : List ByteArray), a ≤ s.size → 20 + 16 * l.length ≤ a → s.size - a < d →
  ∃ (a' : Nat) (l' : List ByteArray), a' ≤ s.size ∧ 16 * l'.length ≤ s.size ∧ ∀ f, d ≤ f → Q1f (Q9.l1.r k) f (s, e, (a : Int), l, ()) = some (s, e, (a' : Int), l', ()) ∧ Q1f (Q1.l0.r k) f (s, e, (a : Int), l, ()) = some (s, e, (a' : Int), l', ())
 | 0, _, _, _, _, h => absurd h (Nat.not_lt_zero _)
 | d + 1, a, l, ha, hl, hf => by
  have h1 : ∀ f, Q1f (Q9.l1.r k) (f + 1) (s, e, (a : Int), l, ()) = Q9.l1.r k (s, e, (a : Int), l, ()) (Q1f (Q9.l1.r k) f) some := fun _ => rfl
  have h2 : ∀ f, Q1f (Q1.l0.r k) (f + 1) (s, e, (a : Int), l, ()) = Q1.l0.r k (s, e, (a : Int), l, ()) (Q1f (Q1.l0.r k) f) some := fun _ => rfl
  cases hx : Q4g e s a l.length with
  | none =>
   refine ⟨a, l, ha, by omega, fun f hdf => ?_⟩
   obtain ⟨g, rfl⟩ : ∃ g, f = g + 1 := ⟨f - 1, by omega⟩
   rw [h1, h2, Q92 hk hs e ha l hl, Q7W hk hs he ha l hl, hx]
   exact ⟨rfl, rfl⟩
  | some x =>
   have h3 := Q8j hx
   obtain ⟨a', l', g1, g2, g3⟩ := Q96 hk hs he d (a + 16 + x.size) (l ++ [x]) h3 (by rw [List.length_append, List.length_singleton]; omega) (by omega)
   refine ⟨a', l', g1, g2, fun f hdf => ?_⟩
   obtain ⟨g, rfl⟩ : ∃ g, f = g + 1 := ⟨f - 1, by omega⟩
   rw [h1, h2, Q92 hk hs e ha l hl, Q7W hk hs he ha l hl, hx]
   exact g3 g (by omega)
theorem QcO {k : Nat} (hk : 2000 ≤ k) {s : ByteArray} (hs : s.size ≤ 140737488351232) (hf : s.size < k) :
  (Q9 k s = some (.inl (0, 0, 120, ())) ∧ Q1 k s = some (0, [], 0, false, ())) ∨
  ∃ (e t : Int) (l : List ByteArray), 16 * l.length ≤ s.size ∧ ((l = [] ∧ Q9 k s = some (.inl (e, t, 0, ()))) ∨ Q9 k s = some (.inr (e, t, 0, l, ()))) ∧ Q1 k s = some (e, l, t, true, ()) := by
 unfold Q9 Q9.c Q1 Q1.c
 by_cases c1 : s.size < 20
 ·left
  rw [Q0F (by omega), Q0F (by omega)]
  exact ⟨rfl, rfl⟩
 rw [Q1D (by omega), Q0F (by omega), Q1D (by omega), Q0F (by omega)]
 have hb : (s.extract 8 20).size = 12 := by rw [Q2f (by omega)]
 have hr0 : RdOK (s.extract 8 20, 0, 0, ()) := ⟨by rw [hb]; omega, Int.le_refl 0, Int.natCast_nonneg _⟩
 rw [show Q0L k (s.extract 8 20) = some ((s.extract 8 20, 0, 0, ()), ()) from rfl]
 simp only [Option.bind_some]
 rw [Qb8 (by omega) hr0, Q30 (by omega) _ (by rw [Q2f (by omega)]; omega)]
 simp only [Option.bind_some]
 have hnum : numS (s.extract 8 20, 0, 0, ()) 8 = leI (QM (s.extract 8 16)) := by
  unfold numS
  have e1 := Q24 (s.extract 8 20) 0 8 (by omega)
  rw [show ((s.extract 8 20, (0 : Int), (0 : Int), ()) : Rd) = (s.extract 8 20, ((0 : Nat) : Int), 0, ()) from rfl, show (8 : Int) = ((8 : Nat) : Int) from rfl, e1, ext2 (by omega) (by omega) (by omega)]
 have he : 0 ≤ leI (QM (s.extract 8 16)) ∧ leI (QM (s.extract 8 16)) ≤ 18446744073709551615 := by
  have := Qb3 (m := 8) (Q4n (s.extract 8 16)) (by rw [Q19, Q2f (by omega)]; omega)
  rw [show (256 : Int) ^ 8 = 18446744073709551616 by decide] at this
  omega
 rw [hnum, Q0F (by omega), Q0F (by omega), Q7g (by omega), Q8G (by omega) he]
 simp only [Option.bind_some]
 by_cases c2 : s.extract 0 20 = Qaz (leI (QM (s.extract 8 16)))
 ·right
  rw [Q1P (by rw [Q2U.2 c2]; rfl), Q1P (by rw [Q2U.2 c2]; rfl)]
  obtain ⟨k', rfl⟩ : ∃ k', k = k' + 1 := ⟨k - 1, by omega⟩
  have p0 := Qb9 hk hs (leI (QM (s.extract 8 16))) (a := 20) (by omega)
  have r0 := Q7W hk hs he (a := 20) (by omega) [] (by simp) (Q1f (Q1.l0.r (k' + 1)) k') some
  rw [show ([] : List ByteArray).length = 0 from rfl] at r0
  cases hx : Q4g (leI (QM (s.extract 8 16))) s 20 0 with
  | none =>
   rw [hx] at p0 r0
   refine ⟨leI (QM (s.extract 8 16)), ((s.size : Int) - 20), [], by simp, .inl ⟨rfl, ?_⟩, ?_⟩
   ·show (Q9.p0 (k' + 1) (s, leI (QM (s.extract 8 16)), ((20 : Nat) : Int), ())).bind _ = _
    rw [p0]
    simp only [Option.bind_some]
    rw [i64_in (by omega)]
    rfl
   ·show (Q1.l0.r (k' + 1) (s, leI (QM (s.extract 8 16)), ((20 : Nat) : Int), [], ()) (Q1f (Q1.l0.r (k' + 1)) k') some).bind _ = _
    rw [r0]
    simp only [Option.bind_some]
    rw [i64_in (by omega)]
    rfl
  | some x =>
   have hxs := Q8j hx
   rw [hx] at p0 r0
   obtain ⟨a', l', h1, h2, h3⟩ := Q96 hk hs he (s.size - (20 + 16 + x.size) + 1) (20 + 16 + x.size) [x] hxs (by simp only [List.length_singleton]; omega) (by omega)
   refine ⟨leI (QM (s.extract 8 16)), ((s.size : Int) - a'), l', h2, .inr ?_, ?_⟩
   ·show (Q9.p0 (k' + 1) (s, leI (QM (s.extract 8 16)), ((20 : Nat) : Int), ())).bind _ = _
    rw [p0]
    simp only [Option.bind_some]
    show (Q1f (Q9.l1.r (k' + 1)) (k' + 1) (s, leI (QM (s.extract 8 16)), ((20 + 16 + x.size : Nat) : Int), [x], ())).bind _ = _
    rw [(h3 (k' + 1) (by omega)).1]
    simp only [Option.bind_some]
    rw [i64_in (by omega)]
   ·show (Q1.l0.r (k' + 1) (s, leI (QM (s.extract 8 16)), ((20 : Nat) : Int), [], ()) (Q1f (Q1.l0.r (k' + 1)) k') some).bind _ = _
    rw [r0]
    simp only [List.nil_append]
    rw [(h3 k' (by omega)).2]
    simp only [Option.bind_some]
    rw [i64_in (by omega)]
 ·left
  rw [Q14 (by rw [Q32 c2]; rfl), Q14 (by rw [Q32 c2]; rfl)]
  exact ⟨rfl, rfl⟩
theorem Qcj {k : Nat} (l : List ByteArray) (h : l.length < k) (hl : l.length ≤ 4611686018427387904) : Qg k l l = some (true, ()) := by
 unfold Qg Qg.c
 rw [bne_self_eq_false, cond_false]
 have := Q1o (r := Qg.l0.r k) (fun i => (l, l, (l.length : Int), (i : Int), ())) l.length (.inr ()) ?_ ?_ (fuel := k) (by omega)
 ·show (Q1f (Qg.l0.r k) k (l, l, (l.length : Int), ((0 : Nat) : Int), ())).bind _ = _
  rw [this]
  rfl
 ·intro i hi kn ke
  simp only [Qg.l0.r]
  rw [Q0F (by omega), Q0F (by omega), Q0F (by omega), Qb2, Bool.not_true, cond_false, i64_in (by omega)]
  rfl
 ·intro kn ke
  simp only [Qg.l0.r]
  rw [Q1D (by omega)]
end Go.Am
namespace Go.Am
open Go Go.Proofs
set_option maxRecDepth 100000
abbrev Q8.p0.σ : Type := Int × Int × ByteArray × ByteArray × Int × Unit
abbrev Q8.p0.τ : Type := (Bool × Unit) ⊕ (Int × Int × ByteArray × ByteArray × Int × Unit)
def Q8.p0.r (k : Nat) {ρ : Type} (x : Q8.p0.σ) (K : Q8.p0.τ → Option ρ) : Option ρ :=
 (Q03 k ).bind fun t3 => bif (!t3.1) then (K (.inl (false, ()))) else ((Q0p k x.1).bind fun t4 => (Q0g k x.1).bind fun t5 => bif (!(Q1M t4.1 t5.1)) then (K (.inl (false, ()))) else (K (.inr (x.1, (x.2.1, (x.2.2.1, (x.2.2.2.1, (x.2.2.2.2.1, ()))))))))
def Q8.p0 (k : Nat) (x : Q8.p0.σ) : Option Q8.p0.τ := Q8.p0.r k x some
def Q8.p0.T : StT := ⟨.dat (.int .u64) :: .dat (.int .u64) :: .dat .str :: us 4 ++ .dat .str :: .dat (.int .i64) :: us 35, []⟩
def Q8.p0.os : List Out := [⟨.ret, [.mask [6], .auto 0], ⟨us 6 ++ .dat .bool :: us 37, []⟩⟩, ⟨.normal, [.mask [0, 1, 2, 7, 8], .auto 0], ⟨.dat (.int .u64) :: .dat (.int .u64) :: .dat .str :: us 4 ++ .dat .str :: .dat (.int .i64) :: us 35, []⟩⟩]
def Q8.c (k : Nat) {ρ : Type} (epoch : Int) (number : Int) (s : ByteArray) (K : Bool × Unit → Option ρ) : Option ρ :=
  (Q09 k epoch number s).bind fun t0 => let v1 : ByteArray := t0.1
  let v2 : Int := t0.2.1
  (Q8.p0 k (epoch, (number, (s, (v1, (v2, ())))))).bind fun t6 => (match t6 with
 | .inl t7 => (K (t7.1, ()))
 | .inr (t8) => (let v9 : Int := (((ByteArray.size t8.2.2.1) : Nat) : Int)
  bif (decide (v9 > (65536 : Int))) then (bif (Q1M t8.2.2.2.1 (⟨(List.toArray [])⟩ : ByteArray)) then (K ((t8.2.2.2.2.1 == (121 : Int)), ())) else (K (false, ()))) else ((Q02 k t8.1 t8.2.1 t8.2.2.1).bind fun t10 => bif (Q1M t8.2.2.2.1 t10.1) then (K ((t8.2.2.2.2.1 == (0 : Int)), ())) else (K (false, ())))))
def Q8 (k : Nat) (epoch : Int) (number : Int) (s : ByteArray) : Option (Bool × Unit) := Q8.c k epoch number s some
def Q8.tin : List Ty := [(.int .u64), (.int .u64), .str]
def Q8.tout : List Ty := [.bool]
def Q8.sem (k : Nat) : QS := Q16 Q8.tin Q8.tout fun x => Q8 k x.1 x.2.1 x.2.2.1
noncomputable def Q8.ctx (k : Nat) : Ctx := ⟨Try.prog, gam [(7, (Q09.sem k)), (8, (Q03.sem k)), (9, (Q0p.sem k)), (10, (Q0g.sem k)), (11, (Q02.sem k))]⟩
theorem Q8.gok (k : Nat) : ∀ f, Qu Try.prog f ((Q8.ctx k).Γ f) := (Qf (Q09.sem_ok k) (Qf (Q03.sem_ok k) (Qf (Q0p.sem_ok k) (Qf (Q0g.sem_ok k) (Qf (Q02.sem_ok k) Q0e)))))
theorem Q8.p0.is (k : Nat) : Q26 (Q8.ctx k) (Q0O (Func.code Try.f3) [1, 1, 0]) (.nil) Q8.p0.T Q8.p0.os (Q8.p0.r k) := by
 intro ρ x K; kernel_rfl
theorem Q8.p0.ok (k : Nat) : StOK 0 Try.prog (Q0O (Func.code Try.f3) [1, 1, 0]) (Q05 Q8.p0.T Q8.p0.os (Q8.p0 k)) :=
 Q1T (C := Q8.ctx k) (T := Q8.p0.T) (os := Q8.p0.os) (Q8.gok k) Try.mix (fun x K => Q8.p0.r k x K) Q2.nil (by kernel_rfl) (by kernel_rfl) (Q8.p0.is k)
def Q8.ann (k : Nat) : Ann := .node [] none (.nil) (.node [] none (.nil) (.node [] none (.node [] (some (Q05 Q8.p0.T Q8.p0.os (Q8.p0 k))) .nil .nil) (.nil)))
theorem Q8.body (k : Nat) : Q1p (Q8.ctx k) Try.f3 (Func.code Try.f3) (Q8.ann k) Q8.tin Q8.tout (fun x K => Q8.c k x.1 x.2.1 x.2.2.1 K) := by
 intro ρ x K; kernel_rfl
theorem Q8.sem_ok (k : Nat) : Qu Try.prog 3 (Q8.sem k) :=
 Q12 (C := Q8.ctx k) (Q8.gok k) Try.mix (c := Func.code Try.f3) (ann := Q8.ann k) (tin := Q8.tin) (tout := Q8.tout) (fun x K => Q8.c k x.1 x.2.1 x.2.2.1 K) Try.func3 (by kernel_rfl) (by kernel_rfl) (Q2.seq Q2.nil (Q2.seq Q2.nil (Q2.seq (Q2.loop (by kernel_rfl) (Q8.p0.ok k)) Q2.nil))) (Q8.body k)
end Go.Am
namespace Go.Am
open Go Go.Proofs
set_option maxRecDepth 100000
def Qx.c (k : Nat) {ρ : Type} (s : ByteArray) (K : Bool × Unit → Option ρ) : Option ρ :=
  (Q9 k s).bind fun t0 => (match t0 with
 | .inl t1 => (let v2 : Int := t1.1
  let v3 : Int := t1.2.1
  let v4 : Int := t1.2.2.1
  (Q1 k s).bind fun t5 => let v6 : Int := t5.1
  let v7 : (List ByteArray) := t5.2.1
  let v8 : Int := t5.2.2.1
  bif (!t5.2.2.2.1) then ((Q03 k ).bind fun t9 => bif t9.1 then (bif (v2 == (0 : Int)) then (bif (v3 == (0 : Int)) then (K ((v4 == (120 : Int)), ())) else (K (false, ()))) else (K (false, ()))) else (K (false, ()))) else ((Q03 k ).bind fun t10 => bif t10.1 then (bif (v2 == v6) then ((Qg k [] v7).bind fun t11 => bif t11.1 then (bif (v3 == v8) then (K ((v4 == (0 : Int)), ())) else (K (false, ()))) else (K (false, ()))) else (K (false, ()))) else (K (false, ()))))
 | .inr (t12) => (let v13 : Int := t12.1
  let v14 : Int := t12.2.1
  let v15 : Int := t12.2.2.1
  (Q1 k s).bind fun t16 => let v17 : Int := t16.1
  let v18 : (List ByteArray) := t16.2.1
  let v19 : Int := t16.2.2.1
  bif (!t16.2.2.2.1) then ((Q03 k ).bind fun t20 => bif t20.1 then (bif (v13 == (0 : Int)) then (let v21 : Int := (((List.length t12.2.2.2.1) : Nat) : Int)
  bif (v21 == (0 : Int)) then (bif (v14 == (0 : Int)) then (K ((v15 == (120 : Int)), ())) else (K (false, ()))) else (K (false, ()))) else (K (false, ()))) else (K (false, ()))) else ((Q03 k ).bind fun t22 => bif t22.1 then (bif (v13 == v17) then ((Qg k t12.2.2.2.1 v18).bind fun t23 => bif t23.1 then (bif (v14 == v19) then (K ((v15 == (0 : Int)), ())) else (K (false, ()))) else (K (false, ()))) else (K (false, ()))) else (K (false, ())))))
def Qx (k : Nat) (s : ByteArray) : Option (Bool × Unit) := Qx.c k s some
def Qx.tin : List Ty := [.str]
def Qx.tout : List Ty := [.bool]
def Qx.sem (k : Nat) : QS := Q16 Qx.tin Qx.tout fun x => Qx k x.1
noncomputable def Qx.ctx (k : Nat) : Ctx := ⟨Try.prog, gam [(12, (Q9.sem k)), (13, (Q1.sem k)), (8, (Q03.sem k)), (14, (Qg.sem k))]⟩
theorem Qx.gok (k : Nat) : ∀ f, Qu Try.prog f ((Qx.ctx k).Γ f) := (Qf (Q9.sem_ok k) (Qf (Q1.sem_ok k) (Qf (Q03.sem_ok k) (Qf (Qg.sem_ok k) Q0e))))
def Qx.ann (k : Nat) : Ann := .nil
theorem Qx.body (k : Nat) : Q1p (Qx.ctx k) Try.f4 (Func.code Try.f4) (Qx.ann k) Qx.tin Qx.tout (fun x K => Qx.c k x.1 K) := by
 intro ρ x K; kernel_rfl
theorem Qx.sem_ok (k : Nat) : Qu Try.prog 4 (Qx.sem k) :=
 Q12 (C := Qx.ctx k) (Qx.gok k) Try.mix (c := Func.code Try.f4) (ann := Qx.ann k) (tin := Qx.tin) (tout := Qx.tout) (fun x K => Qx.c k x.1 K) Try.func4 (by kernel_rfl) (by kernel_rfl) Q2.nil (Qx.body k)
end Go.Am
namespace Go.Am
open Go
theorem Q5J {k : Nat} (hk : 2000 ≤ k) (haw : Q03 k = some (true, ())) {s : ByteArray} (hs : s.size ≤ 140737488351232) (hf : s.size < k) :
  Qx k s = some (true, ()) := by
 unfold Qx Qx.c
 rcases QcO hk hs hf with ⟨h1, h2⟩ | ⟨e, t, l, h0, h1, h2⟩
 ·rw [h1]
  simp only [Option.bind_some]
  rw [h2]
  simp only [Option.bind_some]
  rw [haw]
  rfl
 ·have sm := Qcj (k := k) l (by omega) (by omega)
  rcases h1 with ⟨rfl, h1⟩ | h1
  all_goals
   rw [h1]
   simp only [Option.bind_some]
   rw [h2]
   simp only [Option.bind_some, Bool.not_true, cond_false]
   rw [haw]
   simp only [Option.bind_some, cond_true, beq_self_eq_true]
   rw [sm]
   simp only [Option.bind_some, cond_true, beq_self_eq_true]
end Go.Am
namespace Go.Am
open Go
theorem Qdl : Q03 140737488355328 = some (true, ()) := by kernel_rfl
end Go.Am
