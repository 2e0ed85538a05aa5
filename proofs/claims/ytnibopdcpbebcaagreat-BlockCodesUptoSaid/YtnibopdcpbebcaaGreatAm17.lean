/- A part of a proof: a machine of abstract values that tells what functions of the program compute, and the plain facts on them. -/
import Derived.Test.YtnibopdcpbebcaaGreatAm16
set_option linter.unusedVariables false
set_option linter.unusedSimpArgs false
set_option linter.unnecessarySimpa false
set_option linter.unusedSectionVars false
namespace Go.Am
open Go
theorem Q2V {k : Nat} (hk : 9 ≤ k) (n : Int) (hn : 0 ≤ n ∧ n ≤ 18446744073709551615) : Q0e k n = some (bytesOf (Q1q n), ()) := by
 unfold Q0e Q0e.c
 have l1 := Q2r hk n hn 1 (by omega)
 have l2 := Q2r hk n hn 2 (by omega)
 have l4 := Q2r hk n hn 4 (by omega)
 have l8 := Q2r hk n hn 8 (by omega)
 have hb : ∀ (j : Nat), j ≤ 8 → Nat.ble (1 + (bytesOf (lowI n j)).size) 9223372036854775807 = true := fun j hj => Q1I (by rw [Q0d, Q0k]; omega)
 unfold Q1q
 by_cases h1 : n < 253
 ·rw [decide_eq_true h1, if_pos h1, cond_true]
  show (Qo k n ((1 : Nat) : Int)).bind _ = _
  rw [l1]; rfl
 ·rw [decide_eq_false h1, if_neg h1, cond_false]
  by_cases h2 : n < 65536
  ·rw [decide_eq_true (show n ≤ 65535 by omega), if_pos h2, cond_true]
   show (Qo k n ((2 : Nat) : Int)).bind _ = _
   rw [l2]
   simp only [Option.bind_some, hb 2 (by omega), cond_true]
   show some (bytesOf [253] ++ _, ()) = _
   rw [Q11]; rfl
  ·rw [decide_eq_false (show ¬ n ≤ 65535 by omega), if_neg h2, cond_false]
   by_cases h3 : n < 4294967296
   ·rw [decide_eq_true (show n ≤ 4294967295 by omega), if_pos h3, cond_true]
    show (Qo k n ((4 : Nat) : Int)).bind _ = _
    rw [l4]
    simp only [Option.bind_some, hb 4 (by omega), cond_true]
    show some (bytesOf [254] ++ _, ()) = _
    rw [Q11]; rfl
   ·rw [decide_eq_false (show ¬ n ≤ 4294967295 by omega), if_neg h3, cond_false]
    show (Qo k n ((8 : Nat) : Int)).bind _ = _
    rw [l8]
    simp only [Option.bind_some, hb 8 (by omega), cond_true]
    show some (bytesOf [255] ++ _, ()) = _
    rw [Q11]; rfl
def Q1u (s : ByteArray) (a : Int) : Int × Int × Int × Unit :=
 if a < 0 ∨ a > s.size then (0, 0, 1, ()) else
  match (Qq s).drop a.toNat with
  | [] => (0, 0, 4, ())
  | b :: l =>
   if b < 253 then (b, a + 1, 0, ()) else
    let m : Nat := if b = 253 then 2 else if b = 254 then 4 else 8
    if l.length < m then (0, 0, 4, ()) else
     let n := leI (l.take m)
     if Q1J n = 1 + m then (n, a + (1 + m), 0, ()) else (0, 0, 6, ())
theorem QdU (k : Nat) (s : ByteArray) (a : Int) : QN.p0 k (s, a, ()) = some (if a < 0 ∨ a > (s.size : Int) then .inl (0, 0, 1, ()) else .inr (s, a, ())) := by
 unfold QN.p0
 simp only [QN.p0.r]
 by_cases h1 : a < 0
 ·rw [Qy h1, if_pos (.inl h1)]
 ·rw [Q0Z h1]
  by_cases h2 : a > (s.size : Int)
  ·rw [Qy h2, if_pos (.inr h2)]
  ·rw [Q0Z h2, if_neg (by omega)]
theorem Q4R {k : Nat} (hk : 9 ≤ k) (s : ByteArray) (a : Int) (hs : s.size ≤ 9223372036854775807) : QN k s a = some (Q1u s a) := by
 unfold QN QN.c Q1u
 rw [QdU]
 by_cases h0 : a < 0 ∨ a > (s.size : Int)
 ·rw [if_pos h0, if_pos h0]; rfl
 rw [if_neg h0, if_neg h0]
 simp only [Option.bind_some]
 rw [decide_eq_true (by omega), cond_true]
 have he : Qq (s.extract a.toNat ((s.size : Nat) : Int).toNat) = (Qq s).drop a.toNat := by
  rw [Q24, List.take_of_length_le]
  rw [List.length_drop, Q0b]; omega
 generalize hv : s.extract a.toNat ((s.size : Nat) : Int).toNat = v at he ⊢
 rw [← he]
 have hsz := Q0b v
 have hlen : v.size = s.size - a.toNat := by rw [← hsz, he, List.length_drop, Q0b]
 have hat := Q39 v 0
 have hrng := Q2N v 0
 generalize hl : Qq v = l at hsz hat ⊢
 cases l with
 | nil =>
  have : v = ⟨List.toArray []⟩ := Q5m (by rw [hl]; rfl)
  rw [this]; dsimp only; rw [Q4Z]; rfl
 | cons b l =>
  have hne : Q2Y v ⟨List.toArray []⟩ = false := Q86 fun e => by rw [e] at hl; cases hl
  simp only [List.length_cons] at hsz
  simp only [List.getD_cons_zero] at hat
  dsimp only
  rw [hne, cond_false, decide_eq_true (by omega), cond_true, hat]
  rw [hat] at hrng
  by_cases h3 : b < 253
  ·rw [decide_eq_true h3, if_pos h3, cond_true, cond_true, i64_in (by omega), u64_in (by omega)]
  rw [decide_eq_false h3, if_neg h3, cond_false, cond_true]
  have key : ∀ (m : Nat), m ≤ 8 → 1 ≤ m → Q2w IntKind.i64 2 (IntKind.u8.wrap (b - 253)) = (m : Int) → 0 ≤ IntKind.u8.wrap (b - 253) →
    (bif decide ((0 : Int) ≤ IntKind.u8.wrap (b - 253)) then
     (bif decide (((v.size : Nat) : Int) < IntKind.i64.wrap (1 + Q2w IntKind.i64 2 (IntKind.u8.wrap (b - 253)))) then some ((0 : Int), (0 : Int), (4 : Int), ()) else
      (bif decide ((0 : Int) ≤ 1 ∧ (1 : Int) ≤ IntKind.i64.wrap (1 + Q2w IntKind.i64 2 (IntKind.u8.wrap (b - 253))) ∧ IntKind.i64.wrap (1 + Q2w IntKind.i64 2 (IntKind.u8.wrap (b - 253))) ≤ ((v.size : Nat) : Int)) then
       (Q0L k (v.extract 1 (IntKind.i64.wrap (1 + Q2w IntKind.i64 2 (IntKind.u8.wrap (b - 253)))).toNat)).bind fun t5 => (Q0u k t5.1).bind fun t6 =>
        bif t6.1 != IntKind.i64.wrap (1 + Q2w IntKind.i64 2 (IntKind.u8.wrap (b - 253))) then some ((0 : Int), (0 : Int), (6 : Int), ()) else
         some (t5.1, IntKind.i64.wrap (a + IntKind.i64.wrap (1 + Q2w IntKind.i64 2 (IntKind.u8.wrap (b - 253)))), (0 : Int), ())
      else none)) else none) =
    some (if l.length < m then (0, 0, 4, ()) else if Q1J (leI (l.take m)) = 1 + m then (leI (l.take m), a + (1 + m), 0, ()) else (0, 0, 6, ())) := by
   intro m hm hm1 e1 e2
   rw [e1, decide_eq_true e2, cond_true, i64_in (by omega)]
   by_cases h4 : l.length < m
   ·rw [if_pos h4, decide_eq_true (by omega), cond_true]
   ·rw [if_neg h4, decide_eq_false (by omega), cond_false, decide_eq_true (by omega), cond_true]
    have hx : Qq (v.extract 1 (1 + (m : Int)).toNat) = l.take m := by
     rw [Q24, hl, List.drop_succ_cons, List.drop_zero]
     congr 1; omega
    have hxs : (v.extract 1 (1 + (m : Int)).toNat).size = m := by
     rw [← Q0b, hx, List.length_take]; omega
    rw [Q7Y hk _ (by omega), hx]
    simp only [Option.bind_some, Q2u]
    by_cases h5 : Q1J (leI (l.take m)) = 1 + (m : Int)
    ·rw [if_pos h5, h5, bne_self_eq_false, cond_false, i64_in (by omega)]
    ·rw [if_neg h5]
     have : (Q1J (leI (l.take m)) != 1 + (m : Int)) = true := by simpa using h5
     rw [this, cond_true]
  have hb : b = 253 ∨ b = 254 ∨ b = 255 := by omega
  rcases hb with rfl | rfl | rfl
  ·exact key 2 (by omega) (by omega) (by decide) (by decide)
  ·exact key 4 (by omega) (by omega) (by decide) (by decide)
  ·exact key 8 (by omega) (by omega) (by decide) (by decide)
theorem QdK (k : Nat) (s : ByteArray) (a : Int) : Q3.p0 k (s, a, ()) = some (if a < 0 ∨ a > (s.size : Int) then .inl (0, 0, 1, ()) else .inr (s, a, ())) := by
 unfold Q3.p0
 simp only [Q3.p0.r]
 by_cases h1 : a < 0
 ·rw [Qy h1, if_pos (.inl h1)]
 ·rw [Q0Z h1]
  by_cases h2 : a > (s.size : Int)
  ·rw [Qy h2, if_pos (.inr h2)]
  ·rw [Q0Z h2, if_neg (by omega)]
theorem Qe7 (k : Nat) (s : ByteArray) (a : Int) (h : 0 ≤ a ∧ a < (s.size : Int)) : Q3.p1 k (s, a, (0 : Int), ()) =
  some (s, a, (if Q1v s a.toNat = 253 then 2 else if Q1v s a.toNat = 254 then 4 else if Q1v s a.toNat = 255 then 8 else 0), ()) := by
 unfold Q3.p1
 simp only [Q3.p1.r]
 rw [Qy h]
 by_cases h4 : Q1v s a.toNat = 253
 ·rw [if_pos h4, h4]; rfl
 by_cases h5 : Q1v s a.toNat = 254
 ·rw [if_neg h4, if_pos h5, h5]; rfl
 by_cases h6 : Q1v s a.toNat = 255
 ·rw [if_neg h4, if_neg h5, if_pos h6, h6]; rfl
 rw [if_neg h4, if_neg h5, if_neg h6, beq_false_of_ne h4, beq_false_of_ne h5, beq_false_of_ne h6]; rfl
theorem Q4t {k : Nat} (hk : 9 ≤ k) (s : ByteArray) (a : Int) (hs : s.size ≤ 9223372036854775807) : Q3 k s a = some (Q1u s a) := by
  unfold Q3 Q3.c Q1u
  rw [QdK]
  by_cases h0 : a < 0 ∨ a > (s.size : Int)
  · rw [if_pos h0, if_pos h0]; rfl
  rw [if_neg h0, if_neg h0]
  simp only [Option.bind_some]
  by_cases h3 : a = (s.size : Int)
  · have : (Qq s).drop a.toNat = [] := List.drop_eq_nil_of_le (by rw [Q0b]; omega)
    rw [this, h3, beq_self_eq_true]; rfl
  rw [beq_false_of_ne h3, cond_false, Qe7 k s a (by omega)]
  simp only [Option.bind_some]
  have hlt : a.toNat < (Qq s).length := by rw [Q0b]; omega
  have hd := List.drop_eq_getElem_cons hlt
  have hat : Q1v s a.toNat = (Qq s)[a.toNat] := by rw [Q39, List.getD_eq_getElem?_getD, List.getElem?_eq_getElem hlt]; rfl
  rw [← hat] at hd
  have hrng := Q2N s a.toNat
  rw [hd]
  generalize Q1v s a.toNat = b at hrng ⊢
  have hlen : ((Qq s).drop (a.toNat + 1)).length = s.size - (a.toNat + 1) := by rw [List.length_drop, Q0b]
  dsimp only
  have e0 : IntKind.i64.wrap ((s.size : Int) - a) = (s.size : Int) - a := i64_in (by omega)
  have e1 : IntKind.i64.wrap ((s.size : Int) - a - 1) = (s.size : Int) - a - 1 := i64_in (by omega)
  have e2 : IntKind.i64.wrap (a + 1) = a + 1 := i64_in (by omega)
  rw [e0, e1]
  have key : ∀ (m : Nat), m ≤ 8 → 1 ≤ m →
      (bif decide ((s.size : Int) - a - 1 < (m : Int)) then some ((0 : Int), (0 : Int), (4 : Int), ()) else
        (bif decide ((0 : Int) ≤ a ∧ a < (s.size : Int)) then
            (Q3.p2 k (s, a, (m : Int), IntKind.u64.wrap b, ())).bind fun t16 => (Q0e k t16.2.2.1).bind fun t6 =>
              bif ((t6.1.size : Int) != IntKind.i64.wrap (1 + t16.2.1)) then some ((0 : Int), (0 : Int), (6 : Int), ()) else some (t16.2.2.1, IntKind.i64.wrap (IntKind.i64.wrap (t16.1 + 1) + t16.2.1), (0 : Int), ())
           else none)) =
      some (if ((Qq s).drop (a.toNat + 1)).length < m then (0, 0, 4, ()) else if Q1J (leI (((Qq s).drop (a.toNat + 1)).take m)) = 1 + m then (leI (((Qq s).drop (a.toNat + 1)).take m), a + (1 + m), 0, ()) else (0, 0, 6, ())) := by
    intro m hm hm1
    by_cases h4 : ((Qq s).drop (a.toNat + 1)).length < m
    · rw [if_pos h4, decide_eq_true (by omega), cond_true]
    · rw [if_neg h4, Q0Z (by omega), Qy (by omega)]
      unfold Q3.p2
      simp only [Q3.p2.r]
      rw [Qy (by omega), e2]
      have e3 : IntKind.i64.wrap (a + 1 + (m : Int)) = a + 1 + m := i64_in (by omega)
      have e4 : IntKind.i64.wrap (1 + (m : Int)) = 1 + m := i64_in (by omega)
      rw [e3, Qy (by omega)]
      have hx : Qq (s.extract (a + 1).toNat (a + 1 + (m : Int)).toNat) = ((Qq s).drop (a.toNat + 1)).take m := by
        rw [Q24, show (a + 1).toNat = a.toNat + 1 by omega]
        congr 1; omega
      have hxs : (s.extract (a + 1).toNat (a + 1 + (m : Int)).toNat).size = m := by
        rw [← Q0b, hx, List.length_take]; omega
      rw [Q2o hk _ (by omega), hx]
      have hin : Q1y (((Qq s).drop (a.toNat + 1)).take m) := fun x hx => Q2I (List.mem_of_mem_drop (List.mem_of_mem_take hx))
      obtain ⟨g0, g1⟩ := Q3S hin
      have hpow : ∀ j : Nat, j ≤ 8 → (256 : Int) ^ j ≤ 18446744073709551616 := by
        intro j hj
        match j, hj with
        | 0, _ | 1, _ | 2, _ | 3, _ | 4, _ | 5, _ | 6, _ | 7, _ | 8, _ => decide
      have := hpow (((Qq s).drop (a.toNat + 1)).take m).length (by rw [List.length_take]; omega)
      simp only [Option.bind_some]
      rw [Q2V hk _ (by omega), e2, e3, e4]
      simp only [Option.bind_some, Q0d, Q1W]
      by_cases h5 : Q1J (leI (((Qq s).drop (a.toNat + 1)).take m)) = 1 + (m : Int)
      · rw [if_pos h5, h5, bne_self_eq_false, cond_false, show a + 1 + (m : Int) = a + (1 + m) by omega]
      · rw [if_neg h5]
        have : (Q1J (leI (((Qq s).drop (a.toNat + 1)).take m)) != 1 + (m : Int)) = true := by simpa using h5
        rw [this, cond_true]
  by_cases h4 : b = 253
  · subst h4; exact key 2 (by omega) (by omega)
  by_cases h5 : b = 254
  · subst h5; exact key 4 (by omega) (by omega)
  by_cases h6 : b = 255
  · subst h6; exact key 8 (by omega) (by omega)
  rw [if_neg h4, if_neg h5, if_neg h6, if_pos (show b < 253 by omega), Q0Z (by omega), Qy (by omega)]
  unfold Q3.p2
  simp only [Q3.p2.r]
  rw [Q0Z (by omega), u64_in (by omega)]
  simp only [Option.bind_some]
  rw [Q2V hk _ (by omega)]
  simp only [Option.bind_some, Q0d, Q1W]
  have : Q1J b = 1 := by unfold Q1J; rw [if_pos (by omega)]
  rw [this]
  show (bif (1 : Int) != 1 then _ else _) = _
  rw [bne_self_eq_false, cond_false, Int.add_zero, e2, e2]
theorem Qgi {k : Nat} (hk : 9 ≤ k) {r : Rd} (h : RdOK r) : Q0Q k r = some (numS r 8, (Q1V r 8).1, ()) := by
 unfold Q0Q Q0Q.c
 show (Q03 k 8 r).bind _ = _
 rw [Q9z k h]
 simp only [Option.bind_some]
 rw [show (8 : Int) = ((8 : Nat) : Int) from rfl, Q91 hk h 8 (by omega)]
 rfl
def Q5f (r : Rd) (most : Int) : Rd × Int :=
 if r.2.2.1 ≠ 0 then (r, 0) else
 let t := Q1u r.1 r.2.1
 let e := if t.2.2.1 = 0 ∧ t.1 > most then 5 else t.2.2.1
 if e ≠ 0 then ((r.1, r.2.1, e, ()), 0) else ((r.1, t.2.1, r.2.2.1, ()), t.1)
theorem Q6r {s : ByteArray} {a : Int} (ha : 0 ≤ a ∧ a ≤ (s.size : Int)) : 0 ≤ (Q1u s a).2.1 ∧ (Q1u s a).2.1 ≤ (s.size : Int) := by
 have hd : ((Qq s).drop a.toNat).length = s.size - a.toNat := by rw [List.length_drop, Q0b]
 unfold Q1u
 split
 ·exact ⟨by simp, by simp⟩
 ·generalize hl : (Qq s).drop a.toNat = l at hd
  cases l with
  | nil => exact ⟨by simp, by simp⟩
  | cons b l =>
   simp only [List.length_cons] at hd
   dsimp only
   split
   ·dsimp only; omega
   ·generalize (if b = 253 then 2 else if b = 254 then 4 else 8 : Nat) = m
    split
    ·exact ⟨by simp, by simp⟩
    ·split
     ·dsimp only; omega
     ·exact ⟨by simp, by simp⟩
theorem Qgt {r : Rd} (h : RdOK r) (most : Int) : RdOK (Q5f r most).1 ∧ (Q5f r most).1.1 = r.1 := by
 obtain ⟨h1, h2, h3⟩ := h
 have := Q6r (s := r.1) (a := r.2.1) ⟨h2, h3⟩
 unfold Q5f
 split
 ·exact ⟨⟨h1, h2, h3⟩, rfl⟩
 ·dsimp only
  generalize Q1u r.1 r.2.1 = t at this ⊢
  generalize (if t.2.2.1 = 0 ∧ t.1 > most then 5 else t.2.2.1 : Int) = e'
  split
  ·exact ⟨⟨h1, h2, h3⟩, rfl⟩
  ·exact ⟨⟨h1, this.1, this.2⟩, rfl⟩
theorem Qe4 {k : Nat} (hk : 9 ≤ k) {r : Rd} (h : RdOK r) (most : Int) : QB k most r = some ((Q5f r most).2, (Q5f r most).1, ()) := by
 obtain ⟨s, a, e, u⟩ := r
 obtain ⟨h1, h2, h3⟩ := h
 simp only at h1 h2 h3
 unfold QB QB.c Q5f
 rw [show Q0n k (s, a, e, ()) = some (e, (s, a, e, ()), ()) from rfl]
 simp only [Option.bind_some]
 by_cases he : e = 0
 ·subst he
  rw [bne_self_eq_false, cond_false, if_neg (by simp), Q4R hk s a (by omega)]
  simp only [Option.bind_some]
  generalize Q1u s a = t
  obtain ⟨n, p, q, u⟩ := t
  have hp : QB.p0 k (most, n, p, q, (s, a, (0 : Int), ()), ()) = some (n, p, (if q = 0 ∧ n > most then 5 else q), (s, a, (0 : Int), ()), ()) := by
   unfold QB.p0
   simp only [QB.p0.r]
   by_cases hq : q = 0
   ·subst hq
    rw [beq_self_eq_true, cond_true]
    by_cases hm : n > most
    ·rw [Qy hm, if_pos ⟨rfl, hm⟩]
    ·rw [Q0Z hm, if_neg (by omega)]
   ·rw [Q1t (by simpa using hq), if_neg (by omega)]
  simp only
  rw [hp]
  simp only [Option.bind_some]
  generalize (if q = 0 ∧ n > most then 5 else q : Int) = e'
  by_cases he' : e' = 0
  ·subst he'
   rw [bne_self_eq_false, cond_false, if_neg (by simp)]
  ·rw [QX (by simpa using he'), if_pos he']
 ·rw [QX (by simpa using he), if_pos he]
abbrev Tk : Type := ByteArray × Int × Int × Int × Unit
def TkOK (x : Tk) : Prop := x.1.size ≤ 4611686018427387904 ∧ 0 ≤ x.2.1 ∧ x.2.1 ≤ x.2.2.1 ∧ x.2.2.1 ≤ (x.1.size : Int)
def QS (x : Tk) (n : Int) : Tk × ByteArray :=
 if x.2.2.2.1 ≠ 0 then (x, eb) else
 if n > 4096 - (x.2.2.1 - x.2.1) then ((x.1, x.2.1, x.2.2.1, 101, ()), eb) else
 if n > (x.1.size : Int) - x.2.2.1 then ((x.1, x.2.1, x.2.2.1, 4, ()), eb) else
 ((x.1, x.2.1, x.2.2.1 + n, x.2.2.2.1, ()), x.1.extract x.2.2.1.toNat (x.2.2.1 + n).toNat)
theorem Q1s {x : Tk} (h : TkOK x) {n : Int} (hn : 0 ≤ n) : TkOK (QS x n).1 ∧ (QS x n).1.1 = x.1 ∧ (QS x n).1.2.1 = x.2.1 := by
 obtain ⟨h1, h2, h3, h4⟩ := h
 unfold QS
 split
 ·exact ⟨⟨h1, h2, h3, h4⟩, rfl, rfl⟩
 ·split
  ·exact ⟨⟨h1, h2, h3, h4⟩, rfl, rfl⟩
  ·split
   ·exact ⟨⟨h1, h2, h3, h4⟩, rfl, rfl⟩
   ·exact ⟨⟨h1, h2, by dsimp only; omega, by dsimp only; omega⟩, rfl, rfl⟩
theorem Q8k {x : Tk} {n : Int} (he : (QS x n).1.2.2.2.1 ≠ 0) : (QS x n).2 = eb := by
 unfold QS at *
 split
 ·rfl
 ·rename_i h0
  rw [if_neg h0] at he
  split
  ·rfl
  ·rename_i h1
   rw [if_neg h1] at he
   split
   ·rfl
   ·rename_i h2
    rw [if_neg h2] at he
    exact absurd he h0
theorem Q2J {x : Tk} (h : TkOK x) {n : Int} (hn : 0 ≤ n) (he : (QS x n).1.2.2.2.1 = 0) :
  x.2.2.2.1 = 0 ∧ (QS x n).1 = (x.1, x.2.1, x.2.2.1 + n, 0, ()) ∧ n ≤ 4096 - (x.2.2.1 - x.2.1) ∧ n ≤ (x.1.size : Int) - x.2.2.1 ∧ Qq (QS x n).2 = ((Qq x.1).drop x.2.2.1.toNat).take n.toNat := by
 obtain ⟨h1, h2, h3, h4⟩ := h
 unfold QS at *
 by_cases c0 : x.2.2.2.1 ≠ 0
 ·rw [if_pos c0] at he; exact absurd he c0
 ·rw [if_neg c0] at he ⊢
  have c0' : x.2.2.2.1 = 0 := by simpa using c0
  by_cases c1 : n > 4096 - (x.2.2.1 - x.2.1)
  ·rw [if_pos c1] at he; simp at he
  ·rw [if_neg c1] at he ⊢
   by_cases c2 : n > (x.1.size : Int) - x.2.2.1
   ·rw [if_pos c2] at he; simp at he
   ·rw [if_neg c2]
    refine ⟨c0', by rw [c0'], by omega, by omega, ?_⟩
    rw [Q24]
    congr 1
    omega
theorem Q2L {x : Tk} (h : TkOK x) {n : Int} (hn : 0 ≤ n) : (QS x n).2.size = 0 ∨ (QS x n).2.size = n.toNat := by
 by_cases he : (QS x n).1.2.2.2.1 = 0
 ·right
  obtain ⟨_, _, _, hl, hb⟩ := Q2J h hn he
  have := congrArg List.length hb
  rw [Q0b, List.length_take, List.length_drop, Q0b] at this
  have := h.2.1
  have := h.2.2.1
  omega
 ·left; rw [Q8k he]; rfl
theorem Q3t (k : Nat) {x : Tk} (h : TkOK x) {n : Int} (hn : 0 ≤ n ∧ n ≤ 1099511627776) : Q07 k n x = some ((QS x n).2, (QS x n).1, ()) := by
 obtain ⟨s, f, a, e, u⟩ := x
 obtain ⟨h1, h2, h3, h4⟩ := h
 dsimp only at h1 h2 h3 h4
 unfold Q07 Q07.c QS
 dsimp only
 by_cases c0 : e ≠ 0
 ·rw [if_pos c0, QX (by simpa using c0)]
 ·rw [if_neg c0, Q1t (by simpa using c0), i64_in (n := a - f) (by omega), i64_in (n := 4096 - (a - f)) (by omega)]
  by_cases c1 : n > 4096 - (a - f)
  ·rw [if_pos c1, Qy c1]
  ·rw [if_neg c1, Q0Z c1, i64_in (n := (s.size : Int) - a) (by omega)]
   by_cases c2 : n > (s.size : Int) - a
   ·rw [if_pos c2, Qy c2]
   ·rw [if_neg c2, Q0Z c2, i64_in (n := a + n) (by omega), i64_in (n := a + n - n) (by omega), Qy (by omega), show a + n - n = a by omega]
theorem Q3z (k : Nat) {x : Tk} (h : TkOK x) {n : Int} (hn : 0 ≤ n ∧ n ≤ 1099511627776) : QW k x n = some ((QS x n).1, (QS x n).2, ()) := by
 obtain ⟨s, f, a, e, u⟩ := x
 obtain ⟨h1, h2, h3, h4⟩ := h
 dsimp only at h1 h2 h3 h4
 unfold QW QW.c QS
 dsimp only
 by_cases c0 : e ≠ 0
 ·rw [if_pos c0, QX (by simpa using c0)]
 ·rw [if_neg c0, Q1t (by simpa using c0), i64_in (n := a - f) (by omega), i64_in (n := a - f + n) (by omega)]
  by_cases c1 : n > 4096 - (a - f)
  ·rw [if_pos c1, Qy (by omega)]
  ·rw [if_neg c1, Q0Z (by omega), i64_in (n := (s.size : Int) - a) (by omega)]
   by_cases c2 : n > (s.size : Int) - a
   ·rw [if_pos c2, Qy (by omega)]
   ·rw [if_neg c2, Q0Z (by omega), i64_in (n := a + n) (by omega), i64_in (n := a + n - n) (by omega), Qy (by omega), show a + n - n = a by omega]
def Q0x (x : Tk) (n : Int) : Tk × Int := ((QS x n).1, leI (Qq (QS x n).2))
theorem Q3r {x : Tk} (h : TkOK x) {n : Nat} : 0 ≤ (Q0x x n).2 ∧ (Q0x x n).2 < 256 ^ n := by
 have hs := Q2L h (n := (n : Int)) (by omega)
 exact Q6z (Q2i _) (by rw [Q0b]; omega)
theorem Qak {b : ByteArray} {n : Nat} (h : b.size = 0 ∨ b.size = n) (hn : 0 < n) : numS (b, 0, 0, ()) (n : Int) = leI (Qq b) := by
 unfold numS Q1V
 dsimp only
 rw [if_neg (by simp), if_neg (by omega)]
 rcases h with h | h
 ·rw [if_pos (by omega)]
  have : Qq b = [] := List.eq_nil_of_length_eq_zero (by rw [Q0b]; exact h)
  rw [this]
  rfl
 ·rw [if_neg (by omega)]
  dsimp only
  rw [Q24, show (0 : Int).toNat = 0 from rfl, List.drop_zero, List.take_of_length_le (by rw [Q0b]; omega)]
theorem Q5O {k : Nat} (hk : 9 ≤ k) {x : Tk} (h : TkOK x) : Q0V k x = some ((Q0x x 4).2, (Q0x x 4).1, ()) := by
 unfold Q0V Q0V.c
 show (Q07 k 4 x).bind _ = _
 rw [Q3t k h (by omega)]
 simp only [Option.bind_some]
 have hs := Q2L h (n := 4) (by omega)
 rw [show Q0A k (QS x 4).2 = some (((QS x 4).2, 0, 0, ()), ()) from rfl]
 simp only [Option.bind_some]
 have hnf := Qak (n := 4) hs (by omega)
 rw [Q8V hk ⟨by dsimp only; omega, by dsimp only; omega, by dsimp only; omega⟩, show numS ((QS x 4).2, 0, 0, ()) 4 = leI (Qq (QS x 4).2) from hnf]
 rfl
theorem Q7j (k : Nat) (s : ByteArray) (hs : s.size ≤ 8) (r z : Tk) {fuel : Nat} (hf : s.size < fuel) :
  Qh.l0 k fuel (s, (0 : Int), (s.size : Int) - 1, r, z, ()) = some (leI (Qq s), r, z, ()) := by
 have hl := Q0b s
 have := Q1w (r := Qh.l0.r k) (fun i => (s, leI ((Qq s).drop (s.size - i)), (s.size : Int) - 1 - (i : Int), r, z, ())) s.size (leI (Qq s), r, z, ()) ?_ ?_ hf
 ·have e0 : leI ((Qq s).drop (s.size - 0)) = 0 := by rw [List.drop_eq_nil_of_le (by omega)]; rfl
  rw [e0] at this
  rw [show (s.size : Int) - 1 = (s.size : Int) - 1 - ((0 : Nat) : Int) by omega]
  exact this
 ·intro i hi kn ke
  simp only [Qh.l0.r]
  have hd : (Qq s).drop (s.size - (i + 1)) = Q1v s (s.size - (i + 1)) :: (Qq s).drop (s.size - i) := by
   rw [List.drop_eq_getElem_cons (by omega), show s.size - (i + 1) + 1 = s.size - i by omega, Q39, List.getD_eq_getElem?_getD, List.getElem?_eq_getElem (by omega)]
   rfl
  have hr := Q3S (xs := (Qq s).drop (s.size - i)) (fun x hx => Q2i s x (List.mem_of_mem_drop hx))
  rw [List.length_drop, hl] at hr
  have hb := Q2N s (s.size - (i + 1))
  have hr2 := Q6z (l := (Qq s).drop (s.size - (i + 1))) (fun x hx => Q2i s x (List.mem_of_mem_drop hx)) (m := 8) (by rw [List.length_drop, hl]; omega)
  have h8 : (256 : Int) ^ 8 = 18446744073709551616 := by decide
  rw [h8] at hr2
  rw [hd] at hr2
  simp only [leI] at hr2
  rw [Qy (by omega), Qy (by omega), show ((s.size : Int) - 1 - (i : Int)).toNat = s.size - (i + 1) by omega, u64_in (n := 256 * leI ((Qq s).drop (s.size - i))) (by omega), u64_in (n := Q1v s (s.size - (i + 1))) (by omega),
   u64_in (n := 256 * leI ((Qq s).drop (s.size - i)) + Q1v s (s.size - (i + 1))) (by omega), i64_in (by omega), hd]
  simp only [leI]
  rw [Int.add_comm, show (s.size : Int) - 1 - (i : Int) - 1 = (s.size : Int) - 1 - ((i + 1 : Nat) : Int) by omega]
 ·intro kn ke
  simp only [Qh.l0.r]
  rw [Q0Z (by omega), Nat.sub_self, List.drop_zero]
theorem Q2m {k : Nat} (hk : 9 ≤ k) {x : Tk} (h : TkOK x) {n : Nat} (hn : n ≤ 8) : Qh k x (n : Int) = some ((Q0x x n).1, (Q0x x n).2, ()) := by
 unfold Qh Qh.c
 show (QW k x (n : Int)).bind _ = _
 rw [Q3z k h (by omega)]
 simp only [Option.bind_some]
 have hs := Q2L h (n := (n : Int)) (by omega)
 rw [i64_in (by omega)]
 show (Qh.l0 k k ((QS x n).2, (0 : Int), ((QS x n).2.size : Int) - 1, (QS x n).1, _, ())).bind _ = _
 rw [Q7j k _ (by omega) _ _ (by omega)]
 rfl
def cm (b : Int) : Nat := if b = 253 then 2 else if b = 254 then 4 else if b = 255 then 8 else 0
theorem Qem (b : Int) : cm b ≤ 8 := by unfold cm; split <;> (try split) <;> (try split) <;> omega
abbrev tkL (x : Tk) : List Int := (Qq x.1).drop x.2.2.1.toNat
abbrev tkV (x : Tk) : Int := if cm ((tkL x).headD 0) = 0 then (tkL x).headD 0 else leI (((tkL x).drop 1).take (cm ((tkL x).headD 0)))
def Q0a (x : Tk) (most e : Int) : Tk × Int :=
 if x.2.2.2.1 ≠ 0 then (x, 0) else
 let y := (QS x (1 + (cm ((tkL x).headD 0) : Int))).1
 if y.2.2.2.1 ≠ 0 then (y, 0) else
 if Q1J (tkV x) ≠ 1 + (cm ((tkL x).headD 0) : Int) then ((y.1, y.2.1, y.2.2.1, 6, ()), 0) else
 if tkV x > most then ((y.1, y.2.1, y.2.2.1, e, ()), 0) else (y, tkV x)
theorem Q1N {x : Tk} (h : TkOK x) (most e : Int) : TkOK (Q0a x most e).1 ∧ (Q0a x most e).1.1 = x.1 ∧ (Q0a x most e).1.2.1 = x.2.1 := by
 unfold Q0a
 split
 ·exact ⟨h, rfl, rfl⟩
 ·obtain ⟨⟨h1, h2, h3, h4⟩, h5, h6⟩ := Q1s h (n := 1 + (cm ((tkL x).headD 0) : Int)) (by omega)
  dsimp only
  split
  ·exact ⟨⟨h1, h2, h3, h4⟩, h5, h6⟩
  ·split
   ·exact ⟨⟨h1, h2, h3, h4⟩, h5, h6⟩
   ·split
    ·exact ⟨⟨h1, h2, h3, h4⟩, h5, h6⟩
    ·exact ⟨⟨h1, h2, h3, h4⟩, h5, h6⟩
theorem Q3l {x : Tk} (h : TkOK x) : ((tkL x).length : Int) = (x.1.size : Int) - x.2.2.1 := by
 obtain ⟨h1, h2, h3, h4⟩ := h
 rw [List.length_drop, Q0b]; omega
theorem QaZ (x : Tk) : Q1y (tkL x) := fun y hy => Q2i _ y (List.mem_of_mem_drop hy)
theorem Q4S {x : Tk} : 0 ≤ tkV x ∧ tkV x ≤ 18446744073709551615 := by
 unfold tkV
 have hh : 0 ≤ (tkL x).headD 0 ∧ (tkL x).headD 0 < 256 := by
  cases hc : tkL x with
  | nil => simp
  | cons b l => exact QaZ x b (by rw [hc]; simp)
 split
 ·omega
 ·have := Q6z (l := ((tkL x).drop 1).take (cm ((tkL x).headD 0))) (fun y hy => QaZ x y (List.mem_of_mem_drop (List.mem_of_mem_take hy))) (m := 8) (by rw [List.length_take]; have := Qem ((tkL x).headD 0); omega)
  have h8 : (256 : Int) ^ 8 = 18446744073709551616 := by decide
  omega
theorem Q1K {x : Tk} (most e : Int) (hm : 0 ≤ most) : 0 ≤ (Q0a x most e).2 ∧ (Q0a x most e).2 ≤ most := by
 have := Q4S (x := x)
 unfold Q0a
 dsimp only
 split
 ·exact ⟨Int.le_refl _, hm⟩
 ·split
  ·exact ⟨Int.le_refl _, hm⟩
  ·split
   ·exact ⟨Int.le_refl _, hm⟩
   ·split
    ·exact ⟨Int.le_refl _, hm⟩
    ·exact ⟨this.1, by omega⟩
theorem QbD {b : Int} (h : b < 253) : Q1J b = 1 := by unfold Q1J; rw [if_pos h]
theorem Qb0 {x : Tk} (h : TkOK x) {n : Nat} (he : (QS x (1 + (n : Int))).1.2.2.2.1 = 0) : ∃ b l, tkL x = b :: l ∧ n ≤ l.length ∧ (0 ≤ b ∧ b < 256) := by
 obtain ⟨_, _, _, h4, _⟩ := Q2J h (n := 1 + (n : Int)) (by omega) he
 have hl := Q3l h
 cases hc : tkL x with
 | nil => rw [hc] at hl; simp only [List.length_nil] at hl; omega
 | cons b l =>
  rw [hc] at hl
  simp only [List.length_cons] at hl
  exact ⟨b, l, rfl, by omega, QaZ x b (by rw [hc]; simp)⟩
theorem Q5z {k : Nat} (hk : 9 ≤ k) {x : Tk} (h : TkOK x) {most e : Int} (hm : 0 ≤ most ∧ most ≤ 4096) : QA k most e x = some ((Q0a x most e).2, (Q0a x most e).1, ()) := by
 unfold QA QA.c
 by_cases c0 : x.2.2.2.1 ≠ 0
 ·have hp : QA.p0 k (most, e, (1 : Int), x, ()) = some (most, e, (1 : Int), x, ()) := by
   unfold QA.p0
   simp only [QA.p0.r]
   rw [Q1t (by simpa using c0)]
  have hb : QS x 1 = (x, eb) := by unfold QS; rw [if_pos c0]
  show (QA.p0 k (most, e, (1 : Int), x, ())).bind _ = _
  rw [hp]
  simp only [Option.bind_some]
  show (Q07 k 1 x).bind _ = _
  rw [Q3t k h (by omega), hb]
  simp only [Option.bind_some]
  rw [QX (by simpa using c0)]
  unfold Q0a
  rw [if_pos c0]
 ·have c0' : x.2.2.2.1 = 0 := by simpa using c0
  obtain ⟨h1, h2, h3, h4⟩ := h
  have h : TkOK x := ⟨h1, h2, h3, h4⟩
  have hlen := Q3l h
  have hp : QA.p0 k (most, e, (1 : Int), x, ()) = some (most, e, 1 + (cm ((tkL x).headD 0) : Int), x, ()) := by
   unfold QA.p0
   simp only [QA.p0.r]
   rw [QX (by simpa using c0')]
   by_cases c1 : x.2.2.1 < (x.1.size : Int)
   ·have hb : Q1v x.1 x.2.2.1.toNat = (tkL x).headD 0 := by
     rw [Q39]
     cases hc : tkL x with
     | nil => rw [hc] at hlen; simp only [List.length_nil] at hlen; omega
     | cons b l =>
      have := congrArg (·[0]?) hc
      simp only [List.getElem?_drop, Nat.add_zero, List.getElem?_cons_zero] at this
      rw [List.getD_eq_getElem?_getD, this]
      rfl
    rw [Qy c1, Qy (by omega), hb]
    unfold cm
    by_cases e1 : (tkL x).headD 0 = 253
    ·rw [QX (by simpa using e1), if_pos e1]; rfl
    ·rw [Q1t (by simpa using e1), if_neg e1]
     by_cases e2 : (tkL x).headD 0 = 254
     ·rw [QX (by simpa using e2), if_pos e2]; rfl
     ·rw [Q1t (by simpa using e2), if_neg e2]
      by_cases e3 : (tkL x).headD 0 = 255
      ·rw [QX (by simpa using e3), if_pos e3]; rfl
      ·rw [Q1t (by simpa using e3), if_neg e3]; rfl
   ·have : tkL x = [] := List.eq_nil_of_length_eq_zero (by omega)
    rw [Q0Z c1, this]
    rfl
  show (QA.p0 k (most, e, (1 : Int), x, ())).bind _ = _
  rw [hp]
  simp only [Option.bind_some]
  have hcm := Qem ((tkL x).headD 0)
  show (Q07 k (1 + (cm ((tkL x).headD 0) : Int)) x).bind _ = _
  rw [Q3t k h (by omega)]
  simp only [Option.bind_some]
  unfold Q0a
  rw [if_neg c0]
  dsimp only
  by_cases c2 : (QS x (1 + (cm ((tkL x).headD 0) : Int))).1.2.2.2.1 ≠ 0
  ·rw [if_pos c2, QX (by simpa using c2)]
  ·have c2' : (QS x (1 + (cm ((tkL x).headD 0) : Int))).1.2.2.2.1 = 0 := by simpa using c2
   rw [if_neg c2, Q1t (by simpa using c2')]
   obtain ⟨_, f1, f2, f3, f4⟩ := Q2J h (n := 1 + (cm ((tkL x).headD 0) : Int)) (by omega) c2'
   obtain ⟨b, l, g1, g2, g3⟩ := Qb0 h c2'
   have hc : cm ((tkL x).headD 0) = cm b := by rw [g1]; rfl
   have g2' : cm b ≤ l.length := by rw [← hc]; exact g2
   rw [Q4R hk _ _ (by have := Q2L h (n := 1 + (cm ((tkL x).headD 0) : Int)) (by omega); omega)]
   simp only [Option.bind_some]
   have hV : tkV x = if cm b = 0 then b else leI (l.take (cm b)) := by unfold tkV; rw [g1]; rfl
   have f4' : Qq (QS x (1 + (cm ((tkL x).headD 0) : Int))).2 = b :: l.take (cm b) := by
    rw [f4]
    show List.take _ (tkL x) = _
    rw [g1, show ((1 : Int) + (cm ((b :: l).headD 0) : Int)).toNat = cm b + 1 by simp only [List.headD_cons]; omega]
    rfl
   have hT : Q1u (QS x (1 + (cm ((tkL x).headD 0) : Int))).2 0 = (if Q1J (tkV x) = 1 + (cm b : Int) then (tkV x, 1 + (cm b : Int), 0, ()) else (0, 0, 6, ())) := by
    unfold Q1u
    rw [if_neg (by omega), show (0 : Int).toNat = 0 from rfl, List.drop_zero, f4']
    dsimp only
    by_cases c3 : b < 253
    ·have : cm b = 0 := by unfold cm; rw [if_neg (by omega), if_neg (by omega), if_neg (by omega)]
     rw [if_pos c3, hV, this, if_pos rfl, QbD c3]
     rfl
    ·rw [if_neg c3]
     have e0 : (if b = 253 then 2 else if b = 254 then 4 else 8) = cm b ∧ cm b ≠ 0 := by
      unfold cm
      by_cases e1 : b = 253
      ·rw [if_pos e1, if_pos e1]; exact ⟨rfl, by decide⟩
      ·rw [if_neg e1, if_neg e1]
       by_cases e2 : b = 254
       ·rw [if_pos e2, if_pos e2]; exact ⟨rfl, by decide⟩
       ·rw [if_neg e2, if_neg e2, if_pos (show b = 255 by omega)]; exact ⟨rfl, by decide⟩
     rw [e0.1, if_neg (by rw [List.length_take]; omega), hV, if_neg e0.2, List.take_of_length_le (by rw [List.length_take]; omega)]
     simp only [Int.zero_add]
   rw [hT]
   rw [hc]
   by_cases c4 : Q1J (tkV x) = 1 + (cm b : Int)
   ·rw [if_pos c4, if_neg (by simpa using c4)]
    dsimp only
    rw [show ((0 : Int) != 0) = false from rfl, cond_false, u64_in (by omega)]
    by_cases c5 : tkV x > most
    ·rw [Qy c5, if_pos c5]
    ·have := Q4S (x := x)
     rw [Q0Z c5, if_neg c5, i64_in (by omega)]
   ·rw [if_neg c4, if_pos c4]
    rfl
theorem Q3H {k : Nat} (hk : 9 ≤ k) {x : Tk} (h : TkOK x) {most e : Int} (hm : 0 ≤ most ∧ most ≤ 4096) : Q6 k x most e = some ((Q0a x most e).1, (Q0a x most e).2, ()) := by
 unfold Q6 Q6.c
 have hnum := Q2m hk h (n := 1) (by omega)
 show (Qh k x ((1 : Nat) : Int)).bind _ = _
 rw [hnum]
 simp only [Option.bind_some]
 have hp0 : ∀ (v : Int) (y z : Tk), Q6.p0 k (most, e, v, v, (0 : Int), y, z, x, ()) = some (most, e, v, (cm v : Int), y, z, x, ()) := by
  intro v y z
  unfold Q6.p0 cm
  simp only [Q6.p0.r]
  by_cases e1 : v = 253
  ·rw [QX (by simpa using e1), if_pos e1]; rfl
  ·rw [Q1t (by simpa using e1), if_neg e1]
   by_cases e2 : v = 254
   ·rw [QX (by simpa using e2), if_pos e2]; rfl
   ·rw [Q1t (by simpa using e2), if_neg e2]
    by_cases e3 : v = 255
    ·rw [QX (by simpa using e3), if_pos e3]; rfl
    ·rw [Q1t (by simpa using e3), if_neg e3]; rfl
 show (Q6.p0 k (most, e, (Q0x x 1).2, (Q0x x 1).2, (0 : Int), (Q0x x 1).1, _, x, ())).bind _ = _
 rw [hp0]
 simp only [Option.bind_some]
 obtain ⟨h1, h2, h3, h4⟩ := h
 have h : TkOK x := ⟨h1, h2, h3, h4⟩
 have hlen := Q3l h
 have hxe : x = (x.1, x.2.1, x.2.2.1, x.2.2.2.1, ()) := rfl
 by_cases ce : (QS x 1).1.2.2.2.1 ≠ 0
 ·-- the first byte is not there
  have hv : (Q0x x 1).2 = 0 := by unfold Q0x; dsimp only; rw [Q8k ce]; rfl
  have hat : (QS x 1).1 = (x.1, x.2.1, x.2.2.1, (QS x 1).1.2.2.2.1, ()) := by
   unfold QS at ce ⊢
   split
   ·rfl
   ·rename_i c0
    rw [if_neg c0] at ce
    split
    ·rfl
    ·rename_i c1
     rw [if_neg c1] at ce
     split
     ·rfl
     ·rename_i c2
      rw [if_neg c2] at ce
      exact absurd ce (by simpa using c0)
  have hres : Q0a x most e = ((QS x 1).1, 0) := by
   unfold Q0a
   by_cases c0 : x.2.2.2.1 ≠ 0
   ·rw [if_pos c0]
    unfold QS
    rw [if_pos c0]
   ·rw [if_neg c0]
    have hb : (QS x (1 + (cm ((tkL x).headD 0) : Int))).1 = (QS x 1).1 := by
     unfold QS at ce ⊢
     rw [if_neg c0] at ce ⊢
     rw [if_neg c0]
     by_cases c1 : (1 : Int) > 4096 - (x.2.2.1 - x.2.1)
     ·rw [if_pos c1, if_pos (by omega)]
     ·rw [if_neg c1] at ce ⊢
      by_cases c2 : (1 : Int) > (x.1.size : Int) - x.2.2.1
      ·have : tkL x = [] := List.eq_nil_of_length_eq_zero (by omega)
       have hc0 : cm ((tkL x).headD 0) = 0 := by rw [this]; rfl
       rw [hc0, if_pos c2]
       simp only [Int.ofNat_zero, Int.cast_ofNat_Int, Int.add_zero]
       rw [if_neg c1, if_pos c2]
      ·rw [if_neg c2] at ce
       exact absurd ce (by simpa using c0)
    dsimp only
    rw [hb, if_pos ce]
  have hp1 : Q6.p1 k (most, e, (Q0x x 1).2, (cm (Q0x x 1).2 : Int), (Q0x x 1).1, (eb, 0, 0, 0, ()), x, ()) = some (most, e, (Q0x x 1).2, (cm (Q0x x 1).2 : Int), (Q0x x 1).1, (eb, 0, 0, 0, ()), x, ()) := by
   unfold Q6.p1
   simp only [Q6.p1.r]
   rw [hv]
   rfl
  show (Q6.p1 k (most, e, (Q0x x 1).2, (cm (Q0x x 1).2 : Int), (Q0x x 1).1, (eb, 0, 0, 0, ()), x, ())).bind _ = _
  rw [hp1]
  simp only [Option.bind_some]
  rw [QX (show ((Q0x x 1).1.2.2.2.1 != 0) = true by simpa [Q0x] using ce), hres]
  show some (((QS x 1).1.1, (QS x 1).1.2.1, x.2.2.1, (QS x 1).1.2.2.2.1, ()), (0 : Int), ()) = _
  rw [hat]
 ·have ce' : (QS x 1).1.2.2.2.1 = 0 := by simpa using ce
  obtain ⟨z0, z1, z2, z3, z4⟩ := Q2J h (n := 1) (by omega) ce'
  obtain ⟨b, l, g1, _, g3⟩ := Qb0 h (n := 0) (by simpa using ce')
  have hv : (Q0x x 1).2 = b := by
   unfold Q0x
   dsimp only
   rw [z4]
   show leI (List.take _ (tkL x)) = b
   rw [g1]
   simp [leI]
  have hh : (tkL x).headD 0 = b := by rw [g1]; rfl
  have hy : (Q0x x 1).1 = (x.1, x.2.1, x.2.2.1 + 1, 0, ()) := z1
  rw [hv, hy]
  have hyok : TkOK (x.1, x.2.1, x.2.2.1 + 1, 0, ()) := ⟨h1, h2, by dsimp only; omega, by dsimp only; omega⟩
  have hcm := Qem b
  have hp1 : Q6.p1 k (most, e, b, (cm b : Int), (x.1, x.2.1, x.2.2.1 + 1, 0, ()), (eb, 0, 0, 0, ()), x, ()) =
    some (most, e, (if cm b = 0 then b else (Q0x (x.1, x.2.1, x.2.2.1 + 1, 0, ()) (cm b)).2), (cm b : Int), (if cm b = 0 then (x.1, x.2.1, x.2.2.1 + 1, 0, ()) else (Q0x (x.1, x.2.1, x.2.2.1 + 1, 0, ()) (cm b)).1), (eb, 0, 0, 0, ()), x, ()) := by
   unfold Q6.p1
   simp only [Q6.p1.r]
   by_cases c : cm b = 0
   ·rw [Q0Z (by omega), if_pos c, if_pos c]
   ·rw [Qy (by omega), if_neg c, if_neg c, Q2m hk hyok (by omega)]
    rfl
  show (Q6.p1 k (most, e, b, (cm b : Int), (x.1, x.2.1, x.2.2.1 + 1, 0, ()), (eb, 0, 0, 0, ()), x, ())).bind _ = _
  rw [hp1]
  simp only [Option.bind_some]
  have key : ∃ er, (if cm b = 0 then (x.1, x.2.1, x.2.2.1 + 1, 0, ()) else (Q0x (x.1, x.2.1, x.2.2.1 + 1, 0, ()) (cm b)).1) = (x.1, x.2.1, (if er = 0 then x.2.2.1 + 1 + (cm b : Int) else x.2.2.1 + 1), er, ()) ∧
    (QS x (1 + (cm b : Int))).1 = (x.1, x.2.1, (if er = 0 then x.2.2.1 + (1 + (cm b : Int)) else x.2.2.1), er, ()) ∧ (er = 0 → (if cm b = 0 then b else (Q0x (x.1, x.2.1, x.2.2.1 + 1, 0, ()) (cm b)).2) = tkV x) := by
   by_cases c : cm b = 0
   ·refine ⟨0, ?_, ?_, fun _ => ?_⟩
    ·rw [if_pos c, if_pos rfl, c]; simp
    ·rw [c]
     simpa using z1
    ·rw [if_pos c]
     unfold tkV
     rw [hh, if_pos c]
   ·rw [if_neg c]
    unfold Q0x
    dsimp only
    have e1 : QS x (1 + (cm b : Int)) = if 1 + (cm b : Int) > 4096 - (x.2.2.1 - x.2.1) then ((x.1, x.2.1, x.2.2.1, 101, ()), eb) else
      if 1 + (cm b : Int) > (x.1.size : Int) - x.2.2.1 then ((x.1, x.2.1, x.2.2.1, 4, ()), eb) else ((x.1, x.2.1, x.2.2.1 + (1 + (cm b : Int)), x.2.2.2.1, ()), x.1.extract x.2.2.1.toNat (x.2.2.1 + (1 + (cm b : Int))).toNat) := by
     unfold QS; rw [if_neg (by simpa using z0)]
    have e2 : QS (x.1, x.2.1, x.2.2.1 + 1, 0, ()) (cm b : Int) = if (cm b : Int) > 4096 - (x.2.2.1 + 1 - x.2.1) then ((x.1, x.2.1, x.2.2.1 + 1, 101, ()), eb) else
      if (cm b : Int) > (x.1.size : Int) - (x.2.2.1 + 1) then ((x.1, x.2.1, x.2.2.1 + 1, 4, ()), eb) else ((x.1, x.2.1, x.2.2.1 + 1 + (cm b : Int), 0, ()), x.1.extract (x.2.2.1 + 1).toNat (x.2.2.1 + 1 + (cm b : Int)).toNat) := by
     unfold QS; rw [if_neg (by simp)]
    rw [e1, e2]
    by_cases c1 : 1 + (cm b : Int) > 4096 - (x.2.2.1 - x.2.1)
    ·refine ⟨101, ?_, ?_, fun hz => absurd hz (by decide)⟩
     ·rw [if_pos (by omega), if_neg (by decide)]
     ·rw [if_pos c1, if_neg (by decide)]
    ·by_cases c2 : 1 + (cm b : Int) > (x.1.size : Int) - x.2.2.1
     ·refine ⟨4, ?_, ?_, fun hz => absurd hz (by decide)⟩
      ·rw [if_neg (by omega), if_pos (by omega), if_neg (by decide)]
      ·rw [if_neg c1, if_pos c2, if_neg (by decide)]
     ·refine ⟨0, ?_, ?_, fun _ => ?_⟩
      ·rw [if_neg (by omega), if_neg (by omega), if_pos rfl]
      ·rw [if_neg c1, if_neg c2, if_pos rfl, z0]
      ·rw [if_neg c, if_neg (by omega), if_neg (by omega)]
       unfold tkV
       rw [hh, if_neg c, Q24]
       congr 1
       show _ = List.take _ (List.drop 1 (List.drop _ _))
       rw [List.drop_drop, show (x.2.2.1 + 1).toNat = x.2.2.1.toNat + 1 by omega, show (x.2.2.1 + 1 + (cm b : Int)).toNat - (x.2.2.1.toNat + 1) = cm b by omega]
  obtain ⟨er, k1, k2, k3⟩ := key
  rw [k1]
  dsimp only
  unfold Q0a
  rw [if_neg (show ¬ x.2.2.2.1 ≠ 0 by simpa using z0)]
  dsimp only
  rw [hh, k2]
  dsimp only
  by_cases ce2 : er ≠ 0
  ·rw [QX (by simpa using ce2), if_pos ce2, if_neg ce2]
  ·have ce3 : er = 0 := by simpa using ce2
   rw [Q1t (by simpa using ce3), if_neg ce2, k3 ce3, Q31 hk _ Q4S]
   simp only [Option.bind_some]
   have hr := Q4S (x := x)
   rw [Q0d, Q1W, i64_in (n := 1 + (cm b : Int)) (by omega), ce3, if_pos rfl, if_pos rfl, show x.2.2.1 + 1 + (cm b : Int) = x.2.2.1 + (1 + (cm b : Int)) by omega]
   by_cases c4 : Q1J (tkV x) = 1 + (cm b : Int)
   ·rw [Q1t (by simpa using c4), if_neg (by simpa using c4), u64_in (by omega)]
    by_cases c5 : tkV x > most
    ·rw [Qy c5, if_pos c5]
    ·rw [Q0Z c5, if_neg c5, i64_in (by omega)]
   ·rw [QX (by simpa using c4), if_pos c4]
def Q41 (b : ByteArray) : List Int := if b.size = 32 then Qq b else List.replicate 32 0
theorem QdX {b : ByteArray} (h : b.size = 0 ∨ b.size = 32) : Q2C (List.replicate 32 (0 : Int)) 0 (Qq b) (Min.min (List.length (Qq b)) 32) = Q41 b := by
 have hl := Q0b b
 unfold Q41 Q2C
 rcases h with h | h
 ·have : Qq b = [] := List.eq_nil_of_length_eq_zero (by omega)
  rw [this, if_neg (by omega)]
  rfl
 ·rw [if_pos h, hl, h]
  simp [List.take_of_length_le (show (Qq b).length ≤ 32 by omega)]
theorem Q2Q {x : Tk} (h : TkOK x) {n : Int} (hn : 0 ≤ n) : TkOK (Q0x x n).1 := (Q1s h hn).1
def Q2a (x : Tk) : Tk × TIn :=
 let a := QS x 32
 let i := Q0x a.1 4
 let c := Q0a i.1 520 100
 let s := QS c.1 c.2
 let q := Q0x s.1 4
 (q.1, (Q41 a.2, i.2, ()), s.2, q.2, ())
def Q25 (x : Tk) : Tk × TOut :=
 let v := Q0x x 8
 let c := Q0a v.1 520 100
 let s := QS c.1 c.2
 (s.1, v.2, s.2, ())
theorem Q3w {x : Tk} (h : TkOK x) : TkOK (Q2a x).1 := by
 unfold Q2a
 have h1 := (Q1s h (n := 32) (by omega)).1
 have h2 := Q2Q h1 (n := 4) (by omega)
 have h3 := (Q1N h2 520 100).1
 have h4 := (Q1s h3 (n := (Q0a (Q0x (QS x 32).1 4).1 520 100).2) (Q1K 520 100 (by omega)).1).1
 exact (Q1s h4 (n := 4) (by omega)).1
theorem Q34 {x : Tk} (h : TkOK x) : TkOK (Q25 x).1 := by
 unfold Q25
 have h1 := (Q1s h (n := 8) (by omega)).1
 have h3 := (Q1N h1 520 100).1
 exact (Q1s h3 (n := (Q0a (Q0x x 8).1 520 100).2) (Q1K 520 100 (by omega)).1).1
def Q1C {α : Type} (f : Tk → Tk × α) : Nat → Tk → List α → Tk × List α
 | 0, x, l => (x, l)
 | n + 1, x, l => if x.2.2.2.1 ≠ 0 then (x, l) else Q1C f n (f x).1 (l ++ [(f x).2])
theorem Q35 {α : Type} {f : Tk → Tk × α} (hok : ∀ x, TkOK x → TkOK (f x).1) : ∀ (n : Nat) {x : Tk} (l : List α), TkOK x → TkOK (Q1C f n x l).1
 | 0, _, _, h => h
 | n + 1, x, l, h => by
  unfold Q1C
  split
  ·exact h
  ·exact Q35 hok n _ (hok x h)
theorem Q4G {α : Type} {f : Tk → Tk × α} : ∀ (n : Nat) (x : Tk) (l : List α), (Q1C f n x l).2.length ≤ l.length + n
 | 0, _, _ => Nat.le_refl _
 | n + 1, x, l => by
  unfold Q1C
  split
  ·dsimp only; omega
  ·have := Q4G (f := f) n (f x).1 (l ++ [(f x).2])
   rw [List.length_append, List.length_singleton] at this
   omega
theorem Q9j {α β : Type} (f : Tk → Tk × α) (g : α → β) : ∀ (n : Nat) (x : Tk) (l : List α), Q1C (fun x => ((f x).1, g (f x).2)) n x (l.map g) = ((Q1C f n x l).1, (Q1C f n x l).2.map g)
 | 0, _, _ => rfl
 | n + 1, x, l => by
  unfold Q1C
  by_cases c : x.2.2.2.1 ≠ 0
  ·rw [if_pos c, if_pos c]
  ·rw [if_neg c, if_neg c]
   dsimp only
   rw [← Q9j f g n (f x).1 (l ++ [(f x).2]), List.map_append]
   rfl
theorem Q4s {σ τ α : Type} {r : {ρ : Type} → σ → (σ → Option ρ) → (τ → Option ρ) → Option ρ} (f : Tk → Tk × α) (S : Nat → Tk → List α → σ) (T : Tk → List α → τ) (N B : Nat)
  (hok : ∀ x, TkOK x → TkOK (f x).1)
  (hstep : ∀ n x l, n < N → TkOK x → l.length + (n + 1) ≤ B → x.2.2.2.1 = 0 → ∀ (kn : σ → Option τ) (ke : τ → Option τ), r (S (n + 1) x l) kn ke = kn (S n (f x).1 (l ++ [(f x).2])))
  (hstop : ∀ n x l, n ≤ N → TkOK x → (n = 0 ∨ x.2.2.2.1 ≠ 0) → ∀ (kn : σ → Option τ) (ke : τ → Option τ), r (S n x l) kn ke = ke (T x l)) :
  ∀ (n : Nat) (x : Tk) (l : List α) (fuel : Nat), n ≤ N → TkOK x → l.length + n ≤ B → n < fuel → Q15 r fuel (S n x l) = some (T (Q1C f n x l).1 (Q1C f n x l).2)
 | 0, x, l, fuel + 1, hN, hx, _, _ => hstop 0 x l hN hx (.inl rfl) _ _
 | n + 1, x, l, fuel + 1, hN, hx, hl, hf => by
  show r (S (n + 1) x l) (Q15 r fuel) some = _
  unfold Q1C
  by_cases c : x.2.2.2.1 ≠ 0
  ·rw [if_pos c]
   exact hstop (n + 1) x l hN hx (.inr c) _ _
  ·rw [if_neg c, hstep n x l (by omega) hx hl (by simpa using c)]
   exact Q4s f S T N B hok hstep hstop n (f x).1 (l ++ [(f x).2]) fuel (by omega) (hok x hx) (by rw [List.length_append, List.length_singleton]; omega) (by omega)
abbrev T0 : Type := Int × Unit × Unit × Int × Unit
theorem Q75 {k : Nat} (hk : 9 ≤ k) {x : Tk} (h : TkOK x) :
  Q0z k x = some ((QS (Q0a x 520 100).1 (Q0a x 520 100).2).2, (QS (Q0a x 520 100).1 (Q0a x 520 100).2).1, ()) := by
 unfold Q0z Q0z.c
 show (QA k 520 100 x).bind _ = _
 rw [Q5z hk h (by omega)]
 simp only [Option.bind_some]
 have hv := Q1K (x := x) 520 100 (by omega)
 show (Q07 k (Q0a x 520 100).2 (Q0a x 520 100).1).bind _ = _
 rw [Q3t k (Q1N h 520 100).1 (by omega)]
 rfl
theorem QdO {k : Nat} (hk : 9 ≤ k) (t0 t : T0) (n : Nat) (hn : n ≤ 4096) {x : Tk} (hx : TkOK x) (hf : n < k) :
  Qw.l1 k k ((n : Int), t0, x, t, [], ()) = some (t0, (Q1C Q2a n x []).1, t, (Q1C Q2a n x []).2, ()) := by
 refine Q4s (r := Qw.l1.r k) Q2a (fun n x l => ((n : Int), t0, x, t, l, ())) (fun x l => (t0, x, t, l, ())) 4096 4096 (fun x h => Q3w h) ?_ ?_ n x [] k hn hx (by simpa using hn) hf
 ·intro n x l hn hx hl he kn ke
  simp only [Qw.l1.r]
  have hp : Qw.p2 k (((n + 1 : Nat) : Int), t0, x, t, l, ()) = some (.inl (((n + 1 : Nat) : Int), t0, x, t, l, ())) := by
   unfold Qw.p2
   simp only [Qw.p2.r]
   rw [Qy (by omega), QX (by simpa using he)]
  show (Qw.p2 k (((n + 1 : Nat) : Int), t0, x, t, l, ())).bind _ = _
  rw [hp]
  simp only [Option.bind_some]
  have h1 := (Q1s hx (n := 32) (by omega)).1
  have h2 := Q2Q h1 (n := 4) (by omega)
  have h3 := (Q1N h2 520 100).1
  have hv := Q1K (x := (Q0x (QS x 32).1 4).1) 520 100 (by omega)
  have h4 := (Q1s h3 (n := (Q0a (Q0x (QS x 32).1 4).1 520 100).2) hv.1).1
  show (Q07 k 32 x).bind _ = _
  rw [Q3t k hx (by omega)]
  simp only [Option.bind_some]
  show (Q0V k (QS x 32).1).bind _ = _
  rw [Q5O hk h1]
  simp only [Option.bind_some]
  show (Q0z k (Q0x (QS x 32).1 4).1).bind _ = _
  rw [Q75 hk h2]
  simp only [Option.bind_some]
  show (Q0V k (QS (Q0a (Q0x (QS x 32).1 4).1 520 100).1 (Q0a (Q0x (QS x 32).1 4).1 520 100).2).1).bind _ = _
  rw [Q5O hk h4]
  simp only [Option.bind_some]
  rw [QX (Q1I (by simp only [List.length_set, List.length_replicate]; omega)), QdX (Q2L hx (n := 32) (by omega)), i64_in (n := ((n + 1 : Nat) : Int) - 1) (by omega), show ((n + 1 : Nat) : Int) - 1 = (n : Int) by omega]
  rfl
 ·intro n x l hn hx he kn ke
  simp only [Qw.l1.r]
  have hp : Qw.p2 k ((n : Int), t0, x, t, l, ()) = some (.inr (t0, x, t, l, ())) := by
   unfold Qw.p2
   simp only [Qw.p2.r]
   rcases he with he | he
   ·rw [Q0Z (by omega)]
   ·by_cases c : n = 0
    ·rw [Q0Z (by omega)]
    ·rw [Qy (by omega), Q1t (by simpa using he)]
  show (Qw.p2 k ((n : Int), t0, x, t, l, ())).bind _ = _
  rw [hp]
  rfl
theorem QcC {k : Nat} (hk : 9 ≤ k) (t0 t : T0) (ins : List TIn) (n : Nat) (hn : n ≤ 4096) {x : Tk} (hx : TkOK x) (hf : n < k) :
  Qw.l3 k k ((n : Int), t0, x, t, ins, [], ()) = some (t0, (Q1C Q25 n x []).1, t, ins, (Q1C Q25 n x []).2, ()) := by
 refine Q4s (r := Qw.l3.r k) Q25 (fun n x l => ((n : Int), t0, x, t, ins, l, ())) (fun x l => (t0, x, t, ins, l, ())) 4096 4096 (fun x h => Q34 h) ?_ ?_ n x [] k hn hx (by simpa using hn) hf
 ·intro n x l hn hx hl he kn ke
  simp only [Qw.l3.r]
  have hp : Qw.p4 k (((n + 1 : Nat) : Int), t0, x, t, ins, l, ()) = some (.inl (((n + 1 : Nat) : Int), t0, x, t, ins, l, ())) := by
   unfold Qw.p4
   simp only [Qw.p4.r]
   rw [Qy (by omega), QX (by simpa using he)]
  show (Qw.p4 k (((n + 1 : Nat) : Int), t0, x, t, ins, l, ())).bind _ = _
  rw [hp]
  simp only [Option.bind_some]
  have h1 := Q2Q hx (n := 8) (by omega)
  have hs := Q2L hx (n := 8) (by omega)
  show (Q07 k 8 x).bind _ = _
  rw [Q3t k hx (by omega)]
  simp only [Option.bind_some]
  rw [show Q0A k (QS x 8).2 = some (((QS x 8).2, 0, 0, ()), ()) from rfl]
  simp only [Option.bind_some]
  have hnf := Qak (n := 8) hs (by omega)
  rw [Qgi hk ⟨by dsimp only; omega, by dsimp only; omega, by dsimp only; omega⟩, show numS ((QS x 8).2, 0, 0, ()) 8 = leI (Qq (QS x 8).2) from hnf]
  simp only [Option.bind_some]
  show (Q0z k (Q0x x 8).1).bind _ = _
  rw [Q75 hk h1]
  simp only [Option.bind_some]
  rw [QX (Q1I (by simp only [List.length_set, List.length_replicate]; omega)), i64_in (n := ((n + 1 : Nat) : Int) - 1) (by omega), show ((n + 1 : Nat) : Int) - 1 = (n : Int) by omega]
  rfl
 ·intro n x l hn hx he kn ke
  simp only [Qw.l3.r]
  have hp : Qw.p4 k ((n : Int), t0, x, t, ins, l, ()) = some (.inr (t0, x, t, ins, l, ())) := by
   unfold Qw.p4
   simp only [Qw.p4.r]
   rcases he with he | he
   ·rw [Q0Z (by omega)]
   ·by_cases c : n = 0
    ·rw [Q0Z (by omega)]
    ·rw [Qy (by omega), Q1t (by simpa using he)]
  show (Qw.p4 k ((n : Int), t0, x, t, ins, l, ())).bind _ = _
  rw [hp]
  rfl
def Q1M (s : ByteArray) (a : Int) : TTx × Int × Int :=
 if a < 0 ∨ a > (s.size : Int) then ((0, [], [], 0, ()), 0, 1) else
 let v := Q0x (s, a, a, 0, ()) 4
 let ni := Q0a v.1 4096 5
 let is := Q1C Q2a ni.2.toNat ni.1 []
 let no := Q0a is.1 4096 5
 let os := Q1C Q25 no.2.toNat no.1 []
 let t := Q0x os.1 4
 if t.1.2.2.2.1 ≠ 0 then ((0, [], [], 0, ()), 0, t.1.2.2.2.1) else ((v.2, is.2, os.2, t.2, ()), t.1.2.2.1, 0)
theorem Qcx {k : Nat} (hk : 4100 ≤ k) {s : ByteArray} (hs : s.size ≤ 4611686018427387904) (a : Int) : Qw k s a = some ((Q1M s a).1, (Q1M s a).2.1, (Q1M s a).2.2, ()) := by
 unfold Qw Qw.c
 have hp0 : Qw.p0 k (s, a, (0, (), (), 0, ()), ()) = some (if a < 0 ∨ a > (s.size : Int) then .inl (0, 1, (0, (), (), 0, ()), ()) else .inr (s, a, (0, (), (), 0, ()), ())) := by
  unfold Qw.p0
  simp only [Qw.p0.r]
  by_cases h1 : a < 0
  ·rw [Qy h1, if_pos (.inl h1)]
  ·rw [Q0Z h1]
   by_cases h2 : a > (s.size : Int)
   ·rw [Qy h2, if_pos (.inr h2)]
   ·rw [Q0Z h2, if_neg (by omega)]
 rw [hp0]
 simp only [Option.bind_some]
 unfold Q1M
 by_cases h : a < 0 ∨ a > (s.size : Int)
 ·rw [if_pos h, if_pos h]
 ·rw [if_neg h, if_neg h]
  dsimp only
  have hx : TkOK (s, a, a, 0, ()) := ⟨hs, by dsimp only; omega, by dsimp only; omega, by dsimp only; omega⟩
  have h1 := Q2Q hx (n := 4) (by omega)
  rw [Q5O (by omega) hx]
  simp only [Option.bind_some]
  show (QA k 4096 5 (Q0x (s, a, a, 0, ()) 4).1).bind _ = _
  rw [Q5z (by omega) h1 (by omega)]
  simp only [Option.bind_some]
  have h2 := (Q1N h1 4096 5).1
  have hv2 := Q1K (x := (Q0x (s, a, a, 0, ()) 4).1) 4096 5 (by omega)
  obtain ⟨n, hn⟩ := Int.eq_ofNat_of_zero_le hv2.1
  have l1 := QdO (k := k) (by omega) (0, (), (), 0, ()) ((Q0x (s, a, a, 0, ()) 4).2, (), (), 0, ()) n (by omega) h2 (by omega)
  rw [← hn] at l1
  show (Qw.l1 k k ((Q0a (Q0x (s, a, a, 0, ()) 4).1 4096 5).2, (0, (), (), 0, ()), (Q0a (Q0x (s, a, a, 0, ()) 4).1 4096 5).1, ((Q0x (s, a, a, 0, ()) 4).2, (), (), 0, ()), [], ())).bind _ = _
  rw [show (Q0a (Q0x (s, a, a, 0, ()) 4).1 4096 5).2.toNat = n by omega, l1]
  simp only [Option.bind_some]
  have h3 := Q35 (fun x h => Q3w h) n [] h2
  generalize Q1C Q2a n (Q0a (Q0x (s, a, a, 0, ()) 4).1 4096 5).1 [] = is at *
  show (QA k 4096 5 is.1).bind _ = _
  rw [Q5z (by omega) h3 (by omega)]
  simp only [Option.bind_some]
  have h4 := (Q1N h3 4096 5).1
  have hv4 := Q1K (x := is.1) 4096 5 (by omega)
  obtain ⟨n2, hn2⟩ := Int.eq_ofNat_of_zero_le hv4.1
  have l3 := QcC (k := k) (by omega) (0, (), (), 0, ()) ((Q0x (s, a, a, 0, ()) 4).2, (), (), 0, ()) is.2 n2 (by omega) h4 (by omega)
  rw [← hn2] at l3
  show (Qw.l3 k k ((Q0a is.1 4096 5).2, (0, (), (), 0, ()), (Q0a is.1 4096 5).1, ((Q0x (s, a, a, 0, ()) 4).2, (), (), 0, ()), is.2, [], ())).bind _ = _
  rw [show (Q0a is.1 4096 5).2.toNat = n2 by omega, l3]
  simp only [Option.bind_some]
  have h5 := Q35 (fun x h => Q34 h) n2 [] h4
  generalize Q1C Q25 n2 (Q0a is.1 4096 5).1 [] = os at *
  show (Q0V k os.1).bind _ = _
  rw [Q5O (by omega) h5]
  simp only [Option.bind_some]
  by_cases c : (Q0x os.1 4).1.2.2.2.1 ≠ 0
  ·rw [QX (by simpa using c), if_pos c]
  ·rw [Q1t (by simpa using c), if_neg c]
theorem Qck (k : Nat) (hk : 40 ≤ k) (N i : Int) {b : ByteArray} (h : b.size = 0 ∨ b.size = 32) (t0 t : T0) (r : Tk) (l : List RIn) :
  Q0.l3 k k (N, i, b, (0 : Int), t0, r, t, l, (List.replicate 32 (0 : Int), 0, eb, 0, ()), ()) = some (N, i, t0, r, t, l, (Q41 b, 0, eb, 0, ()), ()) := by
 have hz := Q0b b
 have := Q1w (r := Q0.l3.r k) (fun j => (N, i, b, (j : Int), t0, r, t, l, ((List.range j).map (fun j => (Qq b).getD j 0) ++ (List.replicate 32 (0 : Int)).drop j, (0 : Int), eb, (0 : Int), ()), ())) b.size (N, i, t0, r, t, l, (Q41 b, 0, eb, 0, ()), ()) ?_ ?_ (fuel := k) (by omega)
 ·exact this
 ·intro j hj kn ke
  simp only [Q0.l3.r]
  rw [Qy (by omega), Qy (by omega), Qy (by omega), i64_in (by omega), Q39, show (j : Int).toNat = j by omega, Q5X (f := fun j => (Qq b).getD j 0) (by simp; omega)]
  rfl
 ·intro kn ke
  simp only [Q0.l3.r]
  rw [Q0Z (by omega)]
  have e : (List.range b.size).map (fun j => (Qq b).getD j 0) ++ (List.replicate 32 (0 : Int)).drop b.size = Q41 b := by
   unfold Q41
   rcases h with h | h
   ·rw [h, if_neg (by omega)]; rfl
   ·rw [h, if_pos rfl]
    rw [Q6V (by simp)]
    apply List.ext_getElem
    ·simp; omega
    ·intro j h1 h2
     simp only [List.length_map, List.length_range] at h1
     simp only [List.getElem_map, List.getElem_range, List.getD_eq_getElem?_getD]
     rw [List.getElem?_eq_getElem (by omega)]
     rfl
  rw [e]
theorem Q8v {x : Tk} (h : TkOK x) : IntKind.u32.wrap (Q0x x 4).2 = (Q0x x 4).2 := by
 have := Q3r h (n := 4)
 have e : (256 : Int) ^ 4 = 4294967296 := by decide
 exact Q3g (by have h1 := this.1; have h2 := this.2; rw [e] at h2; exact ⟨h1, by have : (Q0x x ((4 : Nat) : Int)).2 = (Q0x x 4).2 := rfl; omega⟩)
theorem Qax {k : Nat} (hk : 40 ≤ k) (t0 t : T0) (N : Nat) (hn : N ≤ 4096) {x : Tk} (hx : TkOK x) (hf : N < k) :
  Q0.l1 k k ((N : Int), (0 : Int), t0, x, t, [], ()) = some (t0, (Q1C Q2a N x []).1, t, (Q1C Q2a N x []).2.map gIn, ()) := by
 have hmap := Q9j Q2a gIn N x []
 rw [List.map_nil] at hmap
 have := Q4s (r := Q0.l1.r k) (fun x => ((Q2a x).1, gIn (Q2a x).2)) (fun n x l => ((N : Int), ((N - n : Nat) : Int), t0, x, t, l, ())) (fun x l => (t0, x, t, l, ())) N 4096 (fun x h => Q3w h) ?_ ?_ N x [] k (Nat.le_refl _) hx (by simpa using hn) hf
 ·rw [hmap] at this
  rw [Nat.sub_self] at this
  exact this
 ·intro n x l hn hx hl he kn ke
  simp only [Q0.l1.r]
  have hp : Q0.p2 k ((N : Int), ((N - (n + 1) : Nat) : Int), t0, x, t, l, ()) = some (.inl ((N : Int), ((N - (n + 1) : Nat) : Int), t0, x, t, l, ())) := by
   unfold Q0.p2
   simp only [Q0.p2.r]
   rw [Qy (by omega), QX (by simpa using he)]
  show (Q0.p2 k ((N : Int), ((N - (n + 1) : Nat) : Int), t0, x, t, l, ())).bind _ = _
  rw [hp]
  simp only [Option.bind_some]
  have h1 := (Q1s hx (n := 32) (by omega)).1
  have h2 := Q2Q h1 (n := 4) (by omega)
  have h3 := (Q1N h2 520 100).1
  have hv := Q1K (x := (Q0x (QS x 32).1 4).1) 520 100 (by omega)
  have h4 := (Q1s h3 (n := (Q0a (Q0x (QS x 32).1 4).1 520 100).2) hv.1).1
  show (QW k x 32).bind _ = _
  rw [Q3z k hx (by omega)]
  simp only [Option.bind_some]
  show (Q0.l3 k k ((N : Int), ((N - (n + 1) : Nat) : Int), (QS x 32).2, (0 : Int), t0, (QS x 32).1, t, l, (List.replicate 32 (0 : Int), 0, eb, 0, ()), ())).bind _ = _
  rw [Qck k hk _ _ (Q2L hx (n := 32) (by omega)) t0 t _ l]
  simp only [Option.bind_some]
  show (Qh k (QS x 32).1 ((4 : Nat) : Int)).bind _ = _
  rw [Q2m (by omega) h1 (by omega)]
  simp only [Option.bind_some]
  show (Q6 k (Q0x (QS x 32).1 4).1 520 100).bind _ = _
  rw [Q3H (by omega) h2 (by omega)]
  simp only [Option.bind_some]
  show (QW k (Q0a (Q0x (QS x 32).1 4).1 520 100).1 (Q0a (Q0x (QS x 32).1 4).1 520 100).2).bind _ = _
  rw [Q3z k h3 (by omega)]
  simp only [Option.bind_some]
  show (Qh k (QS (Q0a (Q0x (QS x 32).1 4).1 520 100).1 (Q0a (Q0x (QS x 32).1 4).1 520 100).2).1 ((4 : Nat) : Int)).bind _ = _
  rw [Q2m (by omega) h4 (by omega)]
  simp only [Option.bind_some]
  rw [QX (Q1I (by simp only [List.length_set, List.length_replicate]; omega)), i64_in (n := ((N - (n + 1) : Nat) : Int) + 1) (by omega), show ((N - (n + 1) : Nat) : Int) + 1 = ((N - n : Nat) : Int) by omega]
  have w1 := Q8v h1
  have w2 := Q8v h4
  show kn _ = kn _
  congr 1
  have e : (List.set (List.replicate 1 (List.replicate 32 (0 : Int), (0 : Int), ByteArray.empty, (0 : Int), ())) 0 (Q41 (QS x 32).2, IntKind.u32.wrap (Q0x (QS x 32).1 4).2, (QS (Q0a (Q0x (QS x 32).1 4).1 520 100).1 (Q0a (Q0x (QS x 32).1 4).1 520 100).2).2,
    IntKind.u32.wrap (Q0x (QS (Q0a (Q0x (QS x 32).1 4).1 520 100).1 (Q0a (Q0x (QS x 32).1 4).1 520 100).2).1 4).2, ())) = [gIn (Q2a x).2] := by
   rw [w1, w2]
   rfl
  show ((N : Int), ((N - n : Nat) : Int), t0, _, t, l ++ _, ()) = ((N : Int), ((N - n : Nat) : Int), t0, _, t, l ++ _, ())
  rw [← e]
  rfl
 ·intro n x l hn hx he kn ke
  simp only [Q0.l1.r]
  have hp : Q0.p2 k ((N : Int), ((N - n : Nat) : Int), t0, x, t, l, ()) = some (.inr (t0, x, t, l, ())) := by
   unfold Q0.p2
   simp only [Q0.p2.r]
   rcases he with he | he
   ·rw [Q0Z (by omega)]
   ·by_cases c : n = 0
    ·rw [Q0Z (by omega)]
    ·rw [Qy (by omega), Q1t (by simpa using he)]
  show (Q0.p2 k ((N : Int), ((N - n : Nat) : Int), t0, x, t, l, ())).bind _ = _
  rw [hp]
  rfl
theorem Q9M {k : Nat} (hk : 40 ≤ k) (t0 t : T0) (ins : List RIn) (N : Nat) (hn : N ≤ 4096) {x : Tk} (hx : TkOK x) (hf : N < k) :
  Q0.l4 k k ((N : Int), (0 : Int), t0, x, t, ins, [], ()) = some (t0, (Q1C Q25 N x []).1, t, ins, (Q1C Q25 N x []).2, ()) := by
 have := Q4s (r := Q0.l4.r k) Q25 (fun n x l => ((N : Int), ((N - n : Nat) : Int), t0, x, t, ins, l, ())) (fun x l => (t0, x, t, ins, l, ())) N 4096 (fun x h => Q34 h) ?_ ?_ N x [] k (Nat.le_refl _) hx (by simpa using hn) hf
 ·rw [Nat.sub_self] at this
  exact this
 ·intro n x l hn hx hl he kn ke
  simp only [Q0.l4.r]
  have hp : Q0.p5 k ((N : Int), ((N - (n + 1) : Nat) : Int), t0, x, t, ins, l, ()) = some (.inl ((N : Int), ((N - (n + 1) : Nat) : Int), t0, x, t, ins, l, ())) := by
   unfold Q0.p5
   simp only [Q0.p5.r]
   rw [Qy (by omega), QX (by simpa using he)]
  show (Q0.p5 k ((N : Int), ((N - (n + 1) : Nat) : Int), t0, x, t, ins, l, ())).bind _ = _
  rw [hp]
  simp only [Option.bind_some]
  have h1 := Q2Q hx (n := 8) (by omega)
  have h3 := (Q1N h1 520 100).1
  have hv := Q1K (x := (Q0x x 8).1) 520 100 (by omega)
  show (Qh k x ((8 : Nat) : Int)).bind _ = _
  rw [Q2m (by omega) hx (by omega)]
  simp only [Option.bind_some]
  show (Q6 k (Q0x x 8).1 520 100).bind _ = _
  rw [Q3H (by omega) h1 (by omega)]
  simp only [Option.bind_some]
  show (QW k (Q0a (Q0x x 8).1 520 100).1 (Q0a (Q0x x 8).1 520 100).2).bind _ = _
  rw [Q3z k h3 (by omega)]
  simp only [Option.bind_some]
  rw [QX (Q1I (by simp only [List.length_set, List.length_replicate]; omega)), i64_in (n := ((N - (n + 1) : Nat) : Int) + 1) (by omega), show ((N - (n + 1) : Nat) : Int) + 1 = ((N - n : Nat) : Int) by omega]
  rfl
 ·intro n x l hn hx he kn ke
  simp only [Q0.l4.r]
  have hp : Q0.p5 k ((N : Int), ((N - n : Nat) : Int), t0, x, t, ins, l, ()) = some (.inr (t0, x, t, ins, l, ())) := by
   unfold Q0.p5
   simp only [Q0.p5.r]
   rcases he with he | he
   ·rw [Q0Z (by omega)]
   ·by_cases c : n = 0
    ·rw [Q0Z (by omega)]
    ·rw [Qy (by omega), Q1t (by simpa using he)]
  show (Q0.p5 k ((N : Int), ((N - n : Nat) : Int), t0, x, t, ins, l, ())).bind _ = _
  rw [hp]
  rfl
theorem Q9T {k : Nat} (hk : 4100 ≤ k) {s : ByteArray} (hs : s.size ≤ 4611686018427387904) (a : Int) : Q0 k s a = some (gTx (Q1M s a).1, (Q1M s a).2.1, (Q1M s a).2.2, ()) := by
 unfold Q0 Q0.c
 have hp0 : Q0.p0 k (s, a, (0, (), (), 0, ()), ()) = some (if a < 0 ∨ a > (s.size : Int) then .inl (0, 1, (0, (), (), 0, ()), ()) else .inr (s, a, (0, (), (), 0, ()), ())) := by
  unfold Q0.p0
  simp only [Q0.p0.r]
  by_cases h1 : a < 0
  ·rw [Qy h1, if_pos (.inl h1)]
  ·rw [Q0Z h1]
   by_cases h2 : a > (s.size : Int)
   ·rw [Qy h2, if_pos (.inr h2)]
   ·rw [Q0Z h2, if_neg (by omega)]
 rw [hp0]
 simp only [Option.bind_some]
 unfold Q1M
 by_cases h : a < 0 ∨ a > (s.size : Int)
 ·rw [if_pos h, if_pos h]
  rfl
 ·rw [if_neg h, if_neg h]
  dsimp only
  have hx : TkOK (s, a, a, 0, ()) := ⟨hs, by dsimp only; omega, by dsimp only; omega, by dsimp only; omega⟩
  have h1 := Q2Q hx (n := 4) (by omega)
  show (Qh k (s, a, a, 0, ()) ((4 : Nat) : Int)).bind _ = _
  rw [Q2m (by omega) hx (by omega)]
  simp only [Option.bind_some]
  show (Q6 k (Q0x (s, a, a, 0, ()) 4).1 4096 5).bind _ = _
  rw [Q3H (by omega) h1 (by omega)]
  simp only [Option.bind_some]
  have h2 := (Q1N h1 4096 5).1
  have hv2 := Q1K (x := (Q0x (s, a, a, 0, ()) 4).1) 4096 5 (by omega)
  obtain ⟨n, hn⟩ := Int.eq_ofNat_of_zero_le hv2.1
  have l1 := Qax (k := k) (by omega) (0, (), (), 0, ()) ((Q0x (s, a, a, 0, ()) 4).2, (), (), 0, ()) n (by omega) h2 (by omega)
  rw [← hn] at l1
  have hw := Q8v hx
  show (Q0.l1 k k ((Q0a (Q0x (s, a, a, 0, ()) 4).1 4096 5).2, (0 : Int), (0, (), (), 0, ()), (Q0a (Q0x (s, a, a, 0, ()) 4).1 4096 5).1, (IntKind.u32.wrap (Q0x (s, a, a, 0, ()) 4).2, (), (), 0, ()), [], ())).bind _ = _
  rw [hw, show (Q0a (Q0x (s, a, a, 0, ()) 4).1 4096 5).2.toNat = n by omega, l1]
  simp only [Option.bind_some]
  have h3 := Q35 (fun x h => Q3w h) n [] h2
  generalize Q1C Q2a n (Q0a (Q0x (s, a, a, 0, ()) 4).1 4096 5).1 [] = is at *
  show (Q6 k is.1 4096 5).bind _ = _
  rw [Q3H (by omega) h3 (by omega)]
  simp only [Option.bind_some]
  have h4 := (Q1N h3 4096 5).1
  have hv4 := Q1K (x := is.1) 4096 5 (by omega)
  obtain ⟨n2, hn2⟩ := Int.eq_ofNat_of_zero_le hv4.1
  have l3 := Q9M (k := k) (by omega) (0, (), (), 0, ()) ((Q0x (s, a, a, 0, ()) 4).2, (), (), 0, ()) (is.2.map gIn) n2 (by omega) h4 (by omega)
  rw [← hn2] at l3
  show (Q0.l4 k k ((Q0a is.1 4096 5).2, (0 : Int), (0, (), (), 0, ()), (Q0a is.1 4096 5).1, ((Q0x (s, a, a, 0, ()) 4).2, (), (), 0, ()), is.2.map gIn, [], ())).bind _ = _
  rw [show (Q0a is.1 4096 5).2.toNat = n2 by omega, l3]
  simp only [Option.bind_some]
  have h5 := Q35 (fun x h => Q34 h) n2 [] h4
  generalize Q1C Q25 n2 (Q0a is.1 4096 5).1 [] = os at *
  show (Qh k os.1 ((4 : Nat) : Int)).bind _ = _
  rw [Q2m (by omega) h5 (by omega)]
  simp only [Option.bind_some]
  by_cases c : (Q0x os.1 4).1.2.2.2.1 ≠ 0
  ·rw [QX (show ((Q0x os.1 ((4 : Nat) : Int)).1.2.2.2.1 != 0) = true by simpa using c), if_pos c]
   rfl
  ·rw [Q1t (show ((Q0x os.1 ((4 : Nat) : Int)).1.2.2.2.1 != 0) = false by simpa using c), if_neg c]
   have hw2 := Q8v h5
   show some ((_, _, _, IntKind.u32.wrap (Q0x os.1 4).2, ()), _, _, ()) = _
   rw [hw2]
   rfl
theorem QgG (x y : RIn) : (decide (x.1 = y.1) && ((x.2.1 == y.2.1) && (Q2Y x.2.2.1 y.2.2.1 && ((x.2.2.2.1 == y.2.2.2.1) && true)))) = decide (x = y) := by
 obtain ⟨a, b, c, d, u⟩ := x
 obtain ⟨a', b', c', d', u'⟩ := y
 rw [Bool.eq_iff_iff]
 simp only [Q5R, Bool.and_eq_true, decide_eq_true_eq, beq_iff_eq, Bool.and_true, Prod.mk.injEq]
 simp
theorem Qdq (x y : TOut) : ((x.1 == y.1) && (Q2Y x.2.1 y.2.1 && true)) = decide (x = y) := by
 obtain ⟨a, b, u⟩ := x
 obtain ⟨a', b', u'⟩ := y
 rw [Bool.eq_iff_iff]
 simp only [Q5R, Bool.and_eq_true, decide_eq_true_eq, beq_iff_eq, Bool.and_true, Prod.mk.injEq]
 simp
theorem Qg8 (s : ByteArray) (a : Int) : (Q1M s a).1.2.1.length ≤ 4096 ∧ (Q1M s a).1.2.2.1.length ≤ 4096 := by
 unfold Q1M
 split
 ·exact ⟨Nat.zero_le _, Nat.zero_le _⟩
 ·dsimp only
  split
  ·exact ⟨Nat.zero_le _, Nat.zero_le _⟩
  ·have h1 := Q4G (f := Q2a) (Q0a (Q0x (s, a, a, 0, ()) 4).1 4096 5).2.toNat (Q0a (Q0x (s, a, a, 0, ()) 4).1 4096 5).1 []
   have h2 := Q1K (x := (Q0x (s, a, a, 0, ()) 4).1) 4096 5 (by omega)
   rw [List.length_nil] at h1
   refine ⟨by dsimp only; omega, ?_⟩
   dsimp only
   generalize Q1C Q2a (Q0a (Q0x (s, a, a, 0, ()) 4).1 4096 5).2.toNat (Q0a (Q0x (s, a, a, 0, ()) 4).1 4096 5).1 [] = is
   have h3 := Q4G (f := Q25) (Q0a is.1 4096 5).2.toNat (Q0a is.1 4096 5).1 []
   have h4 := Q1K (x := is.1) 4096 5 (by omega)
   rw [List.length_nil] at h3
   omega
theorem Qgs {s : ByteArray} (hs : s.size ≤ 4611686018427387904) {a : Int} : (Q1M s a).2.1 ≤ (s.size : Int) := by
 unfold Q1M
 split
 ·exact Int.natCast_nonneg _
 ·rename_i h
  dsimp only
  split
  ·exact Int.natCast_nonneg _
  ·have hx : TkOK (s, a, a, 0, ()) := ⟨hs, by dsimp only; omega, by dsimp only; omega, by dsimp only; omega⟩
   have h1 := Q2Q hx (n := 4) (by omega)
   have h2 := (Q1N h1 4096 5)
   have h3 := Q35 (fun x h => Q3w h) (Q0a (Q0x (s, a, a, 0, ()) 4).1 4096 5).2.toNat [] h2.1
   have e : ∀ (n : Nat) (x : Tk) (l : List TIn), TkOK x → (Q1C Q2a n x l).1.1 = x.1 := by
    intro n
    induction n with
    | zero => intro x l _; rfl
    | succ n ih =>
     intro x l hx
     unfold Q1C
     split
     ·rfl
     ·rw [ih _ _ (Q3w hx)]
      unfold Q2a
      dsimp only
      have g1 := Q1s hx (n := 32) (by omega)
      have g2 := Q1s g1.1 (n := 4) (by omega)
      have g3 := Q1N (x := (Q0x (QS x 32).1 4).1) g2.1 520 100
      have g4 := Q1s g3.1 (n := (Q0a (Q0x (QS x 32).1 4).1 520 100).2) (Q1K 520 100 (by omega)).1
      have g5 := Q1s g4.1 (n := 4) (by omega)
      exact g5.2.1.trans (g4.2.1.trans (g3.2.1.trans (g2.2.1.trans g1.2.1)))
   have e2 : ∀ (n : Nat) (x : Tk) (l : List TOut), TkOK x → (Q1C Q25 n x l).1.1 = x.1 := by
    intro n
    induction n with
    | zero => intro x l _; rfl
    | succ n ih =>
     intro x l hx
     unfold Q1C
     split
     ·rfl
     ·rw [ih _ _ (Q34 hx)]
      unfold Q25
      dsimp only
      have g2 := Q1s hx (n := 8) (by omega)
      have g3 := Q1N (x := (Q0x x 8).1) g2.1 520 100
      have g4 := Q1s g3.1 (n := (Q0a (Q0x x 8).1 520 100).2) (Q1K 520 100 (by omega)).1
      exact g4.2.1.trans (g3.2.1.trans g2.2.1)
   have f1 := e (Q0a (Q0x (s, a, a, 0, ()) 4).1 4096 5).2.toNat (Q0a (Q0x (s, a, a, 0, ()) 4).1 4096 5).1 [] h2.1
   generalize Q1C Q2a (Q0a (Q0x (s, a, a, 0, ()) 4).1 4096 5).2.toNat (Q0a (Q0x (s, a, a, 0, ()) 4).1 4096 5).1 [] = is at *
   have h4 := Q1N h3 4096 5
   have h5 := Q35 (fun x h => Q34 h) (Q0a is.1 4096 5).2.toNat [] h4.1
   have f2 := e2 (Q0a is.1 4096 5).2.toNat (Q0a is.1 4096 5).1 [] h4.1
   generalize Q1C Q25 (Q0a is.1 4096 5).2.toNat (Q0a is.1 4096 5).1 [] = os at *
   have h6 := Q1s h5 (n := 4) (by omega)
   have e0 : (Q0x os.1 4).1.1 = s := by
    have a1 : (Q0x os.1 4).1.1 = os.1.1 := h6.2.1
    have a2 : (Q0x (s, a, a, 0, ()) 4).1.1 = s := (Q1s hx (n := 4) (by omega)).2.1
    rw [a1, f2, h4.2.1, f1, h2.2.1, a2]
   have := h6.1.2.2.2
   rw [show (QS os.1 4).1.1 = s from e0] at this
   exact this
structure RdA (x : Tk) (A R : List Int) : Prop where
 ok : TkOK x
 err : x.2.2.2.1 = 0
 left : tkL x = A ++ R
 room : (x.2.2.1 - x.2.1) + A.length ≤ 4096
theorem RdA.at_ {x : Tk} {A R : List Int} (h : RdA x A R) : x.2.2.1 = (x.1.size : Int) - A.length - R.length := by
 have h1 := Q3l h.ok
 rw [h.left, List.length_append] at h1
 omega
theorem Q6S {x : Tk} (h : TkOK x) {n : Nat} (he : (QS x (n : Int)).1.2.2.2.1 = 0) : tkL (QS x (n : Int)).1 = (tkL x).drop n ∧ Qq (QS x (n : Int)).2 = (tkL x).take n := by
 obtain ⟨z0, z1, z2, z3, z4⟩ := Q2J h (n := (n : Int)) (by omega) he
 obtain ⟨h1, h2, h3, h4⟩ := h
 constructor
 ·rw [z1]
  show List.drop (x.2.2.1 + (n : Int)).toNat (Qq x.1) = _
  rw [List.drop_drop, show (x.2.2.1 + (n : Int)).toNat = x.2.2.1.toNat + n by omega]
 ·rw [z4]
  rfl
theorem Q7i {x : Tk} {A1 A2 R : List Int} {n : Nat} (h : RdA x (A1 ++ A2) R) (hn : A1.length = n) : RdA (QS x (n : Int)).1 A2 R ∧ (QS x (n : Int)).1.1 = x.1 ∧ Qq (QS x (n : Int)).2 = A1 := by
 obtain ⟨ok, err, left, room⟩ := h
 have hl := Q3l ok
 rw [left] at hl
 simp only [List.length_append] at hl room
 have he : (QS x (n : Int)).1 = (x.1, x.2.1, x.2.2.1 + (n : Int), x.2.2.2.1, ()) := by
  unfold QS
  rw [if_neg (by simpa using err), if_neg (by omega), if_neg (by omega)]
 have he0 : (QS x (n : Int)).1.2.2.2.1 = 0 := by rw [he]; exact err
 obtain ⟨s1, s2⟩ := Q6S ok he0
 have k := Q1s ok (n := (n : Int)) (by omega)
 refine ⟨⟨k.1, he0, ?_, ?_⟩, k.2.1, ?_⟩
 ·rw [s1, left, List.append_assoc, ← hn, List.drop_left]
 ·rw [he]
  dsimp only
  omega
 ·rw [s2, left, List.append_assoc, ← hn, List.take_left]
theorem Q9o {x : Tk} {A2 R : List Int} {v : Int} {n : Nat} (h : RdA x (lowI v n ++ A2) R) (hv : 0 ≤ v ∧ v < 256 ^ n) : RdA (Q0x x (n : Int)).1 A2 R ∧ (Q0x x (n : Int)).1.1 = x.1 ∧ (Q0x x (n : Int)).2 = v := by
 obtain ⟨h1, h2, h3⟩ := Q7i h (Q0k v n)
 refine ⟨h1, h2, ?_⟩
 unfold Q0x
 dsimp only
 rw [h3, Q5A, Int.emod_eq_of_lt hv.1 hv.2]
theorem Q7c (v : Int) (hv : 0 ≤ v ∧ v ≤ 18446744073709551615) : ∃ b l, Q1q v = b :: l ∧ l.length = cm b ∧ (if cm b = 0 then b else leI l) = v ∧ Q1J v = 1 + (cm b : Int) := by
 unfold Q1q Q1J
 by_cases h1 : v < 253
 ·rw [if_pos h1, if_pos h1]
  refine ⟨v, [], ?_, ?_⟩
  ·simp only [lowI]
   rw [show v % 256 = v by omega]
  ·have : cm v = 0 := by unfold cm; rw [if_neg (by omega), if_neg (by omega), if_neg (by omega)]
   rw [this]
   exact ⟨rfl, by simp, by simp⟩
 ·rw [if_neg h1, if_neg h1]
  by_cases h2 : v < 65536
  ·rw [if_pos h2, if_pos h2]
   refine ⟨253, lowI v 2, rfl, Q0k v 2, ?_, by unfold cm; simp⟩
   rw [if_neg (by unfold cm; simp), Q5A, Int.emod_eq_of_lt hv.1 (by omega)]
  ·rw [if_neg h2, if_neg h2]
   by_cases h3 : v < 4294967296
   ·rw [if_pos h3, if_pos h3]
    refine ⟨254, lowI v 4, rfl, Q0k v 4, ?_, by unfold cm; simp⟩
    rw [if_neg (by unfold cm; simp), Q5A, Int.emod_eq_of_lt hv.1 (by omega)]
   ·rw [if_neg h3, if_neg h3]
    refine ⟨255, lowI v 8, rfl, Q0k v 8, ?_, by unfold cm; simp⟩
    rw [if_neg (by unfold cm; simp), Q5A, Int.emod_eq_of_lt hv.1 (by omega)]
theorem Q8y {x : Tk} {A2 R : List Int} {v most e : Int} (h : RdA x (Q1q v ++ A2) R) (hv : 0 ≤ v ∧ v ≤ most) (hm : most ≤ 4096) : RdA (Q0a x most e).1 A2 R ∧ (Q0a x most e).1.1 = x.1 ∧ (Q0a x most e).2 = v := by
 obtain ⟨b, l, hb, hl, hval, hlong⟩ := Q7c v (by omega)
 have hL : tkL x = b :: (l ++ A2 ++ R) := by rw [h.left, hb]; simp
 have hh : (tkL x).headD 0 = b := by rw [hL]; rfl
 have hlen : (Q1q v).length = 1 + cm b := by rw [hb, List.length_cons, hl]; omega
 obtain ⟨h1, h2, h3⟩ := Q7i (n := 1 + cm b) h hlen
 have hV : tkV x = v := by
  unfold tkV
  rw [hh, ← hval]
  by_cases c : cm b = 0
  ·rw [if_pos c, if_pos c]
  ·rw [if_neg c, if_neg c]
   congr 1
   rw [hL, List.drop_succ_cons, List.drop_zero, List.append_assoc, ← hl, List.take_left]
 have e1 : Q0a x most e = ((QS x ((1 + cm b : Nat) : Int)).1, v) := by
  unfold Q0a
  rw [if_neg (by simpa using h.err)]
  dsimp only
  rw [hh, show 1 + (cm b : Int) = ((1 + cm b : Nat) : Int) by omega, if_neg (by simpa using h1.err), hV, if_neg (by rw [hlong]; simp), if_neg (by omega)]
 rw [e1]
 exact ⟨h1, h2, rfl⟩
theorem QeW {x : Tk} {A2 R : List Int} {s : ByteArray} (h : RdA x (Q3A s ++ A2) R) (hs : s.size ≤ 520) :
  RdA (QS (Q0a x 520 100).1 (Q0a x 520 100).2).1 A2 R ∧ (QS (Q0a x 520 100).1 (Q0a x 520 100).2).1.1 = x.1 ∧ (QS (Q0a x 520 100).1 (Q0a x 520 100).2).2 = s := by
 unfold Q3A at h
 rw [List.append_assoc] at h
 obtain ⟨h1, h2, h3⟩ := Q8y (most := 520) (e := 100) h ⟨by omega, by omega⟩ (by omega)
 rw [h3]
 obtain ⟨h4, h5, h6⟩ := Q7i (n := s.size) h1 (Q0b s)
 exact ⟨h4, h5.trans h2, Q5m h6⟩
theorem Qgv {x : Tk} {A2 R : List Int} {i : TIn} (h : RdA x (Q1S i ++ A2) R) (hi : InOK i) (hs : i.2.1.size ≤ 520) : RdA (Q2a x).1 A2 R ∧ (Q2a x).1.1 = x.1 ∧ (Q2a x).2 = i := by
 obtain ⟨⟨hash, idx, u⟩, key, sq, u'⟩ := i
 obtain ⟨⟨q1, q2⟩, q3, q4⟩ := hi
 dsimp only at q1 q2 q3 q4 hs
 have e256 : (256 : Int) ^ 4 = 4294967296 := by decide
 unfold Q1S at h
 dsimp only at h
 rw [List.take_of_length_le (by omega)] at h
 simp only [List.append_assoc] at h
 obtain ⟨a1, a2, a3⟩ := Q7i (n := 32) h q1
 obtain ⟨b1, b2, b3⟩ := Q9o (n := 4) a1 ⟨q3.1, by rw [e256]; have := q3.2; omega⟩
 obtain ⟨c1, c2, c3⟩ := QeW b1 hs
 obtain ⟨d1, d2, d3⟩ := Q9o (n := 4) c1 ⟨q4.1, by rw [e256]; have := q4.2; omega⟩
 refine ⟨d1, d2.trans (c2.trans (b2.trans a2)), ?_⟩
 have hz : (QS x ((32 : Nat) : Int)).2.size = 32 := by rw [← Q0b, a3]; exact q1
 have hh : Q41 (QS x 32).2 = hash := by
  unfold Q41
  rw [if_pos (show (QS x 32).2.size = 32 from hz)]
  exact a3
 unfold Q2a
 dsimp only
 rw [hh]
 exact Prod.ext (Prod.ext rfl (Prod.ext b3 rfl)) (Prod.ext c3 (Prod.ext d3 rfl))
theorem Qgm {x : Tk} {A2 R : List Int} {i : TOut} (h : RdA x (Q1H i ++ A2) R) (hi : Qaf i) (hs : i.2.1.size ≤ 520) : RdA (Q25 x).1 A2 R ∧ (Q25 x).1.1 = x.1 ∧ (Q25 x).2 = i := by
 obtain ⟨v, s, u⟩ := i
 obtain ⟨q1, q2⟩ := hi
 dsimp only at q1 q2 hs
 have e256 : (256 : Int) ^ 8 = 18446744073709551616 := by decide
 unfold Q1H at h
 dsimp only at h
 simp only [List.append_assoc] at h
 obtain ⟨b1, b2, b3⟩ := Q9o (n := 8) h ⟨q1, by rw [e256]; omega⟩
 obtain ⟨c1, c2, c3⟩ := QeW b1 hs
 refine ⟨c1, c2.trans b2, ?_⟩
 unfold Q25
 dsimp only
 exact Prod.ext b3 (Prod.ext c3 rfl)
theorem Q8O {α : Type} {f : Tk → Tk × α} {enc : α → List Int} {p : α → Prop} (hf : ∀ {x : Tk} {A2 R : List Int} {i : α}, RdA x (enc i ++ A2) R → p i → RdA (f x).1 A2 R ∧ (f x).1.1 = x.1 ∧ (f x).2 = i) :
  ∀ (l2 l1 : List α) {x : Tk} {A2 R : List Int}, RdA x ((l2.map enc).flatten ++ A2) R → (∀ i ∈ l2, p i) → RdA (Q1C f l2.length x l1).1 A2 R ∧ (Q1C f l2.length x l1).1.1 = x.1 ∧ (Q1C f l2.length x l1).2 = l1 ++ l2
 | [], l1, x, A2, R, h, _ => ⟨h, rfl, by simp [Q1C]⟩
 | i :: l2, l1, x, A2, R, h, hp => by
  simp only [List.map_cons, List.flatten_cons, List.append_assoc] at h
  obtain ⟨h1, h2, h3⟩ := hf h (hp i (by simp))
  obtain ⟨g1, g2, g3⟩ := Q8O hf l2 (l1 ++ [i]) h1 fun j hj => hp j (by simp [hj])
  have e : Q1C f (i :: l2).length x l1 = Q1C f l2.length (f x).1 (l1 ++ [i]) := by
   show Q1C f (l2.length + 1) x l1 = _
   conv => lhs; unfold Q1C
   rw [if_neg (by simpa using h.err), h3]
  rw [e]
  exact ⟨g1, g2.trans h2, by rw [g3, List.append_assoc]; rfl⟩
theorem QbR {α : Type} {p : α → Prop} {l : List α} {d : α} (h : ∀ i, i < l.length → p (l.getD i d)) : ∀ x ∈ l, p x := by
 intro x hx
 obtain ⟨i, hi, rfl⟩ := List.getElem_of_mem hx
 have := h i hi
 rwa [List.getD_eq_getElem?_getD, List.getElem?_eq_getElem hi] at this
theorem Q6P {α : Type} {p : α → Prop} {l : List α} {d : α} (h : ∀ x ∈ l, p x) : ∀ i, i < l.length → p (l.getD i d) := by
 intro i hi
 rw [List.getD_eq_getElem?_getD, List.getElem?_eq_getElem hi]
 exact h _ (List.getElem_mem hi)
theorem QeE {t : TTx} (ht : TxOK t) (hs : scOK t) (hl : (encL t).length ≤ 4096) {a r : ByteArray} (ha : a.size + r.size ≤ 4611686018427383808) :
  Q1M (a ++ bytesOf (encL t) ++ r) (a.size : Int) = (t, (a.size : Int) + (encL t).length, 0) := by
 obtain ⟨v, ins, outs, tm, u⟩ := t
 obtain ⟨hv, htm, hi, ho, hni, hno⟩ := id ht
 dsimp only at hv htm hi ho hni hno
 have hin := Q6G ht
 have hT : Qq (a ++ bytesOf (encL (v, ins, outs, tm, u)) ++ r) = Qq a ++ (encL (v, ins, outs, tm, u) ++ Qq r) := by
  rw [Q4n, Q4n, Q1F hin, List.append_assoc]
 have hsz : (a ++ bytesOf (encL (v, ins, outs, tm, u)) ++ r).size = a.size + (encL (v, ins, outs, tm, u)).length + r.size := by
  rw [ByteArray.size_append, ByteArray.size_append, Q0d]
 have hE : encL (v, ins, outs, tm, u) = lowI v 4 ++ (Q1q (ins.length : Int) ++ ((ins.map Q1S).flatten ++ (Q1q (outs.length : Int) ++ ((outs.map Q1H).flatten ++ (lowI tm 4 ++ []))))) := by
  unfold encL Q6x Q55
  rw [Q5P, Q5P]
  simp only [List.append_assoc, List.append_nil]
 have e256 : (256 : Int) ^ 4 = 4294967296 := by decide
 have hx : RdA (a ++ bytesOf (encL (v, ins, outs, tm, u)) ++ r, (a.size : Int), (a.size : Int), 0, ()) (lowI v 4 ++ (Q1q (ins.length : Int) ++ ((ins.map Q1S).flatten ++ (Q1q (outs.length : Int) ++ ((outs.map Q1H).flatten ++ (lowI tm 4 ++ [])))))) (Qq r) := by
  refine ⟨⟨by dsimp only; omega, by dsimp only; omega, by dsimp only; omega, by dsimp only; omega⟩, rfl, ?_, ?_⟩
  ·rw [← hE]
   show List.drop (a.size : Int).toNat (Qq _) = _
   rw [hT, show (a.size : Int).toNat = (Qq a).length by rw [Q0b]; omega, List.drop_left]
  ·rw [← hE]
   dsimp only
   omega
 have hlen := Q2H (v, ins, outs, tm, u)
 dsimp only at hlen
 have hci : ins.length ≤ 4096 := by
  have := Q9f (f := Q1S) (d := dIn) (l := ins) (m := 1) (fun x => by unfold Q1S; simp only [List.length_append, Q0k]; omega) ins.length
  omega
 have hco : outs.length ≤ 4096 := by
  have := Q9f (f := Q1H) (d := dOut) (l := outs) (m := 1) (fun x => by unfold Q1H; simp only [List.length_append, Q0k]; omega) outs.length
  omega
 obtain ⟨a1, a2, a3⟩ := Q9o (n := 4) hx ⟨hv.1, by rw [e256]; have := hv.2; omega⟩
 obtain ⟨b1, b2, b3⟩ := Q8y (most := 4096) (e := 5) a1 ⟨by omega, by omega⟩ (by omega)
 obtain ⟨c1, c2, c3⟩ := Q8O (f := Q2a) (p := fun i => InOK i ∧ i.2.1.size ≤ 520) (fun h hp => Qgv h hp.1 hp.2) ins [] b1 (QbR fun i h => ⟨hi i h, hs.1 i h⟩)
 obtain ⟨d1, d2, d3⟩ := Q8y (most := 4096) (e := 5) c1 ⟨by omega, by omega⟩ (by omega)
 obtain ⟨e1, e2, e3⟩ := Q8O (f := Q25) (p := fun i => Qaf i ∧ i.2.1.size ≤ 520) (fun h hp => Qgm h hp.1 hp.2) outs [] d1 (QbR fun i h => ⟨ho i h, hs.2 i h⟩)
 obtain ⟨f1, f2, f3⟩ := Q9o (n := 4) e1 ⟨htm.1, by rw [e256]; have := htm.2; omega⟩
 have hat := f1.at_
 have htxt := f2.trans (e2.trans (d2.trans (c2.trans (b2.trans a2))))
 unfold Q1M
 rw [if_neg (by omega)]
 dsimp only
 have b3' : (Q0a (Q0x (a ++ bytesOf (encL (v, ins, outs, tm, u)) ++ r, (a.size : Int), (a.size : Int), 0, ()) 4).1 4096 5).2.toNat = ins.length := by
  have : (Q0a (Q0x (a ++ bytesOf (encL (v, ins, outs, tm, u)) ++ r, (a.size : Int), (a.size : Int), 0, ()) ((4 : Nat) : Int)).1 4096 5).2.toNat = ins.length := by rw [b3]; omega
  exact this
 rw [b3']
 have d3' : (Q0a (Q1C Q2a ins.length (Q0a (Q0x (a ++ bytesOf (encL (v, ins, outs, tm, u)) ++ r, (a.size : Int), (a.size : Int), 0, ()) 4).1 4096 5).1 []).1 4096 5).2.toNat = outs.length := by
  have : (Q0a (Q1C Q2a ins.length (Q0a (Q0x (a ++ bytesOf (encL (v, ins, outs, tm, u)) ++ r, (a.size : Int), (a.size : Int), 0, ()) ((4 : Nat) : Int)).1 4096 5).1 []).1 4096 5).2.toNat = outs.length := by rw [d3]; omega
  exact this
 rw [d3']
 have f1' := f1.err
 rw [if_neg (by simpa using f1')]
 rw [htxt] at hat
 refine Prod.ext (Prod.ext a3 (Prod.ext (c3.trans (List.nil_append _)) (Prod.ext (e3.trans (List.nil_append _)) (Prod.ext f3 rfl)))) (Prod.ext ?_ rfl)
 refine hat.trans ?_
 dsimp only
 rw [hsz, List.length_nil, Q0b]
 omega
theorem Q4i {x : Tk} (h : TkOK x) {n : Nat} (he : (Q0x x (n : Int)).1.2.2.2.1 = 0) : x.2.2.2.1 = 0 ∧ tkL x = lowI (Q0x x (n : Int)).2 n ++ tkL (Q0x x (n : Int)).1 ∧ (Q0x x (n : Int)).1.2.2.1 - (Q0x x (n : Int)).1.2.1 ≤ 4096 ∧ (Q0x x (n : Int)).1.1 = x.1 := by
 obtain ⟨z0, z1, z2, z3, z4⟩ := Q2J h (n := (n : Int)) (by omega) he
 obtain ⟨s1, s2⟩ := Q6S h he
 have hl := Q3l h
 refine ⟨z0, ?_, ?_, (Q1s h (by omega)).2.1⟩
 ·have hlen : (Qq (QS x (n : Int)).2).length = n := by rw [s2, List.length_take]; omega
  have := QbW (Q2i (QS x (n : Int)).2)
  rw [hlen] at this
  unfold Q0x
  dsimp only
  rw [this, s2, s1, List.take_append_drop]
 ·unfold Q0x
  dsimp only
  rw [z1]
  dsimp only
  omega
theorem Q73 {x : Tk} (h : TkOK x) {n : Nat} (he : (QS x (n : Int)).1.2.2.2.1 = 0) : x.2.2.2.1 = 0 ∧ tkL x = Qq (QS x (n : Int)).2 ++ tkL (QS x (n : Int)).1 ∧ (QS x (n : Int)).2.size = n := by
 obtain ⟨z0, z1, z2, z3, z4⟩ := Q2J h (n := (n : Int)) (by omega) he
 obtain ⟨s1, s2⟩ := Q6S h he
 have hl := Q3l h
 have hlen : (Qq (QS x (n : Int)).2).length = n := by rw [s2, List.length_take]; omega
 exact ⟨z0, by rw [s2, s1, List.take_append_drop], by rw [← Q0b]; exact hlen⟩
theorem Q4U {x : Tk} (h : TkOK x) {most e : Int} (he0 : e ≠ 0) (he : (Q0a x most e).1.2.2.2.1 = 0) : x.2.2.2.1 = 0 ∧ tkL x = Q1q (Q0a x most e).2 ++ tkL (Q0a x most e).1 ∧ 0 ≤ (Q0a x most e).2 ∧ (Q0a x most e).2 ≤ most := by
 have hr := Q4S (x := x)
 unfold Q0a at he ⊢
 by_cases c0 : x.2.2.2.1 ≠ 0
 ·rw [if_pos c0] at he; exact absurd he c0
 ·rw [if_neg c0] at he ⊢
  dsimp only at he ⊢
  by_cases c1 : (QS x (1 + (cm ((tkL x).headD 0) : Int))).1.2.2.2.1 ≠ 0
  ·rw [if_pos c1] at he; exact absurd he c1
  ·rw [if_neg c1] at he ⊢
   have c1' : (QS x (1 + (cm ((tkL x).headD 0) : Int))).1.2.2.2.1 = 0 := by simpa using c1
   by_cases c2 : Q1J (tkV x) ≠ 1 + (cm ((tkL x).headD 0) : Int)
   ·rw [if_pos c2] at he; simp at he
   ·rw [if_neg c2] at he ⊢
    by_cases c3 : tkV x > most
    ·rw [if_pos c3] at he; exact absurd he he0
    ·rw [if_neg c3]
     refine ⟨by simpa using c0, ?_, hr.1, by dsimp only; omega⟩
     dsimp only
     obtain ⟨b, l, g1, g2, g3⟩ := Qb0 h c1'
     have hh : (tkL x).headD 0 = b := by rw [g1]; rfl
     rw [hh] at g2 c2 c1'
     rw [hh]
     obtain ⟨s1, s2⟩ := Q6S h (n := 1 + cm b) (by rw [Int.natCast_add]; exact c1')
     rw [Int.natCast_add] at s1
     have e1 : ((1 : Nat) : Int) = 1 := rfl
     rw [e1] at s1
     rw [s1]
     have hV : tkV x = if cm b = 0 then b else leI (l.take (cm b)) := by unfold tkV; rw [g1]; rfl
     have hc : Q1q (tkV x) = (tkL x).take (1 + cm b) := by
      rw [g1, Nat.add_comm 1, List.take_succ_cons]
      have c2' : Q1J (tkV x) = 1 + (cm b : Int) := by simpa using c2
      by_cases c : cm b = 0
      ·rw [if_pos c] at hV
       rw [hV, c] at c2'
       rw [hV, c, List.take_zero]
       have : b < 253 := by
        unfold Q1J at c2'
        by_cases c5 : b < 253
        ·exact c5
        ·rw [if_neg c5] at c2'
         by_cases c6 : b < 65536
         ·rw [if_pos c6] at c2'; simp at c2'
         ·omega
       unfold Q1q
       rw [if_pos this]
       simp only [lowI]
       rw [show b % 256 = b by omega]
      ·rw [if_neg c] at hV
       have hlt : (l.take (cm b)).length = cm b := by rw [List.length_take]; omega
       have hin : Q1y (l.take (cm b)) := fun y hy => QaZ x y (by rw [g1]; exact List.mem_cons_of_mem _ (List.mem_of_mem_take hy))
       have hlow := QbW hin
       rw [hlt, ← hV] at hlow
       have hb : (b = 253 ∧ cm b = 2) ∨ (b = 254 ∧ cm b = 4) ∨ (b = 255 ∧ cm b = 8) := by
        unfold cm at c ⊢
        by_cases e1 : b = 253
        ·exact .inl ⟨e1, by rw [if_pos e1]⟩
        ·rw [if_neg e1] at c ⊢
         by_cases e2 : b = 254
         ·exact .inr (.inl ⟨e2, by rw [if_pos e2]⟩)
         ·rw [if_neg e2] at c ⊢
          by_cases e3 : b = 255
          ·exact .inr (.inr ⟨e3, by rw [if_pos e3]⟩)
          ·rw [if_neg e3] at c; exact absurd rfl c
       rw [← hlow]
       unfold Q1J at c2'
       unfold Q1q
       rcases hb with ⟨e1, e2⟩ | ⟨e1, e2⟩ | ⟨e1, e2⟩ <;> rw [e2] at c2' ⊢ <;> rw [e1]
       ·have n1 : ¬ tkV x < 253 := fun h => by rw [if_pos h] at c2'; simp at c2'
        rw [if_neg n1] at c2' ⊢
        have n2 : tkV x < 65536 := Classical.byContradiction fun h => by rw [if_neg h] at c2'; split at c2' <;> simp at c2'
        rw [if_pos n2]
       ·have n1 : ¬ tkV x < 253 := fun h => by rw [if_pos h] at c2'; simp at c2'
        rw [if_neg n1] at c2' ⊢
        have n2 : ¬ tkV x < 65536 := fun h => by rw [if_pos h] at c2'; simp at c2'
        rw [if_neg n2] at c2' ⊢
        have n3 : tkV x < 4294967296 := Classical.byContradiction fun h => by rw [if_neg h] at c2'; simp at c2'
        rw [if_pos n3]
       ·have n1 : ¬ tkV x < 253 := fun h => by rw [if_pos h] at c2'; simp at c2'
        rw [if_neg n1] at c2' ⊢
        have n2 : ¬ tkV x < 65536 := fun h => by rw [if_pos h] at c2'; simp at c2'
        rw [if_neg n2] at c2' ⊢
        have n3 : ¬ tkV x < 4294967296 := fun h => by rw [if_pos h] at c2'; simp at c2'
        rw [if_neg n3]
     rw [hc, List.take_append_drop]
theorem Qby {x : Tk} (h : TkOK x) (he : (QS (Q0a x 520 100).1 (Q0a x 520 100).2).1.2.2.2.1 = 0) :
  x.2.2.2.1 = 0 ∧ tkL x = Q3A (QS (Q0a x 520 100).1 (Q0a x 520 100).2).2 ++ tkL (QS (Q0a x 520 100).1 (Q0a x 520 100).2).1 ∧ (QS (Q0a x 520 100).1 (Q0a x 520 100).2).2.size ≤ 520 := by
 have h2 := (Q1N h 520 100).1
 have hv := Q1K (x := x) 520 100 (by omega)
 obtain ⟨n, hn⟩ := Int.eq_ofNat_of_zero_le hv.1
 have he' := he
 rw [hn] at he' ⊢
 obtain ⟨b1, b2, b3⟩ := Q73 h2 he'
 obtain ⟨c1, c2, c3, c4⟩ := Q4U h (by decide) b1
 refine ⟨c1, ?_, by omega⟩
 rw [c2, hn, b2, ← List.append_assoc]
 unfold Q3A
 rw [b3]
theorem QcQ {x : Tk} (h : TkOK x) (he : (Q2a x).1.2.2.2.1 = 0) : x.2.2.2.1 = 0 ∧ (InOK (Q2a x).2 ∧ (Q2a x).2.2.1.size ≤ 520) ∧ tkL x = Q1S (Q2a x).2 ++ tkL (Q2a x).1 := by
 unfold Q2a at he ⊢
 dsimp only at he ⊢
 have k1 := (Q1s h (n := 32) (by omega)).1
 have k2 := Q2Q k1 (n := 4) (by omega)
 have k3 := (Q1N k2 520 100).1
 have k4 := (Q1s k3 (n := (Q0a (Q0x (QS x 32).1 4).1 520 100).2) (Q1K 520 100 (by omega)).1).1
 obtain ⟨a1, a2, _, _⟩ := Q4i (n := 4) k4 he
 obtain ⟨b1, b2, b3⟩ := Qby k2 a1
 obtain ⟨c1, c2, _, _⟩ := Q4i (n := 4) k1 b1
 obtain ⟨d1, d2, d3⟩ := Q73 (n := 32) h c1
 have e256 : (256 : Int) ^ 4 = 4294967296 := by decide
 have r1 := Q3r k1 (n := 4)
 have r2 := Q3r k4 (n := 4)
 rw [e256] at r1 r2
 have hh : Q41 (QS x 32).2 = Qq (QS x 32).2 := by unfold Q41; rw [if_pos (show (QS x 32).2.size = 32 from d3)]
 refine ⟨d1, ⟨⟨⟨?_, ?_⟩, ⟨r1.1, ?_⟩, ⟨r2.1, ?_⟩⟩, b3⟩, ?_⟩
 ·rw [hh, Q0b]; exact d3
 ·rw [hh]; exact Q2i _
 ·have := r1.2
  show (Q0x (QS x 32).1 ((4 : Nat) : Int)).2 ≤ _
  omega
 ·have := r2.2
  show (Q0x (QS (Q0a (Q0x (QS x 32).1 4).1 520 100).1 (Q0a (Q0x (QS x 32).1 4).1 520 100).2).1 ((4 : Nat) : Int)).2 ≤ _
  omega
 ·have d2' : tkL x = Qq (QS x 32).2 ++ tkL (QS x 32).1 := d2
  have c2' : tkL (QS x 32).1 = lowI (Q0x (QS x 32).1 4).2 4 ++ tkL (Q0x (QS x 32).1 4).1 := c2
  have a2' : tkL (QS (Q0a (Q0x (QS x 32).1 4).1 520 100).1 (Q0a (Q0x (QS x 32).1 4).1 520 100).2).1 = lowI (Q0x (QS (Q0a (Q0x (QS x 32).1 4).1 520 100).1 (Q0a (Q0x (QS x 32).1 4).1 520 100).2).1 4).2 4 ++ tkL (Q0x (QS (Q0a (Q0x (QS x 32).1 4).1 520 100).1 (Q0a (Q0x (QS x 32).1 4).1 520 100).2).1 4).1 := a2
  rw [d2', c2', b2, a2', hh]
  unfold Q1S
  dsimp only
  rw [List.take_of_length_le (by rw [Q0b]; have : (QS x 32).2.size = 32 := d3; omega)]
  simp only [List.append_assoc]
theorem Qc1 {x : Tk} (h : TkOK x) (he : (Q25 x).1.2.2.2.1 = 0) : x.2.2.2.1 = 0 ∧ (Qaf (Q25 x).2 ∧ (Q25 x).2.2.1.size ≤ 520) ∧ tkL x = Q1H (Q25 x).2 ++ tkL (Q25 x).1 := by
 unfold Q25 at he ⊢
 dsimp only at he ⊢
 have k2 := Q2Q h (n := 8) (by omega)
 obtain ⟨b1, b2, b3⟩ := Qby k2 he
 obtain ⟨c1, c2, _, _⟩ := Q4i (n := 8) h b1
 have e256 : (256 : Int) ^ 8 = 18446744073709551616 := by decide
 have r1 := Q3r h (n := 8)
 rw [e256] at r1
 have c2' : tkL x = lowI (Q0x x 8).2 8 ++ tkL (Q0x x 8).1 := c2
 refine ⟨c1, ⟨⟨r1.1, ?_⟩, b3⟩, ?_⟩
 ·have := r1.2
  show (Q0x x ((8 : Nat) : Int)).2 ≤ _
  omega
 ·rw [c2', b2]
  unfold Q1H
  simp only [List.append_assoc]
theorem Q6s {α : Type} {f : Tk → Tk × α} {enc : α → List Int} {p : α → Prop} (hok : ∀ x, TkOK x → TkOK (f x).1) (hf : ∀ {x : Tk}, TkOK x → (f x).1.2.2.2.1 = 0 → x.2.2.2.1 = 0 ∧ p (f x).2 ∧ tkL x = enc (f x).2 ++ tkL (f x).1) :
  ∀ (n : Nat) (l : List α) {x : Tk}, TkOK x → (Q1C f n x l).1.2.2.2.1 = 0 → x.2.2.2.1 = 0 ∧ ∃ l2, (Q1C f n x l).2 = l ++ l2 ∧ l2.length = n ∧ (∀ y ∈ l2, p y) ∧ tkL x = (l2.map enc).flatten ++ tkL (Q1C f n x l).1
 | 0, l, x, _, he => ⟨he, [], by simp [Q1C], rfl, fun y hy => by simp at hy, by simp [Q1C]⟩
 | n + 1, l, x, hx, he => by
  unfold Q1C at he ⊢
  by_cases c : x.2.2.2.1 ≠ 0
  ·rw [if_pos c] at he; exact absurd he c
  ·rw [if_neg c] at he ⊢
   obtain ⟨g0, l2, g1, g2, g3, g4⟩ := Q6s hok hf n (l ++ [(f x).2]) (hok x hx) he
   obtain ⟨f1, f2, f3⟩ := hf hx g0
   refine ⟨f1, (f x).2 :: l2, by rw [g1, List.append_assoc]; rfl, by rw [List.length_cons, g2], ?_, ?_⟩
   ·intro y hy
    rcases List.mem_cons.1 hy with rfl | hy
    ·exact f2
    ·exact g3 y hy
   ·rw [f3, g4, List.map_cons, List.flatten_cons, List.append_assoc]
theorem Qd8 (x y : TIn) : ((decide (x.1.1 = y.1.1) && ((x.1.2.1 == y.1.2.1) && true)) && (Q2Y x.2.1 y.2.1 && ((x.2.2.1 == y.2.2.1) && true))) = decide (x = y) := by
 obtain ⟨⟨a, b, u0⟩, c, d, u⟩ := x
 obtain ⟨⟨a', b', u0'⟩, c', d', u'⟩ := y
 rw [Bool.eq_iff_iff]
 simp only [Q5R, Bool.and_eq_true, decide_eq_true_eq, beq_iff_eq, Bool.and_true, Prod.mk.injEq]
 simp
instance decTIn : DecidableEq TIn := inferInstance
instance decTIns : DecidableEq (List TIn) := inferInstance
instance decT2 : DecidableEq (List TIn × List TOut × Int × Unit) := inferInstance
instance decTTx : DecidableEq TTx := inferInstance
theorem QeZ {k : Nat} {a b : List TIn} (hk : a.length < k) (h : a.length ≤ 4611686018427387904) : Qa k a b = some (decide (a = b), ()) := by
 unfold Qa Qa.c
 dsimp only
 by_cases c : a.length = b.length
 ·rw [Q1t (by rw [c, bne_self_eq_false])]
  have l0 : Qa.l0 k k (a, b, (a.length : Int), (0 : Int), ()) = some (if ∀ i, i < a.length → decide (a.getD i dIn = b.getD i dIn) = true then .inr () else .inl (false, ())) := by
   refine Q3L (r := Qa.l0.r k) (fun i => (a, b, (a.length : Int), (i : Int), ())) a.length _ _ (fun i => decide (a.getD i dIn = b.getD i dIn)) ?_ ?_ ?_ hk
   ·intro i h hq kn ke
    simp only [Qa.l0.r]
    rw [Q7D, Qy (by omega), Qy (by omega), Qy (by omega), show (i : Int).toNat = i by omega, Qd8, hq, i64_in (by omega)]
    rfl
   ·intro i h hq kn ke
    simp only [Qa.l0.r]
    rw [Q7D, Qy (by omega), Qy (by omega), Qy (by omega), show (i : Int).toNat = i by omega, Qd8, hq]
    rfl
   ·intro kn ke
    simp only [Qa.l0.r]
    rw [Q0Z (by omega)]
  rw [l0]
  simp only [Option.bind_some]
  by_cases d : a = b
  ·rw [if_pos ((Q5H dIn c).2 d), decide_eq_true d]
  ·rw [if_neg (fun h => d ((Q5H dIn c).1 h)), decide_eq_false d]
 ·rw [QX (by rw [bne_iff_ne]; omega), decide_eq_false (fun h => c (by rw [h]))]
theorem QdF {k : Nat} {a b : List TOut} (hk : a.length < k) (h : a.length ≤ 4611686018427387904) : Q7 k a b = some (decide (a = b), ()) := by
 unfold Q7 Q7.c
 dsimp only
 by_cases c : a.length = b.length
 ·rw [Q1t (by rw [c, bne_self_eq_false])]
  have l0 : Q7.l0 k k (a, b, (a.length : Int), (0 : Int), ()) = some (if ∀ i, i < a.length → decide (a.getD i dOut = b.getD i dOut) = true then .inr () else .inl (false, ())) := by
   refine Q3L (r := Q7.l0.r k) (fun i => (a, b, (a.length : Int), (i : Int), ())) a.length _ _ (fun i => decide (a.getD i dOut = b.getD i dOut)) ?_ ?_ ?_ hk
   ·intro i h hq kn ke
    simp only [Q7.l0.r]
    rw [Q43, Qy (by omega), Qy (by omega), Qy (by omega), show (i : Int).toNat = i by omega, Qdq, hq, i64_in (by omega)]
    rfl
   ·intro i h hq kn ke
    simp only [Q7.l0.r]
    rw [Q43, Qy (by omega), Qy (by omega), Qy (by omega), show (i : Int).toNat = i by omega, Qdq, hq]
    rfl
   ·intro kn ke
    simp only [Q7.l0.r]
    rw [Q0Z (by omega)]
  rw [l0]
  simp only [Option.bind_some]
  by_cases d : a = b
  ·rw [if_pos ((Q5H dOut c).2 d), decide_eq_true d]
  ·rw [if_neg (fun h => d ((Q5H dOut c).1 h)), decide_eq_false d]
 ·rw [QX (by rw [bne_iff_ne]; omega), decide_eq_false (fun h => c (by rw [h]))]
theorem Q9L {k : Nat} {a b : TTx} (hk : a.2.1.length + a.2.2.1.length < k) (h : a.2.1.length ≤ 4611686018427387904 ∧ a.2.2.1.length ≤ 4611686018427387904) : Q1O k a b = some (decide (a = b), ()) := by
 obtain ⟨v, ins, outs, tm, u⟩ := a
 obtain ⟨v', ins', outs', tm', u'⟩ := b
 dsimp only at hk h
 unfold Q1O Q1O.c
 dsimp only
 have hiff : ((v, ins, outs, tm, u) : TTx) = (v', ins', outs', tm', u') ↔ v = v' ∧ tm = tm' ∧ ins = ins' ∧ outs = outs' := by
  simp only [Prod.mk.injEq]
  constructor
  ·rintro ⟨h1, h2, h3, h4, _⟩; exact ⟨h1, h4, h2, h3⟩
  ·rintro ⟨h1, h4, h2, h3⟩; exact ⟨h1, h2, h3, h4, True.intro⟩
 by_cases c1 : v = v'
 ·rw [QX (by simpa using c1)]
  by_cases c2 : tm = tm'
  ·rw [QX (by simpa using c2), QeZ (by omega) h.1]
   simp only [Option.bind_some]
   by_cases c3 : ins = ins'
   ·rw [decide_eq_true c3, cond_true, QdF (by omega) h.2]
    simp only [Option.bind_some]
    by_cases c4 : outs = outs'
    ·rw [decide_eq_true c4, decide_eq_true (hiff.2 ⟨c1, c2, c3, c4⟩)]
    ·rw [decide_eq_false c4, decide_eq_false (fun h => c4 (hiff.1 h).2.2.2)]
   ·rw [decide_eq_false c3, cond_false, decide_eq_false (fun h => c3 (hiff.1 h).2.2.1)]
  ·rw [Q1t (by simpa using c2), decide_eq_false (fun h => c2 (hiff.1 h).2.1)]
 ·rw [Q1t (by simpa using c1), decide_eq_false (fun h => c1 (hiff.1 h).1)]
theorem Qga {k : Nat} {t : TTx} (h1 : t.2.1.length ≤ 2199023255552) (h2 : t.2.2.1.length ≤ 5864062014805) (hk : t.2.1.length + t.2.2.1.length + 1 ≤ k) : Qg k t = some (gTx t, ()) := by
 obtain ⟨v, ins, outs, tm, u⟩ := t
 dsimp only at h1 h2 hk
 unfold Qg Qg.c
 dsimp only
 have l0 : Qg.l0 k k ((0 : Int), (v, ins, outs, tm, ()), (0, (), (), 0, ()), (v, (), (), tm, ()), [], ()) = some ((v, ins, outs, tm, ()), (0, (), (), 0, ()), (v, (), (), tm, ()), ins.map gIn, ()) := by
  have := Q1w (r := Qg.l0.r k) (fun i => ((i : Int), (v, ins, outs, tm, ()), (0, (), (), 0, ()), (v, (), (), tm, ()), (ins.take i).map gIn, ())) ins.length
   ((v, ins, outs, tm, ()), (0, (), (), 0, ()), (v, (), (), tm, ()), ins.map gIn, ()) ?_ ?_ (fuel := k) (by omega)
  ·exact this
  ·intro i h kn ke
   simp only [Qg.l0.r]
   rw [Q7D, Qy (by omega), Qy (by omega), Qy (by omega), Qy (by omega), Qy (by omega), show (i : Int).toNat = i by omega,
    QX (Q1I (by simp only [List.length_set, List.length_replicate, List.length_map, List.length_take]; omega)), i64_in (by omega)]
   have e : ∀ d : RIn, List.set (List.replicate 1 d) 0 ((ins.getD i dIn).1.1, (ins.getD i dIn).1.2.1, (ins.getD i dIn).2.1, (ins.getD i dIn).2.2.1, ()) = [gIn (ins.getD i dIn)] := fun _ => rfl
   rw [e, Qa1 gIn ins dIn h]
   rfl
  ·intro kn ke
   simp only [Qg.l0.r]
   rw [Q0Z (by omega), List.take_length]
 rw [l0]
 simp only [Option.bind_some]
 have l1 : Qg.l1 k k ((0 : Int), (v, ins, outs, tm, ()), (0, (), (), 0, ()), (v, (), (), tm, ()), ins.map gIn, [], ()) = some ((0, (), (), 0, ()), (v, (), (), tm, ()), ins.map gIn, outs, ()) := by
  have := Q1w (r := Qg.l1.r k) (fun i => ((i : Int), (v, ins, outs, tm, ()), (0, (), (), 0, ()), (v, (), (), tm, ()), ins.map gIn, (outs.take i).map id, ())) outs.length
   ((0, (), (), 0, ()), (v, (), (), tm, ()), ins.map gIn, outs, ()) ?_ ?_ (fuel := k) (by omega)
  ·exact this
  ·intro i h kn ke
   simp only [Qg.l1.r]
   rw [Q43, Qy (by omega), Qy (by omega), Qy (by omega), show (i : Int).toNat = i by omega,
    QX (Q1I (by simp only [List.length_set, List.length_replicate, List.length_map, List.length_take]; omega)), i64_in (by omega)]
   have e : ∀ d : TOut, List.set (List.replicate 1 d) 0 ((outs.getD i dOut).1, (outs.getD i dOut).2.1, ()) = [id (outs.getD i dOut)] := fun _ => rfl
   rw [e, Qa1 id outs dOut h]
   rfl
  ·intro kn ke
   simp only [Qg.l1.r]
   rw [Q0Z (by omega), List.take_length, List.map_id]
 rw [l1]
 rfl
end Go.Am
set_option linter.unusedSimpArgs false
namespace Go.Am
open Go
theorem Qcq {x : Tk} (hx : TkOK x) : (Q2a x).1.1 = x.1 ∧ (Q2a x).1.2.1 = x.2.1 := by
 unfold Q2a
 dsimp only
 have g1 := Q1s hx (n := 32) (by omega)
 have g2 := Q1s g1.1 (n := 4) (by omega)
 have g3 := Q1N (x := (Q0x (QS x 32).1 4).1) g2.1 520 100
 have g4 := Q1s g3.1 (n := (Q0a (Q0x (QS x 32).1 4).1 520 100).2) (Q1K 520 100 (by omega)).1
 have g5 := Q1s g4.1 (n := 4) (by omega)
 exact ⟨g5.2.1.trans (g4.2.1.trans (g3.2.1.trans (g2.2.1.trans g1.2.1))), g5.2.2.trans (g4.2.2.trans (g3.2.2.trans (g2.2.2.trans g1.2.2)))⟩
theorem QbH {x : Tk} (hx : TkOK x) : (Q25 x).1.1 = x.1 ∧ (Q25 x).1.2.1 = x.2.1 := by
 unfold Q25
 dsimp only
 have g2 := Q1s hx (n := 8) (by omega)
 have g3 := Q1N (x := (Q0x x 8).1) g2.1 520 100
 have g4 := Q1s g3.1 (n := (Q0a (Q0x x 8).1 520 100).2) (Q1K 520 100 (by omega)).1
 exact ⟨g4.2.1.trans (g3.2.1.trans g2.2.1), g4.2.2.trans (g3.2.2.trans g2.2.2)⟩
theorem Q5e {α : Type} {f : Tk → Tk × α} (hok : ∀ x, TkOK x → TkOK (f x).1) (hk : ∀ {x}, TkOK x → (f x).1.1 = x.1 ∧ (f x).1.2.1 = x.2.1) :
  ∀ (n : Nat) (x : Tk) (l : List α), TkOK x → (Q1C f n x l).1.1 = x.1 ∧ (Q1C f n x l).1.2.1 = x.2.1
 | 0, x, l, _ => ⟨rfl, rfl⟩
 | n + 1, x, l, hx => by
  unfold Q1C
  split
  ·exact ⟨rfl, rfl⟩
  ·have h1 := Q5e hok hk n (f x).1 (l ++ [(f x).2]) (hok x hx)
   have h2 := hk hx
   exact ⟨h1.1.trans h2.1, h1.2.trans h2.2⟩
theorem QdB {s : ByteArray} (hs : s.size ≤ 4611686018427387904) {a : Int} (ha : 0 ≤ a) (he : (Q1M s a).2.2 = 0) :
  TxOK (Q1M s a).1 ∧ scOK (Q1M s a).1 ∧ (encL (Q1M s a).1).length ≤ 4096 ∧ (Q1M s a).2.1 = a + (encL (Q1M s a).1).length ∧ (Q1M s a).2.1 ≤ (s.size : Int) ∧
  (Qq s).drop a.toNat = encL (Q1M s a).1 ++ (Qq s).drop (Q1M s a).2.1.toNat := by
 unfold Q1M at he ⊢
 by_cases c0 : a < 0 ∨ a > (s.size : Int)
 ·rw [if_pos c0] at he
  exact absurd he (by decide)
 rw [if_neg c0] at he ⊢
 dsimp only at he ⊢
 have hx : TkOK (s, a, a, 0, ()) := ⟨hs, by dsimp only; omega, by dsimp only; omega, by dsimp only; omega⟩
 have k1 := Q2Q hx (n := 4) (by omega)
 have k2 := (Q1N k1 4096 5).1
 have hv2 := Q1K (x := (Q0x (s, a, a, 0, ()) 4).1) 4096 5 (by omega)
 obtain ⟨n, hn⟩ := Int.eq_ofNat_of_zero_le hv2.1
 have k3 := Q35 (fun x h => Q3w h) n [] k2
 rw [show (Q0a (Q0x (s, a, a, 0, ()) 4).1 4096 5).2.toNat = n by omega] at he ⊢
 have P1 := Q6s (f := Q2a) (enc := Q1S) (p := fun i => InOK i ∧ i.2.1.size ≤ 520) (fun x h => Q3w h) (fun h he => QcQ h he) n [] k2
 have t3 := (Q1N k1 4096 5).2
 have kp1 := Q5e (fun x h => Q3w h) (fun h => Qcq h) n (Q0a (Q0x (s, a, a, 0, ()) 4).1 4096 5).1 [] k2
 generalize hIs : Q1C Q2a n (Q0a (Q0x (s, a, a, 0, ()) 4).1 4096 5).1 [] = is at *
 have k4 := (Q1N k3 4096 5).1
 have hv4 := Q1K (x := is.1) 4096 5 (by omega)
 obtain ⟨n2, hn2⟩ := Int.eq_ofNat_of_zero_le hv4.1
 rw [show (Q0a is.1 4096 5).2.toNat = n2 by omega] at he ⊢
 have k5 := Q35 (fun x h => Q34 h) n2 [] k4
 have P2 := Q6s (f := Q25) (enc := Q1H) (p := fun i => Qaf i ∧ i.2.1.size ≤ 520) (fun x h => Q34 h) (fun h he => Qc1 h he) n2 [] k4
 have kp2 := Q5e (fun x h => Q34 h) (fun h => QbH h) n2 (Q0a is.1 4096 5).1 [] k4
 generalize hOs : Q1C Q25 n2 (Q0a is.1 4096 5).1 [] = os at *
 have hc : (Q0x os.1 4).1.2.2.2.1 = 0 := by
  by_cases c : (Q0x os.1 4).1.2.2.2.1 ≠ 0
  ·rw [if_pos c] at he; exact he
  ·simpa using c
 rw [if_neg (by simpa using hc)]
 dsimp only
 obtain ⟨a1, a2, a3, a4⟩ := Q4i (n := 4) k5 hc
 obtain ⟨b1, l2, b2, b3, b4, b5⟩ := P2 a1
 obtain ⟨d1, d2, d3, d4⟩ := Q4U k3 (by decide) b1
 obtain ⟨e1, l1, e2, e3, e4, e5⟩ := P1 d1
 obtain ⟨f1, f2, f3, f4⟩ := Q4U k1 (by decide) e1
 obtain ⟨g1, g2, _, _⟩ := Q4i (n := 4) hx f1
 rw [List.nil_append] at b2 e2
 have e256 : (256 : Int) ^ 4 = 4294967296 := by decide
 have r1 := Q3r hx (n := 4)
 have r2 := Q3r k5 (n := 4)
 rw [e256] at r1 r2
 have k6 := Q2Q k5 (n := 4) (by omega)
 have w3 := Q1s hx (n := 4) (by omega)
 have q1 := Q1s k5 (n := 4) (by omega)
 have c3 := Q1N k3 4096 5
 have htx : (Q0x os.1 4).1.1 = s := by
  show (QS os.1 4).1.1 = s
  rw [q1.2.1, kp2.1, c3.2.1, kp1.1, t3.1]
  exact w3.2.1
 have hfr : (Q0x os.1 4).1.2.1 = a := by
  show (QS os.1 4).1.2.1 = a
  rw [q1.2.2, kp2.2, c3.2.2, kp1.2, t3.2]
  exact w3.2.2
 have hOK : TxOK ((Q0x (s, a, a, 0, ()) 4).2, is.2, os.2, (Q0x os.1 4).2, ()) := by
  refine ⟨⟨r1.1, ?_⟩, ⟨r2.1, ?_⟩, ?_, ?_, ?_, ?_⟩
  ·have := r1.2
   show (Q0x (s, a, a, 0, ()) ((4 : Nat) : Int)).2 ≤ _
   omega
  ·have := r2.2
   show (Q0x os.1 ((4 : Nat) : Int)).2 ≤ _
   omega
  ·dsimp only; rw [e2]; exact Q6P fun y hy => (e4 y hy).1
  ·dsimp only; rw [b2]; exact Q6P fun y hy => (b4 y hy).1
  ·dsimp only; rw [e2]; omega
  ·dsimp only; rw [b2]; omega
 have hsc : scOK ((Q0x (s, a, a, 0, ()) 4).2, is.2, os.2, (Q0x os.1 4).2, ()) := by
  refine ⟨?_, ?_⟩
  ·dsimp only; rw [e2]; exact Q6P fun y hy => (e4 y hy).2
  ·dsimp only; rw [b2]; exact Q6P fun y hy => (b4 y hy).2
 have hend : tkL (Q0x os.1 4).1 = (Qq s).drop (Q0x os.1 4).1.2.2.1.toNat := by
  show (Qq (Q0x os.1 4).1.1).drop _ = _
  rw [htx]
 have hall : (Qq s).drop a.toNat = encL ((Q0x (s, a, a, 0, ()) 4).2, is.2, os.2, (Q0x os.1 4).2, ()) ++ (Qq s).drop (Q0x os.1 4).1.2.2.1.toNat := by
  have g2' : tkL (s, a, a, 0, ()) = lowI (Q0x (s, a, a, 0, ()) 4).2 4 ++ tkL (Q0x (s, a, a, 0, ()) 4).1 := g2
  have a2' : tkL os.1 = lowI (Q0x os.1 4).2 4 ++ tkL (Q0x os.1 4).1 := a2
  rw [f2, e5, d2, b5, a2', hend] at g2'
  have : (Qq s).drop a.toNat = tkL (s, a, a, 0, ()) := rfl
  rw [this, g2']
  unfold encL Q6x Q55
  rw [Q5P, Q5P]
  dsimp only
  rw [hn, hn2, e2, b2, e3, b3]
  simp only [List.append_assoc]
 have hsz : (Q0x os.1 4).1.2.2.1 ≤ (s.size : Int) := by
  have := k6.2.2.2
  rw [htx] at this
  exact this
 have hge : a ≤ (Q0x os.1 4).1.2.2.1 := by
  have := k6.2.2.1
  rw [hfr] at this
  exact this
 have hlen := congrArg List.length hall
 rw [List.length_drop, List.length_append, List.length_drop, Q0b] at hlen
 have a3' : (Q0x os.1 4).1.2.2.1 - (Q0x os.1 4).1.2.1 ≤ 4096 := a3
 rw [hfr] at a3'
 refine ⟨hOK, hsc, by omega, by omega, hsz, hall⟩
end Go.Am
