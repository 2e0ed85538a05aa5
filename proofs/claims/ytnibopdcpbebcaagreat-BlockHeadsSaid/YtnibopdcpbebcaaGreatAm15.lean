/- A part of a proof: a machine of abstract values that tells what functions of the program compute, and the plain facts on them. -/
import Derived.Test.YtnibopdcpbebcaaGreatAm14
import Derived.KernelRfl
set_option linter.unusedVariables false
set_option linter.unusedSimpArgs false
set_option linter.unnecessarySimpa false
set_option linter.unusedSectionVars false
namespace Go.Am
open Go
abbrev eb : ByteArray := ⟨List.toArray []⟩
theorem Q28 {k : Nat} (hk : 9 ≤ k) (n : Int) (hn : 0 ≤ n ∧ n ≤ 18446744073709551615) (b : Nat) (hb : b ≤ 8) : Qr k n (b : Int) = some (bytesOf (lowI n b), ()) := by
 unfold Qr Qr.c
 have hl : Qr.l0 k k (n, (b : Int), (0 : Int), List.replicate 0 (0 : Int), ()) = some (lowI n b, ()) := by
  have := Q1r (r := Qr.l0.r k) (fun i => (n / 256 ^ i, (b : Int), (i : Int), lowI n i, ())) b (lowI n b, ()) ?_ ?_ (fuel := k) (by omega)
  ·rw [Int.pow_zero, Int.ediv_one] at this
   exact this
  ·intro i hi kn ke
   simp only [Qr.l0.r]
   have hp : (0 : Int) < 256 ^ i := Int.pow_pos (by decide)
   have h0 : 0 ≤ n / 256 ^ i := Int.ediv_nonneg hn.1 (Int.le_of_lt hp)
   have h1 : n / 256 ^ i ≤ n := Int.ediv_le_self _ hn.1
   have hll := Q0B n i
   rw [QI (by omega), Int.tmod_eq_emod_of_nonneg h0, Int.tdiv_eq_ediv_of_nonneg h0]
   have e1 : (List.set (List.replicate 1 (0 : Int)) 0 (IntKind.u8.wrap (n / 256 ^ i % 256))) = [n / 256 ^ i % 256] := by rw [u8_in (by omega)]; rfl
   rw [e1, Q19 (Q1J (by simp only [List.length_singleton]; omega)), ← Q6t, u64_in (by omega), i64_in (by omega)]
   rw [show n / 256 ^ i / 256 = n / 256 ^ (i + 1) by rw [Int.pow_succ, Int.ediv_ediv_of_nonneg (Int.le_of_lt hp)]]
   rfl
  ·intro kn ke
   simp only [Qr.l0.r]
   rw [Q1c (by omega)]
 rw [hl]
 rfl
theorem Q39 {k : Nat} (hk : 9 ≤ k) (n : Int) (hn : 0 ≤ n ∧ n ≤ 18446744073709551615) : Q00 k n = some (bytesOf (Q1K n), ()) := by
 unfold Q00 Q00.c Q1K
 have l1 := Q28 hk n hn 1 (by omega)
 have l2 := Q28 hk n hn 2 (by omega)
 have l4 := Q28 hk n hn 4 (by omega)
 have l8 := Q28 hk n hn 8 (by omega)
 by_cases h1 : n < 253
 ·rw [QI h1, if_pos h1, show (1 : Int) = ((1 : Nat) : Int) from rfl, l1]; rfl
 ·rw [Q1c h1, if_neg h1]
  by_cases h2 : n < 65536
  ·rw [QI h2, if_pos h2, show (2 : Int) = ((2 : Nat) : Int) from rfl, l2]
   simp only [Option.bind_some]
   rw [Q19 (Q1J (by rw [Q0N, Q0B]; omega)), show (⟨(List.toArray [253])⟩ : ByteArray) = bytesOf [253] from rfl, Q1g]
   rfl
  ·rw [Q1c h2, if_neg h2]
   by_cases h3 : n < 4294967296
   ·rw [QI h3, if_pos h3, show (4 : Int) = ((4 : Nat) : Int) from rfl, l4]
    simp only [Option.bind_some]
    rw [Q19 (Q1J (by rw [Q0N, Q0B]; omega)), show (⟨(List.toArray [254])⟩ : ByteArray) = bytesOf [254] from rfl, Q1g]
    rfl
   ·rw [Q1c h3, if_neg h3, show (8 : Int) = ((8 : Nat) : Int) from rfl, l8]
    simp only [Option.bind_some]
    rw [Q19 (Q1J (by rw [Q0N, Q0B]; omega)), show (⟨(List.toArray [255])⟩ : ByteArray) = bytesOf [255] from rfl, Q1g]
    rfl
abbrev TIn : Type := (List Int × Int × Unit) × ByteArray × Int × Unit
abbrev TOut : Type := Int × ByteArray × Unit
abbrev RIn : Type := List Int × Int × ByteArray × Int × Unit
abbrev TTx : Type := Int × List TIn × List TOut × Int × Unit
abbrev RTx : Type := Int × List RIn × List TOut × Int × Unit
def gIn (x : TIn) : RIn := (x.1.1, x.1.2.1, x.2.1, x.2.2.1, ())
def gTx (t : TTx) : RTx := (t.1, t.2.1.map gIn, t.2.2.1, t.2.2.2.1, ())
theorem Q5d {σ τ : Type} {r : {ρ : Type} → σ → (σ → Option ρ) → (τ → Option ρ) → Option ρ} (S : Nat → σ) (n : Nat) (T U : τ) (p : Nat → Bool)
  (hgood : ∀ i, i < n → p i = true → ∀ (kn : σ → Option τ) (ke : τ → Option τ), r (S i) kn ke = kn (S (i + 1)))
  (hbad : ∀ i, i < n → p i = false → ∀ (kn : σ → Option τ) (ke : τ → Option τ), r (S i) kn ke = ke U)
  (hend : ∀ (kn : σ → Option τ) (ke : τ → Option τ), r (S n) kn ke = ke T) {fuel : Nat} (hf : n < fuel) :
  Q14 r fuel (S 0) = some (if ∀ i, i < n → p i = true then T else U) := by
 have key : ∀ (d i fuel : Nat), i + d = n → d < fuel → (∀ j, j < i → p j = true) → Q14 r fuel (S i) = some (if ∀ j, j < n → p j = true then T else U) := by
  intro d
  induction d with
  | zero =>
   intro i fuel hi hf hp
   cases fuel with
   | zero => omega
   | succ fuel =>
    have : i = n := by omega
    subst this
    rw [if_pos hp]
    exact hend _ _
  | succ d ih =>
   intro i fuel hi hf hp
   cases fuel with
   | zero => omega
   | succ fuel =>
    show r (S i) (Q14 r fuel) some = _
    cases hc : p i with
    | true =>
     rw [hgood i (by omega) hc]
     refine ih (i + 1) fuel (by omega) (by omega) fun j hj => ?_
     by_cases hji : j = i
     ·rw [hji]; exact hc
     ·exact hp j (by omega)
    | false =>
     rw [hbad i (by omega) hc, if_neg (fun h => by have := h i (by omega); rw [hc] at this; cases this)]
 exact key n 0 fuel (by omega) hf fun j hj => absurd hj (Nat.not_lt_zero j)
def cat {α : Type} (f : α → List Int) (d : α) (l : List α) : Nat → List Int
 | 0 => []
 | i + 1 => cat f d l i ++ f (l.getD i d)
theorem QdG {α : Type} (f : α → List Int) (d : α) (l : List α) : ∀ i, i ≤ l.length → cat f d l i = ((l.take i).map f).flatten
 | 0, _ => rfl
 | i + 1, h => by
  rw [cat, QdG f d l i (by omega), List.take_add_one, List.getD_eq_getElem?_getD, List.getElem?_eq_getElem (by omega), Option.toList_some, List.map_append, List.flatten_append]
  simp only [List.map_cons, List.map_nil, List.flatten_cons, List.flatten_nil, List.append_nil, Option.getD_some]
theorem Qfk {α : Type} (f : α → List Int) (d : α) (l : List α) : cat f d l l.length = (l.map f).flatten := by
 rw [QdG f d l _ (Nat.le_refl _), List.take_length]
theorem Q33 {α : Type} (f : α → List Int) (d : α) (l : List α) : ∀ {i n : Nat}, i ≤ n → (cat f d l i).length ≤ (cat f d l n).length
 | i, 0, h => by rw [show i = 0 by omega]; exact Nat.le_refl _
 | i, n + 1, h => by
  rcases Nat.lt_or_ge i (n + 1) with g | g
  ·have := Q33 f d l (i := i) (n := n) (by omega)
   rw [cat, List.length_append]; omega
  ·rw [show i = n + 1 by omega]; exact Nat.le_refl _
theorem Qbd {α : Type} {f : α → List Int} {d : α} {l : List α} : ∀ i, (∀ j, j < i → Q1v (f (l.getD j d))) → Q1v (cat f d l i)
 | 0, _ => fun x hx => by simp [cat] at hx
 | i + 1, h => bytesIn_append' (Qbd i fun j hj => h j (by omega)) (h i (by omega))
where bytesIn_append' {a b : List Int} (ha : Q1v a) (hb : Q1v b) : Q1v (a ++ b) := fun x hx => (List.mem_append.1 hx).elim (ha x) (hb x)
theorem QeT {α : Type} {f : α → List Int} {d : α} {l : List α} {m : Nat} (h : ∀ x, m ≤ (f x).length) : ∀ i, m * i ≤ (cat f d l i).length
 | 0 => Nat.zero_le _
 | i + 1 => by
  have h1 := QeT (d := d) (l := l) h i
  have h2 := h (l.getD i d)
  rw [cat, List.length_append, Nat.mul_add]; omega
abbrev dIn : TIn := ((List.replicate 32 (0 : Int), 0, ()), ByteArray.empty, 0, ())
abbrev dOut : TOut := (0, ByteArray.empty, ())
theorem QbJ : ((List.replicate 32 (0 : Int), (0 : Int), ()), ByteArray.empty, (0 : Int), ()) = dIn := rfl
theorem Q5a : ((0 : Int), ByteArray.empty, ()) = dOut := rfl
def Q40 (s : ByteArray) : List Int := Q1K (s.size : Int) ++ QQ s
def Q1M (x : TIn) : List Int := x.1.1.take 32 ++ lowI x.1.2.1 4 ++ Q40 x.2.1 ++ lowI x.2.2.1 4
def Q1G (x : TOut) : List Int := lowI x.1 8 ++ Q40 x.2.1
abbrev Q8n (t : TTx) : Nat → List Int := cat Q1M dIn t.2.1
abbrev Q6d (t : TTx) : Nat → List Int := cat Q1G dOut t.2.2.1
def encL (t : TTx) : List Int := lowI t.1 4 ++ Q1K (t.2.1.length : Int) ++ Q8n t t.2.1.length ++ Q1K (t.2.2.1.length : Int) ++ Q6d t t.2.2.1.length ++ lowI t.2.2.2.1 4
def u32R (n : Int) : Prop := 0 ≤ n ∧ n ≤ 4294967295
def InOK (x : TIn) : Prop := (x.1.1.length = 32 ∧ Q1v x.1.1) ∧ u32R x.1.2.1 ∧ u32R x.2.2.1
def QeC (x : TOut) : Prop := 0 ≤ x.1 ∧ x.1 ≤ 18446744073709551615
structure TxOK (t : TTx) : Prop where
 v : u32R t.1
 tm : u32R t.2.2.2.1
 ins : ∀ i, i < t.2.1.length → InOK (t.2.1.getD i dIn)
 outs : ∀ i, i < t.2.2.1.length → QeC (t.2.2.1.getD i dOut)
 nin : t.2.1.length ≤ 140737488355328
 nout : t.2.2.1.length ≤ 140737488355328
theorem Q9p (s : ByteArray) : Q1v (Q40 s) := fun x hx => (List.mem_append.1 hx).elim (Q5b _ x) (Q4C s x)
theorem Q41 (s : ByteArray) : ((Q40 s).length : Int) = Q1R (s.size : Int) + s.size := by
 unfold Q40
 rw [List.length_append, Q1i, Int.natCast_add, Q2r]
theorem QdO {x : TIn} (h : InOK x) : Q1v (Q1M x) := by
 unfold Q1M
 intro y hy
 rcases List.mem_append.1 hy with hy | hy
 ·rcases List.mem_append.1 hy with hy | hy
  ·rcases List.mem_append.1 hy with hy | hy
   ·exact h.1.2 y (List.mem_of_mem_take hy)
   ·exact Q37 _ _ y hy
  ·exact Q9p _ y hy
 ·exact Q37 _ _ y hy
theorem QcV (x : TOut) : Q1v (Q1G x) := by
 intro y hy
 rcases List.mem_append.1 hy with hy | hy
 ·exact Q37 _ _ y hy
 ·exact Q9p _ y hy
theorem Q2X {x : TIn} (h : InOK x) : ((Q1M x).length : Int) = 40 + (Q1R (x.2.1.size : Int) + x.2.1.size) := by
 unfold Q1M
 have := h.1.1
 simp only [List.length_append, List.length_take, Q0B, Int.natCast_add, Q41]
 omega
theorem Q2F (x : TOut) : ((Q1G x).length : Int) = 8 + (Q1R (x.2.1.size : Int) + x.2.1.size) := by
 unfold Q1G
 simp only [List.length_append, Q0B, Int.natCast_add, Q41]
 omega
theorem Q1S (n : Int) : 1 ≤ Q1R n ∧ Q1R n ≤ 9 := by
 unfold Q1R; split <;> (try split) <;> (try split) <;> omega
theorem Q3O (t : TTx) : (encL t).length = 4 + (Q1K (t.2.1.length : Int)).length + (cat Q1M dIn t.2.1 t.2.1.length).length + (Q1K (t.2.2.1.length : Int)).length + (cat Q1G dOut t.2.2.1 t.2.2.1.length).length + 4 := by
 unfold encL Q8n Q6d
 simp only [List.length_append, Q0B]
theorem wu32 {k : Nat} (hk : 9 ≤ k) {n : Int} (hn : u32R n) {u} {b1 : List Int} (h : b1.length ≤ 140737488350000) : Q0b k n u b1 = some (u, b1 ++ lowI n 4, ()) := by
 unfold Q0b Q0b.c
 have h1 := hn.1
 have h2 := hn.2
 rw [u64_in (by omega), show (4 : Int) = ((4 : Nat) : Int) from rfl, Q2O hk _ 4 (by omega)]
 simp only [Option.bind_some]
 rw [wrl (Q37 _ _) (by rw [Q0B]; omega)]
 rfl
theorem wcnt {k : Nat} (hk : 9 ≤ k) (n : Int) {u} {b1 : List Int} (h : b1.length ≤ 140737488350000) : Q01 k n u b1 = some (u, b1 ++ Q1K n, ()) := by
 unfold Q01 Q01.c
 rw [Q9H hk]
 simp only [Option.bind_some]
 have := Q4W n
 rw [wrl (Q5b _) (by omega)]
 rfl
theorem wstr {k : Nat} (hk : 9 ≤ k) (s : ByteArray) {u} {b1 : List Int} (h : b1.length + s.size ≤ 140737488350000) : Q0f k s u b1 = some (u, b1 ++ Q40 s, ()) := by
 unfold Q0f Q0f.c
 rw [u64_in (by omega)]
 show (Q01 k (s.size : Int) u b1).bind _ = _
 rw [wcnt hk _ (by omega)]
 simp only [Option.bind_some]
 have := Q4W (s.size : Int)
 show (QK k s u (b1 ++ Q1K (s.size : Int))).bind _ = _
 rw [wb (by rw [List.length_append]; omega), List.append_assoc]
 rfl
theorem Qd2 (k : Nat) {l : List Int} (hl : l.length = 32 ∧ Q1v l) {u} {b1 : List Int} (h : b1.length ≤ 140737488350000) : Q0q k l u b1 = some (u, b1 ++ l.take 32, ()) := by
 unfold Q0q Q0q.c
 rw [List.drop_zero]
 dsimp only
 rw [wrl (fun x hx => hl.2 x (List.mem_of_mem_take hx)) (by rw [List.length_take]; omega)]
 rfl
theorem Q8w (k : Nat) {n : Nat} (h : n ≤ 4611686018427387904) : Q1z k (n : Int) = some (Q1R (n : Int) + n, ()) := by
 unfold Q1z Q1z.c
 have := Q1S (n : Int)
 rw [u64_in (by omega), Q2C]
 simp only [Option.bind_some]
 rw [i64_in (by omega)]
theorem Qb7 {k : Nat} {t : TTx} (ht : TxOK t) (hb : (encL t).length ≤ 4611686018427387904) (hk : t.2.1.length + t.2.2.1.length + 20 ≤ k) : Q0t k t = some (((encL t).length : Int), ()) := by
 obtain ⟨v, ins, outs, tm, u⟩ := t
 obtain ⟨_, _, hi, ho, hni, hno⟩ := ht
 dsimp only at hi ho hni hno hk
 have hlen : ((encL (v, ins, outs, tm, u)).length : Int) = 4 + Q1R (ins.length : Int) + (cat Q1M dIn ins ins.length).length + Q1R (outs.length : Int) + (cat Q1G dOut outs outs.length).length + 4 := by
  have h1 := Q3O (v, ins, outs, tm, u)
  have h2 := Q2r (ins.length : Int)
  have h3 := Q2r (outs.length : Int)
  dsimp only at h1
  omega
 have c1 := Q1S (ins.length : Int)
 have c2 := Q1S (outs.length : Int)
 have si : ∀ i, i < ins.length → (ins.getD i dIn).2.1.size ≤ 4611686018427387904 := by
  intro i h
  have m := Q33 Q1M dIn ins (i := i + 1) (n := ins.length) (by omega)
  rw [cat, List.length_append] at m
  have := Q2X (hi i h)
  have := Q1S ((ins.getD i dIn).2.1.size : Int)
  omega
 have so : ∀ i, i < outs.length → (outs.getD i dOut).2.1.size ≤ 4611686018427387904 := by
  intro i h
  have m := Q33 Q1G dOut outs (i := i + 1) (n := outs.length) (by omega)
  rw [cat, List.length_append] at m
  have := Q2F (outs.getD i dOut)
  have := Q1S ((outs.getD i dOut).2.1.size : Int)
  omega
 unfold Q0t Q0t.c
 dsimp only
 rw [u64_in (n := (ins.length : Int)) (by omega), Q2C]
 simp only [Option.bind_some]
 rw [u64_in (n := (outs.length : Int)) (by omega), Q2C, i64_in (n := 4 + Q1R (ins.length : Int)) (by omega)]
 simp only [Option.bind_some]
 rw [i64_in (n := 4 + Q1R (ins.length : Int) + Q1R (outs.length : Int)) (by omega), i64_in (n := 4 + Q1R (ins.length : Int) + Q1R (outs.length : Int) + 4) (by omega)]
 have l0 : Q0t.l0 k k (4 + Q1R (ins.length : Int) + Q1R (outs.length : Int) + 4, ins, (ins.length : Int), (0 : Int), (v, ins, outs, tm, ()), ()) =
   some (4 + Q1R (ins.length : Int) + Q1R (outs.length : Int) + 4 + (cat Q1M dIn ins ins.length).length, (v, ins, outs, tm, ()), ()) := by
  have := Q1r (r := Q0t.l0.r k) (fun i => (4 + Q1R (ins.length : Int) + Q1R (outs.length : Int) + 4 + (cat Q1M dIn ins i).length, ins, (ins.length : Int), (i : Int), (v, ins, outs, tm, ()), ())) ins.length
   (4 + Q1R (ins.length : Int) + Q1R (outs.length : Int) + 4 + (cat Q1M dIn ins ins.length).length, (v, ins, outs, tm, ()), ()) ?_ ?_ (fuel := k) (by omega)
  ·rw [cat, List.length_nil, Int.natCast_zero, Int.add_zero] at this
   exact this
  ·intro i h kn ke
   simp only [Q0t.l0.r]
   have m := Q33 Q1M dIn ins (i := i + 1) (n := ins.length) (by omega)
   rw [cat, List.length_append] at m
   have e := Q2X (hi i h)
   have e2 := Q1S ((ins.getD i dIn).2.1.size : Int)
   rw [QI (by omega), QI (by omega), show (i : Int).toNat = i by omega, Q8w k (si i h)]
   simp only [Option.bind_some]
   rw [i64_in (n := 40 + _) (by omega), i64_in (n := _ + (40 + _)) (by omega), i64_in (by omega), cat, List.length_append, Int.natCast_add, e]
   rw [Int.add_assoc (4 + Q1R (ins.length : Int) + Q1R (outs.length : Int) + 4)]
   rfl
  ·intro kn ke
   simp only [Q0t.l0.r]
   rw [Q1c (by omega)]
 rw [l0]
 simp only [Option.bind_some]
 have l1 : Q0t.l1 k k (4 + Q1R (ins.length : Int) + Q1R (outs.length : Int) + 4 + (cat Q1M dIn ins ins.length).length, outs, (outs.length : Int), (0 : Int), ()) =
   some (4 + Q1R (ins.length : Int) + Q1R (outs.length : Int) + 4 + (cat Q1M dIn ins ins.length).length + (cat Q1G dOut outs outs.length).length, ()) := by
  have := Q1r (r := Q0t.l1.r k) (fun i => (4 + Q1R (ins.length : Int) + Q1R (outs.length : Int) + 4 + (cat Q1M dIn ins ins.length).length + (cat Q1G dOut outs i).length, outs, (outs.length : Int), (i : Int), ())) outs.length
   (4 + Q1R (ins.length : Int) + Q1R (outs.length : Int) + 4 + (cat Q1M dIn ins ins.length).length + (cat Q1G dOut outs outs.length).length, ()) ?_ ?_ (fuel := k) (by omega)
  ·rw [cat, List.length_nil, Int.natCast_zero, Int.add_zero] at this
   exact this
  ·intro i h kn ke
   simp only [Q0t.l1.r]
   have m := Q33 Q1G dOut outs (i := i + 1) (n := outs.length) (by omega)
   rw [cat, List.length_append] at m
   have e := Q2F (outs.getD i dOut)
   have e2 := Q1S ((outs.getD i dOut).2.1.size : Int)
   rw [QI (by omega), QI (by omega), show (i : Int).toNat = i by omega, Q8w k (so i h)]
   simp only [Option.bind_some]
   rw [i64_in (n := 8 + _) (by omega), i64_in (n := _ + (8 + _)) (by omega), i64_in (by omega), cat, List.length_append, Int.natCast_add, e]
   rw [Int.add_assoc (4 + Q1R (ins.length : Int) + Q1R (outs.length : Int) + 4 + ((cat Q1M dIn ins ins.length).length : Int))]
   rfl
  ·intro kn ke
   simp only [Q0t.l1.r]
   rw [Q1c (by omega)]
 rw [l1]
 simp only [Option.bind_some]
 rw [show (4 + Q1R (ins.length : Int) + Q1R (outs.length : Int) + 4 + ((cat Q1M dIn ins ins.length).length : Int) + ((cat Q1G dOut outs outs.length).length : Int)) = ((encL (v, ins, outs, tm, u)).length : Int) by omega]
def scOK (t : TTx) : Prop := (∀ i, i < t.2.1.length → (t.2.1.getD i dIn).2.1.size ≤ 520) ∧ (∀ i, i < t.2.2.1.length → (t.2.2.1.getD i dOut).2.1.size ≤ 520)
instance (t : TTx) : Decidable (scOK t) := by unfold scOK; infer_instance
def encS (t : TTx) : ByteArray × Int := if scOK t then (if (encL t).length > 4096 then (eb, 101) else (bytesOf (encL t), 0)) else (eb, 100)
theorem QcY {t : TTx} (ht : TxOK t) {i : Nat} (h : i ≤ t.2.1.length) : Q1v (Q8n t i) := Qbd i fun j hj => QdO (ht.ins j (by omega))
theorem Qbu (t : TTx) (i : Nat) : Q1v (Q6d t i) := Qbd i fun j _ => QcV _
theorem Qej {t : TTx} (ht : TxOK t) : Q1v (encL t) := by
 unfold encL
 intro y hy
 rcases List.mem_append.1 hy with hy | hy
 ·rcases List.mem_append.1 hy with hy | hy
  ·rcases List.mem_append.1 hy with hy | hy
   ·rcases List.mem_append.1 hy with hy | hy
    ·rcases List.mem_append.1 hy with hy | hy
     ·exact Q37 _ _ y hy
     ·exact Q5b _ y hy
    ·exact QcY ht (Nat.le_refl _) y hy
   ·exact Q5b _ y hy
  ·exact Qbu t _ y hy
 ·exact Q37 _ _ y hy
theorem Q8a {t : TTx} (ht : TxOK t) (hs : scOK t) : (encL t).length ≤ 4611686018427387904 := by
 have h1 : ∀ i, i ≤ t.2.1.length → (Q8n t i).length ≤ i * 569 := by
  intro i
  induction i with
  | zero => intro _; simp [Q8n, cat]
  | succ i ih =>
   intro h
   have := ih (by omega)
   have e := Q2X (ht.ins i (by omega))
   have e2 := Q1S ((t.2.1.getD i dIn).2.1.size : Int)
   have e3 := hs.1 i (by omega)
   show (cat Q1M dIn t.2.1 i ++ Q1M (t.2.1.getD i dIn)).length ≤ _
   rw [List.length_append, Nat.add_mul]
   have : (cat Q1M dIn t.2.1 i).length ≤ i * 569 := this
   omega
 have h2 : ∀ i, i ≤ t.2.2.1.length → (Q6d t i).length ≤ i * 537 := by
  intro i
  induction i with
  | zero => intro _; simp [Q6d, cat]
  | succ i ih =>
   intro h
   have := ih (by omega)
   have e := Q2F (t.2.2.1.getD i dOut)
   have e2 := Q1S ((t.2.2.1.getD i dOut).2.1.size : Int)
   have e3 := hs.2 i (by omega)
   show (cat Q1G dOut t.2.2.1 i ++ Q1G (t.2.2.1.getD i dOut)).length ≤ _
   rw [List.length_append, Nat.add_mul]
   have : (cat Q1G dOut t.2.2.1 i).length ≤ i * 537 := this
   omega
 have a1 := h1 t.2.1.length (Nat.le_refl _)
 have a2 := h2 t.2.2.1.length (Nat.le_refl _)
 have c1 := Q4W (t.2.1.length : Int)
 have c2 := Q4W (t.2.2.1.length : Int)
 have n1 := ht.nin
 have n2 := ht.nout
 rw [Q3O]
 have b1 : (cat Q1M dIn t.2.1 t.2.1.length).length ≤ t.2.1.length * 569 := a1
 have b2 : (cat Q1G dOut t.2.2.1 t.2.2.1.length).length ≤ t.2.2.1.length * 537 := a2
 omega
theorem Q9Q {k : Nat} {t : TTx} (ht : TxOK t) (hk : t.2.1.length + t.2.2.1.length + 20 ≤ k) : Ql k t = some ((encS t).1, (encS t).2, ()) := by
 obtain ⟨v, ins, outs, tm, u⟩ := t
 have ht' := ht
 obtain ⟨hv, htm, hi, ho, hni, hno⟩ := ht'
 dsimp only at hv htm hi ho hni hno hk
 unfold Ql Ql.c
 dsimp only
 have l0 : Ql.l0 k k (ins, (ins.length : Int), (0 : Int), (v, ins, outs, tm, ()), ()) = some (if ∀ i, i < ins.length → decide ((ins.getD i dIn).2.1.size ≤ 520) = true then .inr ((v, ins, outs, tm, ()), ()) else .inl (eb, 100, ())) := by
  refine Q5d (r := Ql.l0.r k) (fun i => (ins, (ins.length : Int), (i : Int), (v, ins, outs, tm, ()), ())) ins.length _ _ (fun i => decide ((ins.getD i dIn).2.1.size ≤ 520)) ?_ ?_ ?_ (by omega)
  ·intro i h hp kn ke
   simp only [Ql.l0.r]
   rw [QbJ]
   have := of_decide_eq_true hp
   rw [QI (by omega), QI (by omega), show (i : Int).toNat = i by omega, Q1c (by omega), i64_in (by omega)]
   rfl
  ·intro i h hp kn ke
   simp only [Ql.l0.r]
   rw [QbJ]
   have := of_decide_eq_false hp
   rw [QI (by omega), QI (by omega), show (i : Int).toNat = i by omega, QI (by omega)]
  ·intro kn ke
   simp only [Ql.l0.r]
   rw [Q1c (by omega)]
 rw [l0]
 simp only [Option.bind_some]
 by_cases c1 : ∀ i, i < ins.length → decide ((ins.getD i dIn).2.1.size ≤ 520) = true
 case neg =>
  rw [if_neg c1]
  have : ¬ scOK (v, ins, outs, tm, u) := fun h => c1 fun i hi => decide_eq_true (h.1 i hi)
  unfold encS
  rw [if_neg this]
 rw [if_pos c1]
 dsimp only
 have l1 : Ql.l1 k k (outs, (outs.length : Int), (0 : Int), (v, ins, outs, tm, ()), ()) = some (if ∀ i, i < outs.length → decide ((outs.getD i dOut).2.1.size ≤ 520) = true then .inr ((v, ins, outs, tm, ()), ()) else .inl (eb, 100, ())) := by
  refine Q5d (r := Ql.l1.r k) (fun i => (outs, (outs.length : Int), (i : Int), (v, ins, outs, tm, ()), ())) outs.length _ _ (fun i => decide ((outs.getD i dOut).2.1.size ≤ 520)) ?_ ?_ ?_ (by omega)
  ·intro i h hp kn ke
   simp only [Ql.l1.r]
   rw [Q5a]
   have := of_decide_eq_true hp
   rw [QI (by omega), QI (by omega), show (i : Int).toNat = i by omega, Q1c (by omega), i64_in (by omega)]
   rfl
  ·intro i h hp kn ke
   simp only [Ql.l1.r]
   rw [Q5a]
   have := of_decide_eq_false hp
   rw [QI (by omega), QI (by omega), show (i : Int).toNat = i by omega, QI (by omega)]
  ·intro kn ke
   simp only [Ql.l1.r]
   rw [Q1c (by omega)]
 rw [l1]
 simp only [Option.bind_some]
 by_cases c2 : ∀ i, i < outs.length → decide ((outs.getD i dOut).2.1.size ≤ 520) = true
 case neg =>
  rw [if_neg c2]
  have : ¬ scOK (v, ins, outs, tm, u) := fun h => c2 fun i hi => decide_eq_true (h.2 i hi)
  unfold encS
  rw [if_neg this]
 rw [if_pos c2]
 dsimp only
 have hs : scOK (v, ins, outs, tm, u) := ⟨fun i h => of_decide_eq_true (c1 i h), fun i h => of_decide_eq_true (c2 i h)⟩
 have hbd := Q8a ht hs
 show (Q0t k (v, ins, outs, tm, u)).bind _ = _
 rw [Qb7 ht hbd hk]
 simp only [Option.bind_some]
 unfold encS
 rw [if_pos hs]
 by_cases c3 : (encL (v, ins, outs, tm, u)).length > 4096
 ·rw [QI (by omega), if_pos c3]
 ·rw [Q1c (by omega), if_neg c3]
  have hlen : (encL (v, ins, outs, tm, u)).length = 4 + (Q1K (ins.length : Int)).length + (cat Q1M dIn ins ins.length).length + (Q1K (outs.length : Int)).length + (cat Q1G dOut outs outs.length).length + 4 := Q3O (v, ins, outs, tm, u)
  rw [show Q0C k = some ((((), ((), ())), ()), [], ()) from rfl]
  simp only [Option.bind_some]
  rw [wu32 (by omega) hv (by simp), List.nil_append]
  simp only [Option.bind_some]
  rw [u64_in (n := (ins.length : Int)) (by omega), wcnt (by omega) _ (by rw [Q0B]; omega)]
  simp only [Option.bind_some]
  have l2 : Ql.l2 k k (ins, (ins.length : Int), (0 : Int), (v, ins, outs, tm, ()), (((), ((), ())), ()), lowI v 4 ++ Q1K (ins.length : Int), ()) =
    some ((v, ins, outs, tm, ()), (((), ((), ())), ()), lowI v 4 ++ Q1K (ins.length : Int) ++ cat Q1M dIn ins ins.length, ()) := by
   have := Q1r (r := Ql.l2.r k) (fun i => (ins, (ins.length : Int), (i : Int), (v, ins, outs, tm, ()), (((), ((), ())), ()), lowI v 4 ++ Q1K (ins.length : Int) ++ cat Q1M dIn ins i, ())) ins.length
    ((v, ins, outs, tm, ()), (((), ((), ())), ()), lowI v 4 ++ Q1K (ins.length : Int) ++ cat Q1M dIn ins ins.length, ()) ?_ ?_ (fuel := k) (by omega)
   ·rw [cat, List.append_nil] at this
    exact this
   ·intro i h kn ke
    simp only [Ql.l2.r]
    rw [QbJ]
    have m := Q33 Q1M dIn ins (i := i + 1) (n := ins.length) (by omega)
    rw [cat, List.length_append] at m
    have ok := hi i h
    have e := Q2X ok
    have e2 := Q1S ((ins.getD i dIn).2.1.size : Int)
    have hl : (lowI v 4 ++ Q1K (ins.length : Int) ++ cat Q1M dIn ins i).length ≤ 4096 := by simp only [List.length_append, Q0B]; omega
    rw [QI (by omega), QI (by omega), show (i : Int).toNat = i by omega]
    generalize hP : lowI v 4 ++ Q1K (ins.length : Int) ++ cat Q1M dIn ins i = P at *
    rw [Qd2 k ok.1 (by omega)]
    simp only [Option.bind_some]
    rw [wu32 (by omega) ok.2.1 (by rw [List.length_append, List.length_take]; omega)]
    simp only [Option.bind_some]
    rw [wstr (by omega) _ (by simp only [List.length_append, List.length_take, Q0B]; omega)]
    simp only [Option.bind_some]
    have := Q41 (ins.getD i dIn).2.1
    rw [wu32 (by omega) ok.2.2 (by simp only [List.length_append, List.length_take, Q0B]; omega)]
    simp only [Option.bind_some]
    rw [i64_in (by omega)]
    have e4 : P ++ (ins.getD i dIn).1.1.take 32 ++ lowI (ins.getD i dIn).1.2.1 4 ++ Q40 (ins.getD i dIn).2.1 ++ lowI (ins.getD i dIn).2.2.1 4 = lowI v 4 ++ Q1K (ins.length : Int) ++ cat Q1M dIn ins (i + 1) := by
     rw [cat, ← List.append_assoc, hP]
     unfold Q1M
     simp only [List.append_assoc]
    rw [e4]
    rfl
   ·intro kn ke
    simp only [Ql.l2.r]
    rw [Q1c (by omega)]
  rw [l2]
  simp only [Option.bind_some]
  rw [u64_in (n := (outs.length : Int)) (by omega), wcnt (by omega) _ (by simp only [List.length_append, Q0B]; omega)]
  simp only [Option.bind_some]
  generalize hQ : lowI v 4 ++ Q1K (ins.length : Int) ++ cat Q1M dIn ins ins.length ++ Q1K (outs.length : Int) = Q
  have hQl : Q.length = 4 + (Q1K (ins.length : Int)).length + (cat Q1M dIn ins ins.length).length + (Q1K (outs.length : Int)).length := by rw [← hQ]; simp only [List.length_append, Q0B]
  have l3 : Ql.l3 k k (outs, (outs.length : Int), (0 : Int), (v, ins, outs, tm, ()), (((), ((), ())), ()), Q, ()) = some ((v, ins, outs, tm, ()), (((), ((), ())), ()), Q ++ cat Q1G dOut outs outs.length, ()) := by
   have := Q1r (r := Ql.l3.r k) (fun i => (outs, (outs.length : Int), (i : Int), (v, ins, outs, tm, ()), (((), ((), ())), ()), Q ++ cat Q1G dOut outs i, ())) outs.length
    ((v, ins, outs, tm, ()), (((), ((), ())), ()), Q ++ cat Q1G dOut outs outs.length, ()) ?_ ?_ (fuel := k) (by omega)
   ·rw [cat, List.append_nil] at this
    exact this
   ·intro i h kn ke
    simp only [Ql.l3.r]
    rw [Q5a]
    have m := Q33 Q1G dOut outs (i := i + 1) (n := outs.length) (by omega)
    rw [cat, List.length_append] at m
    have e := Q2F (outs.getD i dOut)
    have e2 := Q1S ((outs.getD i dOut).2.1.size : Int)
    have hl : (Q ++ cat Q1G dOut outs i).length ≤ 4096 := by rw [List.length_append]; omega
    rw [QI (by omega), QI (by omega), show (i : Int).toNat = i by omega]
    generalize hP : Q ++ cat Q1G dOut outs i = P at *
    rw [wu64 (by omega) _ (by omega)]
    simp only [Option.bind_some]
    rw [wstr (by omega) _ (by simp only [List.length_append, Q0B]; omega)]
    simp only [Option.bind_some]
    rw [i64_in (by omega)]
    have e4 : P ++ lowI (outs.getD i dOut).1 8 ++ Q40 (outs.getD i dOut).2.1 = Q ++ cat Q1G dOut outs (i + 1) := by
     rw [cat, ← List.append_assoc, hP]
     unfold Q1G
     simp only [List.append_assoc]
    rw [e4]
    rfl
   ·intro kn ke
    simp only [Ql.l3.r]
    rw [Q1c (by omega)]
  rw [l3]
  simp only [Option.bind_some]
  rw [wu32 (by omega) htm (by rw [List.length_append]; omega)]
  simp only [Option.bind_some]
  have e5 : Q ++ cat Q1G dOut outs outs.length ++ lowI tm 4 = encL (v, ins, outs, tm, u) := by rw [← hQ]; rfl
  rw [e5]
  unfold Q06 Q06.c
  rw [Q19 (Q1J (by omega))]
  rfl
theorem Qf8 {α β : Type} (f : α → β) (l : List α) (d : α) {i : Nat} (h : i < l.length) : (l.take i).map f ++ [f (l.getD i d)] = (l.take (i + 1)).map f := by
 rw [List.take_add_one, List.getD_eq_getElem?_getD, List.getElem?_eq_getElem h, Option.toList_some, List.map_append]
 rfl
theorem Qf5 (s t : ByteArray) : Q32 s t = decide (s = t) := by
 by_cases h : s = t
 ·rw [h, Q7S, decide_eq_true rfl]
 ·rw [Qam h, decide_eq_false h]
theorem Qfj {α : Type} [DecidableEq α] (d : α) {a b : List α} (h : a.length = b.length) : (∀ i, i < a.length → decide (a.getD i d = b.getD i d) = true) ↔ a = b := by
 constructor
 ·intro h2
  apply List.ext_getElem h
  intro i h3 h4
  have := of_decide_eq_true (h2 i h3)
  rw [List.getD_eq_getElem?_getD, List.getD_eq_getElem?_getD, List.getElem?_eq_getElem h3, List.getElem?_eq_getElem h4] at this
  exact this
 ·rintro rfl i _
  exact decide_eq_true rfl
abbrev dR : RIn := (List.replicate 32 (0 : Int), 0, ByteArray.empty, 0, ())
theorem QdQ : (List.replicate 32 (0 : Int), (0 : Int), ByteArray.empty, (0 : Int), ()) = dR := rfl
theorem Q8P {l : List TIn} {i : Nat} (h : i < l.length) : (l.map gIn).getD i dR = gIn (l.getD i dIn) := by
 rw [List.getD_eq_getElem?_getD, List.getD_eq_getElem?_getD, List.getElem?_map, List.getElem?_eq_getElem h]
 rfl
theorem Q7X {k : Nat} {t : TTx} (ht : TxOK t) (hb : (encL t).length ≤ 4611686018427387904) (hk : t.2.1.length + t.2.2.1.length + 20 ≤ k) : Q7 k (gTx t) = some (bytesOf (encL t), ()) := by
 obtain ⟨v, ins, outs, tm, u⟩ := t
 obtain ⟨hv, htm, hi, ho, hni, hno⟩ := ht
 dsimp only at hv htm hi ho hni hno hk
 have hlen := Q3O (v, ins, outs, tm, u)
 dsimp only at hlen
 have hv1 := hv.1
 have hv2 := hv.2
 have ht1 := htm.1
 have ht2 := htm.2
 unfold Q7 Q7.c
 show (Qr k (IntKind.u64.wrap v) ((4 : Nat) : Int)).bind _ = _
 rw [u64_in (n := v) (by omega), Q28 (by omega) v (by omega) 4 (by omega)]
 simp only [Option.bind_some]
 rw [show (gTx (v, ins, outs, tm, u)).2.1 = ins.map gIn from rfl, List.length_map, u64_in (n := (ins.length : Int)) (by omega), Q39 (by omega) _ (by omega)]
 simp only [Option.bind_some]
 rw [Q19 (Q1J (by rw [Q0N, Q0N, Q0B]; omega)), Q1g]
 generalize hP : lowI v 4 ++ Q1K (ins.length : Int) = P
 have hPl : P.length = 4 + (Q1K (ins.length : Int)).length := by rw [← hP, List.length_append, Q0B]
 have l0 : Q7.l0 k k (bytesOf P, ins.map gIn, (ins.length : Int), (0 : Int), (v, ins.map gIn, outs, tm, ()), ()) = some (bytesOf (P ++ cat Q1M dIn ins ins.length), (v, ins.map gIn, outs, tm, ()), ()) := by
  have := Q1r (r := Q7.l0.r k) (fun i => (bytesOf (P ++ cat Q1M dIn ins i), ins.map gIn, (ins.length : Int), (i : Int), (v, ins.map gIn, outs, tm, ()), ())) ins.length
   (bytesOf (P ++ cat Q1M dIn ins ins.length), (v, ins.map gIn, outs, tm, ()), ()) ?_ ?_ (fuel := k) (by omega)
  ·rw [cat, List.append_nil] at this
   exact this
  ·intro i h kn ke
   simp only [Q7.l0.r]
   have m := Q33 Q1M dIn ins (i := i + 1) (n := ins.length) (by omega)
   rw [cat, List.length_append] at m
   have ok := hi i h
   have e := Q2X ok
   have e2 := Q1S ((ins.getD i dIn).2.1.size : Int)
   have e3 := Q2r ((ins.getD i dIn).2.1.size : Int)
   rw [QI (by omega), QI (by rw [List.length_map]; omega), show (i : Int).toNat = i by omega, QdQ, Q8P h]
   generalize hx : ins.getD i dIn = y at m ok e e2 e3 ⊢
   obtain ⟨⟨hash, idx, u0⟩, key, sq, u1⟩ := y
   obtain ⟨⟨q1, q2⟩, q3, q4⟩ := ok
   dsimp only [gIn] at q1 q2 q3 q4 e e2 e3 ⊢
   have a1 := q3.1
   have a2 := q3.2
   have a3 := q4.1
   have a4 := q4.2
   have hs : (bytesOf (P ++ cat Q1M dIn ins i)).size = P.length + (cat Q1M dIn ins i).length := by rw [Q0N, List.length_append]
   have ht32 : (hash.take 32).length = 32 := by rw [List.length_take]; omega
   rw [List.drop_zero, u64_in (n := idx) (by omega), show (4 : Int) = ((4 : Nat) : Int) from rfl, Q28 (by omega) idx (by omega) 4 (by omega)]
   simp only [Option.bind_some]
   rw [Q19 (Q1J (by rw [Q0N, Q0N, Q0B, ht32]; omega)), Q1g, u64_in (n := (key.size : Int)) (by omega), Q39 (by omega) _ (by omega)]
   simp only [Option.bind_some]
   rw [Q19 (Q1J (by rw [Q0N, Q0N, List.length_append, Q0B, ht32]; omega)), Q1g]
   rw [Q19 (Q1J (by rw [Q0N, List.length_append, List.length_append, Q0B, ht32]; omega)), show key = bytesOf (QQ key) from (Q2I key).symm, Q1g, u64_in (n := sq) (by omega), Q28 (by omega) sq (by omega) 4 (by omega)]
   simp only [Option.bind_some, Q2I]
   have hz := Q1i key
   rw [Q19 (Q1J (by simp only [Q0N, List.length_append, Q0B, ht32]; omega)), Q1g]
   rw [Q19 (Q1J (by simp only [Q0N, List.length_append, Q0B, ht32]; omega)), Q1g, i64_in (by omega)]
   have e4 : P ++ cat Q1M dIn ins i ++ (hash.take 32 ++ lowI idx 4 ++ Q1K (key.size : Int) ++ QQ key ++ lowI sq 4) = P ++ cat Q1M dIn ins (i + 1) := by
    rw [cat, hx]
    unfold Q1M Q40
    simp only [List.append_assoc]
   rw [e4]
   rfl
  ·intro kn ke
   simp only [Q7.l0.r]
   rw [Q1c (by omega)]
 show (Q7.l0 k k (bytesOf P, ins.map gIn, (ins.length : Int), (0 : Int), (v, ins.map gIn, outs, tm, ()), ())).bind _ = _
 rw [l0]
 simp only [Option.bind_some]
 rw [u64_in (n := (outs.length : Int)) (by omega), Q39 (by omega) _ (by omega)]
 simp only [Option.bind_some]
 rw [Q19 (Q1J (by simp only [Q0N, List.length_append]; omega)), Q1g]
 generalize hQ : P ++ cat Q1M dIn ins ins.length ++ Q1K (outs.length : Int) = Q
 have hQl : Q.length = P.length + (cat Q1M dIn ins ins.length).length + (Q1K (outs.length : Int)).length := by rw [← hQ, List.length_append, List.length_append]
 have l1 : Q7.l1 k k (bytesOf Q, outs, (outs.length : Int), (0 : Int), (v, ins.map gIn, outs, tm, ()), ()) = some (bytesOf (Q ++ cat Q1G dOut outs outs.length), (v, ins.map gIn, outs, tm, ()), ()) := by
  have := Q1r (r := Q7.l1.r k) (fun i => (bytesOf (Q ++ cat Q1G dOut outs i), outs, (outs.length : Int), (i : Int), (v, ins.map gIn, outs, tm, ()), ())) outs.length
   (bytesOf (Q ++ cat Q1G dOut outs outs.length), (v, ins.map gIn, outs, tm, ()), ()) ?_ ?_ (fuel := k) (by omega)
  ·rw [cat, List.append_nil] at this
   exact this
  ·intro i h kn ke
   simp only [Q7.l1.r]
   have m := Q33 Q1G dOut outs (i := i + 1) (n := outs.length) (by omega)
   rw [cat, List.length_append] at m
   have ok := ho i h
   have e := Q2F (outs.getD i dOut)
   have e2 := Q1S ((outs.getD i dOut).2.1.size : Int)
   have e3 := Q2r ((outs.getD i dOut).2.1.size : Int)
   rw [QI (by omega), QI (by omega), show (i : Int).toNat = i by omega, Q5a]
   generalize hx : outs.getD i dOut = y at m ok e e2 e3 ⊢
   obtain ⟨val, lock, u1⟩ := y
   obtain ⟨q1, q2⟩ := ok
   dsimp only at q1 q2 e e2 e3 ⊢
   have hs : (bytesOf (Q ++ cat Q1G dOut outs i)).size = Q.length + (cat Q1G dOut outs i).length := by rw [Q0N, List.length_append]
   have hz := Q1i lock
   rw [show (8 : Int) = ((8 : Nat) : Int) from rfl, Q28 (by omega) val (by omega) 8 (by omega)]
   simp only [Option.bind_some]
   rw [u64_in (n := (lock.size : Int)) (by omega), Q39 (by omega) _ (by omega)]
   simp only [Option.bind_some]
   rw [Q19 (Q1J (by simp only [Q0N, Q0B]; omega)), Q1g]
   rw [Q19 (Q1J (by simp only [Q0N, List.length_append, Q0B]; omega)), show lock = bytesOf (QQ lock) from (Q2I lock).symm, Q1g]
   simp only [Q2I]
   rw [Q19 (Q1J (by simp only [Q0N, List.length_append, Q0B]; omega)), Q1g, i64_in (by omega)]
   have e4 : Q ++ cat Q1G dOut outs i ++ (lowI val 8 ++ Q1K (lock.size : Int) ++ QQ lock) = Q ++ cat Q1G dOut outs (i + 1) := by
    rw [cat, hx]
    unfold Q1G Q40
    simp only [List.append_assoc]
   rw [e4]
   rfl
  ·intro kn ke
   simp only [Q7.l1.r]
   rw [Q1c (by omega)]
 show (Q7.l1 k k (bytesOf Q, outs, (outs.length : Int), (0 : Int), (v, ins.map gIn, outs, tm, ()), ())).bind _ = _
 rw [l1]
 simp only [Option.bind_some]
 rw [u64_in (n := tm) (by omega), show (4 : Int) = ((4 : Nat) : Int) from rfl, Q28 (by omega) tm (by omega) 4 (by omega)]
 simp only [Option.bind_some]
 rw [Q19 (Q1J (by simp only [Q0N, List.length_append, Q0B]; omega)), Q1g]
 have e5 : Q ++ cat Q1G dOut outs outs.length ++ lowI tm 4 = encL (v, ins, outs, tm, u) := by rw [← hQ, ← hP]; rfl
 rw [e5]
theorem QdV {k : Nat} {t : TTx} (ht : TxOK t) (hk : t.2.1.length + t.2.2.1.length + 20 ≤ k) : Qb k (gTx t) = some ((encS t).2, ()) := by
 obtain ⟨v, ins, outs, tm, u⟩ := t
 have ht' := ht
 obtain ⟨hv, htm, hi, ho, hni, hno⟩ := ht'
 dsimp only at hv htm hi ho hni hno hk
 unfold Qb Qb.c
 have l0 : Qb.l0 k k (ins.map gIn, (ins.length : Int), (0 : Int), (v, ins.map gIn, outs, tm, ()), ()) = some (if ∀ i, i < ins.length → decide ((ins.getD i dIn).2.1.size ≤ 520) = true then .inr ((v, ins.map gIn, outs, tm, ()), ()) else .inl (100, ())) := by
  refine Q5d (r := Qb.l0.r k) (fun i => (ins.map gIn, (ins.length : Int), (i : Int), (v, ins.map gIn, outs, tm, ()), ())) ins.length _ _ (fun i => decide ((ins.getD i dIn).2.1.size ≤ 520)) ?_ ?_ ?_ (by omega)
  ·intro i h hp kn ke
   simp only [Qb.l0.r]
   have hq := of_decide_eq_true hp
   rw [QI (by omega), QI (by rw [List.length_map]; omega), show (i : Int).toNat = i by omega, QdQ, Q8P h]
   rw [Q1c (show ¬ ((((gIn (ins.getD i dIn)).2.2.1.size : Nat) : Int) > 520) by show ¬ (((ins.getD i dIn).2.1.size : Nat) : Int) > 520; omega), i64_in (by omega)]
   rfl
  ·intro i h hp kn ke
   simp only [Qb.l0.r]
   have hq := of_decide_eq_false hp
   rw [QI (by omega), QI (by rw [List.length_map]; omega), show (i : Int).toNat = i by omega, QdQ, Q8P h]
   rw [QI (show ((((gIn (ins.getD i dIn)).2.2.1.size : Nat) : Int) > 520) by show (((ins.getD i dIn).2.1.size : Nat) : Int) > 520; omega)]
  ·intro kn ke
   simp only [Qb.l0.r]
   rw [Q1c (by omega)]
 rw [show (gTx (v, ins, outs, tm, u)).2.1 = ins.map gIn from rfl]
 dsimp only
 rw [List.length_map]
 show (Qb.l0 k k (ins.map gIn, (ins.length : Int), (0 : Int), (v, ins.map gIn, outs, tm, ()), ())).bind _ = _
 rw [l0]
 simp only [Option.bind_some]
 by_cases c1 : ∀ i, i < ins.length → decide ((ins.getD i dIn).2.1.size ≤ 520) = true
 case neg =>
  rw [if_neg c1]
  have : ¬ scOK (v, ins, outs, tm, u) := fun h => c1 fun i hi => decide_eq_true (h.1 i hi)
  unfold encS
  rw [if_neg this]
 rw [if_pos c1]
 dsimp only
 have l1 : Qb.l1 k k (outs, (outs.length : Int), (0 : Int), (v, ins.map gIn, outs, tm, ()), ()) = some (if ∀ i, i < outs.length → decide ((outs.getD i dOut).2.1.size ≤ 520) = true then .inr ((v, ins.map gIn, outs, tm, ()), ()) else .inl (100, ())) := by
  refine Q5d (r := Qb.l1.r k) (fun i => (outs, (outs.length : Int), (i : Int), (v, ins.map gIn, outs, tm, ()), ())) outs.length _ _ (fun i => decide ((outs.getD i dOut).2.1.size ≤ 520)) ?_ ?_ ?_ (by omega)
  ·intro i h hp kn ke
   simp only [Qb.l1.r]
   have hq := of_decide_eq_true hp
   rw [Q5a, QI (by omega), QI (by omega), show (i : Int).toNat = i by omega, Q1c (by omega), i64_in (by omega)]
   rfl
  ·intro i h hp kn ke
   simp only [Qb.l1.r]
   have hq := of_decide_eq_false hp
   rw [Q5a, QI (by omega), QI (by omega), show (i : Int).toNat = i by omega, QI (by omega)]
  ·intro kn ke
   simp only [Qb.l1.r]
   rw [Q1c (by omega)]
 rw [l1]
 simp only [Option.bind_some]
 by_cases c2 : ∀ i, i < outs.length → decide ((outs.getD i dOut).2.1.size ≤ 520) = true
 case neg =>
  rw [if_neg c2]
  have : ¬ scOK (v, ins, outs, tm, u) := fun h => c2 fun i hi => decide_eq_true (h.2 i hi)
  unfold encS
  rw [if_neg this]
 rw [if_pos c2]
 dsimp only
 have hs : scOK (v, ins, outs, tm, u) := ⟨fun i h => of_decide_eq_true (c1 i h), fun i h => of_decide_eq_true (c2 i h)⟩
 have hbd := Q8a ht hs
 show (Q7 k (gTx (v, ins, outs, tm, u))).bind _ = _
 rw [Q7X ht hbd hk]
 simp only [Option.bind_some]
 unfold encS
 rw [if_pos hs, Q0N]
 by_cases c3 : (encL (v, ins, outs, tm, u)).length > 4096
 ·rw [QI (by omega), if_pos c3]
 ·rw [Q1c (by omega), if_neg c3]
def idS (t : TTx) : List Int := if (encS t).2 ≠ 0 then List.replicate 32 0 else sumL (sumL (encL t))
theorem QeN (t : TTx) : (encS t).1.size ≤ 4096 := by
 unfold encS
 split
 ·split
  ·exact Nat.zero_le _
  ·rw [Q0N]; omega
 ·exact Nat.zero_le _
theorem Qds {t : TTx} (h : (encS t).2 = 0) : scOK t ∧ (encL t).length ≤ 4096 ∧ (encS t).1 = bytesOf (encL t) := by
 unfold encS at h ⊢
 by_cases c : scOK t
 ·rw [if_pos c] at h ⊢
  by_cases c2 : (encL t).length > 4096
  ·rw [if_pos c2] at h; simp at h
  ·rw [if_neg c2]
   exact ⟨c, by omega, rfl⟩
 ·rw [if_neg c] at h; simp at h
theorem Qfa {t : TTx} (h : (encS t).2 ≠ 0) : (encS t).1 = eb := by
 unfold encS at h ⊢
 by_cases c : scOK t
 ·rw [if_pos c] at h ⊢
  by_cases c2 : (encL t).length > 4096
  ·rw [if_pos c2]
  ·rw [if_neg c2] at h; exact absurd rfl h
 ·rw [if_neg c]
theorem Qfc {k : Nat} {t : TTx} (ht : TxOK t) (hk : t.2.1.length + t.2.2.1.length + 300 ≤ k) : Q26 k t = some (idS t, (encS t).2, ()) := by
 unfold Q26 Q26.c
 show (Ql k t).bind _ = _
 rw [Q9Q ht (by omega)]
 simp only [Option.bind_some]
 unfold idS
 by_cases c : (encS t).2 ≠ 0
 ·rw [Q19 (by simpa using c), if_pos c]
 ·have c' : (encS t).2 = 0 := by simpa using c
  obtain ⟨_, h2, h3⟩ := Qds c'
  rw [Q3V (by simpa using c), if_neg c, h3, Q6n (by omega) (by rw [Q0N]; omega) (by rw [Q0N]; omega), Q1Q (Qej ht), c']
  rfl
end Go.Am
