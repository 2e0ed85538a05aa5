/- A part of a proof: a machine of abstract values that tells what functions of the program compute, and the plain facts on them. -/
import Derived.Test.YtnibopdcpbebcaaGreatAm14
import Derived.KernelRfl
set_option linter.unusedVariables false
set_option linter.unusedSimpArgs false
set_option linter.unnecessarySimpa false
set_option linter.unusedSectionVars false
namespace Go.Am
open Go
abbrev eb : ByteArray := ⟨List.toArray []⟩
theorem Q2s {k : Nat} (hk : 9 ≤ k) (n : Int) (hn : 0 ≤ n ∧ n ≤ 18446744073709551615) (b : Nat) (hb : b ≤ 8) : Qu k n (b : Int) = some (bytesOf (lowI n b), ()) := by
 unfold Qu Qu.c
 have hl : Qu.l0 k k (n, (b : Int), (0 : Int), List.replicate 0 (0 : Int), ()) = some (lowI n b, ()) := by
  have := Q1w (r := Qu.l0.r k) (fun i => (n / 256 ^ i, (b : Int), (i : Int), lowI n i, ())) b (lowI n b, ()) ?_ ?_ (fuel := k) (by omega)
  ·rw [Int.pow_zero, Int.ediv_one] at this
   exact this
  ·intro i hi kn ke
   simp only [Qu.l0.r]
   have hp : (0 : Int) < 256 ^ i := Int.pow_pos (by decide)
   have h0 : 0 ≤ n / 256 ^ i := Int.ediv_nonneg hn.1 (Int.le_of_lt hp)
   have h1 : n / 256 ^ i ≤ n := Int.ediv_le_self _ hn.1
   have hll := Q0k n i
   rw [Qy (by omega), Int.tmod_eq_emod_of_nonneg h0, Int.tdiv_eq_ediv_of_nonneg h0]
   have e1 : (List.set (List.replicate 1 (0 : Int)) 0 (IntKind.u8.wrap (n / 256 ^ i % 256))) = [n / 256 ^ i % 256] := by rw [u8_in (by omega)]; rfl
   rw [e1, QX (Q1I (by simp only [List.length_singleton]; omega)), ← Q7l, u64_in (by omega), i64_in (by omega)]
   rw [show n / 256 ^ i / 256 = n / 256 ^ (i + 1) by rw [Int.pow_succ, Int.ediv_ediv_of_nonneg (Int.le_of_lt hp)]]
   rfl
  ·intro kn ke
   simp only [Qu.l0.r]
   rw [Q0Z (by omega)]
 rw [hl]
 rfl
theorem Q31 {k : Nat} (hk : 9 ≤ k) (n : Int) (hn : 0 ≤ n ∧ n ≤ 18446744073709551615) : Q04 k n = some (bytesOf (Q1q n), ()) := by
 unfold Q04 Q04.c Q1q
 have l1 := Q2s hk n hn 1 (by omega)
 have l2 := Q2s hk n hn 2 (by omega)
 have l4 := Q2s hk n hn 4 (by omega)
 have l8 := Q2s hk n hn 8 (by omega)
 by_cases h1 : n < 253
 ·rw [Qy h1, if_pos h1, show (1 : Int) = ((1 : Nat) : Int) from rfl, l1]; rfl
 ·rw [Q0Z h1, if_neg h1]
  by_cases h2 : n < 65536
  ·rw [Qy h2, if_pos h2, show (2 : Int) = ((2 : Nat) : Int) from rfl, l2]
   simp only [Option.bind_some]
   rw [QX (Q1I (by rw [Q0d, Q0k]; omega)), show (⟨(List.toArray [253])⟩ : ByteArray) = bytesOf [253] from rfl, Q11]
   rfl
  ·rw [Q0Z h2, if_neg h2]
   by_cases h3 : n < 4294967296
   ·rw [Qy h3, if_pos h3, show (4 : Int) = ((4 : Nat) : Int) from rfl, l4]
    simp only [Option.bind_some]
    rw [QX (Q1I (by rw [Q0d, Q0k]; omega)), show (⟨(List.toArray [254])⟩ : ByteArray) = bytesOf [254] from rfl, Q11]
    rfl
   ·rw [Q0Z h3, if_neg h3, show (8 : Int) = ((8 : Nat) : Int) from rfl, l8]
    simp only [Option.bind_some]
    rw [QX (Q1I (by rw [Q0d, Q0k]; omega)), show (⟨(List.toArray [255])⟩ : ByteArray) = bytesOf [255] from rfl, Q11]
    rfl
abbrev TIn : Type := (List Int × Int × Unit) × ByteArray × Int × Unit
abbrev TOut : Type := Int × ByteArray × Unit
abbrev RIn : Type := List Int × Int × ByteArray × Int × Unit
abbrev TTx : Type := Int × List TIn × List TOut × Int × Unit
abbrev RTx : Type := Int × List RIn × List TOut × Int × Unit
def gIn (x : TIn) : RIn := (x.1.1, x.1.2.1, x.2.1, x.2.2.1, ())
def gTx (t : TTx) : RTx := (t.1, t.2.1.map gIn, t.2.2.1, t.2.2.2.1, ())
theorem Q3L {σ τ : Type} {r : {ρ : Type} → σ → (σ → Option ρ) → (τ → Option ρ) → Option ρ} (S : Nat → σ) (n : Nat) (T U : τ) (p : Nat → Bool)
  (hgood : ∀ i, i < n → p i = true → ∀ (kn : σ → Option τ) (ke : τ → Option τ), r (S i) kn ke = kn (S (i + 1)))
  (hbad : ∀ i, i < n → p i = false → ∀ (kn : σ → Option τ) (ke : τ → Option τ), r (S i) kn ke = ke U)
  (hend : ∀ (kn : σ → Option τ) (ke : τ → Option τ), r (S n) kn ke = ke T) {fuel : Nat} (hf : n < fuel) :
  Q15 r fuel (S 0) = some (if ∀ i, i < n → p i = true then T else U) := by
 have key : ∀ (d i fuel : Nat), i + d = n → d < fuel → (∀ j, j < i → p j = true) → Q15 r fuel (S i) = some (if ∀ j, j < n → p j = true then T else U) := by
  intro d
  induction d with
  | zero =>
   intro i fuel hi hf hp
   cases fuel with
   | zero => omega
   | succ fuel =>
    have : i = n := by omega
    subst this
    rw [if_pos hp]
    exact hend _ _
  | succ d ih =>
   intro i fuel hi hf hp
   cases fuel with
   | zero => omega
   | succ fuel =>
    show r (S i) (Q15 r fuel) some = _
    cases hc : p i with
    | true =>
     rw [hgood i (by omega) hc]
     refine ih (i + 1) fuel (by omega) (by omega) fun j hj => ?_
     by_cases hji : j = i
     ·rw [hji]; exact hc
     ·exact hp j (by omega)
    | false =>
     rw [hbad i (by omega) hc, if_neg (fun h => by have := h i (by omega); rw [hc] at this; cases this)]
 exact key n 0 fuel (by omega) hf fun j hj => absurd hj (Nat.not_lt_zero j)
def cat {α : Type} (f : α → List Int) (d : α) (l : List α) : Nat → List Int
 | 0 => []
 | i + 1 => cat f d l i ++ f (l.getD i d)
theorem Qes {α : Type} (f : α → List Int) (d : α) (l : List α) : ∀ i, i ≤ l.length → cat f d l i = ((l.take i).map f).flatten
 | 0, _ => rfl
 | i + 1, h => by
  rw [cat, Qes f d l i (by omega), List.take_add_one, List.getD_eq_getElem?_getD, List.getElem?_eq_getElem (by omega), Option.toList_some, List.map_append, List.flatten_append]
  simp only [List.map_cons, List.map_nil, List.flatten_cons, List.flatten_nil, List.append_nil, Option.getD_some]
theorem Q5P {α : Type} (f : α → List Int) (d : α) (l : List α) : cat f d l l.length = (l.map f).flatten := by
 rw [Qes f d l _ (Nat.le_refl _), List.take_length]
theorem Q3E {α : Type} (f : α → List Int) (d : α) (l : List α) : ∀ {i n : Nat}, i ≤ n → (cat f d l i).length ≤ (cat f d l n).length
 | i, 0, h => by rw [show i = 0 by omega]; exact Nat.le_refl _
 | i, n + 1, h => by
  rcases Nat.lt_or_ge i (n + 1) with g | g
  ·have := Q3E f d l (i := i) (n := n) (by omega)
   rw [cat, List.length_append]; omega
  ·rw [show i = n + 1 by omega]; exact Nat.le_refl _
theorem Qd2 {α : Type} {f : α → List Int} {d : α} {l : List α} : ∀ i, (∀ j, j < i → Q1y (f (l.getD j d))) → Q1y (cat f d l i)
 | 0, _ => fun x hx => by simp [cat] at hx
 | i + 1, h => bytesIn_append' (Qd2 i fun j hj => h j (by omega)) (h i (by omega))
where bytesIn_append' {a b : List Int} (ha : Q1y a) (hb : Q1y b) : Q1y (a ++ b) := fun x hx => (List.mem_append.1 hx).elim (ha x) (hb x)
theorem Q9f {α : Type} {f : α → List Int} {d : α} {l : List α} {m : Nat} (h : ∀ x, m ≤ (f x).length) : ∀ i, m * i ≤ (cat f d l i).length
 | 0 => Nat.zero_le _
 | i + 1 => by
  have h1 := Q9f (d := d) (l := l) h i
  have h2 := h (l.getD i d)
  rw [cat, List.length_append, Nat.mul_add]; omega
abbrev dIn : TIn := ((List.replicate 32 (0 : Int), 0, ()), ByteArray.empty, 0, ())
abbrev dOut : TOut := (0, ByteArray.empty, ())
theorem Q7D : ((List.replicate 32 (0 : Int), (0 : Int), ()), ByteArray.empty, (0 : Int), ()) = dIn := rfl
theorem Q43 : ((0 : Int), ByteArray.empty, ()) = dOut := rfl
def Q3A (s : ByteArray) : List Int := Q1q (s.size : Int) ++ Qq s
def Q1S (x : TIn) : List Int := x.1.1.take 32 ++ lowI x.1.2.1 4 ++ Q3A x.2.1 ++ lowI x.2.2.1 4
def Q1H (x : TOut) : List Int := lowI x.1 8 ++ Q3A x.2.1
abbrev Q6x (t : TTx) : Nat → List Int := cat Q1S dIn t.2.1
abbrev Q55 (t : TTx) : Nat → List Int := cat Q1H dOut t.2.2.1
def encL (t : TTx) : List Int := lowI t.1 4 ++ Q1q (t.2.1.length : Int) ++ Q6x t t.2.1.length ++ Q1q (t.2.2.1.length : Int) ++ Q55 t t.2.2.1.length ++ lowI t.2.2.2.1 4
def u32R (n : Int) : Prop := 0 ≤ n ∧ n ≤ 4294967295
def InOK (x : TIn) : Prop := (x.1.1.length = 32 ∧ Q1y x.1.1) ∧ u32R x.1.2.1 ∧ u32R x.2.2.1
def Qaf (x : TOut) : Prop := 0 ≤ x.1 ∧ x.1 ≤ 18446744073709551615
structure TxOK (t : TTx) : Prop where
 v : u32R t.1
 tm : u32R t.2.2.2.1
 ins : ∀ i, i < t.2.1.length → InOK (t.2.1.getD i dIn)
 outs : ∀ i, i < t.2.2.1.length → Qaf (t.2.2.1.getD i dOut)
 nin : t.2.1.length ≤ 140737488355328
 nout : t.2.2.1.length ≤ 140737488355328
theorem Qa8 (s : ByteArray) : Q1y (Q3A s) := fun x hx => (List.mem_append.1 hx).elim (Q48 _ x) (Q2i s x)
theorem Q4E (s : ByteArray) : ((Q3A s).length : Int) = Q1J (s.size : Int) + s.size := by
 unfold Q3A
 rw [List.length_append, Q0b, Int.natCast_add, Q1W]
theorem QeR {x : TIn} (h : InOK x) : Q1y (Q1S x) := by
 unfold Q1S
 intro y hy
 rcases List.mem_append.1 hy with hy | hy
 ·rcases List.mem_append.1 hy with hy | hy
  ·rcases List.mem_append.1 hy with hy | hy
   ·exact h.1.2 y (List.mem_of_mem_take hy)
   ·exact Q3B _ _ y hy
  ·exact Qa8 _ y hy
 ·exact Q3B _ _ y hy
theorem QdL (x : TOut) : Q1y (Q1H x) := by
 intro y hy
 rcases List.mem_append.1 hy with hy | hy
 ·exact Q3B _ _ y hy
 ·exact Qa8 _ y hy
theorem Q38 {x : TIn} (h : InOK x) : ((Q1S x).length : Int) = 40 + (Q1J (x.2.1.size : Int) + x.2.1.size) := by
 unfold Q1S
 have := h.1.1
 simp only [List.length_append, List.length_take, Q0k, Int.natCast_add, Q4E]
 omega
theorem Q2S (x : TOut) : ((Q1H x).length : Int) = 8 + (Q1J (x.2.1.size : Int) + x.2.1.size) := by
 unfold Q1H
 simp only [List.length_append, Q0k, Int.natCast_add, Q4E]
 omega
theorem Q1U (n : Int) : 1 ≤ Q1J n ∧ Q1J n ≤ 9 := by
 unfold Q1J; split <;> (try split) <;> (try split) <;> omega
theorem Q2H (t : TTx) : (encL t).length = 4 + (Q1q (t.2.1.length : Int)).length + (cat Q1S dIn t.2.1 t.2.1.length).length + (Q1q (t.2.2.1.length : Int)).length + (cat Q1H dOut t.2.2.1 t.2.2.1.length).length + 4 := by
 unfold encL Q6x Q55
 simp only [List.length_append, Q0k]
theorem wu32 {k : Nat} (hk : 9 ≤ k) {n : Int} (hn : u32R n) {u} {b1 : List Int} (h : b1.length ≤ 140737488350000) : Q0h k n u b1 = some (u, b1 ++ lowI n 4, ()) := by
 unfold Q0h Q0h.c
 have h1 := hn.1
 have h2 := hn.2
 rw [u64_in (by omega), show (4 : Int) = ((4 : Nat) : Int) from rfl, Q3k hk _ 4 (by omega)]
 simp only [Option.bind_some]
 rw [wrl (Q3B _ _) (by rw [Q0k]; omega)]
 rfl
theorem wcnt {k : Nat} (hk : 9 ≤ k) (n : Int) {u} {b1 : List Int} (h : b1.length ≤ 140737488350000) : Q09 k n u b1 = some (u, b1 ++ Q1q n, ()) := by
 unfold Q09 Q09.c
 rw [QaP hk]
 simp only [Option.bind_some]
 have := Q3P n
 rw [wrl (Q48 _) (by omega)]
 rfl
theorem wstr {k : Nat} (hk : 9 ≤ k) (s : ByteArray) {u} {b1 : List Int} (h : b1.length + s.size ≤ 140737488350000) : Q0o k s u b1 = some (u, b1 ++ Q3A s, ()) := by
 unfold Q0o Q0o.c
 rw [u64_in (by omega)]
 show (Q09 k (s.size : Int) u b1).bind _ = _
 rw [wcnt hk _ (by omega)]
 simp only [Option.bind_some]
 have := Q3P (s.size : Int)
 show (QL k s u (b1 ++ Q1q (s.size : Int))).bind _ = _
 rw [wb (by rw [List.length_append]; omega), List.append_assoc]
 rfl
theorem Qep (k : Nat) {l : List Int} (hl : l.length = 32 ∧ Q1y l) {u} {b1 : List Int} (h : b1.length ≤ 140737488350000) : Q0s k l u b1 = some (u, b1 ++ l.take 32, ()) := by
 unfold Q0s Q0s.c
 rw [List.drop_zero]
 dsimp only
 rw [wrl (fun x hx => hl.2 x (List.mem_of_mem_take hx)) (by rw [List.length_take]; omega)]
 rfl
theorem Q8Q (k : Nat) {n : Nat} (h : n ≤ 4611686018427387904) : Q1Q k (n : Int) = some (Q1J (n : Int) + n, ()) := by
 unfold Q1Q Q1Q.c
 have := Q1U (n : Int)
 rw [u64_in (by omega), Q2u]
 simp only [Option.bind_some]
 rw [i64_in (by omega)]
theorem Q96 {k : Nat} {t : TTx} (ht : TxOK t) (hb : (encL t).length ≤ 4611686018427387904) (hk : t.2.1.length + t.2.2.1.length + 20 ≤ k) : Q0w k t = some (((encL t).length : Int), ()) := by
 obtain ⟨v, ins, outs, tm, u⟩ := t
 obtain ⟨_, _, hi, ho, hni, hno⟩ := ht
 dsimp only at hi ho hni hno hk
 have hlen : ((encL (v, ins, outs, tm, u)).length : Int) = 4 + Q1J (ins.length : Int) + (cat Q1S dIn ins ins.length).length + Q1J (outs.length : Int) + (cat Q1H dOut outs outs.length).length + 4 := by
  have h1 := Q2H (v, ins, outs, tm, u)
  have h2 := Q1W (ins.length : Int)
  have h3 := Q1W (outs.length : Int)
  dsimp only at h1
  omega
 have c1 := Q1U (ins.length : Int)
 have c2 := Q1U (outs.length : Int)
 have si : ∀ i, i < ins.length → (ins.getD i dIn).2.1.size ≤ 4611686018427387904 := by
  intro i h
  have m := Q3E Q1S dIn ins (i := i + 1) (n := ins.length) (by omega)
  rw [cat, List.length_append] at m
  have := Q38 (hi i h)
  have := Q1U ((ins.getD i dIn).2.1.size : Int)
  omega
 have so : ∀ i, i < outs.length → (outs.getD i dOut).2.1.size ≤ 4611686018427387904 := by
  intro i h
  have m := Q3E Q1H dOut outs (i := i + 1) (n := outs.length) (by omega)
  rw [cat, List.length_append] at m
  have := Q2S (outs.getD i dOut)
  have := Q1U ((outs.getD i dOut).2.1.size : Int)
  omega
 unfold Q0w Q0w.c
 dsimp only
 rw [u64_in (n := (ins.length : Int)) (by omega), Q2u]
 simp only [Option.bind_some]
 rw [u64_in (n := (outs.length : Int)) (by omega), Q2u, i64_in (n := 4 + Q1J (ins.length : Int)) (by omega)]
 simp only [Option.bind_some]
 rw [i64_in (n := 4 + Q1J (ins.length : Int) + Q1J (outs.length : Int)) (by omega), i64_in (n := 4 + Q1J (ins.length : Int) + Q1J (outs.length : Int) + 4) (by omega)]
 have l0 : Q0w.l0 k k (4 + Q1J (ins.length : Int) + Q1J (outs.length : Int) + 4, ins, (ins.length : Int), (0 : Int), (v, ins, outs, tm, ()), ()) =
   some (4 + Q1J (ins.length : Int) + Q1J (outs.length : Int) + 4 + (cat Q1S dIn ins ins.length).length, (v, ins, outs, tm, ()), ()) := by
  have := Q1w (r := Q0w.l0.r k) (fun i => (4 + Q1J (ins.length : Int) + Q1J (outs.length : Int) + 4 + (cat Q1S dIn ins i).length, ins, (ins.length : Int), (i : Int), (v, ins, outs, tm, ()), ())) ins.length
   (4 + Q1J (ins.length : Int) + Q1J (outs.length : Int) + 4 + (cat Q1S dIn ins ins.length).length, (v, ins, outs, tm, ()), ()) ?_ ?_ (fuel := k) (by omega)
  ·rw [cat, List.length_nil, Int.natCast_zero, Int.add_zero] at this
   exact this
  ·intro i h kn ke
   simp only [Q0w.l0.r]
   have m := Q3E Q1S dIn ins (i := i + 1) (n := ins.length) (by omega)
   rw [cat, List.length_append] at m
   have e := Q38 (hi i h)
   have e2 := Q1U ((ins.getD i dIn).2.1.size : Int)
   rw [Qy (by omega), Qy (by omega), show (i : Int).toNat = i by omega, Q8Q k (si i h)]
   simp only [Option.bind_some]
   rw [i64_in (n := 40 + _) (by omega), i64_in (n := _ + (40 + _)) (by omega), i64_in (by omega), cat, List.length_append, Int.natCast_add, e]
   rw [Int.add_assoc (4 + Q1J (ins.length : Int) + Q1J (outs.length : Int) + 4)]
   rfl
  ·intro kn ke
   simp only [Q0w.l0.r]
   rw [Q0Z (by omega)]
 rw [l0]
 simp only [Option.bind_some]
 have l1 : Q0w.l1 k k (4 + Q1J (ins.length : Int) + Q1J (outs.length : Int) + 4 + (cat Q1S dIn ins ins.length).length, outs, (outs.length : Int), (0 : Int), ()) =
   some (4 + Q1J (ins.length : Int) + Q1J (outs.length : Int) + 4 + (cat Q1S dIn ins ins.length).length + (cat Q1H dOut outs outs.length).length, ()) := by
  have := Q1w (r := Q0w.l1.r k) (fun i => (4 + Q1J (ins.length : Int) + Q1J (outs.length : Int) + 4 + (cat Q1S dIn ins ins.length).length + (cat Q1H dOut outs i).length, outs, (outs.length : Int), (i : Int), ())) outs.length
   (4 + Q1J (ins.length : Int) + Q1J (outs.length : Int) + 4 + (cat Q1S dIn ins ins.length).length + (cat Q1H dOut outs outs.length).length, ()) ?_ ?_ (fuel := k) (by omega)
  ·rw [cat, List.length_nil, Int.natCast_zero, Int.add_zero] at this
   exact this
  ·intro i h kn ke
   simp only [Q0w.l1.r]
   have m := Q3E Q1H dOut outs (i := i + 1) (n := outs.length) (by omega)
   rw [cat, List.length_append] at m
   have e := Q2S (outs.getD i dOut)
   have e2 := Q1U ((outs.getD i dOut).2.1.size : Int)
   rw [Qy (by omega), Qy (by omega), show (i : Int).toNat = i by omega, Q8Q k (so i h)]
   simp only [Option.bind_some]
   rw [i64_in (n := 8 + _) (by omega), i64_in (n := _ + (8 + _)) (by omega), i64_in (by omega), cat, List.length_append, Int.natCast_add, e]
   rw [Int.add_assoc (4 + Q1J (ins.length : Int) + Q1J (outs.length : Int) + 4 + ((cat Q1S dIn ins ins.length).length : Int))]
   rfl
  ·intro kn ke
   simp only [Q0w.l1.r]
   rw [Q0Z (by omega)]
 rw [l1]
 simp only [Option.bind_some]
 rw [show (4 + Q1J (ins.length : Int) + Q1J (outs.length : Int) + 4 + ((cat Q1S dIn ins ins.length).length : Int) + ((cat Q1H dOut outs outs.length).length : Int)) = ((encL (v, ins, outs, tm, u)).length : Int) by omega]
def scOK (t : TTx) : Prop := (∀ i, i < t.2.1.length → (t.2.1.getD i dIn).2.1.size ≤ 520) ∧ (∀ i, i < t.2.2.1.length → (t.2.2.1.getD i dOut).2.1.size ≤ 520)
instance (t : TTx) : Decidable (scOK t) := by unfold scOK; infer_instance
def encS (t : TTx) : ByteArray × Int := if scOK t then (if (encL t).length > 4096 then (eb, 101) else (bytesOf (encL t), 0)) else (eb, 100)
theorem QdH {t : TTx} (ht : TxOK t) {i : Nat} (h : i ≤ t.2.1.length) : Q1y (Q6x t i) := Qd2 i fun j hj => QeR (ht.ins j (by omega))
theorem QcU (t : TTx) (i : Nat) : Q1y (Q55 t i) := Qd2 i fun j _ => QdL _
theorem Q6G {t : TTx} (ht : TxOK t) : Q1y (encL t) := by
 unfold encL
 intro y hy
 rcases List.mem_append.1 hy with hy | hy
 ·rcases List.mem_append.1 hy with hy | hy
  ·rcases List.mem_append.1 hy with hy | hy
   ·rcases List.mem_append.1 hy with hy | hy
    ·rcases List.mem_append.1 hy with hy | hy
     ·exact Q3B _ _ y hy
     ·exact Q48 _ y hy
    ·exact QdH ht (Nat.le_refl _) y hy
   ·exact Q48 _ y hy
  ·exact QcU t _ y hy
 ·exact Q3B _ _ y hy
theorem Q8S {t : TTx} (ht : TxOK t) (hs : scOK t) : (encL t).length ≤ 4611686018427387904 := by
 have h1 : ∀ i, i ≤ t.2.1.length → (Q6x t i).length ≤ i * 569 := by
  intro i
  induction i with
  | zero => intro _; simp [Q6x, cat]
  | succ i ih =>
   intro h
   have := ih (by omega)
   have e := Q38 (ht.ins i (by omega))
   have e2 := Q1U ((t.2.1.getD i dIn).2.1.size : Int)
   have e3 := hs.1 i (by omega)
   show (cat Q1S dIn t.2.1 i ++ Q1S (t.2.1.getD i dIn)).length ≤ _
   rw [List.length_append, Nat.add_mul]
   have : (cat Q1S dIn t.2.1 i).length ≤ i * 569 := this
   omega
 have h2 : ∀ i, i ≤ t.2.2.1.length → (Q55 t i).length ≤ i * 537 := by
  intro i
  induction i with
  | zero => intro _; simp [Q55, cat]
  | succ i ih =>
   intro h
   have := ih (by omega)
   have e := Q2S (t.2.2.1.getD i dOut)
   have e2 := Q1U ((t.2.2.1.getD i dOut).2.1.size : Int)
   have e3 := hs.2 i (by omega)
   show (cat Q1H dOut t.2.2.1 i ++ Q1H (t.2.2.1.getD i dOut)).length ≤ _
   rw [List.length_append, Nat.add_mul]
   have : (cat Q1H dOut t.2.2.1 i).length ≤ i * 537 := this
   omega
 have a1 := h1 t.2.1.length (Nat.le_refl _)
 have a2 := h2 t.2.2.1.length (Nat.le_refl _)
 have c1 := Q3P (t.2.1.length : Int)
 have c2 := Q3P (t.2.2.1.length : Int)
 have n1 := ht.nin
 have n2 := ht.nout
 rw [Q2H]
 have b1 : (cat Q1S dIn t.2.1 t.2.1.length).length ≤ t.2.1.length * 569 := a1
 have b2 : (cat Q1H dOut t.2.2.1 t.2.2.1.length).length ≤ t.2.2.1.length * 537 := a2
 omega
theorem Q7e {k : Nat} {t : TTx} (ht : TxOK t) (hk : t.2.1.length + t.2.2.1.length + 20 ≤ k) : Qm k t = some ((encS t).1, (encS t).2, ()) := by
 obtain ⟨v, ins, outs, tm, u⟩ := t
 have ht' := ht
 obtain ⟨hv, htm, hi, ho, hni, hno⟩ := ht'
 dsimp only at hv htm hi ho hni hno hk
 unfold Qm Qm.c
 dsimp only
 have l0 : Qm.l0 k k (ins, (ins.length : Int), (0 : Int), (v, ins, outs, tm, ()), ()) = some (if ∀ i, i < ins.length → decide ((ins.getD i dIn).2.1.size ≤ 520) = true then .inr ((v, ins, outs, tm, ()), ()) else .inl (eb, 100, ())) := by
  refine Q3L (r := Qm.l0.r k) (fun i => (ins, (ins.length : Int), (i : Int), (v, ins, outs, tm, ()), ())) ins.length _ _ (fun i => decide ((ins.getD i dIn).2.1.size ≤ 520)) ?_ ?_ ?_ (by omega)
  ·intro i h hp kn ke
   simp only [Qm.l0.r]
   rw [Q7D]
   have := of_decide_eq_true hp
   rw [Qy (by omega), Qy (by omega), show (i : Int).toNat = i by omega, Q0Z (by omega), i64_in (by omega)]
   rfl
  ·intro i h hp kn ke
   simp only [Qm.l0.r]
   rw [Q7D]
   have := of_decide_eq_false hp
   rw [Qy (by omega), Qy (by omega), show (i : Int).toNat = i by omega, Qy (by omega)]
  ·intro kn ke
   simp only [Qm.l0.r]
   rw [Q0Z (by omega)]
 rw [l0]
 simp only [Option.bind_some]
 by_cases c1 : ∀ i, i < ins.length → decide ((ins.getD i dIn).2.1.size ≤ 520) = true
 case neg =>
  rw [if_neg c1]
  have : ¬ scOK (v, ins, outs, tm, u) := fun h => c1 fun i hi => decide_eq_true (h.1 i hi)
  unfold encS
  rw [if_neg this]
 rw [if_pos c1]
 dsimp only
 have l1 : Qm.l1 k k (outs, (outs.length : Int), (0 : Int), (v, ins, outs, tm, ()), ()) = some (if ∀ i, i < outs.length → decide ((outs.getD i dOut).2.1.size ≤ 520) = true then .inr ((v, ins, outs, tm, ()), ()) else .inl (eb, 100, ())) := by
  refine Q3L (r := Qm.l1.r k) (fun i => (outs, (outs.length : Int), (i : Int), (v, ins, outs, tm, ()), ())) outs.length _ _ (fun i => decide ((outs.getD i dOut).2.1.size ≤ 520)) ?_ ?_ ?_ (by omega)
  ·intro i h hp kn ke
   simp only [Qm.l1.r]
   rw [Q43]
   have := of_decide_eq_true hp
   rw [Qy (by omega), Qy (by omega), show (i : Int).toNat = i by omega, Q0Z (by omega), i64_in (by omega)]
   rfl
  ·intro i h hp kn ke
   simp only [Qm.l1.r]
   rw [Q43]
   have := of_decide_eq_false hp
   rw [Qy (by omega), Qy (by omega), show (i : Int).toNat = i by omega, Qy (by omega)]
  ·intro kn ke
   simp only [Qm.l1.r]
   rw [Q0Z (by omega)]
 rw [l1]
 simp only [Option.bind_some]
 by_cases c2 : ∀ i, i < outs.length → decide ((outs.getD i dOut).2.1.size ≤ 520) = true
 case neg =>
  rw [if_neg c2]
  have : ¬ scOK (v, ins, outs, tm, u) := fun h => c2 fun i hi => decide_eq_true (h.2 i hi)
  unfold encS
  rw [if_neg this]
 rw [if_pos c2]
 dsimp only
 have hs : scOK (v, ins, outs, tm, u) := ⟨fun i h => of_decide_eq_true (c1 i h), fun i h => of_decide_eq_true (c2 i h)⟩
 have hbd := Q8S ht hs
 show (Q0w k (v, ins, outs, tm, u)).bind _ = _
 rw [Q96 ht hbd hk]
 simp only [Option.bind_some]
 unfold encS
 rw [if_pos hs]
 by_cases c3 : (encL (v, ins, outs, tm, u)).length > 4096
 ·rw [Qy (by omega), if_pos c3]
 ·rw [Q0Z (by omega), if_neg c3]
  have hlen : (encL (v, ins, outs, tm, u)).length = 4 + (Q1q (ins.length : Int)).length + (cat Q1S dIn ins ins.length).length + (Q1q (outs.length : Int)).length + (cat Q1H dOut outs outs.length).length + 4 := Q2H (v, ins, outs, tm, u)
  rw [show Q0C k = some ((((), ((), ())), ()), [], ()) from rfl]
  simp only [Option.bind_some]
  rw [wu32 (by omega) hv (by simp), List.nil_append]
  simp only [Option.bind_some]
  rw [u64_in (n := (ins.length : Int)) (by omega), wcnt (by omega) _ (by rw [Q0k]; omega)]
  simp only [Option.bind_some]
  have l2 : Qm.l2 k k (ins, (ins.length : Int), (0 : Int), (v, ins, outs, tm, ()), (((), ((), ())), ()), lowI v 4 ++ Q1q (ins.length : Int), ()) =
    some ((v, ins, outs, tm, ()), (((), ((), ())), ()), lowI v 4 ++ Q1q (ins.length : Int) ++ cat Q1S dIn ins ins.length, ()) := by
   have := Q1w (r := Qm.l2.r k) (fun i => (ins, (ins.length : Int), (i : Int), (v, ins, outs, tm, ()), (((), ((), ())), ()), lowI v 4 ++ Q1q (ins.length : Int) ++ cat Q1S dIn ins i, ())) ins.length
    ((v, ins, outs, tm, ()), (((), ((), ())), ()), lowI v 4 ++ Q1q (ins.length : Int) ++ cat Q1S dIn ins ins.length, ()) ?_ ?_ (fuel := k) (by omega)
   ·rw [cat, List.append_nil] at this
    exact this
   ·intro i h kn ke
    simp only [Qm.l2.r]
    rw [Q7D]
    have m := Q3E Q1S dIn ins (i := i + 1) (n := ins.length) (by omega)
    rw [cat, List.length_append] at m
    have ok := hi i h
    have e := Q38 ok
    have e2 := Q1U ((ins.getD i dIn).2.1.size : Int)
    have hl : (lowI v 4 ++ Q1q (ins.length : Int) ++ cat Q1S dIn ins i).length ≤ 4096 := by simp only [List.length_append, Q0k]; omega
    rw [Qy (by omega), Qy (by omega), show (i : Int).toNat = i by omega]
    generalize hP : lowI v 4 ++ Q1q (ins.length : Int) ++ cat Q1S dIn ins i = P at *
    rw [Qep k ok.1 (by omega)]
    simp only [Option.bind_some]
    rw [wu32 (by omega) ok.2.1 (by rw [List.length_append, List.length_take]; omega)]
    simp only [Option.bind_some]
    rw [wstr (by omega) _ (by simp only [List.length_append, List.length_take, Q0k]; omega)]
    simp only [Option.bind_some]
    have := Q4E (ins.getD i dIn).2.1
    rw [wu32 (by omega) ok.2.2 (by simp only [List.length_append, List.length_take, Q0k]; omega)]
    simp only [Option.bind_some]
    rw [i64_in (by omega)]
    have e4 : P ++ (ins.getD i dIn).1.1.take 32 ++ lowI (ins.getD i dIn).1.2.1 4 ++ Q3A (ins.getD i dIn).2.1 ++ lowI (ins.getD i dIn).2.2.1 4 = lowI v 4 ++ Q1q (ins.length : Int) ++ cat Q1S dIn ins (i + 1) := by
     rw [cat, ← List.append_assoc, hP]
     unfold Q1S
     simp only [List.append_assoc]
    rw [e4]
    rfl
   ·intro kn ke
    simp only [Qm.l2.r]
    rw [Q0Z (by omega)]
  rw [l2]
  simp only [Option.bind_some]
  rw [u64_in (n := (outs.length : Int)) (by omega), wcnt (by omega) _ (by simp only [List.length_append, Q0k]; omega)]
  simp only [Option.bind_some]
  generalize hQ : lowI v 4 ++ Q1q (ins.length : Int) ++ cat Q1S dIn ins ins.length ++ Q1q (outs.length : Int) = Q
  have hQl : Q.length = 4 + (Q1q (ins.length : Int)).length + (cat Q1S dIn ins ins.length).length + (Q1q (outs.length : Int)).length := by rw [← hQ]; simp only [List.length_append, Q0k]
  have l3 : Qm.l3 k k (outs, (outs.length : Int), (0 : Int), (v, ins, outs, tm, ()), (((), ((), ())), ()), Q, ()) = some ((v, ins, outs, tm, ()), (((), ((), ())), ()), Q ++ cat Q1H dOut outs outs.length, ()) := by
   have := Q1w (r := Qm.l3.r k) (fun i => (outs, (outs.length : Int), (i : Int), (v, ins, outs, tm, ()), (((), ((), ())), ()), Q ++ cat Q1H dOut outs i, ())) outs.length
    ((v, ins, outs, tm, ()), (((), ((), ())), ()), Q ++ cat Q1H dOut outs outs.length, ()) ?_ ?_ (fuel := k) (by omega)
   ·rw [cat, List.append_nil] at this
    exact this
   ·intro i h kn ke
    simp only [Qm.l3.r]
    rw [Q43]
    have m := Q3E Q1H dOut outs (i := i + 1) (n := outs.length) (by omega)
    rw [cat, List.length_append] at m
    have e := Q2S (outs.getD i dOut)
    have e2 := Q1U ((outs.getD i dOut).2.1.size : Int)
    have hl : (Q ++ cat Q1H dOut outs i).length ≤ 4096 := by rw [List.length_append]; omega
    rw [Qy (by omega), Qy (by omega), show (i : Int).toNat = i by omega]
    generalize hP : Q ++ cat Q1H dOut outs i = P at *
    rw [wu64 (by omega) _ (by omega)]
    simp only [Option.bind_some]
    rw [wstr (by omega) _ (by simp only [List.length_append, Q0k]; omega)]
    simp only [Option.bind_some]
    rw [i64_in (by omega)]
    have e4 : P ++ lowI (outs.getD i dOut).1 8 ++ Q3A (outs.getD i dOut).2.1 = Q ++ cat Q1H dOut outs (i + 1) := by
     rw [cat, ← List.append_assoc, hP]
     unfold Q1H
     simp only [List.append_assoc]
    rw [e4]
    rfl
   ·intro kn ke
    simp only [Qm.l3.r]
    rw [Q0Z (by omega)]
  rw [l3]
  simp only [Option.bind_some]
  rw [wu32 (by omega) htm (by rw [List.length_append]; omega)]
  simp only [Option.bind_some]
  have e5 : Q ++ cat Q1H dOut outs outs.length ++ lowI tm 4 = encL (v, ins, outs, tm, u) := by rw [← hQ]; rfl
  rw [e5]
  unfold Q06 Q06.c
  rw [QX (Q1I (by omega))]
  rfl
theorem Qa1 {α β : Type} (f : α → β) (l : List α) (d : α) {i : Nat} (h : i < l.length) : (l.take i).map f ++ [f (l.getD i d)] = (l.take (i + 1)).map f := by
 rw [List.take_add_one, List.getD_eq_getElem?_getD, List.getElem?_eq_getElem h, Option.toList_some, List.map_append]
 rfl
theorem Q5R (s t : ByteArray) : Q2Y s t = decide (s = t) := by
 by_cases h : s = t
 ·rw [h, Q4Z, decide_eq_true rfl]
 ·rw [Q86 h, decide_eq_false h]
theorem Q5H {α : Type} [DecidableEq α] (d : α) {a b : List α} (h : a.length = b.length) : (∀ i, i < a.length → decide (a.getD i d = b.getD i d) = true) ↔ a = b := by
 constructor
 ·intro h2
  apply List.ext_getElem h
  intro i h3 h4
  have := of_decide_eq_true (h2 i h3)
  rw [List.getD_eq_getElem?_getD, List.getD_eq_getElem?_getD, List.getElem?_eq_getElem h3, List.getElem?_eq_getElem h4] at this
  exact this
 ·rintro rfl i _
  exact decide_eq_true rfl
abbrev dR : RIn := (List.replicate 32 (0 : Int), 0, ByteArray.empty, 0, ())
theorem QeO : (List.replicate 32 (0 : Int), (0 : Int), ByteArray.empty, (0 : Int), ()) = dR := rfl
theorem Q9B {l : List TIn} {i : Nat} (h : i < l.length) : (l.map gIn).getD i dR = gIn (l.getD i dIn) := by
 rw [List.getD_eq_getElem?_getD, List.getD_eq_getElem?_getD, List.getElem?_map, List.getElem?_eq_getElem h]
 rfl
theorem Q5g {k : Nat} {t : TTx} (ht : TxOK t) (hb : (encL t).length ≤ 4611686018427387904) (hk : t.2.1.length + t.2.2.1.length + 20 ≤ k) : Q9 k (gTx t) = some (bytesOf (encL t), ()) := by
 obtain ⟨v, ins, outs, tm, u⟩ := t
 obtain ⟨hv, htm, hi, ho, hni, hno⟩ := ht
 dsimp only at hv htm hi ho hni hno hk
 have hlen := Q2H (v, ins, outs, tm, u)
 dsimp only at hlen
 have hv1 := hv.1
 have hv2 := hv.2
 have ht1 := htm.1
 have ht2 := htm.2
 unfold Q9 Q9.c
 show (Qu k (IntKind.u64.wrap v) ((4 : Nat) : Int)).bind _ = _
 rw [u64_in (n := v) (by omega), Q2s (by omega) v (by omega) 4 (by omega)]
 simp only [Option.bind_some]
 rw [show (gTx (v, ins, outs, tm, u)).2.1 = ins.map gIn from rfl, List.length_map, u64_in (n := (ins.length : Int)) (by omega), Q31 (by omega) _ (by omega)]
 simp only [Option.bind_some]
 rw [QX (Q1I (by rw [Q0d, Q0d, Q0k]; omega)), Q11]
 generalize hP : lowI v 4 ++ Q1q (ins.length : Int) = P
 have hPl : P.length = 4 + (Q1q (ins.length : Int)).length := by rw [← hP, List.length_append, Q0k]
 have l0 : Q9.l0 k k (bytesOf P, ins.map gIn, (ins.length : Int), (0 : Int), (v, ins.map gIn, outs, tm, ()), ()) = some (bytesOf (P ++ cat Q1S dIn ins ins.length), (v, ins.map gIn, outs, tm, ()), ()) := by
  have := Q1w (r := Q9.l0.r k) (fun i => (bytesOf (P ++ cat Q1S dIn ins i), ins.map gIn, (ins.length : Int), (i : Int), (v, ins.map gIn, outs, tm, ()), ())) ins.length
   (bytesOf (P ++ cat Q1S dIn ins ins.length), (v, ins.map gIn, outs, tm, ()), ()) ?_ ?_ (fuel := k) (by omega)
  ·rw [cat, List.append_nil] at this
   exact this
  ·intro i h kn ke
   simp only [Q9.l0.r]
   have m := Q3E Q1S dIn ins (i := i + 1) (n := ins.length) (by omega)
   rw [cat, List.length_append] at m
   have ok := hi i h
   have e := Q38 ok
   have e2 := Q1U ((ins.getD i dIn).2.1.size : Int)
   have e3 := Q1W ((ins.getD i dIn).2.1.size : Int)
   rw [Qy (by omega), Qy (by rw [List.length_map]; omega), show (i : Int).toNat = i by omega, QeO, Q9B h]
   generalize hx : ins.getD i dIn = y at m ok e e2 e3 ⊢
   obtain ⟨⟨hash, idx, u0⟩, key, sq, u1⟩ := y
   obtain ⟨⟨q1, q2⟩, q3, q4⟩ := ok
   dsimp only [gIn] at q1 q2 q3 q4 e e2 e3 ⊢
   have a1 := q3.1
   have a2 := q3.2
   have a3 := q4.1
   have a4 := q4.2
   have hs : (bytesOf (P ++ cat Q1S dIn ins i)).size = P.length + (cat Q1S dIn ins i).length := by rw [Q0d, List.length_append]
   have ht32 : (hash.take 32).length = 32 := by rw [List.length_take]; omega
   rw [List.drop_zero, u64_in (n := idx) (by omega), show (4 : Int) = ((4 : Nat) : Int) from rfl, Q2s (by omega) idx (by omega) 4 (by omega)]
   simp only [Option.bind_some]
   rw [QX (Q1I (by rw [Q0d, Q0d, Q0k, ht32]; omega)), Q11, u64_in (n := (key.size : Int)) (by omega), Q31 (by omega) _ (by omega)]
   simp only [Option.bind_some]
   rw [QX (Q1I (by rw [Q0d, Q0d, List.length_append, Q0k, ht32]; omega)), Q11]
   rw [QX (Q1I (by rw [Q0d, List.length_append, List.length_append, Q0k, ht32]; omega)), show key = bytesOf (Qq key) from (Q3f key).symm, Q11, u64_in (n := sq) (by omega), Q2s (by omega) sq (by omega) 4 (by omega)]
   simp only [Option.bind_some, Q3f]
   have hz := Q0b key
   rw [QX (Q1I (by simp only [Q0d, List.length_append, Q0k, ht32]; omega)), Q11]
   rw [QX (Q1I (by simp only [Q0d, List.length_append, Q0k, ht32]; omega)), Q11, i64_in (by omega)]
   have e4 : P ++ cat Q1S dIn ins i ++ (hash.take 32 ++ lowI idx 4 ++ Q1q (key.size : Int) ++ Qq key ++ lowI sq 4) = P ++ cat Q1S dIn ins (i + 1) := by
    rw [cat, hx]
    unfold Q1S Q3A
    simp only [List.append_assoc]
   rw [e4]
   rfl
  ·intro kn ke
   simp only [Q9.l0.r]
   rw [Q0Z (by omega)]
 show (Q9.l0 k k (bytesOf P, ins.map gIn, (ins.length : Int), (0 : Int), (v, ins.map gIn, outs, tm, ()), ())).bind _ = _
 rw [l0]
 simp only [Option.bind_some]
 rw [u64_in (n := (outs.length : Int)) (by omega), Q31 (by omega) _ (by omega)]
 simp only [Option.bind_some]
 rw [QX (Q1I (by simp only [Q0d, List.length_append]; omega)), Q11]
 generalize hQ : P ++ cat Q1S dIn ins ins.length ++ Q1q (outs.length : Int) = Q
 have hQl : Q.length = P.length + (cat Q1S dIn ins ins.length).length + (Q1q (outs.length : Int)).length := by rw [← hQ, List.length_append, List.length_append]
 have l1 : Q9.l1 k k (bytesOf Q, outs, (outs.length : Int), (0 : Int), (v, ins.map gIn, outs, tm, ()), ()) = some (bytesOf (Q ++ cat Q1H dOut outs outs.length), (v, ins.map gIn, outs, tm, ()), ()) := by
  have := Q1w (r := Q9.l1.r k) (fun i => (bytesOf (Q ++ cat Q1H dOut outs i), outs, (outs.length : Int), (i : Int), (v, ins.map gIn, outs, tm, ()), ())) outs.length
   (bytesOf (Q ++ cat Q1H dOut outs outs.length), (v, ins.map gIn, outs, tm, ()), ()) ?_ ?_ (fuel := k) (by omega)
  ·rw [cat, List.append_nil] at this
   exact this
  ·intro i h kn ke
   simp only [Q9.l1.r]
   have m := Q3E Q1H dOut outs (i := i + 1) (n := outs.length) (by omega)
   rw [cat, List.length_append] at m
   have ok := ho i h
   have e := Q2S (outs.getD i dOut)
   have e2 := Q1U ((outs.getD i dOut).2.1.size : Int)
   have e3 := Q1W ((outs.getD i dOut).2.1.size : Int)
   rw [Qy (by omega), Qy (by omega), show (i : Int).toNat = i by omega, Q43]
   generalize hx : outs.getD i dOut = y at m ok e e2 e3 ⊢
   obtain ⟨val, lock, u1⟩ := y
   obtain ⟨q1, q2⟩ := ok
   dsimp only at q1 q2 e e2 e3 ⊢
   have hs : (bytesOf (Q ++ cat Q1H dOut outs i)).size = Q.length + (cat Q1H dOut outs i).length := by rw [Q0d, List.length_append]
   have hz := Q0b lock
   rw [show (8 : Int) = ((8 : Nat) : Int) from rfl, Q2s (by omega) val (by omega) 8 (by omega)]
   simp only [Option.bind_some]
   rw [u64_in (n := (lock.size : Int)) (by omega), Q31 (by omega) _ (by omega)]
   simp only [Option.bind_some]
   rw [QX (Q1I (by simp only [Q0d, Q0k]; omega)), Q11]
   rw [QX (Q1I (by simp only [Q0d, List.length_append, Q0k]; omega)), show lock = bytesOf (Qq lock) from (Q3f lock).symm, Q11]
   simp only [Q3f]
   rw [QX (Q1I (by simp only [Q0d, List.length_append, Q0k]; omega)), Q11, i64_in (by omega)]
   have e4 : Q ++ cat Q1H dOut outs i ++ (lowI val 8 ++ Q1q (lock.size : Int) ++ Qq lock) = Q ++ cat Q1H dOut outs (i + 1) := by
    rw [cat, hx]
    unfold Q1H Q3A
    simp only [List.append_assoc]
   rw [e4]
   rfl
  ·intro kn ke
   simp only [Q9.l1.r]
   rw [Q0Z (by omega)]
 show (Q9.l1 k k (bytesOf Q, outs, (outs.length : Int), (0 : Int), (v, ins.map gIn, outs, tm, ()), ())).bind _ = _
 rw [l1]
 simp only [Option.bind_some]
 rw [u64_in (n := tm) (by omega), show (4 : Int) = ((4 : Nat) : Int) from rfl, Q2s (by omega) tm (by omega) 4 (by omega)]
 simp only [Option.bind_some]
 rw [QX (Q1I (by simp only [Q0d, List.length_append, Q0k]; omega)), Q11]
 have e5 : Q ++ cat Q1H dOut outs outs.length ++ lowI tm 4 = encL (v, ins, outs, tm, u) := by rw [← hQ, ← hP]; rfl
 rw [e5]
theorem Q9Q {k : Nat} {t : TTx} (ht : TxOK t) (hk : t.2.1.length + t.2.2.1.length + 20 ≤ k) : Qd k (gTx t) = some ((encS t).2, ()) := by
 obtain ⟨v, ins, outs, tm, u⟩ := t
 have ht' := ht
 obtain ⟨hv, htm, hi, ho, hni, hno⟩ := ht'
 dsimp only at hv htm hi ho hni hno hk
 unfold Qd Qd.c
 have l0 : Qd.l0 k k (ins.map gIn, (ins.length : Int), (0 : Int), (v, ins.map gIn, outs, tm, ()), ()) = some (if ∀ i, i < ins.length → decide ((ins.getD i dIn).2.1.size ≤ 520) = true then .inr ((v, ins.map gIn, outs, tm, ()), ()) else .inl (100, ())) := by
  refine Q3L (r := Qd.l0.r k) (fun i => (ins.map gIn, (ins.length : Int), (i : Int), (v, ins.map gIn, outs, tm, ()), ())) ins.length _ _ (fun i => decide ((ins.getD i dIn).2.1.size ≤ 520)) ?_ ?_ ?_ (by omega)
  ·intro i h hp kn ke
   simp only [Qd.l0.r]
   have hq := of_decide_eq_true hp
   rw [Qy (by omega), Qy (by rw [List.length_map]; omega), show (i : Int).toNat = i by omega, QeO, Q9B h]
   rw [Q0Z (show ¬ ((((gIn (ins.getD i dIn)).2.2.1.size : Nat) : Int) > 520) by show ¬ (((ins.getD i dIn).2.1.size : Nat) : Int) > 520; omega), i64_in (by omega)]
   rfl
  ·intro i h hp kn ke
   simp only [Qd.l0.r]
   have hq := of_decide_eq_false hp
   rw [Qy (by omega), Qy (by rw [List.length_map]; omega), show (i : Int).toNat = i by omega, QeO, Q9B h]
   rw [Qy (show ((((gIn (ins.getD i dIn)).2.2.1.size : Nat) : Int) > 520) by show (((ins.getD i dIn).2.1.size : Nat) : Int) > 520; omega)]
  ·intro kn ke
   simp only [Qd.l0.r]
   rw [Q0Z (by omega)]
 rw [show (gTx (v, ins, outs, tm, u)).2.1 = ins.map gIn from rfl]
 dsimp only
 rw [List.length_map]
 show (Qd.l0 k k (ins.map gIn, (ins.length : Int), (0 : Int), (v, ins.map gIn, outs, tm, ()), ())).bind _ = _
 rw [l0]
 simp only [Option.bind_some]
 by_cases c1 : ∀ i, i < ins.length → decide ((ins.getD i dIn).2.1.size ≤ 520) = true
 case neg =>
  rw [if_neg c1]
  have : ¬ scOK (v, ins, outs, tm, u) := fun h => c1 fun i hi => decide_eq_true (h.1 i hi)
  unfold encS
  rw [if_neg this]
 rw [if_pos c1]
 dsimp only
 have l1 : Qd.l1 k k (outs, (outs.length : Int), (0 : Int), (v, ins.map gIn, outs, tm, ()), ()) = some (if ∀ i, i < outs.length → decide ((outs.getD i dOut).2.1.size ≤ 520) = true then .inr ((v, ins.map gIn, outs, tm, ()), ()) else .inl (100, ())) := by
  refine Q3L (r := Qd.l1.r k) (fun i => (outs, (outs.length : Int), (i : Int), (v, ins.map gIn, outs, tm, ()), ())) outs.length _ _ (fun i => decide ((outs.getD i dOut).2.1.size ≤ 520)) ?_ ?_ ?_ (by omega)
  ·intro i h hp kn ke
   simp only [Qd.l1.r]
   have hq := of_decide_eq_true hp
   rw [Q43, Qy (by omega), Qy (by omega), show (i : Int).toNat = i by omega, Q0Z (by omega), i64_in (by omega)]
   rfl
  ·intro i h hp kn ke
   simp only [Qd.l1.r]
   have hq := of_decide_eq_false hp
   rw [Q43, Qy (by omega), Qy (by omega), show (i : Int).toNat = i by omega, Qy (by omega)]
  ·intro kn ke
   simp only [Qd.l1.r]
   rw [Q0Z (by omega)]
 rw [l1]
 simp only [Option.bind_some]
 by_cases c2 : ∀ i, i < outs.length → decide ((outs.getD i dOut).2.1.size ≤ 520) = true
 case neg =>
  rw [if_neg c2]
  have : ¬ scOK (v, ins, outs, tm, u) := fun h => c2 fun i hi => decide_eq_true (h.2 i hi)
  unfold encS
  rw [if_neg this]
 rw [if_pos c2]
 dsimp only
 have hs : scOK (v, ins, outs, tm, u) := ⟨fun i h => of_decide_eq_true (c1 i h), fun i h => of_decide_eq_true (c2 i h)⟩
 have hbd := Q8S ht hs
 show (Q9 k (gTx (v, ins, outs, tm, u))).bind _ = _
 rw [Q5g ht hbd hk]
 simp only [Option.bind_some]
 unfold encS
 rw [if_pos hs, Q0d]
 by_cases c3 : (encL (v, ins, outs, tm, u)).length > 4096
 ·rw [Qy (by omega), if_pos c3]
 ·rw [Q0Z (by omega), if_neg c3]
def idS (t : TTx) : List Int := if (encS t).2 ≠ 0 then List.replicate 32 0 else sumL (sumL (encL t))
theorem Qg0 (t : TTx) : (encS t).1.size ≤ 4096 := by
 unfold encS
 split
 ·split
  ·exact Nat.zero_le _
  ·rw [Q0d]; omega
 ·exact Nat.zero_le _
theorem Q8F {t : TTx} (h : (encS t).2 = 0) : scOK t ∧ (encL t).length ≤ 4096 ∧ (encS t).1 = bytesOf (encL t) := by
 unfold encS at h ⊢
 by_cases c : scOK t
 ·rw [if_pos c] at h ⊢
  by_cases c2 : (encL t).length > 4096
  ·rw [if_pos c2] at h; simp at h
  ·rw [if_neg c2]
   exact ⟨c, by omega, rfl⟩
 ·rw [if_neg c] at h; simp at h
theorem QgA {t : TTx} (h : (encS t).2 ≠ 0) : (encS t).1 = eb := by
 unfold encS at h ⊢
 by_cases c : scOK t
 ·rw [if_pos c] at h ⊢
  by_cases c2 : (encL t).length > 4096
  ·rw [if_pos c2]
  ·rw [if_neg c2] at h; exact absurd rfl h
 ·rw [if_neg c]
theorem Qgy {k : Nat} {t : TTx} (ht : TxOK t) (hk : t.2.1.length + t.2.2.1.length + 300 ≤ k) : Q2p k t = some (idS t, (encS t).2, ()) := by
 unfold Q2p Q2p.c
 show (Qm k t).bind _ = _
 rw [Q7e ht (by omega)]
 simp only [Option.bind_some]
 unfold idS
 by_cases c : (encS t).2 ≠ 0
 ·rw [QX (by simpa using c), if_pos c]
 ·have c' : (encS t).2 = 0 := by simpa using c
  obtain ⟨_, h2, h3⟩ := Q8F c'
  rw [Q1t (by simpa using c), if_neg c, h3, Q6W (by omega) (by rw [Q0d]; omega) (by rw [Q0d]; omega), Q1F (Q6G ht), c']
  rfl
end Go.Am
