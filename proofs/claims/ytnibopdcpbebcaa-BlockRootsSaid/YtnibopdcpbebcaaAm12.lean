/- A part of a proof: a machine of abstract values that tells what functions of the program compute, and the plain facts on them. -/
import Derived.Test.YtnibopdcpbebcaaAm11
import Derived.KernelRfl
set_option linter.unusedVariables false
set_option linter.unusedSimpArgs false
set_option linter.unnecessarySimpa false
set_option linter.unusedSectionVars false
/- Transactions told. -/
namespace Go.Am
open Go

abbrev eb : ByteArray := ⟨List.toArray []⟩

theorem ref10_lay_eq {k : Nat} (hk : 9 ≤ k) (n : Int) (hn : 0 ≤ n ∧ n ≤ 18446744073709551615) (b : Nat) (hb : b ≤ 8) : bedrockref10_lay k n (b : Int) = some (bytesOf (lowI n b), ()) := by
  unfold bedrockref10_lay bedrockref10_lay.c
  have hl : bedrockref10_lay.l0 k k (n, (b : Int), (0 : Int), List.replicate 0 (0 : Int), ()) = some (lowI n b, ()) := by
    have := loop_from0 (r := bedrockref10_lay.l0.r k) (fun i => (n / 256 ^ i, (b : Int), (i : Int), lowI n i, ())) b (lowI n b, ()) ?_ ?_ (fuel := k) (by omega)
    · rw [Int.pow_zero, Int.ediv_one] at this
      exact this
    · intro i hi kn ke
      simp only [bedrockref10_lay.l0.r]
      have hp : (0 : Int) < 256 ^ i := Int.pow_pos (by decide)
      have h0 : 0 ≤ n / 256 ^ i := Int.ediv_nonneg hn.1 (Int.le_of_lt hp)
      have h1 : n / 256 ^ i ≤ n := Int.ediv_le_self _ hn.1
      have hll := lowI_length n i
      rw [bif_yes (by omega), Int.tmod_eq_emod_of_nonneg h0, Int.tdiv_eq_ediv_of_nonneg h0]
      have e1 : (List.set (List.replicate 1 (0 : Int)) 0 (IntKind.u8.wrap (n / 256 ^ i % 256))) = [n / 256 ^ i % 256] := by rw [u8_in (by omega)]; rfl
      rw [e1, cond_true' (ble_of (by simp only [List.length_singleton]; omega)), ← lowI_snoc, u64_in (by omega), i64_in (by omega)]
      rw [show n / 256 ^ i / 256 = n / 256 ^ (i + 1) by rw [Int.pow_succ, Int.ediv_ediv_of_nonneg (Int.le_of_lt hp)]]
      rfl
    · intro kn ke
      simp only [bedrockref10_lay.l0.r]
      rw [bif_no (by omega)]
  rw [hl]
  rfl

theorem ref10_Count_eq {k : Nat} (hk : 9 ≤ k) (n : Int) (hn : 0 ≤ n ∧ n ≤ 18446744073709551615) : bedrockref10_Count k n = some (bytesOf (cBytes n), ()) := by
  unfold bedrockref10_Count bedrockref10_Count.c cBytes
  have l1 := ref10_lay_eq hk n hn 1 (by omega)
  have l2 := ref10_lay_eq hk n hn 2 (by omega)
  have l4 := ref10_lay_eq hk n hn 4 (by omega)
  have l8 := ref10_lay_eq hk n hn 8 (by omega)
  by_cases h1 : n < 253
  · rw [bif_yes h1, if_pos h1, show (1 : Int) = ((1 : Nat) : Int) from rfl, l1]; rfl
  · rw [bif_no h1, if_neg h1]
    by_cases h2 : n < 65536
    · rw [bif_yes h2, if_pos h2, show (2 : Int) = ((2 : Nat) : Int) from rfl, l2]
      simp only [Option.bind_some]
      rw [cond_true' (ble_of (by rw [bytesOf_size, lowI_length]; omega)), show (⟨(List.toArray [253])⟩ : ByteArray) = bytesOf [253] from rfl, bytesOf_append]
      rfl
    · rw [bif_no h2, if_neg h2]
      by_cases h3 : n < 4294967296
      · rw [bif_yes h3, if_pos h3, show (4 : Int) = ((4 : Nat) : Int) from rfl, l4]
        simp only [Option.bind_some]
        rw [cond_true' (ble_of (by rw [bytesOf_size, lowI_length]; omega)), show (⟨(List.toArray [254])⟩ : ByteArray) = bytesOf [254] from rfl, bytesOf_append]
        rfl
      · rw [bif_no h3, if_neg h3, show (8 : Int) = ((8 : Nat) : Int) from rfl, l8]
        simp only [Option.bind_some]
        rw [cond_true' (ble_of (by rw [bytesOf_size, lowI_length]; omega)), show (⟨(List.toArray [255])⟩ : ByteArray) = bytesOf [255] from rfl, bytesOf_append]
        rfl

abbrev TIn : Type := (List Int × Int × Unit) × ByteArray × Int × Unit

abbrev TOut : Type := Int × ByteArray × Unit

abbrev RIn : Type := List Int × Int × ByteArray × Int × Unit

abbrev TTx : Type := Int × List TIn × List TOut × Int × Unit

abbrev RTx : Type := Int × List RIn × List TOut × Int × Unit

def gIn (x : TIn) : RIn := (x.1.1, x.1.2.1, x.2.1, x.2.2.1, ())

def gTx (t : TTx) : RTx := (t.1, t.2.1.map gIn, t.2.2.1, t.2.2.2.1, ())

/-- A loop that looks for the first that is not fit. -/
theorem loop_find {σ τ : Type} {r : {ρ : Type} → σ → (σ → Option ρ) → (τ → Option ρ) → Option ρ} (S : Nat → σ) (n : Nat) (T U : τ) (p : Nat → Bool)
    (hgood : ∀ i, i < n → p i = true → ∀ (kn : σ → Option τ) (ke : τ → Option τ), r (S i) kn ke = kn (S (i + 1)))
    (hbad : ∀ i, i < n → p i = false → ∀ (kn : σ → Option τ) (ke : τ → Option τ), r (S i) kn ke = ke U)
    (hend : ∀ (kn : σ → Option τ) (ke : τ → Option τ), r (S n) kn ke = ke T) {fuel : Nat} (hf : n < fuel) :
    loopJ r fuel (S 0) = some (if ∀ i, i < n → p i = true then T else U) := by
  have key : ∀ (d i fuel : Nat), i + d = n → d < fuel → (∀ j, j < i → p j = true) → loopJ r fuel (S i) = some (if ∀ j, j < n → p j = true then T else U) := by
    intro d
    induction d with
    | zero =>
      intro i fuel hi hf hp
      cases fuel with
      | zero => omega
      | succ fuel =>
        have : i = n := by omega
        subst this
        rw [if_pos hp]
        exact hend _ _
    | succ d ih =>
      intro i fuel hi hf hp
      cases fuel with
      | zero => omega
      | succ fuel =>
        show r (S i) (loopJ r fuel) some = _
        cases hc : p i with
        | true =>
          rw [hgood i (by omega) hc]
          refine ih (i + 1) fuel (by omega) (by omega) fun j hj => ?_
          by_cases hji : j = i
          · rw [hji]; exact hc
          · exact hp j (by omega)
        | false =>
          rw [hbad i (by omega) hc, if_neg (fun h => by have := h i (by omega); rw [hc] at this; cases this)]
  exact key n 0 fuel (by omega) hf fun j hj => absurd hj (Nat.not_lt_zero j)

/-- The bytes of the first i things. -/
def cat {α : Type} (f : α → List Int) (d : α) (l : List α) : Nat → List Int
  | 0 => []
  | i + 1 => cat f d l i ++ f (l.getD i d)

theorem cat_eq {α : Type} (f : α → List Int) (d : α) (l : List α) : ∀ i, i ≤ l.length → cat f d l i = ((l.take i).map f).flatten
  | 0, _ => rfl
  | i + 1, h => by
    rw [cat, cat_eq f d l i (by omega), List.take_add_one, List.getD_eq_getElem?_getD, List.getElem?_eq_getElem (by omega), Option.toList_some, List.map_append, List.flatten_append]
    simp only [List.map_cons, List.map_nil, List.flatten_cons, List.flatten_nil, List.append_nil, Option.getD_some]

theorem cat_all {α : Type} (f : α → List Int) (d : α) (l : List α) : cat f d l l.length = (l.map f).flatten := by
  rw [cat_eq f d l _ (Nat.le_refl _), List.take_length]

theorem cat_mono {α : Type} (f : α → List Int) (d : α) (l : List α) : ∀ {i n : Nat}, i ≤ n → (cat f d l i).length ≤ (cat f d l n).length
  | i, 0, h => by rw [show i = 0 by omega]; exact Nat.le_refl _
  | i, n + 1, h => by
    rcases Nat.lt_or_ge i (n + 1) with g | g
    · have := cat_mono f d l (i := i) (n := n) (by omega)
      rw [cat, List.length_append]; omega
    · rw [show i = n + 1 by omega]; exact Nat.le_refl _

theorem cat_in {α : Type} {f : α → List Int} {d : α} {l : List α} : ∀ i, (∀ j, j < i → bytesIn (f (l.getD j d))) → bytesIn (cat f d l i)
  | 0, _ => fun x hx => by simp [cat] at hx
  | i + 1, h => bytesIn_append' (cat_in i fun j hj => h j (by omega)) (h i (by omega))
where bytesIn_append' {a b : List Int} (ha : bytesIn a) (hb : bytesIn b) : bytesIn (a ++ b) := fun x hx => (List.mem_append.1 hx).elim (ha x) (hb x)

theorem cat_ge {α : Type} {f : α → List Int} {d : α} {l : List α} {m : Nat} (h : ∀ x, m ≤ (f x).length) : ∀ i, m * i ≤ (cat f d l i).length
  | 0 => Nat.zero_le _
  | i + 1 => by
    have h1 := cat_ge (d := d) (l := l) h i
    have h2 := h (l.getD i d)
    rw [cat, List.length_append, Nat.mul_add]; omega

abbrev dIn : TIn := ((List.replicate 32 (0 : Int), 0, ()), ByteArray.empty, 0, ())

abbrev dOut : TOut := (0, ByteArray.empty, ())

theorem dIn_eq : ((List.replicate 32 (0 : Int), (0 : Int), ()), ByteArray.empty, (0 : Int), ()) = dIn := rfl

theorem dOut_eq : ((0 : Int), ByteArray.empty, ()) = dOut := rfl

def encStr (s : ByteArray) : List Int := cBytes (s.size : Int) ++ ofBytes s

def encIn (x : TIn) : List Int := x.1.1.take 32 ++ lowI x.1.2.1 4 ++ encStr x.2.1 ++ lowI x.2.2.1 4

def encOut (x : TOut) : List Int := lowI x.1 8 ++ encStr x.2.1

abbrev encIns (t : TTx) : Nat → List Int := cat encIn dIn t.2.1

abbrev encOuts (t : TTx) : Nat → List Int := cat encOut dOut t.2.2.1

/-- A transaction's bytes. -/
def encL (t : TTx) : List Int := lowI t.1 4 ++ cBytes (t.2.1.length : Int) ++ encIns t t.2.1.length ++ cBytes (t.2.2.1.length : Int) ++ encOuts t t.2.2.1.length ++ lowI t.2.2.2.1 4

def u32R (n : Int) : Prop := 0 ≤ n ∧ n ≤ 4294967295

def InOK (x : TIn) : Prop := (x.1.1.length = 32 ∧ bytesIn x.1.1) ∧ u32R x.1.2.1 ∧ u32R x.2.2.1

def OutOK (x : TOut) : Prop := 0 ≤ x.1 ∧ x.1 ≤ 18446744073709551615

structure TxOK (t : TTx) : Prop where
  v : u32R t.1
  tm : u32R t.2.2.2.1
  ins : ∀ i, i < t.2.1.length → InOK (t.2.1.getD i dIn)
  outs : ∀ i, i < t.2.2.1.length → OutOK (t.2.2.1.getD i dOut)
  nin : t.2.1.length ≤ 140737488355328
  nout : t.2.2.1.length ≤ 140737488355328

theorem encStr_in (s : ByteArray) : bytesIn (encStr s) := fun x hx => (List.mem_append.1 hx).elim (cBytes_in _ x) (ofBytes_in' s x)

theorem encStr_length (s : ByteArray) : ((encStr s).length : Int) = cLong (s.size : Int) + s.size := by
  unfold encStr
  rw [List.length_append, ofBytes_length, Int.natCast_add, cBytes_length]

theorem encIn_in {x : TIn} (h : InOK x) : bytesIn (encIn x) := by
  unfold encIn
  intro y hy
  rcases List.mem_append.1 hy with hy | hy
  · rcases List.mem_append.1 hy with hy | hy
    · rcases List.mem_append.1 hy with hy | hy
      · exact h.1.2 y (List.mem_of_mem_take hy)
      · exact lowI_in _ _ y hy
    · exact encStr_in _ y hy
  · exact lowI_in _ _ y hy

theorem encOut_in (x : TOut) : bytesIn (encOut x) := by
  intro y hy
  rcases List.mem_append.1 hy with hy | hy
  · exact lowI_in _ _ y hy
  · exact encStr_in _ y hy

theorem encIn_length {x : TIn} (h : InOK x) : ((encIn x).length : Int) = 40 + (cLong (x.2.1.size : Int) + x.2.1.size) := by
  unfold encIn
  have := h.1.1
  simp only [List.length_append, List.length_take, lowI_length, Int.natCast_add, encStr_length]
  omega

theorem encOut_length (x : TOut) : ((encOut x).length : Int) = 8 + (cLong (x.2.1.size : Int) + x.2.1.size) := by
  unfold encOut
  simp only [List.length_append, lowI_length, Int.natCast_add, encStr_length]
  omega

theorem cLong_range (n : Int) : 1 ≤ cLong n ∧ cLong n ≤ 9 := by
  unfold cLong; split <;> (try split) <;> (try split) <;> omega

theorem encL_length (t : TTx) : (encL t).length = 4 + (cBytes (t.2.1.length : Int)).length + (cat encIn dIn t.2.1 t.2.1.length).length + (cBytes (t.2.2.1.length : Int)).length + (cat encOut dOut t.2.2.1 t.2.2.1.length).length + 4 := by
  unfold encL encIns encOuts
  simp only [List.length_append, lowI_length]

theorem wu32 {k : Nat} (hk : 9 ≤ k) {n : Int} (hn : u32R n) {u} {b1 : List Int} (h : b1.length ≤ 140737488350000) : num_Writer_U32 k n u b1 = some (u, b1 ++ lowI n 4, ()) := by
  unfold num_Writer_U32 num_Writer_U32.c
  have h1 := hn.1
  have h2 := hn.2
  rw [u64_in (by omega), show (4 : Int) = ((4 : Nat) : Int) from rfl, num_lay_eq hk _ 4 (by omega)]
  simp only [Option.bind_some]
  rw [wrl (lowI_in _ _) (by rw [lowI_length]; omega)]
  rfl

theorem wcnt {k : Nat} (hk : 9 ≤ k) (n : Int) {u} {b1 : List Int} (h : b1.length ≤ 140737488350000) : num_Writer_Count k n u b1 = some (u, b1 ++ cBytes n, ()) := by
  unfold num_Writer_Count num_Writer_Count.c
  rw [num_Count_eq hk]
  simp only [Option.bind_some]
  have := cBytes_le n
  rw [wrl (cBytes_in _) (by omega)]
  rfl

theorem wstr {k : Nat} (hk : 9 ≤ k) (s : ByteArray) {u} {b1 : List Int} (h : b1.length + s.size ≤ 140737488350000) : num_Writer_String k s u b1 = some (u, b1 ++ encStr s, ()) := by
  unfold num_Writer_String num_Writer_String.c
  rw [u64_in (by omega)]
  show (num_Writer_Count k (s.size : Int) u b1).bind _ = _
  rw [wcnt hk _ (by omega)]
  simp only [Option.bind_some]
  have := cBytes_le (s.size : Int)
  show (num_Writer_Bytes k s u (b1 ++ cBytes (s.size : Int))).bind _ = _
  rw [wb (by rw [List.length_append]; omega), List.append_assoc]
  rfl

theorem whash (k : Nat) {l : List Int} (hl : l.length = 32 ∧ bytesIn l) {u} {b1 : List Int} (h : b1.length ≤ 140737488350000) : num_Writer_Hash k l u b1 = some (u, b1 ++ l.take 32, ()) := by
  unfold num_Writer_Hash num_Writer_Hash.c
  rw [List.drop_zero]
  dsimp only
  rw [wrl (fun x hx => hl.2 x (List.mem_of_mem_take hx)) (by rw [List.length_take]; omega)]
  rfl

theorem tx_long_eq (k : Nat) {n : Nat} (h : n ≤ 4611686018427387904) : tx_long k (n : Int) = some (cLong (n : Int) + n, ()) := by
  unfold tx_long tx_long.c
  have := cLong_range (n : Int)
  rw [u64_in (by omega), num_CountLong_eq]
  simp only [Option.bind_some]
  rw [i64_in (by omega)]

theorem tx_Size_eq {k : Nat} {t : TTx} (ht : TxOK t) (hb : (encL t).length ≤ 4611686018427387904) (hk : t.2.1.length + t.2.2.1.length + 20 ≤ k) : tx_Size k t = some (((encL t).length : Int), ()) := by
  obtain ⟨v, ins, outs, tm, u⟩ := t
  obtain ⟨_, _, hi, ho, hni, hno⟩ := ht
  dsimp only at hi ho hni hno hk
  have hlen : ((encL (v, ins, outs, tm, u)).length : Int) = 4 + cLong (ins.length : Int) + (cat encIn dIn ins ins.length).length + cLong (outs.length : Int) + (cat encOut dOut outs outs.length).length + 4 := by
    have h1 := encL_length (v, ins, outs, tm, u)
    have h2 := cBytes_length (ins.length : Int)
    have h3 := cBytes_length (outs.length : Int)
    dsimp only at h1
    omega
  have c1 := cLong_range (ins.length : Int)
  have c2 := cLong_range (outs.length : Int)
  have si : ∀ i, i < ins.length → (ins.getD i dIn).2.1.size ≤ 4611686018427387904 := by
    intro i h
    have m := cat_mono encIn dIn ins (i := i + 1) (n := ins.length) (by omega)
    rw [cat, List.length_append] at m
    have := encIn_length (hi i h)
    have := cLong_range ((ins.getD i dIn).2.1.size : Int)
    omega
  have so : ∀ i, i < outs.length → (outs.getD i dOut).2.1.size ≤ 4611686018427387904 := by
    intro i h
    have m := cat_mono encOut dOut outs (i := i + 1) (n := outs.length) (by omega)
    rw [cat, List.length_append] at m
    have := encOut_length (outs.getD i dOut)
    have := cLong_range ((outs.getD i dOut).2.1.size : Int)
    omega
  unfold tx_Size tx_Size.c
  dsimp only
  rw [u64_in (n := (ins.length : Int)) (by omega), num_CountLong_eq]
  simp only [Option.bind_some]
  rw [u64_in (n := (outs.length : Int)) (by omega), num_CountLong_eq, i64_in (n := 4 + cLong (ins.length : Int)) (by omega)]
  simp only [Option.bind_some]
  rw [i64_in (n := 4 + cLong (ins.length : Int) + cLong (outs.length : Int)) (by omega), i64_in (n := 4 + cLong (ins.length : Int) + cLong (outs.length : Int) + 4) (by omega)]
  have l0 : tx_Size.l0 k k (4 + cLong (ins.length : Int) + cLong (outs.length : Int) + 4, ins, (ins.length : Int), (0 : Int), (v, ins, outs, tm, ()), ()) =
      some (4 + cLong (ins.length : Int) + cLong (outs.length : Int) + 4 + (cat encIn dIn ins ins.length).length, (v, ins, outs, tm, ()), ()) := by
    have := loop_from0 (r := tx_Size.l0.r k) (fun i => (4 + cLong (ins.length : Int) + cLong (outs.length : Int) + 4 + (cat encIn dIn ins i).length, ins, (ins.length : Int), (i : Int), (v, ins, outs, tm, ()), ())) ins.length
      (4 + cLong (ins.length : Int) + cLong (outs.length : Int) + 4 + (cat encIn dIn ins ins.length).length, (v, ins, outs, tm, ()), ()) ?_ ?_ (fuel := k) (by omega)
    · rw [cat, List.length_nil, Int.natCast_zero, Int.add_zero] at this
      exact this
    · intro i h kn ke
      simp only [tx_Size.l0.r]
      have m := cat_mono encIn dIn ins (i := i + 1) (n := ins.length) (by omega)
      rw [cat, List.length_append] at m
      have e := encIn_length (hi i h)
      have e2 := cLong_range ((ins.getD i dIn).2.1.size : Int)
      rw [bif_yes (by omega), bif_yes (by omega), show (i : Int).toNat = i by omega, tx_long_eq k (si i h)]
      simp only [Option.bind_some]
      rw [i64_in (n := 40 + _) (by omega), i64_in (n := _ + (40 + _)) (by omega), i64_in (by omega), cat, List.length_append, Int.natCast_add, e]
      rw [Int.add_assoc (4 + cLong (ins.length : Int) + cLong (outs.length : Int) + 4)]
      rfl
    · intro kn ke
      simp only [tx_Size.l0.r]
      rw [bif_no (by omega)]
  rw [l0]
  simp only [Option.bind_some]
  have l1 : tx_Size.l1 k k (4 + cLong (ins.length : Int) + cLong (outs.length : Int) + 4 + (cat encIn dIn ins ins.length).length, outs, (outs.length : Int), (0 : Int), ()) =
      some (4 + cLong (ins.length : Int) + cLong (outs.length : Int) + 4 + (cat encIn dIn ins ins.length).length + (cat encOut dOut outs outs.length).length, ()) := by
    have := loop_from0 (r := tx_Size.l1.r k) (fun i => (4 + cLong (ins.length : Int) + cLong (outs.length : Int) + 4 + (cat encIn dIn ins ins.length).length + (cat encOut dOut outs i).length, outs, (outs.length : Int), (i : Int), ())) outs.length
      (4 + cLong (ins.length : Int) + cLong (outs.length : Int) + 4 + (cat encIn dIn ins ins.length).length + (cat encOut dOut outs outs.length).length, ()) ?_ ?_ (fuel := k) (by omega)
    · rw [cat, List.length_nil, Int.natCast_zero, Int.add_zero] at this
      exact this
    · intro i h kn ke
      simp only [tx_Size.l1.r]
      have m := cat_mono encOut dOut outs (i := i + 1) (n := outs.length) (by omega)
      rw [cat, List.length_append] at m
      have e := encOut_length (outs.getD i dOut)
      have e2 := cLong_range ((outs.getD i dOut).2.1.size : Int)
      rw [bif_yes (by omega), bif_yes (by omega), show (i : Int).toNat = i by omega, tx_long_eq k (so i h)]
      simp only [Option.bind_some]
      rw [i64_in (n := 8 + _) (by omega), i64_in (n := _ + (8 + _)) (by omega), i64_in (by omega), cat, List.length_append, Int.natCast_add, e]
      rw [Int.add_assoc (4 + cLong (ins.length : Int) + cLong (outs.length : Int) + 4 + ((cat encIn dIn ins ins.length).length : Int))]
      rfl
    · intro kn ke
      simp only [tx_Size.l1.r]
      rw [bif_no (by omega)]
  rw [l1]
  simp only [Option.bind_some]
  rw [show (4 + cLong (ins.length : Int) + cLong (outs.length : Int) + 4 + ((cat encIn dIn ins ins.length).length : Int) + ((cat encOut dOut outs outs.length).length : Int)) = ((encL (v, ins, outs, tm, u)).length : Int) by omega]

/-- Are all scripts short enough? -/
def scOK (t : TTx) : Prop := (∀ i, i < t.2.1.length → (t.2.1.getD i dIn).2.1.size ≤ 520) ∧ (∀ i, i < t.2.2.1.length → (t.2.2.1.getD i dOut).2.1.size ≤ 520)

instance (t : TTx) : Decidable (scOK t) := by unfold scOK; infer_instance

/-- What telling a transaction answers. -/
def encS (t : TTx) : ByteArray × Int := if scOK t then (if (encL t).length > 4096 then (eb, 101) else (bytesOf (encL t), 0)) else (eb, 100)

theorem encIns_in {t : TTx} (ht : TxOK t) {i : Nat} (h : i ≤ t.2.1.length) : bytesIn (encIns t i) := cat_in i fun j hj => encIn_in (ht.ins j (by omega))

theorem encOuts_in (t : TTx) (i : Nat) : bytesIn (encOuts t i) := cat_in i fun j _ => encOut_in _

theorem encL_in {t : TTx} (ht : TxOK t) : bytesIn (encL t) := by
  unfold encL
  intro y hy
  rcases List.mem_append.1 hy with hy | hy
  · rcases List.mem_append.1 hy with hy | hy
    · rcases List.mem_append.1 hy with hy | hy
      · rcases List.mem_append.1 hy with hy | hy
        · rcases List.mem_append.1 hy with hy | hy
          · exact lowI_in _ _ y hy
          · exact cBytes_in _ y hy
        · exact encIns_in ht (Nat.le_refl _) y hy
      · exact cBytes_in _ y hy
    · exact encOuts_in t _ y hy
  · exact lowI_in _ _ y hy

/-- Short scripts: not too many bytes to count. -/
theorem encL_bound {t : TTx} (ht : TxOK t) (hs : scOK t) : (encL t).length ≤ 4611686018427387904 := by
  have h1 : ∀ i, i ≤ t.2.1.length → (encIns t i).length ≤ i * 569 := by
    intro i
    induction i with
    | zero => intro _; simp [encIns, cat]
    | succ i ih =>
      intro h
      have := ih (by omega)
      have e := encIn_length (ht.ins i (by omega))
      have e2 := cLong_range ((t.2.1.getD i dIn).2.1.size : Int)
      have e3 := hs.1 i (by omega)
      show (cat encIn dIn t.2.1 i ++ encIn (t.2.1.getD i dIn)).length ≤ _
      rw [List.length_append, Nat.add_mul]
      have : (cat encIn dIn t.2.1 i).length ≤ i * 569 := this
      omega
  have h2 : ∀ i, i ≤ t.2.2.1.length → (encOuts t i).length ≤ i * 537 := by
    intro i
    induction i with
    | zero => intro _; simp [encOuts, cat]
    | succ i ih =>
      intro h
      have := ih (by omega)
      have e := encOut_length (t.2.2.1.getD i dOut)
      have e2 := cLong_range ((t.2.2.1.getD i dOut).2.1.size : Int)
      have e3 := hs.2 i (by omega)
      show (cat encOut dOut t.2.2.1 i ++ encOut (t.2.2.1.getD i dOut)).length ≤ _
      rw [List.length_append, Nat.add_mul]
      have : (cat encOut dOut t.2.2.1 i).length ≤ i * 537 := this
      omega
  have a1 := h1 t.2.1.length (Nat.le_refl _)
  have a2 := h2 t.2.2.1.length (Nat.le_refl _)
  have c1 := cBytes_le (t.2.1.length : Int)
  have c2 := cBytes_le (t.2.2.1.length : Int)
  have n1 := ht.nin
  have n2 := ht.nout
  rw [encL_length]
  have b1 : (cat encIn dIn t.2.1 t.2.1.length).length ≤ t.2.1.length * 569 := a1
  have b2 : (cat encOut dOut t.2.2.1 t.2.2.1.length).length ≤ t.2.2.1.length * 537 := a2
  omega

theorem tx_Encode_eq {k : Nat} {t : TTx} (ht : TxOK t) (hk : t.2.1.length + t.2.2.1.length + 20 ≤ k) : tx_Encode k t = some ((encS t).1, (encS t).2, ()) := by
  obtain ⟨v, ins, outs, tm, u⟩ := t
  have ht' := ht
  obtain ⟨hv, htm, hi, ho, hni, hno⟩ := ht'
  dsimp only at hv htm hi ho hni hno hk
  unfold tx_Encode tx_Encode.c
  dsimp only
  have l0 : tx_Encode.l0 k k (ins, (ins.length : Int), (0 : Int), (v, ins, outs, tm, ()), ()) = some (if ∀ i, i < ins.length → decide ((ins.getD i dIn).2.1.size ≤ 520) = true then .inr ((v, ins, outs, tm, ()), ()) else .inl (eb, 100, ())) := by
    refine loop_find (r := tx_Encode.l0.r k) (fun i => (ins, (ins.length : Int), (i : Int), (v, ins, outs, tm, ()), ())) ins.length _ _ (fun i => decide ((ins.getD i dIn).2.1.size ≤ 520)) ?_ ?_ ?_ (by omega)
    · intro i h hp kn ke
      simp only [tx_Encode.l0.r]
      rw [dIn_eq]
      have := of_decide_eq_true hp
      rw [bif_yes (by omega), bif_yes (by omega), show (i : Int).toNat = i by omega, bif_no (by omega), i64_in (by omega)]
      rfl
    · intro i h hp kn ke
      simp only [tx_Encode.l0.r]
      rw [dIn_eq]
      have := of_decide_eq_false hp
      rw [bif_yes (by omega), bif_yes (by omega), show (i : Int).toNat = i by omega, bif_yes (by omega)]
    · intro kn ke
      simp only [tx_Encode.l0.r]
      rw [bif_no (by omega)]
  rw [l0]
  simp only [Option.bind_some]
  by_cases c1 : ∀ i, i < ins.length → decide ((ins.getD i dIn).2.1.size ≤ 520) = true
  case neg =>
    rw [if_neg c1]
    have : ¬ scOK (v, ins, outs, tm, u) := fun h => c1 fun i hi => decide_eq_true (h.1 i hi)
    unfold encS
    rw [if_neg this]
  rw [if_pos c1]
  dsimp only
  have l1 : tx_Encode.l1 k k (outs, (outs.length : Int), (0 : Int), (v, ins, outs, tm, ()), ()) = some (if ∀ i, i < outs.length → decide ((outs.getD i dOut).2.1.size ≤ 520) = true then .inr ((v, ins, outs, tm, ()), ()) else .inl (eb, 100, ())) := by
    refine loop_find (r := tx_Encode.l1.r k) (fun i => (outs, (outs.length : Int), (i : Int), (v, ins, outs, tm, ()), ())) outs.length _ _ (fun i => decide ((outs.getD i dOut).2.1.size ≤ 520)) ?_ ?_ ?_ (by omega)
    · intro i h hp kn ke
      simp only [tx_Encode.l1.r]
      rw [dOut_eq]
      have := of_decide_eq_true hp
      rw [bif_yes (by omega), bif_yes (by omega), show (i : Int).toNat = i by omega, bif_no (by omega), i64_in (by omega)]
      rfl
    · intro i h hp kn ke
      simp only [tx_Encode.l1.r]
      rw [dOut_eq]
      have := of_decide_eq_false hp
      rw [bif_yes (by omega), bif_yes (by omega), show (i : Int).toNat = i by omega, bif_yes (by omega)]
    · intro kn ke
      simp only [tx_Encode.l1.r]
      rw [bif_no (by omega)]
  rw [l1]
  simp only [Option.bind_some]
  by_cases c2 : ∀ i, i < outs.length → decide ((outs.getD i dOut).2.1.size ≤ 520) = true
  case neg =>
    rw [if_neg c2]
    have : ¬ scOK (v, ins, outs, tm, u) := fun h => c2 fun i hi => decide_eq_true (h.2 i hi)
    unfold encS
    rw [if_neg this]
  rw [if_pos c2]
  dsimp only
  have hs : scOK (v, ins, outs, tm, u) := ⟨fun i h => of_decide_eq_true (c1 i h), fun i h => of_decide_eq_true (c2 i h)⟩
  have hbd := encL_bound ht hs
  show (tx_Size k (v, ins, outs, tm, u)).bind _ = _
  rw [tx_Size_eq ht hbd hk]
  simp only [Option.bind_some]
  unfold encS
  rw [if_pos hs]
  by_cases c3 : (encL (v, ins, outs, tm, u)).length > 4096
  · rw [bif_yes (by omega), if_pos c3]
  · rw [bif_no (by omega), if_neg c3]
    have hlen : (encL (v, ins, outs, tm, u)).length = 4 + (cBytes (ins.length : Int)).length + (cat encIn dIn ins ins.length).length + (cBytes (outs.length : Int)).length + (cat encOut dOut outs outs.length).length + 4 := encL_length (v, ins, outs, tm, u)
    rw [show num_NewWriter k = some ((((), ((), ())), ()), [], ()) from rfl]
    simp only [Option.bind_some]
    rw [wu32 (by omega) hv (by simp), List.nil_append]
    simp only [Option.bind_some]
    rw [u64_in (n := (ins.length : Int)) (by omega), wcnt (by omega) _ (by rw [lowI_length]; omega)]
    simp only [Option.bind_some]
    have l2 : tx_Encode.l2 k k (ins, (ins.length : Int), (0 : Int), (v, ins, outs, tm, ()), (((), ((), ())), ()), lowI v 4 ++ cBytes (ins.length : Int), ()) =
        some ((v, ins, outs, tm, ()), (((), ((), ())), ()), lowI v 4 ++ cBytes (ins.length : Int) ++ cat encIn dIn ins ins.length, ()) := by
      have := loop_from0 (r := tx_Encode.l2.r k) (fun i => (ins, (ins.length : Int), (i : Int), (v, ins, outs, tm, ()), (((), ((), ())), ()), lowI v 4 ++ cBytes (ins.length : Int) ++ cat encIn dIn ins i, ())) ins.length
        ((v, ins, outs, tm, ()), (((), ((), ())), ()), lowI v 4 ++ cBytes (ins.length : Int) ++ cat encIn dIn ins ins.length, ()) ?_ ?_ (fuel := k) (by omega)
      · rw [cat, List.append_nil] at this
        exact this
      · intro i h kn ke
        simp only [tx_Encode.l2.r]
        rw [dIn_eq]
        have m := cat_mono encIn dIn ins (i := i + 1) (n := ins.length) (by omega)
        rw [cat, List.length_append] at m
        have ok := hi i h
        have e := encIn_length ok
        have e2 := cLong_range ((ins.getD i dIn).2.1.size : Int)
        have hl : (lowI v 4 ++ cBytes (ins.length : Int) ++ cat encIn dIn ins i).length ≤ 4096 := by simp only [List.length_append, lowI_length]; omega
        rw [bif_yes (by omega), bif_yes (by omega), show (i : Int).toNat = i by omega]
        generalize hP : lowI v 4 ++ cBytes (ins.length : Int) ++ cat encIn dIn ins i = P at *
        rw [whash k ok.1 (by omega)]
        simp only [Option.bind_some]
        rw [wu32 (by omega) ok.2.1 (by rw [List.length_append, List.length_take]; omega)]
        simp only [Option.bind_some]
        rw [wstr (by omega) _ (by simp only [List.length_append, List.length_take, lowI_length]; omega)]
        simp only [Option.bind_some]
        have := encStr_length (ins.getD i dIn).2.1
        rw [wu32 (by omega) ok.2.2 (by simp only [List.length_append, List.length_take, lowI_length]; omega)]
        simp only [Option.bind_some]
        rw [i64_in (by omega)]
        have e4 : P ++ (ins.getD i dIn).1.1.take 32 ++ lowI (ins.getD i dIn).1.2.1 4 ++ encStr (ins.getD i dIn).2.1 ++ lowI (ins.getD i dIn).2.2.1 4 = lowI v 4 ++ cBytes (ins.length : Int) ++ cat encIn dIn ins (i + 1) := by
          rw [cat, ← List.append_assoc, hP]
          unfold encIn
          simp only [List.append_assoc]
        rw [e4]
        rfl
      · intro kn ke
        simp only [tx_Encode.l2.r]
        rw [bif_no (by omega)]
    rw [l2]
    simp only [Option.bind_some]
    rw [u64_in (n := (outs.length : Int)) (by omega), wcnt (by omega) _ (by simp only [List.length_append, lowI_length]; omega)]
    simp only [Option.bind_some]
    generalize hQ : lowI v 4 ++ cBytes (ins.length : Int) ++ cat encIn dIn ins ins.length ++ cBytes (outs.length : Int) = Q
    have hQl : Q.length = 4 + (cBytes (ins.length : Int)).length + (cat encIn dIn ins ins.length).length + (cBytes (outs.length : Int)).length := by rw [← hQ]; simp only [List.length_append, lowI_length]
    have l3 : tx_Encode.l3 k k (outs, (outs.length : Int), (0 : Int), (v, ins, outs, tm, ()), (((), ((), ())), ()), Q, ()) = some ((v, ins, outs, tm, ()), (((), ((), ())), ()), Q ++ cat encOut dOut outs outs.length, ()) := by
      have := loop_from0 (r := tx_Encode.l3.r k) (fun i => (outs, (outs.length : Int), (i : Int), (v, ins, outs, tm, ()), (((), ((), ())), ()), Q ++ cat encOut dOut outs i, ())) outs.length
        ((v, ins, outs, tm, ()), (((), ((), ())), ()), Q ++ cat encOut dOut outs outs.length, ()) ?_ ?_ (fuel := k) (by omega)
      · rw [cat, List.append_nil] at this
        exact this
      · intro i h kn ke
        simp only [tx_Encode.l3.r]
        rw [dOut_eq]
        have m := cat_mono encOut dOut outs (i := i + 1) (n := outs.length) (by omega)
        rw [cat, List.length_append] at m
        have e := encOut_length (outs.getD i dOut)
        have e2 := cLong_range ((outs.getD i dOut).2.1.size : Int)
        have hl : (Q ++ cat encOut dOut outs i).length ≤ 4096 := by rw [List.length_append]; omega
        rw [bif_yes (by omega), bif_yes (by omega), show (i : Int).toNat = i by omega]
        generalize hP : Q ++ cat encOut dOut outs i = P at *
        rw [wu64 (by omega) _ (by omega)]
        simp only [Option.bind_some]
        rw [wstr (by omega) _ (by simp only [List.length_append, lowI_length]; omega)]
        simp only [Option.bind_some]
        rw [i64_in (by omega)]
        have e4 : P ++ lowI (outs.getD i dOut).1 8 ++ encStr (outs.getD i dOut).2.1 = Q ++ cat encOut dOut outs (i + 1) := by
          rw [cat, ← List.append_assoc, hP]
          unfold encOut
          simp only [List.append_assoc]
        rw [e4]
        rfl
      · intro kn ke
        simp only [tx_Encode.l3.r]
        rw [bif_no (by omega)]
    rw [l3]
    simp only [Option.bind_some]
    rw [wu32 (by omega) htm (by rw [List.length_append]; omega)]
    simp only [Option.bind_some]
    have e5 : Q ++ cat encOut dOut outs outs.length ++ lowI tm 4 = encL (v, ins, outs, tm, u) := by rw [← hQ]; rfl
    rw [e5]
    unfold num_Writer_Text num_Writer_Text.c
    rw [cond_true' (ble_of (by omega))]
    rfl

theorem take_snoc {α β : Type} (f : α → β) (l : List α) (d : α) {i : Nat} (h : i < l.length) : (l.take i).map f ++ [f (l.getD i d)] = (l.take (i + 1)).map f := by
  rw [List.take_add_one, List.getD_eq_getElem?_getD, List.getElem?_eq_getElem h, Option.toList_some, List.map_append]
  rfl

theorem strEq_dec (s t : ByteArray) : strEq s t = decide (s = t) := by
  by_cases h : s = t
  · rw [h, strEq_self, decide_eq_true rfl]
  · rw [strEq_false h, decide_eq_false h]

theorem all_dec {α : Type} [DecidableEq α] (d : α) {a b : List α} (h : a.length = b.length) : (∀ i, i < a.length → decide (a.getD i d = b.getD i d) = true) ↔ a = b := by
  constructor
  · intro h2
    apply List.ext_getElem h
    intro i h3 h4
    have := of_decide_eq_true (h2 i h3)
    rw [List.getD_eq_getElem?_getD, List.getD_eq_getElem?_getD, List.getElem?_eq_getElem h3, List.getElem?_eq_getElem h4] at this
    exact this
  · rintro rfl i _
    exact decide_eq_true rfl

abbrev dR : RIn := (List.replicate 32 (0 : Int), 0, ByteArray.empty, 0, ())

theorem dR_eq : (List.replicate 32 (0 : Int), (0 : Int), ByteArray.empty, (0 : Int), ()) = dR := rfl

theorem gIn_getD {l : List TIn} {i : Nat} (h : i < l.length) : (l.map gIn).getD i dR = gIn (l.getD i dIn) := by
  rw [List.getD_eq_getElem?_getD, List.getD_eq_getElem?_getD, List.getElem?_map, List.getElem?_eq_getElem h]
  rfl

theorem ref10_Bytes_eq {k : Nat} {t : TTx} (ht : TxOK t) (hb : (encL t).length ≤ 4611686018427387904) (hk : t.2.1.length + t.2.2.1.length + 20 ≤ k) : bedrockref10_Bytes k (gTx t) = some (bytesOf (encL t), ()) := by
  obtain ⟨v, ins, outs, tm, u⟩ := t
  obtain ⟨hv, htm, hi, ho, hni, hno⟩ := ht
  dsimp only at hv htm hi ho hni hno hk
  have hlen := encL_length (v, ins, outs, tm, u)
  dsimp only at hlen
  have hv1 := hv.1
  have hv2 := hv.2
  have ht1 := htm.1
  have ht2 := htm.2
  unfold bedrockref10_Bytes bedrockref10_Bytes.c
  show (bedrockref10_lay k (IntKind.u64.wrap v) ((4 : Nat) : Int)).bind _ = _
  rw [u64_in (n := v) (by omega), ref10_lay_eq (by omega) v (by omega) 4 (by omega)]
  simp only [Option.bind_some]
  rw [show (gTx (v, ins, outs, tm, u)).2.1 = ins.map gIn from rfl, List.length_map, u64_in (n := (ins.length : Int)) (by omega), ref10_Count_eq (by omega) _ (by omega)]
  simp only [Option.bind_some]
  rw [cond_true' (ble_of (by rw [bytesOf_size, bytesOf_size, lowI_length]; omega)), bytesOf_append]
  generalize hP : lowI v 4 ++ cBytes (ins.length : Int) = P
  have hPl : P.length = 4 + (cBytes (ins.length : Int)).length := by rw [← hP, List.length_append, lowI_length]
  have l0 : bedrockref10_Bytes.l0 k k (bytesOf P, ins.map gIn, (ins.length : Int), (0 : Int), (v, ins.map gIn, outs, tm, ()), ()) = some (bytesOf (P ++ cat encIn dIn ins ins.length), (v, ins.map gIn, outs, tm, ()), ()) := by
    have := loop_from0 (r := bedrockref10_Bytes.l0.r k) (fun i => (bytesOf (P ++ cat encIn dIn ins i), ins.map gIn, (ins.length : Int), (i : Int), (v, ins.map gIn, outs, tm, ()), ())) ins.length
      (bytesOf (P ++ cat encIn dIn ins ins.length), (v, ins.map gIn, outs, tm, ()), ()) ?_ ?_ (fuel := k) (by omega)
    · rw [cat, List.append_nil] at this
      exact this
    · intro i h kn ke
      simp only [bedrockref10_Bytes.l0.r]
      have m := cat_mono encIn dIn ins (i := i + 1) (n := ins.length) (by omega)
      rw [cat, List.length_append] at m
      have ok := hi i h
      have e := encIn_length ok
      have e2 := cLong_range ((ins.getD i dIn).2.1.size : Int)
      have e3 := cBytes_length ((ins.getD i dIn).2.1.size : Int)
      rw [bif_yes (by omega), bif_yes (by rw [List.length_map]; omega), show (i : Int).toNat = i by omega, dR_eq, gIn_getD h]
      generalize hx : ins.getD i dIn = y at m ok e e2 e3 ⊢
      obtain ⟨⟨hash, idx, u0⟩, key, sq, u1⟩ := y
      obtain ⟨⟨q1, q2⟩, q3, q4⟩ := ok
      dsimp only [gIn] at q1 q2 q3 q4 e e2 e3 ⊢
      have a1 := q3.1
      have a2 := q3.2
      have a3 := q4.1
      have a4 := q4.2
      have hs : (bytesOf (P ++ cat encIn dIn ins i)).size = P.length + (cat encIn dIn ins i).length := by rw [bytesOf_size, List.length_append]
      have ht32 : (hash.take 32).length = 32 := by rw [List.length_take]; omega
      rw [List.drop_zero, u64_in (n := idx) (by omega), show (4 : Int) = ((4 : Nat) : Int) from rfl, ref10_lay_eq (by omega) idx (by omega) 4 (by omega)]
      simp only [Option.bind_some]
      rw [cond_true' (ble_of (by rw [bytesOf_size, bytesOf_size, lowI_length, ht32]; omega)), bytesOf_append, u64_in (n := (key.size : Int)) (by omega), ref10_Count_eq (by omega) _ (by omega)]
      simp only [Option.bind_some]
      rw [cond_true' (ble_of (by rw [bytesOf_size, bytesOf_size, List.length_append, lowI_length, ht32]; omega)), bytesOf_append]
      rw [cond_true' (ble_of (by rw [bytesOf_size, List.length_append, List.length_append, lowI_length, ht32]; omega)), show key = bytesOf (ofBytes key) from (bytesOf_ofBytes key).symm, bytesOf_append, u64_in (n := sq) (by omega), ref10_lay_eq (by omega) sq (by omega) 4 (by omega)]
      simp only [Option.bind_some, bytesOf_ofBytes]
      have hz := ofBytes_length key
      rw [cond_true' (ble_of (by simp only [bytesOf_size, List.length_append, lowI_length, ht32]; omega)), bytesOf_append]
      rw [cond_true' (ble_of (by simp only [bytesOf_size, List.length_append, lowI_length, ht32]; omega)), bytesOf_append, i64_in (by omega)]
      have e4 : P ++ cat encIn dIn ins i ++ (hash.take 32 ++ lowI idx 4 ++ cBytes (key.size : Int) ++ ofBytes key ++ lowI sq 4) = P ++ cat encIn dIn ins (i + 1) := by
        rw [cat, hx]
        unfold encIn encStr
        simp only [List.append_assoc]
      rw [e4]
      rfl
    · intro kn ke
      simp only [bedrockref10_Bytes.l0.r]
      rw [bif_no (by omega)]
  show (bedrockref10_Bytes.l0 k k (bytesOf P, ins.map gIn, (ins.length : Int), (0 : Int), (v, ins.map gIn, outs, tm, ()), ())).bind _ = _
  rw [l0]
  simp only [Option.bind_some]
  rw [u64_in (n := (outs.length : Int)) (by omega), ref10_Count_eq (by omega) _ (by omega)]
  simp only [Option.bind_some]
  rw [cond_true' (ble_of (by simp only [bytesOf_size, List.length_append]; omega)), bytesOf_append]
  generalize hQ : P ++ cat encIn dIn ins ins.length ++ cBytes (outs.length : Int) = Q
  have hQl : Q.length = P.length + (cat encIn dIn ins ins.length).length + (cBytes (outs.length : Int)).length := by rw [← hQ, List.length_append, List.length_append]
  have l1 : bedrockref10_Bytes.l1 k k (bytesOf Q, outs, (outs.length : Int), (0 : Int), (v, ins.map gIn, outs, tm, ()), ()) = some (bytesOf (Q ++ cat encOut dOut outs outs.length), (v, ins.map gIn, outs, tm, ()), ()) := by
    have := loop_from0 (r := bedrockref10_Bytes.l1.r k) (fun i => (bytesOf (Q ++ cat encOut dOut outs i), outs, (outs.length : Int), (i : Int), (v, ins.map gIn, outs, tm, ()), ())) outs.length
      (bytesOf (Q ++ cat encOut dOut outs outs.length), (v, ins.map gIn, outs, tm, ()), ()) ?_ ?_ (fuel := k) (by omega)
    · rw [cat, List.append_nil] at this
      exact this
    · intro i h kn ke
      simp only [bedrockref10_Bytes.l1.r]
      have m := cat_mono encOut dOut outs (i := i + 1) (n := outs.length) (by omega)
      rw [cat, List.length_append] at m
      have ok := ho i h
      have e := encOut_length (outs.getD i dOut)
      have e2 := cLong_range ((outs.getD i dOut).2.1.size : Int)
      have e3 := cBytes_length ((outs.getD i dOut).2.1.size : Int)
      rw [bif_yes (by omega), bif_yes (by omega), show (i : Int).toNat = i by omega, dOut_eq]
      generalize hx : outs.getD i dOut = y at m ok e e2 e3 ⊢
      obtain ⟨val, lock, u1⟩ := y
      obtain ⟨q1, q2⟩ := ok
      dsimp only at q1 q2 e e2 e3 ⊢
      have hs : (bytesOf (Q ++ cat encOut dOut outs i)).size = Q.length + (cat encOut dOut outs i).length := by rw [bytesOf_size, List.length_append]
      have hz := ofBytes_length lock
      rw [show (8 : Int) = ((8 : Nat) : Int) from rfl, ref10_lay_eq (by omega) val (by omega) 8 (by omega)]
      simp only [Option.bind_some]
      rw [u64_in (n := (lock.size : Int)) (by omega), ref10_Count_eq (by omega) _ (by omega)]
      simp only [Option.bind_some]
      rw [cond_true' (ble_of (by simp only [bytesOf_size, lowI_length]; omega)), bytesOf_append]
      rw [cond_true' (ble_of (by simp only [bytesOf_size, List.length_append, lowI_length]; omega)), show lock = bytesOf (ofBytes lock) from (bytesOf_ofBytes lock).symm, bytesOf_append]
      simp only [bytesOf_ofBytes]
      rw [cond_true' (ble_of (by simp only [bytesOf_size, List.length_append, lowI_length]; omega)), bytesOf_append, i64_in (by omega)]
      have e4 : Q ++ cat encOut dOut outs i ++ (lowI val 8 ++ cBytes (lock.size : Int) ++ ofBytes lock) = Q ++ cat encOut dOut outs (i + 1) := by
        rw [cat, hx]
        unfold encOut encStr
        simp only [List.append_assoc]
      rw [e4]
      rfl
    · intro kn ke
      simp only [bedrockref10_Bytes.l1.r]
      rw [bif_no (by omega)]
  show (bedrockref10_Bytes.l1 k k (bytesOf Q, outs, (outs.length : Int), (0 : Int), (v, ins.map gIn, outs, tm, ()), ())).bind _ = _
  rw [l1]
  simp only [Option.bind_some]
  rw [u64_in (n := tm) (by omega), show (4 : Int) = ((4 : Nat) : Int) from rfl, ref10_lay_eq (by omega) tm (by omega) 4 (by omega)]
  simp only [Option.bind_some]
  rw [cond_true' (ble_of (by simp only [bytesOf_size, List.length_append, lowI_length]; omega)), bytesOf_append]
  have e5 : Q ++ cat encOut dOut outs outs.length ++ lowI tm 4 = encL (v, ins, outs, tm, u) := by rw [← hQ, ← hP]; rfl
  rw [e5]

/-- What is wrong with a transaction that is to be told. -/
theorem ref10_Told_eq {k : Nat} {t : TTx} (ht : TxOK t) (hk : t.2.1.length + t.2.2.1.length + 20 ≤ k) : bedrockref10_Told k (gTx t) = some ((encS t).2, ()) := by
  obtain ⟨v, ins, outs, tm, u⟩ := t
  have ht' := ht
  obtain ⟨hv, htm, hi, ho, hni, hno⟩ := ht'
  dsimp only at hv htm hi ho hni hno hk
  unfold bedrockref10_Told bedrockref10_Told.c
  have l0 : bedrockref10_Told.l0 k k (ins.map gIn, (ins.length : Int), (0 : Int), (v, ins.map gIn, outs, tm, ()), ()) = some (if ∀ i, i < ins.length → decide ((ins.getD i dIn).2.1.size ≤ 520) = true then .inr ((v, ins.map gIn, outs, tm, ()), ()) else .inl (100, ())) := by
    refine loop_find (r := bedrockref10_Told.l0.r k) (fun i => (ins.map gIn, (ins.length : Int), (i : Int), (v, ins.map gIn, outs, tm, ()), ())) ins.length _ _ (fun i => decide ((ins.getD i dIn).2.1.size ≤ 520)) ?_ ?_ ?_ (by omega)
    · intro i h hp kn ke
      simp only [bedrockref10_Told.l0.r]
      have hq := of_decide_eq_true hp
      rw [bif_yes (by omega), bif_yes (by rw [List.length_map]; omega), show (i : Int).toNat = i by omega, dR_eq, gIn_getD h]
      rw [bif_no (show ¬ ((((gIn (ins.getD i dIn)).2.2.1.size : Nat) : Int) > 520) by show ¬ (((ins.getD i dIn).2.1.size : Nat) : Int) > 520; omega), i64_in (by omega)]
      rfl
    · intro i h hp kn ke
      simp only [bedrockref10_Told.l0.r]
      have hq := of_decide_eq_false hp
      rw [bif_yes (by omega), bif_yes (by rw [List.length_map]; omega), show (i : Int).toNat = i by omega, dR_eq, gIn_getD h]
      rw [bif_yes (show ((((gIn (ins.getD i dIn)).2.2.1.size : Nat) : Int) > 520) by show (((ins.getD i dIn).2.1.size : Nat) : Int) > 520; omega)]
    · intro kn ke
      simp only [bedrockref10_Told.l0.r]
      rw [bif_no (by omega)]
  rw [show (gTx (v, ins, outs, tm, u)).2.1 = ins.map gIn from rfl]
  dsimp only
  rw [List.length_map]
  show (bedrockref10_Told.l0 k k (ins.map gIn, (ins.length : Int), (0 : Int), (v, ins.map gIn, outs, tm, ()), ())).bind _ = _
  rw [l0]
  simp only [Option.bind_some]
  by_cases c1 : ∀ i, i < ins.length → decide ((ins.getD i dIn).2.1.size ≤ 520) = true
  case neg =>
    rw [if_neg c1]
    have : ¬ scOK (v, ins, outs, tm, u) := fun h => c1 fun i hi => decide_eq_true (h.1 i hi)
    unfold encS
    rw [if_neg this]
  rw [if_pos c1]
  dsimp only
  have l1 : bedrockref10_Told.l1 k k (outs, (outs.length : Int), (0 : Int), (v, ins.map gIn, outs, tm, ()), ()) = some (if ∀ i, i < outs.length → decide ((outs.getD i dOut).2.1.size ≤ 520) = true then .inr ((v, ins.map gIn, outs, tm, ()), ()) else .inl (100, ())) := by
    refine loop_find (r := bedrockref10_Told.l1.r k) (fun i => (outs, (outs.length : Int), (i : Int), (v, ins.map gIn, outs, tm, ()), ())) outs.length _ _ (fun i => decide ((outs.getD i dOut).2.1.size ≤ 520)) ?_ ?_ ?_ (by omega)
    · intro i h hp kn ke
      simp only [bedrockref10_Told.l1.r]
      have hq := of_decide_eq_true hp
      rw [dOut_eq, bif_yes (by omega), bif_yes (by omega), show (i : Int).toNat = i by omega, bif_no (by omega), i64_in (by omega)]
      rfl
    · intro i h hp kn ke
      simp only [bedrockref10_Told.l1.r]
      have hq := of_decide_eq_false hp
      rw [dOut_eq, bif_yes (by omega), bif_yes (by omega), show (i : Int).toNat = i by omega, bif_yes (by omega)]
    · intro kn ke
      simp only [bedrockref10_Told.l1.r]
      rw [bif_no (by omega)]
  rw [l1]
  simp only [Option.bind_some]
  by_cases c2 : ∀ i, i < outs.length → decide ((outs.getD i dOut).2.1.size ≤ 520) = true
  case neg =>
    rw [if_neg c2]
    have : ¬ scOK (v, ins, outs, tm, u) := fun h => c2 fun i hi => decide_eq_true (h.2 i hi)
    unfold encS
    rw [if_neg this]
  rw [if_pos c2]
  dsimp only
  have hs : scOK (v, ins, outs, tm, u) := ⟨fun i h => of_decide_eq_true (c1 i h), fun i h => of_decide_eq_true (c2 i h)⟩
  have hbd := encL_bound ht hs
  show (bedrockref10_Bytes k (gTx (v, ins, outs, tm, u))).bind _ = _
  rw [ref10_Bytes_eq ht hbd hk]
  simp only [Option.bind_some]
  unfold encS
  rw [if_pos hs, bytesOf_size]
  by_cases c3 : (encL (v, ins, outs, tm, u)).length > 4096
  · rw [bif_yes (by omega), if_pos c3]
  · rw [bif_no (by omega), if_neg c3]

/-- A transaction's id. -/
def idS (t : TTx) : List Int := if (encS t).2 ≠ 0 then List.replicate 32 0 else sumL (sumL (encL t))

theorem encS_small (t : TTx) : (encS t).1.size ≤ 4096 := by
  unfold encS
  split
  · split
    · exact Nat.zero_le _
    · rw [bytesOf_size]; omega
  · exact Nat.zero_le _

theorem encS_ok' {t : TTx} (h : (encS t).2 = 0) : scOK t ∧ (encL t).length ≤ 4096 ∧ (encS t).1 = bytesOf (encL t) := by
  unfold encS at h ⊢
  by_cases c : scOK t
  · rw [if_pos c] at h ⊢
    by_cases c2 : (encL t).length > 4096
    · rw [if_pos c2] at h; simp at h
    · rw [if_neg c2]
      exact ⟨c, by omega, rfl⟩
  · rw [if_neg c] at h; simp at h

theorem encS_err {t : TTx} (h : (encS t).2 ≠ 0) : (encS t).1 = eb := by
  unfold encS at h ⊢
  by_cases c : scOK t
  · rw [if_pos c] at h ⊢
    by_cases c2 : (encL t).length > 4096
    · rw [if_pos c2]
    · rw [if_neg c2] at h; exact absurd rfl h
  · rw [if_neg c]

theorem tx_ID_eq {k : Nat} {t : TTx} (ht : TxOK t) (hk : t.2.1.length + t.2.2.1.length + 300 ≤ k) : tx_ID k t = some (idS t, (encS t).2, ()) := by
  unfold tx_ID tx_ID.c
  show (tx_Encode k t).bind _ = _
  rw [tx_Encode_eq ht (by omega)]
  simp only [Option.bind_some]
  unfold idS
  by_cases c : (encS t).2 ≠ 0
  · rw [cond_true' (by simpa using c), if_pos c]
  · have c' : (encS t).2 = 0 := by simpa using c
    obtain ⟨_, h2, h3⟩ := encS_ok' c'
    rw [cond_false' (by simpa using c), if_neg c, h3, sha_Twice_eq (by omega) (by rw [bytesOf_size]; omega) (by rw [bytesOf_size]; omega), ofBytes_bytesOf (encL_in ht), c']
    rfl

theorem ref10_ID_eq {k : Nat} {t : TTx} (ht : TxOK t) (hk : t.2.1.length + t.2.2.1.length + 300 ≤ k) : bedrockref10_ID k (gTx t) = some (idS t, decide ((encS t).2 = 0), ()) := by
  unfold bedrockref10_ID bedrockref10_ID.c
  show (bedrockref10_Told k (gTx t)).bind _ = _
  rw [ref10_Told_eq ht (by omega)]
  simp only [Option.bind_some]
  unfold idS
  by_cases c : (encS t).2 ≠ 0
  · rw [cond_true' (by simpa using c), if_pos c, decide_eq_false c]
  · have c' : (encS t).2 = 0 := by simpa using c
    obtain ⟨_, h2, h3⟩ := encS_ok' c'
    rw [cond_false' (by simpa using c), if_neg c]
    show (bedrockref10_Bytes k (gTx t)).bind _ = _
    rw [ref10_Bytes_eq ht (by omega) (by omega)]
    simp only [Option.bind_some]
    rw [ref_Twice_eq (by omega) (by rw [bytesOf_size]; omega) (by rw [bytesOf_size]; omega), ofBytes_bytesOf (encL_in ht), decide_eq_true c']
    rfl

end Go.Am
