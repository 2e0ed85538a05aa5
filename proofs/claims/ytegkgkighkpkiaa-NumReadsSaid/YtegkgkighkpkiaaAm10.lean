/- A part of a proof: a machine of abstract values that tells what functions of the program compute, and the plain facts on them. -/
import Derived.Test.YtegkgkighkpkiaaAm9
import Derived.Test.YtegkgkighkpkiaaAm8
import Derived.KernelRfl
set_option linter.unusedVariables false
set_option linter.unusedSimpArgs false
set_option linter.unnecessarySimpa false
set_option linter.unusedSectionVars false
/- NumReads: the plain law. -/
namespace Go.Am
open Go

abbrev Rd : Type := ByteArray × Int × Int × Unit
/-- A reader stands within its text. -/
def RdOK (r : Rd) : Prop := r.1.size ≤ 140737488351232 ∧ 0 ≤ r.2.1 ∧ r.2.1 ≤ (r.1.size : Int)

theorem awake01 {k : Nat} (hk : 9 ≤ k) : bedrocklaw01_awake k = some (true, ()) := by
  obtain ⟨j, rfl⟩ : ∃ j, k = j + 2 := ⟨k - 2, by omega⟩
  unfold bedrocklaw01_awake bedrocklaw01_awake.c
  rw [num_TakeCount_eq (by omega) _ _ (by decide), show tcSpec ⟨List.toArray [253, 0, 1]⟩ 0 = (256, 3, 0, ()) by kernel_rfl, show num_Hex (j + 2) ⟨List.toArray [171]⟩ = some (⟨List.toArray [97, 98]⟩, ()) by kernel_rfl]
  simp only [Option.bind_some, beq_self_eq_true, cond_true, strEq_self]

/-- n letters from where the reader stands. -/
def takeS (r : Rd) (n : Int) : Rd × ByteArray :=
  if r.2.2.1 ≠ 0 then (r, ⟨List.toArray []⟩) else
  if n < 0 then ((r.1, r.2.1, 1, ()), ⟨List.toArray []⟩) else
  if n > (r.1.size : Int) - r.2.1 then ((r.1, r.2.1, 4, ()), ⟨List.toArray []⟩) else
  ((r.1, r.2.1 + n, r.2.2.1, ()), r.1.extract r.2.1.toNat (r.2.1 + n).toNat)

theorem takeS_ok {r : Rd} (h : RdOK r) (n : Int) : RdOK (takeS r n).1 ∧ (takeS r n).1.1 = r.1 := by
  obtain ⟨h1, h2, h3⟩ := h
  unfold takeS
  split
  · exact ⟨⟨h1, h2, h3⟩, rfl⟩
  · split
    · exact ⟨⟨h1, h2, h3⟩, rfl⟩
    · split
      · exact ⟨⟨h1, h2, h3⟩, rfl⟩
      · exact ⟨⟨h1, by dsimp only; omega, by dsimp only; omega⟩, rfl⟩

theorem takeS_size {r : Rd} (h : RdOK r) (n : Int) : (takeS r n).2.size = 0 ∨ (takeS r n).2.size = n.toNat := by
  obtain ⟨h1, h2, h3⟩ := h
  unfold takeS
  split
  · exact .inl rfl
  · split
    · exact .inl rfl
    · split
      · exact .inl rfl
      · right
        rw [ByteArray.size_extract]; omega

/-- With a fault nothing is taken. -/
theorem takeS_err {r : Rd} (n : Int) (he : (takeS r n).1.2.2.1 ≠ 0) : (takeS r n).2 = ⟨List.toArray []⟩ := by
  unfold takeS at he ⊢
  split
  · rfl
  · split
    · rfl
    · split
      · rfl
      · rename_i h0 h1 h2
        rw [if_neg h0, if_neg h1, if_neg h2] at he
        exact absurd he h0
theorem takeS_fine {r : Rd} (h : RdOK r) {n : Int} (he : (takeS r n).1.2.2.1 = 0) : (takeS r n).2.size = n.toNat ∧ 0 ≤ n := by
  obtain ⟨h1, h2, h3⟩ := h
  unfold takeS at he ⊢
  split
  · rename_i h0
    rw [if_pos h0] at he
    exact absurd he h0
  · rename_i h0
    rw [if_neg h0] at he
    split
    · rename_i h1
      rw [if_pos h1] at he; cases he
    · rename_i h1
      rw [if_neg h1] at he
      split
      · rename_i h2
        rw [if_pos h2] at he; cases he
      · exact ⟨by rw [ByteArray.size_extract]; omega, by omega⟩

theorem bytes_eq (k : Nat) {r : Rd} (h : RdOK r) {n : Int} : num_Reader_Bytes k n r = some ((takeS r n).2, (takeS r n).1, ()) := by
  obtain ⟨s, a, e, u⟩ := r
  obtain ⟨h1, h2, h3⟩ := h
  simp only at h1 h2 h3
  unfold num_Reader_Bytes num_Reader_Bytes.c takeS
  rw [show num_Reader_Err k (s, a, e, ()) = some (e, (s, a, e, ()), ()) from rfl]
  simp only [Option.bind_some]
  by_cases he : e = 0
  · subst he
    rw [bne_self_eq_false, cond_false, if_neg (by simp)]
    by_cases hn : n < 0
    · rw [bif_yes hn, if_pos hn]
    · rw [bif_no hn, if_neg hn, show num_Reader_Left k (s, a, (0 : Int), ()) = some (IntKind.i64.wrap ((s.size : Int) - a), (s, a, (0 : Int), ()), ()) from rfl]
      simp only [Option.bind_some]
      rw [i64_in (n := (s.size : Int) - a) (by omega)]
      by_cases hg : n > (s.size : Int) - a
      · rw [bif_yes hg, if_pos hg]
      · rw [bif_no hg, if_neg hg, i64_in (n := a + n) (by omega), i64_in (by omega), bif_yes (by omega), show a + n - n = a by omega]
  · rw [cond_true' (by simpa using he), if_pos he]

theorem refTake_eq (k : Nat) {r : Rd} (h : RdOK r) {n : Int} : bedrockref01_Reader_Take k r n = some ((takeS r n).1, (takeS r n).2, ()) := by
  obtain ⟨s, a, e, u⟩ := r
  obtain ⟨h1, h2, h3⟩ := h
  simp only at h1 h2 h3
  unfold bedrockref01_Reader_Take bedrockref01_Reader_Take.c takeS
  dsimp only
  by_cases he : e = 0
  · subst he
    rw [bne_self_eq_false, cond_false, if_neg (by simp)]
    by_cases hn : n < 0
    · rw [bif_yes hn, if_pos hn]
    · rw [bif_no hn, if_neg hn, i64_in (n := (s.size : Int) - a) (by omega)]
      by_cases hg : n > (s.size : Int) - a
      · rw [bif_yes (by omega), if_pos hg]
      · rw [bif_no (by omega), if_neg hg, i64_in (n := a + n) (by omega), i64_in (by omega), bif_yes (by omega), show a + n - n = a by omega]
  · rw [cond_true' (by simpa using he), if_pos he]

theorem leI_lt {l : List Int} (h : bytesIn l) {m : Nat} (hm : l.length ≤ m) : 0 ≤ leI l ∧ leI l < 256 ^ m := by
  obtain ⟨h1, h2⟩ := leI_range h
  refine ⟨h1, Int.lt_of_lt_of_le h2 ?_⟩
  have : (256 : Nat) ^ l.length ≤ 256 ^ m := Nat.pow_le_pow_right (by omega) hm
  have h3 : (((256 : Nat) ^ l.length : Nat) : Int) ≤ ((256 ^ m : Nat) : Int) := Int.ofNat_le.2 this
  rw [Int.natCast_pow, Int.natCast_pow] at h3
  exact h3

/-- The number that n letters say. -/
def numS (r : Rd) (n : Int) : Int := leI (ofBytes (takeS r n).2)
theorem numS_lt {r : Rd} (h : RdOK r) (n : Nat) : 0 ≤ numS r n ∧ numS r n < 256 ^ n := by
  refine leI_lt (ofBytes_in' _) ?_
  rw [ofBytes_length]
  rcases takeS_size h (n : Int) with h | h <;> omega

theorem numTake_eq {k : Nat} (hk : 9 ≤ k) {r : Rd} (h : RdOK r) (n : Nat) (hn : n ≤ 8) : num_take k (takeS r n).2 = some (numS r n, ()) :=
  num_take_eq hk _ (by rcases takeS_size h (n : Int) with h | h <;> omega)
theorem refGet_eq {k : Nat} (hk : 9 ≤ k) {r : Rd} (h : RdOK r) (n : Nat) (hn : n ≤ 8) : bedrockref01_Get k (takeS r n).2 = some (numS r n, ()) :=
  bedrockref01_Get_eq hk _ (by rcases takeS_size h (n : Int) with h | h <;> omega)

theorem u16_mod (n : Int) : IntKind.u16.wrap n = n % 65536 := IntKind.wrap_u16 n

theorem byte_eq {k : Nat} (hk : 9 ≤ k) {r : Rd} (h : RdOK r) : num_Reader_Byte k r = some (numS r 1, (takeS r 1).1, ()) := by
  unfold num_Reader_Byte num_Reader_Byte.c
  show (num_Reader_Bytes k 1 r).bind _ = _
  rw [bytes_eq k h]
  simp only [Option.bind_some]
  rw [show (1 : Int) = ((1 : Nat) : Int) from rfl, numTake_eq hk h 1 (by omega)]
  have := numS_lt h 1
  simp only [Option.bind_some]
  rw [u8_in (by omega)]
theorem u16_eq {k : Nat} (hk : 9 ≤ k) {r : Rd} (h : RdOK r) : num_Reader_U16 k r = some (numS r 2, (takeS r 2).1, ()) := by
  unfold num_Reader_U16 num_Reader_U16.c
  show (num_Reader_Bytes k 2 r).bind _ = _
  rw [bytes_eq k h]
  simp only [Option.bind_some]
  rw [show (2 : Int) = ((2 : Nat) : Int) from rfl, numTake_eq hk h 2 (by omega)]
  have := numS_lt h 2
  simp only [Option.bind_some]
  rw [u16_mod, Int.emod_eq_of_lt (by omega) (by omega)]
theorem u32_eq {k : Nat} (hk : 9 ≤ k) {r : Rd} (h : RdOK r) : num_Reader_U32 k r = some (numS r 4, (takeS r 4).1, ()) := by
  unfold num_Reader_U32 num_Reader_U32.c
  show (num_Reader_Bytes k 4 r).bind _ = _
  rw [bytes_eq k h]
  simp only [Option.bind_some]
  rw [show (4 : Int) = ((4 : Nat) : Int) from rfl, numTake_eq hk h 4 (by omega)]
  have := numS_lt h 4
  simp only [Option.bind_some]
  rw [u32_in (by omega)]
theorem u64_eq {k : Nat} (hk : 9 ≤ k) {r : Rd} (h : RdOK r) : num_Reader_U64 k r = some (numS r 8, (takeS r 8).1, ()) := by
  unfold num_Reader_U64 num_Reader_U64.c
  show (num_Reader_Bytes k 8 r).bind _ = _
  rw [bytes_eq k h]
  simp only [Option.bind_some]
  rw [show (8 : Int) = ((8 : Nat) : Int) from rfl, numTake_eq hk h 8 (by omega)]
  rfl

/-! a count -/
def countS (r : Rd) (most : Int) : Rd × Int :=
  if r.2.2.1 ≠ 0 then (r, 0) else
  let t := tcSpec r.1 r.2.1
  let e := if t.2.2.1 = 0 ∧ t.1 > most then 5 else t.2.2.1
  if e ≠ 0 then ((r.1, r.2.1, e, ()), 0) else ((r.1, t.2.1, r.2.2.1, ()), t.1)

theorem tcSpec_pos {s : ByteArray} {a : Int} (ha : 0 ≤ a ∧ a ≤ (s.size : Int)) : 0 ≤ (tcSpec s a).2.1 ∧ (tcSpec s a).2.1 ≤ (s.size : Int) := by
  have hd : ((ofBytes s).drop a.toNat).length = s.size - a.toNat := by rw [List.length_drop, ofBytes_length]
  unfold tcSpec
  split
  · exact ⟨by simp, by simp⟩
  · generalize hl : (ofBytes s).drop a.toNat = l at hd
    cases l with
    | nil => exact ⟨by simp, by simp⟩
    | cons b l =>
      simp only [List.length_cons] at hd
      dsimp only
      split
      · dsimp only; omega
      · generalize (if b = 253 then 2 else if b = 254 then 4 else 8 : Nat) = m
        split
        · exact ⟨by simp, by simp⟩
        · split
          · dsimp only; omega
          · exact ⟨by simp, by simp⟩

theorem countS_ok {r : Rd} (h : RdOK r) (most : Int) : RdOK (countS r most).1 ∧ (countS r most).1.1 = r.1 := by
  obtain ⟨h1, h2, h3⟩ := h
  have := tcSpec_pos (s := r.1) (a := r.2.1) ⟨h2, h3⟩
  unfold countS
  split
  · exact ⟨⟨h1, h2, h3⟩, rfl⟩
  · dsimp only
    generalize tcSpec r.1 r.2.1 = t at this ⊢
    generalize (if t.2.2.1 = 0 ∧ t.1 > most then 5 else t.2.2.1 : Int) = e'
    split
    · exact ⟨⟨h1, h2, h3⟩, rfl⟩
    · exact ⟨⟨h1, this.1, this.2⟩, rfl⟩

theorem rcount_eq {k : Nat} (hk : 9 ≤ k) {r : Rd} (h : RdOK r) (most : Int) : num_Reader_Count k most r = some ((countS r most).2, (countS r most).1, ()) := by
  obtain ⟨s, a, e, u⟩ := r
  obtain ⟨h1, h2, h3⟩ := h
  simp only at h1 h2 h3
  unfold num_Reader_Count num_Reader_Count.c countS
  rw [show num_Reader_Err k (s, a, e, ()) = some (e, (s, a, e, ()), ()) from rfl]
  simp only [Option.bind_some]
  by_cases he : e = 0
  · subst he
    rw [bne_self_eq_false, cond_false, if_neg (by simp), num_TakeCount_eq hk s a (by omega)]
    simp only [Option.bind_some]
    generalize tcSpec s a = t
    obtain ⟨n, p, q, u⟩ := t
    have hp : num_Reader_Count.p0 k (most, n, p, q, (s, a, (0 : Int), ()), ()) = some (n, p, (if q = 0 ∧ n > most then 5 else q), (s, a, (0 : Int), ()), ()) := by
      unfold num_Reader_Count.p0
      simp only [num_Reader_Count.p0.r]
      by_cases hq : q = 0
      · subst hq
        rw [beq_self_eq_true, cond_true]
        by_cases hm : n > most
        · rw [bif_yes hm, if_pos ⟨rfl, hm⟩]
        · rw [bif_no hm, if_neg (by omega)]
      · rw [cond_false' (by simpa using hq), if_neg (by omega)]
    simp only
    rw [hp]
    simp only [Option.bind_some]
    generalize (if q = 0 ∧ n > most then 5 else q : Int) = e'
    by_cases he' : e' = 0
    · subst he'
      rw [bne_self_eq_false, cond_false, if_neg (by simp)]
    · rw [cond_true' (by simpa using he'), if_pos he']
  · rw [cond_true' (by simpa using he), if_pos he]

theorem refcount_eq {k : Nat} (hk : 9 ≤ k) {r : Rd} (h : RdOK r) (most : Int) : bedrockref01_Reader_Count k r most = some ((countS r most).1, (countS r most).2, ()) := by
  obtain ⟨s, a, e, u⟩ := r
  obtain ⟨h1, h2, h3⟩ := h
  simp only at h1 h2 h3
  unfold bedrockref01_Reader_Count bedrockref01_Reader_Count.c countS
  dsimp only
  by_cases he : e = 0
  · subst he
    rw [bne_self_eq_false, cond_false, if_neg (by simp), bedrockref01_TakeCount_eq hk s a (by omega)]
    simp only [Option.bind_some]
    generalize tcSpec s a = t
    obtain ⟨n, p, q, u⟩ := t
    have hp : ∀ z, bedrockref01_Reader_Count.p0 k (most, n, p, q, (s, a, (0 : Int), ()), z, ()) = some (n, p, (if q = 0 ∧ n > most then 5 else q), (s, a, (0 : Int), ()), z, ()) := by
      intro z
      unfold bedrockref01_Reader_Count.p0
      simp only [bedrockref01_Reader_Count.p0.r]
      by_cases hq : q = 0
      · subst hq
        rw [beq_self_eq_true, cond_true]
        by_cases hm : n > most
        · rw [bif_yes hm, if_pos ⟨rfl, hm⟩]
        · rw [bif_no hm, if_neg (by omega)]
      · rw [cond_false' (by simpa using hq), if_neg (by omega)]
    simp only
    rw [hp]
    simp only [Option.bind_some]
    generalize (if q = 0 ∧ n > most then 5 else q : Int) = e'
    by_cases he' : e' = 0
    · subst he'
      rw [bne_self_eq_false, cond_false, if_neg (by simp)]
    · rw [cond_true' (by simpa using he'), if_pos he']
  · rw [cond_true' (by simpa using he), if_pos he]

/-! a text -/
def stringS (r : Rd) (most : Int) : Rd × ByteArray :=
  if r.2.2.1 ≠ 0 then (r, ⟨List.toArray []⟩) else
  if most < 0 then ((r.1, r.2.1, 1, ()), ⟨List.toArray []⟩) else
  let c := countS r (IntKind.u64.wrap most)
  let t := takeS c.1 (IntKind.i64.wrap c.2)
  if t.1.2.2.1 ≠ 0 then ((r.1, r.2.1, t.1.2.2.1, ()), ⟨List.toArray []⟩) else t

theorem stringS_ok {r : Rd} (h : RdOK r) (most : Int) : RdOK (stringS r most).1 ∧ (stringS r most).1.1 = r.1 := by
  have h' := h
  obtain ⟨h1, h2, h3⟩ := h
  unfold stringS
  split
  · exact ⟨⟨h1, h2, h3⟩, rfl⟩
  · split
    · exact ⟨⟨h1, h2, h3⟩, rfl⟩
    · dsimp only
      split
      · exact ⟨⟨h1, h2, h3⟩, rfl⟩
      · obtain ⟨c1, c2⟩ := countS_ok h' (IntKind.u64.wrap most)
        obtain ⟨t1, t2⟩ := takeS_ok c1 (IntKind.i64.wrap (countS r (IntKind.u64.wrap most)).2)
        exact ⟨t1, t2.trans c2⟩

theorem rstring_eq {k : Nat} (hk : 9 ≤ k) {r : Rd} (h : RdOK r) (most : Int) : num_Reader_String k most r = some ((stringS r most).2, (stringS r most).1, ()) := by
  have h' := h
  obtain ⟨s, a, e, u⟩ := r
  obtain ⟨h1, h2, h3⟩ := h
  simp only at h1 h2 h3
  unfold num_Reader_String num_Reader_String.c stringS
  rw [show num_Reader_Err k (s, a, e, ()) = some (e, (s, a, e, ()), ()) from rfl]
  simp only [Option.bind_some]
  by_cases he : e = 0
  · subst he
    rw [bne_self_eq_false, cond_false, if_neg (by simp)]
    by_cases hm : most < 0
    · rw [bif_yes hm, if_pos hm]
    · rw [bif_no hm, if_neg hm, rcount_eq hk h']
      simp only [Option.bind_some]
      obtain ⟨c1, c2⟩ := countS_ok h' (IntKind.u64.wrap most)
      generalize countS (s, a, 0, ()) (IntKind.u64.wrap most) = c at *
      show (num_Reader_Bytes k (IntKind.i64.wrap c.2) c.1).bind _ = _
      rw [bytes_eq k c1]
      simp only [Option.bind_some]
      obtain ⟨t1, t2⟩ := takeS_ok c1 (IntKind.i64.wrap c.2)
      have ht := takeS_err (r := c.1) (IntKind.i64.wrap c.2)
      generalize takeS c.1 (IntKind.i64.wrap c.2) = t at *
      by_cases hq : t.1.2.2.1 = 0
      · rw [cond_false' (by simpa using hq), if_neg (by simpa using hq)]
      · rw [cond_true' (by simpa using hq), if_pos hq, ht hq, t2, c2]
  · rw [cond_true' (by simpa using he), if_pos he]

theorem refstring_eq {k : Nat} (hk : 9 ≤ k) {r : Rd} (h : RdOK r) (most : Int) : bedrockref01_Reader_String k r most = some ((stringS r most).1, (stringS r most).2, ()) := by
  have h' := h
  obtain ⟨s, a, e, u⟩ := r
  obtain ⟨h1, h2, h3⟩ := h
  simp only at h1 h2 h3
  unfold bedrockref01_Reader_String bedrockref01_Reader_String.c stringS
  dsimp only
  by_cases he : e = 0
  · subst he
    rw [bne_self_eq_false, cond_false, if_neg (by simp)]
    by_cases hm : most < 0
    · rw [bif_yes hm, if_pos hm]
    · rw [bif_no hm, if_neg hm, refcount_eq hk h']
      simp only [Option.bind_some]
      obtain ⟨c1, c2⟩ := countS_ok h' (IntKind.u64.wrap most)
      generalize countS (s, a, 0, ()) (IntKind.u64.wrap most) = c at *
      by_cases hc : c.1.2.2.1 = 0
      · rw [cond_false' (by simpa using hc)]
        show (bedrockref01_Reader_Take k c.1 (IntKind.i64.wrap c.2)).bind _ = _
        rw [refTake_eq k c1]
        simp only [Option.bind_some]
        generalize takeS c.1 (IntKind.i64.wrap c.2) = t at *
        by_cases hq : t.1.2.2.1 = 0
        · rw [cond_false' (by simpa using hq), if_neg (by simpa using hq)]
        · rw [cond_true' (by simpa using hq), if_pos hq]
      · rw [cond_true' (by simpa using hc)]
        have : takeS c.1 (IntKind.i64.wrap c.2) = (c.1, ⟨List.toArray []⟩) := by unfold takeS; rw [if_pos hc]
        rw [this, if_pos hc]
  · rw [cond_true' (by simpa using he), if_pos he]

/-! a truth value -/
def boolS (r : Rd) : Rd × Bool :=
  if r.2.2.1 ≠ 0 then (r, false) else
  if numS r 1 > 1 then ((r.1, r.2.1, 6, ()), false) else ((takeS r 1).1, numS r 1 == 1)

theorem boolS_ok {r : Rd} (h : RdOK r) : RdOK (boolS r).1 ∧ (boolS r).1.1 = r.1 := by
  unfold boolS
  split
  · exact ⟨h, rfl⟩
  · split
    · exact ⟨⟨h.1, h.2.1, h.2.2⟩, rfl⟩
    · exact takeS_ok h 1

theorem rbool_eq {k : Nat} (hk : 9 ≤ k) {r : Rd} (h : RdOK r) : num_Reader_Bool k r = some ((boolS r).2, (boolS r).1, ()) := by
  have h' := h
  have hs := (takeS_ok h 1).2
  obtain ⟨s, a, e, u⟩ := r
  unfold num_Reader_Bool num_Reader_Bool.c boolS
  rw [show num_Reader_Err k (s, a, e, ()) = some (e, (s, a, e, ()), ()) from rfl]
  simp only [Option.bind_some]
  by_cases he : e = 0
  · subst he
    rw [bne_self_eq_false, cond_false, if_neg (by simp), byte_eq hk h']
    simp only [Option.bind_some]
    by_cases hg : numS (s, a, 0, ()) 1 > 1
    · rw [bif_yes hg, if_pos hg, hs, beq_false_of_ne (show numS (s, a, 0, ()) 1 ≠ 1 by omega)]
    · rw [bif_no hg, if_neg hg]
  · rw [cond_true' (by simpa using he), if_pos he]

theorem refbool_eq (k : Nat) {r : Rd} (h : RdOK r) : bedrockref01_Reader_Bool k r = some ((boolS r).1, (boolS r).2, ()) := by
  have h' := h
  have hs := (takeS_ok h 1).2
  have hf := takeS_fine h (n := 1)
  have hz := takeS_err (r := r) 1
  unfold bedrockref01_Reader_Bool bedrockref01_Reader_Bool.c boolS
  show (bedrockref01_Reader_Take k r 1).bind _ = _
  rw [refTake_eq k h]
  simp only [Option.bind_some]
  have hn : numS r 1 = leI (ofBytes (takeS r 1).2) := rfl
  by_cases he : (takeS r 1).1.2.2.1 = 0
  · obtain ⟨f1, _⟩ := hf he
    have he0 : r.2.2.1 = 0 := by
      by_cases h0 : r.2.2.1 = 0
      · exact h0
      · exfalso; unfold takeS at he; rw [if_pos h0] at he; exact h0 he
    have hb : numS r 1 = byteAt (takeS r 1).2 0 := by
      rw [hn, byteAt_eq]
      have hl : (ofBytes (takeS r 1).2).length = 1 := by rw [ofBytes_length, f1]; rfl
      obtain ⟨b, hb⟩ := List.length_eq_one_iff.1 hl
      rw [hb]
      simp [leI]
    rw [he, beq_self_eq_true, cond_true, bif_yes (by rw [f1]; exact ⟨by omega, by decide⟩), ← hb, if_neg (by simpa using he0)]
    by_cases hg : numS r 1 > 1
    · rw [bif_yes hg, if_pos hg]
    · rw [bif_no hg, if_neg hg, cond_true, bif_yes (by rw [f1]; exact ⟨by omega, by decide⟩)]
      generalize takeS r 1 = t at *
      rw [← he]
  · have hn0 : numS r 1 = 0 := by rw [hn, hz he]; rfl
    rw [cond_false' (by simpa using he)]
    rw [cond_false' (by simpa using he), hn0]
    by_cases h0 : r.2.2.1 = 0
    · rw [if_neg (by simpa using h0), if_neg (by omega)]
      rfl
    · rw [if_pos h0]
      unfold takeS
      rw [if_pos h0]

/-! sixteen bits, high first -/
theorem toNat_ofInt16 (A : Nat) (h : A < 65536) : (BitVec.ofInt 16 (A : Int)).toNat = A := toNat_ofInt 16 A h

theorem big16_val {b0 b1 : Int} (h0 : 0 ≤ b0 ∧ b0 < 256) (h1 : 0 ≤ b1 ∧ b1 < 256) : bitsOp .or .u16 (shlOp .u16 (b0 + 256 * b1) 8) (shrOp .u16 (b0 + 256 * b1) 8) = b1 + 256 * b0 := by
  obtain ⟨A, rfl⟩ := Int.eq_ofNat_of_zero_le h0.1
  obtain ⟨B, rfl⟩ := Int.eq_ofNat_of_zero_le h1.1
  have e1 : shlOp .u16 ((A : Int) + 256 * (B : Int)) 8 = ((A * 2 ^ 8 : Nat) : Int) := by
    show IntKind.u16.wrap (((A : Int) + 256 * (B : Int)) * 2 ^ 8) = _
    rw [u16_mod]
    omega
  have e2 : shrOp .u16 ((A : Int) + 256 * (B : Int)) 8 = (B : Int) := by
    unfold shrOp
    rw [show min (8 : Int).toNat IntKind.u16.bits = 8 from rfl, Int.fdiv_eq_ediv_of_nonneg _ (by decide)]
    omega
  rw [e1, e2]
  have e3 : bitsOp .or .u16 ((A * 2 ^ 8 : Nat) : Int) (B : Int) = ((A * 2 ^ 8 ||| B : Nat) : Int) := by
    simp only [bitsOp]
    rw [u16_mod]
    show ((((BitVec.ofInt 16 ((A * 2 ^ 8 : Nat) : Int)) ||| (BitVec.ofInt 16 (B : Int))).toNat : Nat) : Int) % 65536 = _
    rw [BitVec.toNat_or, toNat_ofInt16 _ (by omega), toNat_ofInt16 _ (by omega)]
    have : A * 2 ^ 8 ||| B < 2 ^ 16 := Nat.or_lt_two_pow (by omega) (by omega)
    omega
  rw [e3, Nat.or_comm, or_add (A := B) (B := A) (j := 8) (by omega)]
  omega
end Go.Am
/- NumReads: one read, and all. -/
namespace Go.Am
open Go

abbrev Act1 : Type := Int × Int × Int × ByteArray × Unit

def oneS (r : Rd) (a : Act1) : Rd :=
  if a.1 = 0 then (takeS r 1).1 else if a.1 = 1 then (takeS r 2).1 else if a.1 = 2 then (takeS r 4).1 else if a.1 = 3 then (takeS r 8).1 else if a.1 = 4 then (takeS r 2).1 else
  if a.1 = 5 then (countS r a.2.2.1).1 else if a.1 = 6 then (takeS r a.2.1).1 else if a.1 = 7 then (stringS r a.2.1).1 else if a.1 = 8 then (takeS r 32).1 else if a.1 = 9 then (boolS r).1 else
  if a.1 = 10 then (if r.2.2.1 = 0 then (r.1, r.2.1, a.2.1, ()) else r) else (if r.2.2.1 = 0 ∧ r.2.1 < (r.1.size : Int) then (r.1, r.2.1, 5, ()) else r)

theorem oneS_ok {r : Rd} (h : RdOK r) (a : Act1) : RdOK (oneS r a) ∧ (oneS r a).1 = r.1 := by
  have key : ∀ {c : Prop} [Decidable c] {x y : Rd}, (RdOK x ∧ x.1 = r.1) → (RdOK y ∧ y.1 = r.1) → RdOK (if c then x else y) ∧ (if c then x else y).1 = r.1 := by
    intro c _ x y hx hy
    split
    · exact hx
    · exact hy
  have same : ∀ e, RdOK (r.1, r.2.1, e, ()) ∧ r.1 = r.1 := fun e => ⟨⟨h.1, h.2.1, h.2.2⟩, rfl⟩
  exact key (takeS_ok h _) (key (takeS_ok h _) (key (takeS_ok h _) (key (takeS_ok h _) (key (takeS_ok h _) (key (countS_ok h _) (key (takeS_ok h _) (key (stringS_ok h _) (key (takeS_ok h _) (key (boolS_ok h) (key (key (same _) ⟨h, rfl⟩) (key (same _) ⟨h, rfl⟩)))))))))))

theorem big16_rd {k : Nat} (hk : 9 ≤ k) {r : Rd} (h : RdOK r) : num_Reader_Big16 k r = some (leI (ofBytes (takeS r 2).2).reverse, (takeS r 2).1, ()) := by
  unfold num_Reader_Big16 num_Reader_Big16.c
  show (num_Reader_U16 k r).bind _ = _
  rw [u16_eq hk h]
  simp only [Option.bind_some]
  have e : bitsOp .or .u16 (shlOp .u16 (numS r 2) 8) (shrOp .u16 (numS r 2) 8) = leI (ofBytes (takeS r 2).2).reverse := by
    unfold numS
    have hin := ofBytes_in' (takeS r 2).2
    have hl := ofBytes_length (takeS r 2).2
    rcases takeS_size h 2 with h0 | h0
    · rw [h0] at hl
      rw [List.eq_nil_of_length_eq_zero hl]
      rfl
    · rw [h0] at hl
      match hb : ofBytes (takeS r 2).2, hl with
      | [b0, b1], _ =>
        rw [hb] at hin
        have := big16_val (hin b0 (by simp)) (hin b1 (by simp))
        simpa [leI] using this
  rw [e]

theorem bytesIn_reverse {l : List Int} (h : bytesIn l) : bytesIn l.reverse := fun x hx => h x (List.mem_reverse.1 hx)

theorem hash_rd (k : Nat) {r : Rd} (h : RdOK r) : num_Reader_Hash k r = some ((if (takeS r 32).1.2.2.1 = 0 then ofBytes (takeS r 32).2 else List.replicate 32 0), (takeS r 32).1, ()) := by
  unfold num_Reader_Hash num_Reader_Hash.c
  show (num_Reader_Bytes k 32 r).bind _ = _
  rw [bytes_eq k h]
  simp only [Option.bind_some]
  have e : copyL (List.replicate 32 (0 : Int)) 0 (ofBytes (takeS r 32).2) (Min.min (ofBytes (takeS r 32).2).length 32) = (if (takeS r 32).1.2.2.1 = 0 then ofBytes (takeS r 32).2 else List.replicate 32 0) := by
    have hl := ofBytes_length (takeS r 32).2
    split
    · rename_i he
      obtain ⟨h1, _⟩ := takeS_fine h he
      rw [h1] at hl
      rw [hl]
      unfold copyL
      rw [show Min.min (32 : Int).toNat 32 = 32 from rfl, List.take_zero, List.nil_append, List.take_of_length_le (by rw [hl]; decide), List.drop_eq_nil_of_le (by simp), List.append_nil]
    · rename_i he
      rw [takeS_err 32 he]
      rfl
  rw [e]

theorem one_eq {k : Nat} (hk : 9 ≤ k) {r : Rd} (h : RdOK r) (a : Act1) : bedrocklaw01_one k r a r = some (oneS r a, true, oneS r a, ()) := by
  unfold bedrocklaw01_one bedrocklaw01_one.c oneS
  dsimp only
  by_cases h0 : a.1 = 0
  · rw [cond_true' (by simpa using h0), if_pos h0]
    show (num_Reader_Byte k r).bind _ = _
    rw [byte_eq hk h]
    simp only [Option.bind_some]
    show (bedrockref01_Reader_Take k r 1).bind _ = _
    rw [refTake_eq k h]
    simp only [Option.bind_some]
    have := numS_lt h 1
    rw [show (1 : Int) = ((1 : Nat) : Int) from rfl, refGet_eq hk h 1 (by omega), u64_in (by omega)]
    simp only [Option.bind_some, beq_self_eq_true]
  rw [cond_false' (by simpa using h0), if_neg h0]
  by_cases h1 : a.1 = 1
  · rw [cond_true' (by simpa using h1), if_pos h1]
    show (num_Reader_U16 k r).bind _ = _
    rw [u16_eq hk h]
    simp only [Option.bind_some]
    show (bedrockref01_Reader_Take k r 2).bind _ = _
    rw [refTake_eq k h]
    simp only [Option.bind_some]
    have := numS_lt h 2
    rw [show (2 : Int) = ((2 : Nat) : Int) from rfl, refGet_eq hk h 2 (by omega), u64_in (by omega)]
    simp only [Option.bind_some, beq_self_eq_true]
  rw [cond_false' (by simpa using h1), if_neg h1]
  by_cases h2 : a.1 = 2
  · rw [cond_true' (by simpa using h2), if_pos h2]
    show (num_Reader_U32 k r).bind _ = _
    rw [u32_eq hk h]
    simp only [Option.bind_some]
    show (bedrockref01_Reader_Take k r 4).bind _ = _
    rw [refTake_eq k h]
    simp only [Option.bind_some]
    have := numS_lt h 4
    rw [show (4 : Int) = ((4 : Nat) : Int) from rfl, refGet_eq hk h 4 (by omega), u64_in (by omega)]
    simp only [Option.bind_some, beq_self_eq_true]
  rw [cond_false' (by simpa using h2), if_neg h2]
  by_cases h3 : a.1 = 3
  · rw [cond_true' (by simpa using h3), if_pos h3]
    show (num_Reader_U64 k r).bind _ = _
    rw [u64_eq hk h]
    simp only [Option.bind_some]
    show (bedrockref01_Reader_Take k r 8).bind _ = _
    rw [refTake_eq k h]
    simp only [Option.bind_some]
    rw [show (8 : Int) = ((8 : Nat) : Int) from rfl, refGet_eq hk h 8 (by omega)]
    simp only [Option.bind_some, beq_self_eq_true]
  rw [cond_false' (by simpa using h3), if_neg h3]
  by_cases h4 : a.1 = 4
  · rw [cond_true' (by simpa using h4), if_pos h4]
    show (num_Reader_Big16 k r).bind _ = _
    rw [big16_rd hk h]
    simp only [Option.bind_some]
    show (bedrockref01_Reader_Take k r 2).bind _ = _
    rw [refTake_eq k h]
    simp only [Option.bind_some]
    have hz : (takeS r 2).2.size ≤ 2 := by rcases takeS_size h 2 with h0 | h0 <;> rw [h0] <;> decide
    have hin := ofBytes_in' (takeS r 2).2
    have hl := ofBytes_length (takeS r 2).2
    rw [turned_eq (by omega) (by omega)]
    simp only [Option.bind_some]
    rw [bedrockref01_Get_eq hk _ (by rw [bytesOf_size, List.length_reverse]; omega), ofBytes_bytesOf (bytesIn_reverse hin)]
    have := leI_lt (bytesIn_reverse hin) (m := 2) (by rw [List.length_reverse]; omega)
    rw [u64_in (by omega)]
    simp only [Option.bind_some, beq_self_eq_true]
  rw [cond_false' (by simpa using h4), if_neg h4]
  by_cases h5 : a.1 = 5
  · rw [cond_true' (by simpa using h5), if_pos h5]
    show (num_Reader_Count k a.2.2.1 r).bind _ = _
    rw [rcount_eq hk h]
    simp only [Option.bind_some]
    show (bedrockref01_Reader_Count k r a.2.2.1).bind _ = _
    rw [refcount_eq hk h]
    simp only [Option.bind_some, beq_self_eq_true]
  rw [cond_false' (by simpa using h5), if_neg h5]
  by_cases h6 : a.1 = 6
  · rw [cond_true' (by simpa using h6), if_pos h6]
    show (num_Reader_Bytes k a.2.1 r).bind _ = _
    rw [bytes_eq k h]
    simp only [Option.bind_some]
    show (bedrockref01_Reader_Take k r a.2.1).bind _ = _
    rw [refTake_eq k h]
    simp only [Option.bind_some, strEq_self]
  rw [cond_false' (by simpa using h6), if_neg h6]
  by_cases h7 : a.1 = 7
  · rw [cond_true' (by simpa using h7), if_pos h7]
    show (num_Reader_String k a.2.1 r).bind _ = _
    rw [rstring_eq hk h]
    simp only [Option.bind_some]
    show (bedrockref01_Reader_String k r a.2.1).bind _ = _
    rw [refstring_eq hk h]
    simp only [Option.bind_some, strEq_self]
  rw [cond_false' (by simpa using h7), if_neg h7]
  by_cases h8 : a.1 = 8
  · rw [cond_true' (by simpa using h8), if_pos h8]
    show (num_Reader_Hash k r).bind _ = _
    rw [hash_rd k h]
    simp only [Option.bind_some]
    show (bedrockref01_Reader_Take k r 32).bind _ = _
    rw [refTake_eq k h]
    simp only [Option.bind_some]
    by_cases he : (takeS r 32).1.2.2.1 = 0
    · obtain ⟨g1, _⟩ := takeS_fine h he
      have hl := ofBytes_length (takeS r 32).2
      rw [g1] at hl
      rw [cond_true' (by simpa using he), if_pos he, List.drop_zero, List.take_of_length_le (by rw [hl]; decide), bytesOf_ofBytes, strEq_self, cond_true]
    · rw [cond_false' (by simpa using he), cond_true' (by simpa using he), if_neg he, decide_eq_true rfl]
  rw [cond_false' (by simpa using h8), if_neg h8]
  by_cases h9 : a.1 = 9
  · rw [cond_true' (by simpa using h9), if_pos h9]
    show (num_Reader_Bool k r).bind _ = _
    rw [rbool_eq hk h]
    simp only [Option.bind_some]
    show (bedrockref01_Reader_Bool k r).bind _ = _
    rw [refbool_eq k h]
    simp only [Option.bind_some, beq_self_eq_true]
  rw [cond_false' (by simpa using h9), if_neg h9]
  obtain ⟨s, p, e, u⟩ := r
  obtain ⟨k1, k2, k3⟩ := h
  simp only at k1 k2 k3
  by_cases h10 : a.1 = 10
  · rw [cond_true' (by simpa using h10), if_pos h10]
    unfold num_Reader_Fail num_Reader_Fail.c
    dsimp only
    by_cases he : e = 0
    · rw [cond_true' (by simpa using he)]
      simp only [Option.bind_some]
      rw [if_pos he]
      rw [cond_true' (by simpa using he)]
    · rw [cond_false' (by simpa using he)]
      simp only [Option.bind_some]
      rw [if_neg he]
      rw [cond_false' (by simpa using he)]
  rw [cond_false' (by simpa using h10), if_neg h10]
  unfold num_Reader_End num_Reader_End.c bedrockref01_Reader_End bedrockref01_Reader_End.c
  dsimp only
  have er : ∀ s p e, num_Reader_Err k (s, p, e, ()) = some (e, (s, p, e, ()), ()) := fun _ _ _ => rfl
  have lf : ∀ s p e, num_Reader_Left k (s, p, e, ()) = some (IntKind.i64.wrap ((s.size : Int) - p), (s, p, e, ()), ()) := fun _ _ _ => rfl
  rw [er]
  simp only [Option.bind_some]
  by_cases he : e = 0
  · subst he
    rw [beq_self_eq_true, cond_true, cond_true, lf]
    simp only [Option.bind_some]
    rw [i64_in (by omega)]
    by_cases hp : p < (s.size : Int)
    · rw [bif_yes (by omega), er, if_pos ⟨trivial, hp⟩, bif_yes hp]
      simp only [Option.bind_some, beq_self_eq_true]
    · rw [bif_no (by omega), er, if_neg (by omega), bif_no hp]
      simp only [Option.bind_some, beq_self_eq_true]
  · rw [cond_false' (by simpa using he), er, if_neg (by omega), cond_false' (by simpa using he)]
    simp only [Option.bind_some, beq_self_eq_true]

/-- The reader behind i reads. -/
def readN (s : ByteArray) (l : List Act1) : Nat → Rd
  | 0 => (s, 0, 0, ())
  | i + 1 => oneS (readN s l i) (l.getD i (0, 0, 0, ByteArray.empty, ()))
theorem readN_ok {s : ByteArray} (hs : s.size ≤ 140737488351232) (l : List Act1) : ∀ i, RdOK (readN s l i) ∧ (readN s l i).1 = s
  | 0 => ⟨⟨hs, Int.le_refl _, by simp only [readN]; omega⟩, rfl⟩
  | i + 1 => by
    obtain ⟨h1, h2⟩ := readN_ok hs l i
    obtain ⟨h3, h4⟩ := oneS_ok h1 (l.getD i (0, 0, 0, ByteArray.empty, ()))
    exact ⟨h3, h4.trans h2⟩

theorem numReads_true {s : ByteArray} (hs : s.size ≤ 140737488351232) {l : List Act1} (hl : l.length ≤ 140737488351232) : bedrocklaw01_NumReads (l.length + 20) s l = some (true, ()) := by
  unfold bedrocklaw01_NumReads bedrocklaw01_NumReads.c
  generalize hk : l.length + 20 = k
  rw [show num_NewReader k s = some ((s, 0, 0, ()), ()) from rfl]
  simp only [Option.bind_some]
  have hp : bedrocklaw01_NumReads.p0 k (s, l, (s, 0, 0, ()), ()) = some (.inr (s, l, (s, 0, 0, ()), ())) := by
    unfold bedrocklaw01_NumReads.p0
    simp only [bedrocklaw01_NumReads.p0.r]
    rw [awake01 (by omega)]
    rfl
  rw [hp]
  simp only [Option.bind_some]
  have hloop : bedrocklaw01_NumReads.l1 k k (s, l, (0 : Int), (s, 0, 0, ()), (s, 0, 0, ()), ()) = some (.inr ()) := by
    refine loop_from0 (r := bedrocklaw01_NumReads.l1.r k) (fun i => (s, l, (i : Int), readN s l i, readN s l i, ())) l.length _ ?_ ?_ (by omega)
    · intro i hi kn ke
      obtain ⟨h1, h2⟩ := readN_ok hs l i
      obtain ⟨h3, h4⟩ := readN_ok hs l (i + 1)
      simp only [bedrocklaw01_NumReads.l1.r]
      rw [bif_yes (by omega), bif_yes (by omega), show (i : Int).toNat = i by omega]
      show (bedrocklaw01_one k (readN s l i) (l.getD i (0, 0, 0, ByteArray.empty, ())) (readN s l i)).bind _ = _
      rw [one_eq (by omega) h1]
      have e : oneS (readN s l i) (l.getD i (0, 0, 0, ByteArray.empty, ())) = readN s l (i + 1) := rfl
      rw [e]
      simp only [Option.bind_some, Bool.not_true, cond_false]
      generalize readN s l (i + 1) = r at *
      obtain ⟨s', p, q, u⟩ := r
      simp only at h4
      subst h4
      rw [show num_Reader_Err k (s', p, q, ()) = some (q, (s', p, q, ()), ()) from rfl]
      simp only [Option.bind_some, bne_self_eq_false, cond_false]
      rw [show num_Reader_At k (s', p, q, ()) = some (p, (s', p, q, ()), ()) from rfl]
      simp only [Option.bind_some, bne_self_eq_false, cond_false]
      rw [show num_Reader_Left k (s', p, q, ()) = some (IntKind.i64.wrap ((s'.size : Int) - p), (s', p, q, ()), ()) from rfl]
      simp only [Option.bind_some, bne_self_eq_false, cond_false]
      rw [i64_in (n := (i : Int) + 1) (by omega)]
      rfl
    · intro kn ke
      simp only [bedrocklaw01_NumReads.l1.r]
      rw [bif_no (by omega)]
  rw [hloop]
  rfl
end Go.Am
