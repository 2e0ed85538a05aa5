/- A part of a proof: a machine of abstract values that tells what functions of the program compute, and the plain facts on them. -/
import Derived.Test.YtpcjmcpghhmidaaAm8
import Derived.Test.YtpcjmcpghhmidaaAm9
import Derived.KernelRfl
set_option linter.unusedVariables false
set_option linter.unusedSimpArgs false
set_option linter.unnecessarySimpa false
set_option linter.unusedSectionVars false
/- Counts; readers of four bytes. -/
namespace Go.Am
open Go

/-- How many bytes a count has; its bytes. -/
def cLong (n : Int) : Int := if n < 253 then 1 else if n < 65536 then 3 else if n < 4294967296 then 5 else 9

def cBytes (n : Int) : List Int := if n < 253 then lowI n 1 else if n < 65536 then 253 :: lowI n 2 else if n < 4294967296 then 254 :: lowI n 4 else 255 :: lowI n 8

theorem cBytes_length (n : Int) : ((cBytes n).length : Int) = cLong n := by
  unfold cBytes cLong
  split
  · simp [lowI_length]
  · split
    · simp [lowI_length]
    · split <;> simp [lowI_length]

theorem cBytes_in (n : Int) : bytesIn (cBytes n) := by
  have cons : ∀ (x : Int) l, 0 ≤ x ∧ x < 256 → bytesIn l → bytesIn (x :: l) := fun x l h h2 y hy => by
    rcases List.mem_cons.1 hy with rfl | hy
    · exact h
    · exact h2 y hy
  unfold cBytes
  split
  · exact lowI_in _ _
  · split
    · exact cons _ _ (by omega) (lowI_in _ _)
    · split <;> exact cons _ _ (by omega) (lowI_in _ _)

theorem num_CountLong_eq (k : Nat) (n : Int) : num_CountLong k n = some (cLong n, ()) := by
  unfold num_CountLong num_CountLong.c cLong
  by_cases h1 : n < 253
  · rw [decide_eq_true h1, if_pos h1]; rfl
  · rw [decide_eq_false h1, if_neg h1, cond_false]
    by_cases h2 : n < 65536
    · rw [decide_eq_true h2, if_pos h2]; rfl
    · rw [decide_eq_false h2, if_neg h2, cond_false]
      by_cases h3 : n < 4294967296
      · rw [decide_eq_true h3, if_pos h3]; rfl
      · rw [decide_eq_false h3, if_neg h3, cond_false]

theorem lay1 {k : Nat} (hk : 9 ≤ k) (x : Int) (hx : 0 ≤ x ∧ x < 256) : num_lay k x 1 = some (bytesOf [x], ()) := by
  have := num_lay_eq hk x 1 (by omega)
  simp only [lowI, show x % 256 = x by omega] at this
  exact this

theorem num_Count_eq {k : Nat} (hk : 9 ≤ k) (n : Int) : num_Count k n = some (bytesOf (cBytes n), ()) := by
  unfold num_Count num_Count.c
  rw [num_CountLong_eq]
  simp only [Option.bind_some]
  unfold cLong cBytes
  have l2 := num_lay_eq hk n 2 (by omega)
  have l4 := num_lay_eq hk n 4 (by omega)
  have l8 := num_lay_eq hk n 8 (by omega)
  have hb : ∀ (x : Int) (j : Nat), j ≤ 8 → Nat.ble ((bytesOf [x]).size + (bytesOf (lowI n j)).size) 9223372036854775807 = true := fun x j hj => ble_of (by rw [bytesOf_size, bytesOf_size, lowI_length]; simp; omega)
  split
  · show (bif true then _ else _) = _
    have := num_lay_eq hk n 1 (by omega)
    rw [cond_true]
    show (num_lay k n ((1 : Nat) : Int)).bind _ = _
    rw [this]; rfl
  · split
    · show (num_lay k 253 1).bind _ = _
      rw [lay1 hk 253 (by omega)]
      show (num_lay k n ((2 : Nat) : Int)).bind _ = _
      rw [l2]
      simp only [Option.bind_some, hb 253 2 (by omega), cond_true, bytesOf_append, List.singleton_append]
    · split
      · show (num_lay k 254 1).bind _ = _
        rw [lay1 hk 254 (by omega)]
        show (num_lay k n ((4 : Nat) : Int)).bind _ = _
        rw [l4]
        simp only [Option.bind_some, hb 254 4 (by omega), cond_true, bytesOf_append, List.singleton_append]
      · show (num_lay k 255 1).bind _ = _
        rw [lay1 hk 255 (by omega)]
        show (num_lay k n ((8 : Nat) : Int)).bind _ = _
        rw [l8]
        simp only [Option.bind_some, hb 255 8 (by omega), cond_true, bytesOf_append, List.singleton_append]

/-- What both ways of taking a count answer. -/
def tcSpec (s : ByteArray) (a : Int) : Int × Int × Int × Unit :=
  if a < 0 ∨ a > s.size then (0, 0, 1, ()) else
    match (ofBytes s).drop a.toNat with
    | [] => (0, 0, 4, ())
    | b :: l =>
      if b < 253 then (b, a + 1, 0, ()) else
        let m : Nat := if b = 253 then 2 else if b = 254 then 4 else 8
        if l.length < m then (0, 0, 4, ()) else
          let n := leI (l.take m)
          if cLong n = 1 + m then (n, a + (1 + m), 0, ()) else (0, 0, 6, ())

theorem num_tc_p0 (k : Nat) (s : ByteArray) (a : Int) : num_TakeCount.p0 k (s, a, ()) = some (if a < 0 ∨ a > (s.size : Int) then .inl (0, 0, 1, ()) else .inr (s, a, ())) := by
  unfold num_TakeCount.p0
  simp only [num_TakeCount.p0.r]
  by_cases h1 : a < 0
  · rw [bif_yes h1, if_pos (.inl h1)]
  · rw [bif_no h1]
    by_cases h2 : a > (s.size : Int)
    · rw [bif_yes h2, if_pos (.inr h2)]
    · rw [bif_no h2, if_neg (by omega)]

theorem num_TakeCount_eq {k : Nat} (hk : 9 ≤ k) (s : ByteArray) (a : Int) (hs : s.size ≤ 9223372036854775807) : num_TakeCount k s a = some (tcSpec s a) := by
  unfold num_TakeCount num_TakeCount.c tcSpec
  rw [num_tc_p0]
  by_cases h0 : a < 0 ∨ a > (s.size : Int)
  · rw [if_pos h0, if_pos h0]; rfl
  rw [if_neg h0, if_neg h0]
  simp only [Option.bind_some]
  rw [decide_eq_true (by omega), cond_true]
  have he : ofBytes (s.extract a.toNat ((s.size : Nat) : Int).toNat) = (ofBytes s).drop a.toNat := by
    rw [ofBytes_extract, List.take_of_length_le]
    rw [List.length_drop, ofBytes_length]; omega
  generalize hv : s.extract a.toNat ((s.size : Nat) : Int).toNat = v at he ⊢
  rw [← he]
  have hsz := ofBytes_length v
  have hlen : v.size = s.size - a.toNat := by rw [← hsz, he, List.length_drop, ofBytes_length]
  have hat := byteAt_eq v 0
  have hrng := byteAt_range v 0
  generalize hl : ofBytes v = l at hsz hat ⊢
  cases l with
  | nil =>
    have : v = ⟨List.toArray []⟩ := ofBytes_inj (by rw [hl]; rfl)
    rw [this]; dsimp only; rw [strEq_self]; rfl
  | cons b l =>
    have hne : strEq v ⟨List.toArray []⟩ = false := strEq_false fun e => by rw [e] at hl; cases hl
    simp only [List.length_cons] at hsz
    simp only [List.getD_cons_zero] at hat
    dsimp only
    rw [hne, cond_false, decide_eq_true (by omega), cond_true, hat]
    rw [hat] at hrng
    by_cases h3 : b < 253
    · rw [decide_eq_true h3, if_pos h3, cond_true, cond_true, i64_in (by omega), u64_in (by omega)]
    rw [decide_eq_false h3, if_neg h3, cond_false, cond_true]
    have key : ∀ (m : Nat), m ≤ 8 → 1 ≤ m → shlOp IntKind.i64 2 (IntKind.u8.wrap (b - 253)) = (m : Int) → 0 ≤ IntKind.u8.wrap (b - 253) →
        (bif decide ((0 : Int) ≤ IntKind.u8.wrap (b - 253)) then
          (bif decide (((v.size : Nat) : Int) < IntKind.i64.wrap (1 + shlOp IntKind.i64 2 (IntKind.u8.wrap (b - 253)))) then some ((0 : Int), (0 : Int), (4 : Int), ()) else
            (bif decide ((0 : Int) ≤ 1 ∧ (1 : Int) ≤ IntKind.i64.wrap (1 + shlOp IntKind.i64 2 (IntKind.u8.wrap (b - 253))) ∧ IntKind.i64.wrap (1 + shlOp IntKind.i64 2 (IntKind.u8.wrap (b - 253))) ≤ ((v.size : Nat) : Int)) then
              (num_take k (v.extract 1 (IntKind.i64.wrap (1 + shlOp IntKind.i64 2 (IntKind.u8.wrap (b - 253)))).toNat)).bind fun t5 => (num_CountLong k t5.1).bind fun t6 =>
                bif t6.1 != IntKind.i64.wrap (1 + shlOp IntKind.i64 2 (IntKind.u8.wrap (b - 253))) then some ((0 : Int), (0 : Int), (6 : Int), ()) else
                  some (t5.1, IntKind.i64.wrap (a + IntKind.i64.wrap (1 + shlOp IntKind.i64 2 (IntKind.u8.wrap (b - 253)))), (0 : Int), ())
            else none)) else none) =
        some (if l.length < m then (0, 0, 4, ()) else if cLong (leI (l.take m)) = 1 + m then (leI (l.take m), a + (1 + m), 0, ()) else (0, 0, 6, ())) := by
      intro m hm hm1 e1 e2
      rw [e1, decide_eq_true e2, cond_true, i64_in (by omega)]
      by_cases h4 : l.length < m
      · rw [if_pos h4, decide_eq_true (by omega), cond_true]
      · rw [if_neg h4, decide_eq_false (by omega), cond_false, decide_eq_true (by omega), cond_true]
        have hx : ofBytes (v.extract 1 (1 + (m : Int)).toNat) = l.take m := by
          rw [ofBytes_extract, hl, List.drop_succ_cons, List.drop_zero]
          congr 1; omega
        have hxs : (v.extract 1 (1 + (m : Int)).toNat).size = m := by
          rw [← ofBytes_length, hx, List.length_take]; omega
        rw [num_take_eq hk _ (by omega), hx]
        simp only [Option.bind_some, num_CountLong_eq]
        by_cases h5 : cLong (leI (l.take m)) = 1 + (m : Int)
        · rw [if_pos h5, h5, bne_self_eq_false, cond_false, i64_in (by omega)]
        · rw [if_neg h5]
          have : (cLong (leI (l.take m)) != 1 + (m : Int)) = true := by simpa using h5
          rw [this, cond_true]
    have hb : b = 253 ∨ b = 254 ∨ b = 255 := by omega
    rcases hb with rfl | rfl | rfl
    · exact key 2 (by omega) (by omega) (by decide) (by decide)
    · exact key 4 (by omega) (by omega) (by decide) (by decide)
    · exact key 8 (by omega) (by omega) (by decide) (by decide)

theorem cBytes_le (n : Int) : (cBytes n).length ≤ 9 := by
  have h := cBytes_length n
  unfold cLong at h
  split at h
  · omega
  · split at h
    · omega
    · split at h <;> omega

theorem u32_eq {k : Nat} (hk : 9 ≤ k) {r : Rd} (h : RdOK r) : num_Reader_U32 k r = some (numS r 4, (takeS r 4).1, ()) := by
  unfold num_Reader_U32 num_Reader_U32.c
  show (num_Reader_Bytes k 4 r).bind _ = _
  rw [bytes_eq k h]
  simp only [Option.bind_some]
  rw [show (4 : Int) = ((4 : Nat) : Int) from rfl, numTake_eq hk h 4 (by omega)]
  have := numS_lt h 4
  simp only [Option.bind_some]
  rw [u32_in (by omega)]

end Go.Am
/- Transactions read: bytes, numbers, counts. -/
namespace Go.Am
open Go

/-- What takes a transaction out of bytes: text, from where, place, fault. -/
abbrev Tk : Type := ByteArray × Int × Int × Int × Unit
def TkOK (x : Tk) : Prop := x.1.size ≤ 4611686018427387904 ∧ 0 ≤ x.2.1 ∧ x.2.1 ≤ x.2.2.1 ∧ x.2.2.1 ≤ (x.1.size : Int)
abbrev eb : ByteArray := ⟨List.toArray []⟩
/-- n bytes. -/
def tkBytes (x : Tk) (n : Int) : Tk × ByteArray :=
  if x.2.2.2.1 ≠ 0 then (x, eb) else
  if n > 4096 - (x.2.2.1 - x.2.1) then ((x.1, x.2.1, x.2.2.1, 101, ()), eb) else
  if n > (x.1.size : Int) - x.2.2.1 then ((x.1, x.2.1, x.2.2.1, 4, ()), eb) else
  ((x.1, x.2.1, x.2.2.1 + n, x.2.2.2.1, ()), x.1.extract x.2.2.1.toNat (x.2.2.1 + n).toNat)

theorem tkBytes_ok {x : Tk} (h : TkOK x) {n : Int} (hn : 0 ≤ n) : TkOK (tkBytes x n).1 ∧ (tkBytes x n).1.1 = x.1 ∧ (tkBytes x n).1.2.1 = x.2.1 := by
  obtain ⟨h1, h2, h3, h4⟩ := h
  unfold tkBytes
  split
  · exact ⟨⟨h1, h2, h3, h4⟩, rfl, rfl⟩
  · split
    · exact ⟨⟨h1, h2, h3, h4⟩, rfl, rfl⟩
    · split
      · exact ⟨⟨h1, h2, h3, h4⟩, rfl, rfl⟩
      · exact ⟨⟨h1, h2, by dsimp only; omega, by dsimp only; omega⟩, rfl, rfl⟩
theorem tkBytes_err {x : Tk} {n : Int} (he : (tkBytes x n).1.2.2.2.1 ≠ 0) : (tkBytes x n).2 = eb := by
  unfold tkBytes at *
  split
  · rfl
  · rename_i h0
    rw [if_neg h0] at he
    split
    · rfl
    · rename_i h1
      rw [if_neg h1] at he
      split
      · rfl
      · rename_i h2
        rw [if_neg h2] at he
        exact absurd he h0
theorem tkBytes_fine {x : Tk} (h : TkOK x) {n : Int} (hn : 0 ≤ n) (he : (tkBytes x n).1.2.2.2.1 = 0) :
    x.2.2.2.1 = 0 ∧ (tkBytes x n).1 = (x.1, x.2.1, x.2.2.1 + n, 0, ()) ∧ n ≤ 4096 - (x.2.2.1 - x.2.1) ∧ n ≤ (x.1.size : Int) - x.2.2.1 ∧ ofBytes (tkBytes x n).2 = ((ofBytes x.1).drop x.2.2.1.toNat).take n.toNat := by
  obtain ⟨h1, h2, h3, h4⟩ := h
  unfold tkBytes at *
  by_cases c0 : x.2.2.2.1 ≠ 0
  · rw [if_pos c0] at he; exact absurd he c0
  · rw [if_neg c0] at he ⊢
    have c0' : x.2.2.2.1 = 0 := by simpa using c0
    by_cases c1 : n > 4096 - (x.2.2.1 - x.2.1)
    · rw [if_pos c1] at he; simp at he
    · rw [if_neg c1] at he ⊢
      by_cases c2 : n > (x.1.size : Int) - x.2.2.1
      · rw [if_pos c2] at he; simp at he
      · rw [if_neg c2]
        refine ⟨c0', by rw [c0'], by omega, by omega, ?_⟩
        rw [ofBytes_extract]
        congr 1
        omega
theorem tkBytes_size {x : Tk} (h : TkOK x) {n : Int} (hn : 0 ≤ n) : (tkBytes x n).2.size = 0 ∨ (tkBytes x n).2.size = n.toNat := by
  by_cases he : (tkBytes x n).1.2.2.2.1 = 0
  · right
    obtain ⟨_, _, _, hl, hb⟩ := tkBytes_fine h hn he
    have := congrArg List.length hb
    rw [ofBytes_length, List.length_take, List.length_drop, ofBytes_length] at this
    have := h.2.1
    have := h.2.2.1
    omega
  · left; rw [tkBytes_err he]; rfl

theorem tx_bytes_eq (k : Nat) {x : Tk} (h : TkOK x) {n : Int} (hn : 0 ≤ n ∧ n ≤ 1099511627776) : tx_taker_bytes k n x = some ((tkBytes x n).2, (tkBytes x n).1, ()) := by
  obtain ⟨s, f, a, e, u⟩ := x
  obtain ⟨h1, h2, h3, h4⟩ := h
  dsimp only at h1 h2 h3 h4
  unfold tx_taker_bytes tx_taker_bytes.c tkBytes
  dsimp only
  by_cases c0 : e ≠ 0
  · rw [if_pos c0, cond_true' (by simpa using c0)]
  · rw [if_neg c0, cond_false' (by simpa using c0), i64_in (n := a - f) (by omega), i64_in (n := 4096 - (a - f)) (by omega)]
    by_cases c1 : n > 4096 - (a - f)
    · rw [if_pos c1, bif_yes c1]
    · rw [if_neg c1, bif_no c1, i64_in (n := (s.size : Int) - a) (by omega)]
      by_cases c2 : n > (s.size : Int) - a
      · rw [if_pos c2, bif_yes c2]
      · rw [if_neg c2, bif_no c2, i64_in (n := a + n) (by omega), i64_in (n := a + n - n) (by omega), bif_yes (by omega), show a + n - n = a by omega]
theorem ref10_bytes_eq (k : Nat) {x : Tk} (h : TkOK x) {n : Int} (hn : 0 ≤ n ∧ n ≤ 1099511627776) : bedrockref10_bytes k x n = some ((tkBytes x n).1, (tkBytes x n).2, ()) := by
  obtain ⟨s, f, a, e, u⟩ := x
  obtain ⟨h1, h2, h3, h4⟩ := h
  dsimp only at h1 h2 h3 h4
  unfold bedrockref10_bytes bedrockref10_bytes.c tkBytes
  dsimp only
  by_cases c0 : e ≠ 0
  · rw [if_pos c0, cond_true' (by simpa using c0)]
  · rw [if_neg c0, cond_false' (by simpa using c0), i64_in (n := a - f) (by omega), i64_in (n := a - f + n) (by omega)]
    by_cases c1 : n > 4096 - (a - f)
    · rw [if_pos c1, bif_yes (by omega)]
    · rw [if_neg c1, bif_no (by omega), i64_in (n := (s.size : Int) - a) (by omega)]
      by_cases c2 : n > (s.size : Int) - a
      · rw [if_pos c2, bif_yes (by omega)]
      · rw [if_neg c2, bif_no (by omega), i64_in (n := a + n) (by omega), i64_in (n := a + n - n) (by omega), bif_yes (by omega), show a + n - n = a by omega]

/-- A number of n bytes. -/
def tkNum (x : Tk) (n : Int) : Tk × Int := ((tkBytes x n).1, leI (ofBytes (tkBytes x n).2))
theorem tkNum_range {x : Tk} (h : TkOK x) {n : Nat} : 0 ≤ (tkNum x n).2 ∧ (tkNum x n).2 < 256 ^ n := by
  have hs := tkBytes_size h (n := (n : Int)) (by omega)
  exact leI_lt (ofBytes_in' _) (by rw [ofBytes_length]; omega)

theorem numS_full {b : ByteArray} {n : Nat} (h : b.size = 0 ∨ b.size = n) (hn : 0 < n) : numS (b, 0, 0, ()) (n : Int) = leI (ofBytes b) := by
  unfold numS takeS
  dsimp only
  rw [if_neg (by simp), if_neg (by omega)]
  rcases h with h | h
  · rw [if_pos (by omega)]
    have : ofBytes b = [] := List.eq_nil_of_length_eq_zero (by rw [ofBytes_length]; exact h)
    rw [this]
    rfl
  · rw [if_neg (by omega)]
    dsimp only
    rw [ofBytes_extract, show (0 : Int).toNat = 0 from rfl, List.drop_zero, List.take_of_length_le (by rw [ofBytes_length]; omega)]

theorem tx_u32_eq {k : Nat} (hk : 9 ≤ k) {x : Tk} (h : TkOK x) : tx_taker_u32 k x = some ((tkNum x 4).2, (tkNum x 4).1, ()) := by
  unfold tx_taker_u32 tx_taker_u32.c
  show (tx_taker_bytes k 4 x).bind _ = _
  rw [tx_bytes_eq k h (by omega)]
  simp only [Option.bind_some]
  have hs := tkBytes_size h (n := 4) (by omega)
  rw [show num_NewReader k (tkBytes x 4).2 = some (((tkBytes x 4).2, 0, 0, ()), ()) from rfl]
  simp only [Option.bind_some]
  have hnf := numS_full (n := 4) hs (by omega)
  rw [u32_eq hk ⟨by dsimp only; omega, by dsimp only; omega, by dsimp only; omega⟩, show numS ((tkBytes x 4).2, 0, 0, ()) 4 = leI (ofBytes (tkBytes x 4).2) from hnf]
  rfl

theorem ref10_number_loop (k : Nat) (s : ByteArray) (hs : s.size ≤ 8) (r z : Tk) {fuel : Nat} (hf : s.size < fuel) :
    bedrockref10_number.l0 k fuel (s, (0 : Int), (s.size : Int) - 1, r, z, ()) = some (leI (ofBytes s), r, z, ()) := by
  have hl := ofBytes_length s
  have := loop_from0 (r := bedrockref10_number.l0.r k) (fun i => (s, leI ((ofBytes s).drop (s.size - i)), (s.size : Int) - 1 - (i : Int), r, z, ())) s.size (leI (ofBytes s), r, z, ()) ?_ ?_ hf
  · have e0 : leI ((ofBytes s).drop (s.size - 0)) = 0 := by rw [List.drop_eq_nil_of_le (by omega)]; rfl
    rw [e0] at this
    rw [show (s.size : Int) - 1 = (s.size : Int) - 1 - ((0 : Nat) : Int) by omega]
    exact this
  · intro i hi kn ke
    simp only [bedrockref10_number.l0.r]
    have hd : (ofBytes s).drop (s.size - (i + 1)) = byteAt s (s.size - (i + 1)) :: (ofBytes s).drop (s.size - i) := by
      rw [List.drop_eq_getElem_cons (by omega), show s.size - (i + 1) + 1 = s.size - i by omega, byteAt_eq, List.getD_eq_getElem?_getD, List.getElem?_eq_getElem (by omega)]
      rfl
    have hr := leI_range (xs := (ofBytes s).drop (s.size - i)) (fun x hx => ofBytes_in' s x (List.mem_of_mem_drop hx))
    rw [List.length_drop, hl] at hr
    have hb := byteAt_range s (s.size - (i + 1))
    have hr2 := leI_lt (l := (ofBytes s).drop (s.size - (i + 1))) (fun x hx => ofBytes_in' s x (List.mem_of_mem_drop hx)) (m := 8) (by rw [List.length_drop, hl]; omega)
    have h8 : (256 : Int) ^ 8 = 18446744073709551616 := by decide
    rw [h8] at hr2
    rw [hd] at hr2
    simp only [leI] at hr2
    rw [bif_yes (by omega), bif_yes (by omega), show ((s.size : Int) - 1 - (i : Int)).toNat = s.size - (i + 1) by omega, u64_in (n := 256 * leI ((ofBytes s).drop (s.size - i))) (by omega), u64_in (n := byteAt s (s.size - (i + 1))) (by omega),
      u64_in (n := 256 * leI ((ofBytes s).drop (s.size - i)) + byteAt s (s.size - (i + 1))) (by omega), i64_in (by omega), hd]
    simp only [leI]
    rw [Int.add_comm, show (s.size : Int) - 1 - (i : Int) - 1 = (s.size : Int) - 1 - ((i + 1 : Nat) : Int) by omega]
  · intro kn ke
    simp only [bedrockref10_number.l0.r]
    rw [bif_no (by omega), Nat.sub_self, List.drop_zero]

theorem ref10_number_eq {k : Nat} (hk : 9 ≤ k) {x : Tk} (h : TkOK x) {n : Nat} (hn : n ≤ 8) : bedrockref10_number k x (n : Int) = some ((tkNum x n).1, (tkNum x n).2, ()) := by
  unfold bedrockref10_number bedrockref10_number.c
  show (bedrockref10_bytes k x (n : Int)).bind _ = _
  rw [ref10_bytes_eq k h (by omega)]
  simp only [Option.bind_some]
  have hs := tkBytes_size h (n := (n : Int)) (by omega)
  rw [i64_in (by omega)]
  show (bedrockref10_number.l0 k k ((tkBytes x n).2, (0 : Int), ((tkBytes x n).2.size : Int) - 1, (tkBytes x n).1, _, ())).bind _ = _
  rw [ref10_number_loop k _ (by omega) _ _ (by omega)]
  rfl

theorem ref10_lay_eq {k : Nat} (hk : 9 ≤ k) (n : Int) (hn : 0 ≤ n ∧ n ≤ 18446744073709551615) (b : Nat) (hb : b ≤ 8) : bedrockref10_lay k n (b : Int) = some (bytesOf (lowI n b), ()) := by
  unfold bedrockref10_lay bedrockref10_lay.c
  have hl : bedrockref10_lay.l0 k k (n, (b : Int), (0 : Int), List.replicate 0 (0 : Int), ()) = some (lowI n b, ()) := by
    have := loop_from0 (r := bedrockref10_lay.l0.r k) (fun i => (n / 256 ^ i, (b : Int), (i : Int), lowI n i, ())) b (lowI n b, ()) ?_ ?_ (fuel := k) (by omega)
    · rw [Int.pow_zero, Int.ediv_one] at this
      exact this
    · intro i hi kn ke
      simp only [bedrockref10_lay.l0.r]
      have hp : (0 : Int) < 256 ^ i := Int.pow_pos (by decide)
      have h0 : 0 ≤ n / 256 ^ i := Int.ediv_nonneg hn.1 (Int.le_of_lt hp)
      have h1 : n / 256 ^ i ≤ n := Int.ediv_le_self _ hn.1
      have hll := lowI_length n i
      rw [bif_yes (by omega), Int.tmod_eq_emod_of_nonneg h0, Int.tdiv_eq_ediv_of_nonneg h0]
      have e1 : (List.set (List.replicate 1 (0 : Int)) 0 (IntKind.u8.wrap (n / 256 ^ i % 256))) = [n / 256 ^ i % 256] := by rw [u8_in (by omega)]; rfl
      rw [e1, cond_true' (ble_of (by simp only [List.length_singleton]; omega)), ← lowI_snoc, u64_in (by omega), i64_in (by omega)]
      rw [show n / 256 ^ i / 256 = n / 256 ^ (i + 1) by rw [Int.pow_succ, Int.ediv_ediv_of_nonneg (Int.le_of_lt hp)]]
      rfl
    · intro kn ke
      simp only [bedrockref10_lay.l0.r]
      rw [bif_no (by omega)]
  rw [hl]
  rfl

theorem ref10_Count_eq {k : Nat} (hk : 9 ≤ k) (n : Int) (hn : 0 ≤ n ∧ n ≤ 18446744073709551615) : bedrockref10_Count k n = some (bytesOf (cBytes n), ()) := by
  unfold bedrockref10_Count bedrockref10_Count.c cBytes
  have l1 := ref10_lay_eq hk n hn 1 (by omega)
  have l2 := ref10_lay_eq hk n hn 2 (by omega)
  have l4 := ref10_lay_eq hk n hn 4 (by omega)
  have l8 := ref10_lay_eq hk n hn 8 (by omega)
  by_cases h1 : n < 253
  · rw [bif_yes h1, if_pos h1, show (1 : Int) = ((1 : Nat) : Int) from rfl, l1]; rfl
  · rw [bif_no h1, if_neg h1]
    by_cases h2 : n < 65536
    · rw [bif_yes h2, if_pos h2, show (2 : Int) = ((2 : Nat) : Int) from rfl, l2]
      simp only [Option.bind_some]
      rw [cond_true' (ble_of (by rw [bytesOf_size, lowI_length]; omega)), show (⟨(List.toArray [253])⟩ : ByteArray) = bytesOf [253] from rfl, bytesOf_append]
      rfl
    · rw [bif_no h2, if_neg h2]
      by_cases h3 : n < 4294967296
      · rw [bif_yes h3, if_pos h3, show (4 : Int) = ((4 : Nat) : Int) from rfl, l4]
        simp only [Option.bind_some]
        rw [cond_true' (ble_of (by rw [bytesOf_size, lowI_length]; omega)), show (⟨(List.toArray [254])⟩ : ByteArray) = bytesOf [254] from rfl, bytesOf_append]
        rfl
      · rw [bif_no h3, if_neg h3, show (8 : Int) = ((8 : Nat) : Int) from rfl, l8]
        simp only [Option.bind_some]
        rw [cond_true' (ble_of (by rw [bytesOf_size, lowI_length]; omega)), show (⟨(List.toArray [255])⟩ : ByteArray) = bytesOf [255] from rfl, bytesOf_append]
        rfl
end Go.Am
/- Transactions read: counts, parts, all. -/
namespace Go.Am
open Go

def cm (b : Int) : Nat := if b = 253 then 2 else if b = 254 then 4 else if b = 255 then 8 else 0
theorem cm_le (b : Int) : cm b ≤ 8 := by unfold cm; split <;> (try split) <;> (try split) <;> omega
abbrev tkL (x : Tk) : List Int := (ofBytes x.1).drop x.2.2.1.toNat
abbrev tkV (x : Tk) : Int := if cm ((tkL x).headD 0) = 0 then (tkL x).headD 0 else leI (((tkL x).drop 1).take (cm ((tkL x).headD 0)))
/-- A count, not above most. -/
def tkCount (x : Tk) (most e : Int) : Tk × Int :=
  if x.2.2.2.1 ≠ 0 then (x, 0) else
  let y := (tkBytes x (1 + (cm ((tkL x).headD 0) : Int))).1
  if y.2.2.2.1 ≠ 0 then (y, 0) else
  if cLong (tkV x) ≠ 1 + (cm ((tkL x).headD 0) : Int) then ((y.1, y.2.1, y.2.2.1, 6, ()), 0) else
  if tkV x > most then ((y.1, y.2.1, y.2.2.1, e, ()), 0) else (y, tkV x)

theorem tkCount_ok {x : Tk} (h : TkOK x) (most e : Int) : TkOK (tkCount x most e).1 ∧ (tkCount x most e).1.1 = x.1 ∧ (tkCount x most e).1.2.1 = x.2.1 := by
  unfold tkCount
  split
  · exact ⟨h, rfl, rfl⟩
  · obtain ⟨⟨h1, h2, h3, h4⟩, h5, h6⟩ := tkBytes_ok h (n := 1 + (cm ((tkL x).headD 0) : Int)) (by omega)
    dsimp only
    split
    · exact ⟨⟨h1, h2, h3, h4⟩, h5, h6⟩
    · split
      · exact ⟨⟨h1, h2, h3, h4⟩, h5, h6⟩
      · split
        · exact ⟨⟨h1, h2, h3, h4⟩, h5, h6⟩
        · exact ⟨⟨h1, h2, h3, h4⟩, h5, h6⟩

theorem tkL_length {x : Tk} (h : TkOK x) : ((tkL x).length : Int) = (x.1.size : Int) - x.2.2.1 := by
  obtain ⟨h1, h2, h3, h4⟩ := h
  rw [List.length_drop, ofBytes_length]; omega
theorem tkL_in (x : Tk) : bytesIn (tkL x) := fun y hy => ofBytes_in' _ y (List.mem_of_mem_drop hy)
theorem tkV_range {x : Tk} : 0 ≤ tkV x ∧ tkV x ≤ 18446744073709551615 := by
  unfold tkV
  have hh : 0 ≤ (tkL x).headD 0 ∧ (tkL x).headD 0 < 256 := by
    cases hc : tkL x with
    | nil => simp
    | cons b l => exact tkL_in x b (by rw [hc]; simp)
  split
  · omega
  · have := leI_lt (l := ((tkL x).drop 1).take (cm ((tkL x).headD 0))) (fun y hy => tkL_in x y (List.mem_of_mem_drop (List.mem_of_mem_take hy))) (m := 8) (by rw [List.length_take]; have := cm_le ((tkL x).headD 0); omega)
    have h8 : (256 : Int) ^ 8 = 18446744073709551616 := by decide
    omega
theorem tkCount_val {x : Tk} (most e : Int) (hm : 0 ≤ most) : 0 ≤ (tkCount x most e).2 ∧ (tkCount x most e).2 ≤ most := by
  have := tkV_range (x := x)
  unfold tkCount
  dsimp only
  split
  · exact ⟨Int.le_refl _, hm⟩
  · split
    · exact ⟨Int.le_refl _, hm⟩
    · split
      · exact ⟨Int.le_refl _, hm⟩
      · split
        · exact ⟨Int.le_refl _, hm⟩
        · exact ⟨this.1, by omega⟩

theorem cLong_small {b : Int} (h : b < 253) : cLong b = 1 := by unfold cLong; rw [if_pos h]

/-- What stands at the place, if the bytes are there. -/
theorem tk_fine {x : Tk} (h : TkOK x) {n : Nat} (he : (tkBytes x (1 + (n : Int))).1.2.2.2.1 = 0) : ∃ b l, tkL x = b :: l ∧ n ≤ l.length ∧ (0 ≤ b ∧ b < 256) := by
  obtain ⟨_, _, _, h4, _⟩ := tkBytes_fine h (n := 1 + (n : Int)) (by omega) he
  have hl := tkL_length h
  cases hc : tkL x with
  | nil => rw [hc] at hl; simp only [List.length_nil] at hl; omega
  | cons b l =>
    rw [hc] at hl
    simp only [List.length_cons] at hl
    exact ⟨b, l, rfl, by omega, tkL_in x b (by rw [hc]; simp)⟩

theorem tx_count_eq {k : Nat} (hk : 9 ≤ k) {x : Tk} (h : TkOK x) {most e : Int} (hm : 0 ≤ most ∧ most ≤ 4096) : tx_taker_count k most e x = some ((tkCount x most e).2, (tkCount x most e).1, ()) := by
  unfold tx_taker_count tx_taker_count.c
  by_cases c0 : x.2.2.2.1 ≠ 0
  · have hp : tx_taker_count.p0 k (most, e, (1 : Int), x, ()) = some (most, e, (1 : Int), x, ()) := by
      unfold tx_taker_count.p0
      simp only [tx_taker_count.p0.r]
      rw [cond_false' (by simpa using c0)]
    have hb : tkBytes x 1 = (x, eb) := by unfold tkBytes; rw [if_pos c0]
    show (tx_taker_count.p0 k (most, e, (1 : Int), x, ())).bind _ = _
    rw [hp]
    simp only [Option.bind_some]
    show (tx_taker_bytes k 1 x).bind _ = _
    rw [tx_bytes_eq k h (by omega), hb]
    simp only [Option.bind_some]
    rw [cond_true' (by simpa using c0)]
    unfold tkCount
    rw [if_pos c0]
  · have c0' : x.2.2.2.1 = 0 := by simpa using c0
    obtain ⟨h1, h2, h3, h4⟩ := h
    have h : TkOK x := ⟨h1, h2, h3, h4⟩
    have hlen := tkL_length h
    have hp : tx_taker_count.p0 k (most, e, (1 : Int), x, ()) = some (most, e, 1 + (cm ((tkL x).headD 0) : Int), x, ()) := by
      unfold tx_taker_count.p0
      simp only [tx_taker_count.p0.r]
      rw [cond_true' (by simpa using c0')]
      by_cases c1 : x.2.2.1 < (x.1.size : Int)
      · have hb : byteAt x.1 x.2.2.1.toNat = (tkL x).headD 0 := by
          rw [byteAt_eq]
          cases hc : tkL x with
          | nil => rw [hc] at hlen; simp only [List.length_nil] at hlen; omega
          | cons b l =>
            have := congrArg (·[0]?) hc
            simp only [List.getElem?_drop, Nat.add_zero, List.getElem?_cons_zero] at this
            rw [List.getD_eq_getElem?_getD, this]
            rfl
        rw [bif_yes c1, bif_yes (by omega), hb]
        unfold cm
        by_cases e1 : (tkL x).headD 0 = 253
        · rw [cond_true' (by simpa using e1), if_pos e1]; rfl
        · rw [cond_false' (by simpa using e1), if_neg e1]
          by_cases e2 : (tkL x).headD 0 = 254
          · rw [cond_true' (by simpa using e2), if_pos e2]; rfl
          · rw [cond_false' (by simpa using e2), if_neg e2]
            by_cases e3 : (tkL x).headD 0 = 255
            · rw [cond_true' (by simpa using e3), if_pos e3]; rfl
            · rw [cond_false' (by simpa using e3), if_neg e3]; rfl
      · have : tkL x = [] := List.eq_nil_of_length_eq_zero (by omega)
        rw [bif_no c1, this]
        rfl
    show (tx_taker_count.p0 k (most, e, (1 : Int), x, ())).bind _ = _
    rw [hp]
    simp only [Option.bind_some]
    have hcm := cm_le ((tkL x).headD 0)
    show (tx_taker_bytes k (1 + (cm ((tkL x).headD 0) : Int)) x).bind _ = _
    rw [tx_bytes_eq k h (by omega)]
    simp only [Option.bind_some]
    unfold tkCount
    rw [if_neg c0]
    dsimp only
    by_cases c2 : (tkBytes x (1 + (cm ((tkL x).headD 0) : Int))).1.2.2.2.1 ≠ 0
    · rw [if_pos c2, cond_true' (by simpa using c2)]
    · have c2' : (tkBytes x (1 + (cm ((tkL x).headD 0) : Int))).1.2.2.2.1 = 0 := by simpa using c2
      rw [if_neg c2, cond_false' (by simpa using c2')]
      obtain ⟨_, f1, f2, f3, f4⟩ := tkBytes_fine h (n := 1 + (cm ((tkL x).headD 0) : Int)) (by omega) c2'
      obtain ⟨b, l, g1, g2, g3⟩ := tk_fine h c2'
      have hc : cm ((tkL x).headD 0) = cm b := by rw [g1]; rfl
      have g2' : cm b ≤ l.length := by rw [← hc]; exact g2
      rw [num_TakeCount_eq hk _ _ (by have := tkBytes_size h (n := 1 + (cm ((tkL x).headD 0) : Int)) (by omega); omega)]
      simp only [Option.bind_some]
      have hV : tkV x = if cm b = 0 then b else leI (l.take (cm b)) := by unfold tkV; rw [g1]; rfl
      have f4' : ofBytes (tkBytes x (1 + (cm ((tkL x).headD 0) : Int))).2 = b :: l.take (cm b) := by
        rw [f4]
        show List.take _ (tkL x) = _
        rw [g1, show ((1 : Int) + (cm ((b :: l).headD 0) : Int)).toNat = cm b + 1 by simp only [List.headD_cons]; omega]
        rfl
      have hT : tcSpec (tkBytes x (1 + (cm ((tkL x).headD 0) : Int))).2 0 = (if cLong (tkV x) = 1 + (cm b : Int) then (tkV x, 1 + (cm b : Int), 0, ()) else (0, 0, 6, ())) := by
        unfold tcSpec
        rw [if_neg (by omega), show (0 : Int).toNat = 0 from rfl, List.drop_zero, f4']
        dsimp only
        by_cases c3 : b < 253
        · have : cm b = 0 := by unfold cm; rw [if_neg (by omega), if_neg (by omega), if_neg (by omega)]
          rw [if_pos c3, hV, this, if_pos rfl, cLong_small c3]
          rfl
        · rw [if_neg c3]
          have e0 : (if b = 253 then 2 else if b = 254 then 4 else 8) = cm b ∧ cm b ≠ 0 := by
            unfold cm
            by_cases e1 : b = 253
            · rw [if_pos e1, if_pos e1]; exact ⟨rfl, by decide⟩
            · rw [if_neg e1, if_neg e1]
              by_cases e2 : b = 254
              · rw [if_pos e2, if_pos e2]; exact ⟨rfl, by decide⟩
              · rw [if_neg e2, if_neg e2, if_pos (show b = 255 by omega)]; exact ⟨rfl, by decide⟩
          rw [e0.1, if_neg (by rw [List.length_take]; omega), hV, if_neg e0.2, List.take_of_length_le (by rw [List.length_take]; omega)]
          simp only [Int.zero_add]
      rw [hT]
      rw [hc]
      by_cases c4 : cLong (tkV x) = 1 + (cm b : Int)
      · rw [if_pos c4, if_neg (by simpa using c4)]
        dsimp only
        rw [show ((0 : Int) != 0) = false from rfl, cond_false, u64_in (by omega)]
        by_cases c5 : tkV x > most
        · rw [bif_yes c5, if_pos c5]
        · have := tkV_range (x := x)
          rw [bif_no c5, if_neg c5, i64_in (by omega)]
      · rw [if_neg c4, if_pos c4]
        rfl

theorem ref10_count_eq {k : Nat} (hk : 9 ≤ k) {x : Tk} (h : TkOK x) {most e : Int} (hm : 0 ≤ most ∧ most ≤ 4096) : bedrockref10_count k x most e = some ((tkCount x most e).1, (tkCount x most e).2, ()) := by
  unfold bedrockref10_count bedrockref10_count.c
  have hnum := ref10_number_eq hk h (n := 1) (by omega)
  show (bedrockref10_number k x ((1 : Nat) : Int)).bind _ = _
  rw [hnum]
  simp only [Option.bind_some]
  have hp0 : ∀ (v : Int) (y z : Tk), bedrockref10_count.p0 k (most, e, v, v, (0 : Int), y, z, x, ()) = some (most, e, v, (cm v : Int), y, z, x, ()) := by
    intro v y z
    unfold bedrockref10_count.p0 cm
    simp only [bedrockref10_count.p0.r]
    by_cases e1 : v = 253
    · rw [cond_true' (by simpa using e1), if_pos e1]; rfl
    · rw [cond_false' (by simpa using e1), if_neg e1]
      by_cases e2 : v = 254
      · rw [cond_true' (by simpa using e2), if_pos e2]; rfl
      · rw [cond_false' (by simpa using e2), if_neg e2]
        by_cases e3 : v = 255
        · rw [cond_true' (by simpa using e3), if_pos e3]; rfl
        · rw [cond_false' (by simpa using e3), if_neg e3]; rfl
  show (bedrockref10_count.p0 k (most, e, (tkNum x 1).2, (tkNum x 1).2, (0 : Int), (tkNum x 1).1, _, x, ())).bind _ = _
  rw [hp0]
  simp only [Option.bind_some]
  obtain ⟨h1, h2, h3, h4⟩ := h
  have h : TkOK x := ⟨h1, h2, h3, h4⟩
  have hlen := tkL_length h
  have hxe : x = (x.1, x.2.1, x.2.2.1, x.2.2.2.1, ()) := rfl
  by_cases ce : (tkBytes x 1).1.2.2.2.1 ≠ 0
  · -- the first byte is not there
    have hv : (tkNum x 1).2 = 0 := by unfold tkNum; dsimp only; rw [tkBytes_err ce]; rfl
    have hat : (tkBytes x 1).1 = (x.1, x.2.1, x.2.2.1, (tkBytes x 1).1.2.2.2.1, ()) := by
      unfold tkBytes at ce ⊢
      split
      · rfl
      · rename_i c0
        rw [if_neg c0] at ce
        split
        · rfl
        · rename_i c1
          rw [if_neg c1] at ce
          split
          · rfl
          · rename_i c2
            rw [if_neg c2] at ce
            exact absurd ce (by simpa using c0)
    have hres : tkCount x most e = ((tkBytes x 1).1, 0) := by
      unfold tkCount
      by_cases c0 : x.2.2.2.1 ≠ 0
      · rw [if_pos c0]
        unfold tkBytes
        rw [if_pos c0]
      · rw [if_neg c0]
        have hb : (tkBytes x (1 + (cm ((tkL x).headD 0) : Int))).1 = (tkBytes x 1).1 := by
          unfold tkBytes at ce ⊢
          rw [if_neg c0] at ce ⊢
          rw [if_neg c0]
          by_cases c1 : (1 : Int) > 4096 - (x.2.2.1 - x.2.1)
          · rw [if_pos c1, if_pos (by omega)]
          · rw [if_neg c1] at ce ⊢
            by_cases c2 : (1 : Int) > (x.1.size : Int) - x.2.2.1
            · have : tkL x = [] := List.eq_nil_of_length_eq_zero (by omega)
              have hc0 : cm ((tkL x).headD 0) = 0 := by rw [this]; rfl
              rw [hc0, if_pos c2]
              simp only [Int.ofNat_zero, Int.cast_ofNat_Int, Int.add_zero]
              rw [if_neg c1, if_pos c2]
            · rw [if_neg c2] at ce
              exact absurd ce (by simpa using c0)
        dsimp only
        rw [hb, if_pos ce]
    have hp1 : bedrockref10_count.p1 k (most, e, (tkNum x 1).2, (cm (tkNum x 1).2 : Int), (tkNum x 1).1, (eb, 0, 0, 0, ()), x, ()) = some (most, e, (tkNum x 1).2, (cm (tkNum x 1).2 : Int), (tkNum x 1).1, (eb, 0, 0, 0, ()), x, ()) := by
      unfold bedrockref10_count.p1
      simp only [bedrockref10_count.p1.r]
      rw [hv]
      rfl
    show (bedrockref10_count.p1 k (most, e, (tkNum x 1).2, (cm (tkNum x 1).2 : Int), (tkNum x 1).1, (eb, 0, 0, 0, ()), x, ())).bind _ = _
    rw [hp1]
    simp only [Option.bind_some]
    rw [cond_true' (show ((tkNum x 1).1.2.2.2.1 != 0) = true by simpa [tkNum] using ce), hres]
    show some (((tkBytes x 1).1.1, (tkBytes x 1).1.2.1, x.2.2.1, (tkBytes x 1).1.2.2.2.1, ()), (0 : Int), ()) = _
    rw [hat]
  · have ce' : (tkBytes x 1).1.2.2.2.1 = 0 := by simpa using ce
    obtain ⟨z0, z1, z2, z3, z4⟩ := tkBytes_fine h (n := 1) (by omega) ce'
    obtain ⟨b, l, g1, _, g3⟩ := tk_fine h (n := 0) (by simpa using ce')
    have hv : (tkNum x 1).2 = b := by
      unfold tkNum
      dsimp only
      rw [z4]
      show leI (List.take _ (tkL x)) = b
      rw [g1]
      simp [leI]
    have hh : (tkL x).headD 0 = b := by rw [g1]; rfl
    have hy : (tkNum x 1).1 = (x.1, x.2.1, x.2.2.1 + 1, 0, ()) := z1
    rw [hv, hy]
    have hyok : TkOK (x.1, x.2.1, x.2.2.1 + 1, 0, ()) := ⟨h1, h2, by dsimp only; omega, by dsimp only; omega⟩
    have hcm := cm_le b
    -- the bytes behind it
    have hp1 : bedrockref10_count.p1 k (most, e, b, (cm b : Int), (x.1, x.2.1, x.2.2.1 + 1, 0, ()), (eb, 0, 0, 0, ()), x, ()) =
        some (most, e, (if cm b = 0 then b else (tkNum (x.1, x.2.1, x.2.2.1 + 1, 0, ()) (cm b)).2), (cm b : Int), (if cm b = 0 then (x.1, x.2.1, x.2.2.1 + 1, 0, ()) else (tkNum (x.1, x.2.1, x.2.2.1 + 1, 0, ()) (cm b)).1), (eb, 0, 0, 0, ()), x, ()) := by
      unfold bedrockref10_count.p1
      simp only [bedrockref10_count.p1.r]
      by_cases c : cm b = 0
      · rw [bif_no (by omega), if_pos c, if_pos c]
      · rw [bif_yes (by omega), if_neg c, if_neg c, ref10_number_eq hk hyok (by omega)]
        rfl
    show (bedrockref10_count.p1 k (most, e, b, (cm b : Int), (x.1, x.2.1, x.2.2.1 + 1, 0, ()), (eb, 0, 0, 0, ()), x, ())).bind _ = _
    rw [hp1]
    simp only [Option.bind_some]
    -- both at once
    have key : ∃ er, (if cm b = 0 then (x.1, x.2.1, x.2.2.1 + 1, 0, ()) else (tkNum (x.1, x.2.1, x.2.2.1 + 1, 0, ()) (cm b)).1) = (x.1, x.2.1, (if er = 0 then x.2.2.1 + 1 + (cm b : Int) else x.2.2.1 + 1), er, ()) ∧
        (tkBytes x (1 + (cm b : Int))).1 = (x.1, x.2.1, (if er = 0 then x.2.2.1 + (1 + (cm b : Int)) else x.2.2.1), er, ()) ∧ (er = 0 → (if cm b = 0 then b else (tkNum (x.1, x.2.1, x.2.2.1 + 1, 0, ()) (cm b)).2) = tkV x) := by
      by_cases c : cm b = 0
      · refine ⟨0, ?_, ?_, fun _ => ?_⟩
        · rw [if_pos c, if_pos rfl, c]; simp
        · rw [c]
          simpa using z1
        · rw [if_pos c]
          unfold tkV
          rw [hh, if_pos c]
      · rw [if_neg c]
        unfold tkNum
        dsimp only
        have e1 : tkBytes x (1 + (cm b : Int)) = if 1 + (cm b : Int) > 4096 - (x.2.2.1 - x.2.1) then ((x.1, x.2.1, x.2.2.1, 101, ()), eb) else
            if 1 + (cm b : Int) > (x.1.size : Int) - x.2.2.1 then ((x.1, x.2.1, x.2.2.1, 4, ()), eb) else ((x.1, x.2.1, x.2.2.1 + (1 + (cm b : Int)), x.2.2.2.1, ()), x.1.extract x.2.2.1.toNat (x.2.2.1 + (1 + (cm b : Int))).toNat) := by
          unfold tkBytes; rw [if_neg (by simpa using z0)]
        have e2 : tkBytes (x.1, x.2.1, x.2.2.1 + 1, 0, ()) (cm b : Int) = if (cm b : Int) > 4096 - (x.2.2.1 + 1 - x.2.1) then ((x.1, x.2.1, x.2.2.1 + 1, 101, ()), eb) else
            if (cm b : Int) > (x.1.size : Int) - (x.2.2.1 + 1) then ((x.1, x.2.1, x.2.2.1 + 1, 4, ()), eb) else ((x.1, x.2.1, x.2.2.1 + 1 + (cm b : Int), 0, ()), x.1.extract (x.2.2.1 + 1).toNat (x.2.2.1 + 1 + (cm b : Int)).toNat) := by
          unfold tkBytes; rw [if_neg (by simp)]
        rw [e1, e2]
        by_cases c1 : 1 + (cm b : Int) > 4096 - (x.2.2.1 - x.2.1)
        · refine ⟨101, ?_, ?_, fun hz => absurd hz (by decide)⟩
          · rw [if_pos (by omega), if_neg (by decide)]
          · rw [if_pos c1, if_neg (by decide)]
        · by_cases c2 : 1 + (cm b : Int) > (x.1.size : Int) - x.2.2.1
          · refine ⟨4, ?_, ?_, fun hz => absurd hz (by decide)⟩
            · rw [if_neg (by omega), if_pos (by omega), if_neg (by decide)]
            · rw [if_neg c1, if_pos c2, if_neg (by decide)]
          · refine ⟨0, ?_, ?_, fun _ => ?_⟩
            · rw [if_neg (by omega), if_neg (by omega), if_pos rfl]
            · rw [if_neg c1, if_neg c2, if_pos rfl, z0]
            · rw [if_neg c, if_neg (by omega), if_neg (by omega)]
              unfold tkV
              rw [hh, if_neg c, ofBytes_extract]
              congr 1
              show _ = List.take _ (List.drop 1 (List.drop _ _))
              rw [List.drop_drop, show (x.2.2.1 + 1).toNat = x.2.2.1.toNat + 1 by omega, show (x.2.2.1 + 1 + (cm b : Int)).toNat - (x.2.2.1.toNat + 1) = cm b by omega]
    obtain ⟨er, k1, k2, k3⟩ := key
    rw [k1]
    dsimp only
    unfold tkCount
    rw [if_neg (show ¬ x.2.2.2.1 ≠ 0 by simpa using z0)]
    dsimp only
    rw [hh, k2]
    dsimp only
    by_cases ce2 : er ≠ 0
    · rw [cond_true' (by simpa using ce2), if_pos ce2, if_neg ce2]
    · have ce3 : er = 0 := by simpa using ce2
      rw [cond_false' (by simpa using ce3), if_neg ce2, k3 ce3, ref10_Count_eq hk _ tkV_range]
      simp only [Option.bind_some]
      have hr := tkV_range (x := x)
      rw [bytesOf_size, cBytes_length, i64_in (n := 1 + (cm b : Int)) (by omega), ce3, if_pos rfl, if_pos rfl, show x.2.2.1 + 1 + (cm b : Int) = x.2.2.1 + (1 + (cm b : Int)) by omega]
      by_cases c4 : cLong (tkV x) = 1 + (cm b : Int)
      · rw [cond_false' (by simpa using c4), if_neg (by simpa using c4), u64_in (by omega)]
        by_cases c5 : tkV x > most
        · rw [bif_yes c5, if_pos c5]
        · rw [bif_no c5, if_neg c5, i64_in (by omega)]
      · rw [cond_true' (by simpa using c4), if_pos c4]
end Go.Am
/- Transactions read: inputs, outputs, all. -/
namespace Go.Am
open Go

abbrev TIn : Type := (List Int × Int × Unit) × ByteArray × Int × Unit
abbrev TOut : Type := Int × ByteArray × Unit
abbrev RIn : Type := List Int × Int × ByteArray × Int × Unit
abbrev TTx : Type := Int × List TIn × List TOut × Int × Unit
abbrev RTx : Type := Int × List RIn × List TOut × Int × Unit
def gIn (x : TIn) : RIn := (x.1.1, x.1.2.1, x.2.1, x.2.2.1, ())
def gTx (t : TTx) : RTx := (t.1, t.2.1.map gIn, t.2.2.1, t.2.2.2.1, ())

def hashOf (b : ByteArray) : List Int := if b.size = 32 then ofBytes b else List.replicate 32 0
theorem copy_hash {b : ByteArray} (h : b.size = 0 ∨ b.size = 32) : copyL (List.replicate 32 (0 : Int)) 0 (ofBytes b) (Min.min (List.length (ofBytes b)) 32) = hashOf b := by
  have hl := ofBytes_length b
  unfold hashOf copyL
  rcases h with h | h
  · have : ofBytes b = [] := List.eq_nil_of_length_eq_zero (by omega)
    rw [this, if_neg (by omega)]
    rfl
  · rw [if_pos h, hl, h]
    simp [List.take_of_length_le (show (ofBytes b).length ≤ 32 by omega)]

theorem tkNum_ok {x : Tk} (h : TkOK x) {n : Int} (hn : 0 ≤ n) : TkOK (tkNum x n).1 := (tkBytes_ok h hn).1

/-- An input, an output. -/
def oneIn (x : Tk) : Tk × TIn :=
  let a := tkBytes x 32
  let i := tkNum a.1 4
  let c := tkCount i.1 520 100
  let s := tkBytes c.1 c.2
  let q := tkNum s.1 4
  (q.1, (hashOf a.2, i.2, ()), s.2, q.2, ())
def oneOut (x : Tk) : Tk × TOut :=
  let v := tkNum x 8
  let c := tkCount v.1 520 100
  let s := tkBytes c.1 c.2
  (s.1, v.2, s.2, ())

theorem oneIn_ok {x : Tk} (h : TkOK x) : TkOK (oneIn x).1 := by
  unfold oneIn
  have h1 := (tkBytes_ok h (n := 32) (by omega)).1
  have h2 := tkNum_ok h1 (n := 4) (by omega)
  have h3 := (tkCount_ok h2 520 100).1
  have h4 := (tkBytes_ok h3 (n := (tkCount (tkNum (tkBytes x 32).1 4).1 520 100).2) (tkCount_val 520 100 (by omega)).1).1
  exact (tkBytes_ok h4 (n := 4) (by omega)).1
theorem oneOut_ok {x : Tk} (h : TkOK x) : TkOK (oneOut x).1 := by
  unfold oneOut
  have h1 := (tkBytes_ok h (n := 8) (by omega)).1
  have h3 := (tkCount_ok h1 520 100).1
  exact (tkBytes_ok h3 (n := (tkCount (tkNum x 8).1 520 100).2) (tkCount_val 520 100 (by omega)).1).1

/-- So many parts, up to the first fault. -/
def partsN {α : Type} (f : Tk → Tk × α) : Nat → Tk → List α → Tk × List α
  | 0, x, l => (x, l)
  | n + 1, x, l => if x.2.2.2.1 ≠ 0 then (x, l) else partsN f n (f x).1 (l ++ [(f x).2])
theorem partsN_ok {α : Type} {f : Tk → Tk × α} (hok : ∀ x, TkOK x → TkOK (f x).1) : ∀ (n : Nat) {x : Tk} (l : List α), TkOK x → TkOK (partsN f n x l).1
  | 0, _, _, h => h
  | n + 1, x, l, h => by
    unfold partsN
    split
    · exact h
    · exact partsN_ok hok n _ (hok x h)
theorem partsN_length {α : Type} {f : Tk → Tk × α} : ∀ (n : Nat) (x : Tk) (l : List α), (partsN f n x l).2.length ≤ l.length + n
  | 0, _, _ => Nat.le_refl _
  | n + 1, x, l => by
    unfold partsN
    split
    · dsimp only; omega
    · have := partsN_length (f := f) n (f x).1 (l ++ [(f x).2])
      rw [List.length_append, List.length_singleton] at this
      omega
theorem partsN_map {α β : Type} (f : Tk → Tk × α) (g : α → β) : ∀ (n : Nat) (x : Tk) (l : List α), partsN (fun x => ((f x).1, g (f x).2)) n x (l.map g) = ((partsN f n x l).1, (partsN f n x l).2.map g)
  | 0, _, _ => rfl
  | n + 1, x, l => by
    unfold partsN
    by_cases c : x.2.2.2.1 ≠ 0
    · rw [if_pos c, if_pos c]
    · rw [if_neg c, if_neg c]
      dsimp only
      rw [← partsN_map f g n (f x).1 (l ++ [(f x).2]), List.map_append]
      rfl

theorem parts_loop {σ τ α : Type} {r : {ρ : Type} → σ → (σ → Option ρ) → (τ → Option ρ) → Option ρ} (f : Tk → Tk × α) (S : Nat → Tk → List α → σ) (T : Tk → List α → τ) (N B : Nat)
    (hok : ∀ x, TkOK x → TkOK (f x).1)
    (hstep : ∀ n x l, n < N → TkOK x → l.length + (n + 1) ≤ B → x.2.2.2.1 = 0 → ∀ (kn : σ → Option τ) (ke : τ → Option τ), r (S (n + 1) x l) kn ke = kn (S n (f x).1 (l ++ [(f x).2])))
    (hstop : ∀ n x l, n ≤ N → TkOK x → (n = 0 ∨ x.2.2.2.1 ≠ 0) → ∀ (kn : σ → Option τ) (ke : τ → Option τ), r (S n x l) kn ke = ke (T x l)) :
    ∀ (n : Nat) (x : Tk) (l : List α) (fuel : Nat), n ≤ N → TkOK x → l.length + n ≤ B → n < fuel → loopJ r fuel (S n x l) = some (T (partsN f n x l).1 (partsN f n x l).2)
  | 0, x, l, fuel + 1, hN, hx, _, _ => hstop 0 x l hN hx (.inl rfl) _ _
  | n + 1, x, l, fuel + 1, hN, hx, hl, hf => by
    show r (S (n + 1) x l) (loopJ r fuel) some = _
    unfold partsN
    by_cases c : x.2.2.2.1 ≠ 0
    · rw [if_pos c]
      exact hstop (n + 1) x l hN hx (.inr c) _ _
    · rw [if_neg c, hstep n x l (by omega) hx hl (by simpa using c)]
      exact parts_loop f S T N B hok hstep hstop n (f x).1 (l ++ [(f x).2]) fuel (by omega) (hok x hx) (by rw [List.length_append, List.length_singleton]; omega) (by omega)

abbrev T0 : Type := Int × Unit × Unit × Int × Unit

theorem tx_script_eq {k : Nat} (hk : 9 ≤ k) {x : Tk} (h : TkOK x) :
    tx_taker_script k x = some ((tkBytes (tkCount x 520 100).1 (tkCount x 520 100).2).2, (tkBytes (tkCount x 520 100).1 (tkCount x 520 100).2).1, ()) := by
  unfold tx_taker_script tx_taker_script.c
  show (tx_taker_count k 520 100 x).bind _ = _
  rw [tx_count_eq hk h (by omega)]
  simp only [Option.bind_some]
  have hv := tkCount_val (x := x) 520 100 (by omega)
  show (tx_taker_bytes k (tkCount x 520 100).2 (tkCount x 520 100).1).bind _ = _
  rw [tx_bytes_eq k (tkCount_ok h 520 100).1 (by omega)]
  rfl

theorem tx_ins_eq {k : Nat} (hk : 9 ≤ k) (t0 t : T0) (n : Nat) (hn : n ≤ 4096) {x : Tk} (hx : TkOK x) (hf : n < k) :
    tx_Take.l1 k k ((n : Int), t0, x, t, [], ()) = some (t0, (partsN oneIn n x []).1, t, (partsN oneIn n x []).2, ()) := by
  refine parts_loop (r := tx_Take.l1.r k) oneIn (fun n x l => ((n : Int), t0, x, t, l, ())) (fun x l => (t0, x, t, l, ())) 4096 4096 (fun x h => oneIn_ok h) ?_ ?_ n x [] k hn hx (by simpa using hn) hf
  · intro n x l hn hx hl he kn ke
    simp only [tx_Take.l1.r]
    have hp : tx_Take.p2 k (((n + 1 : Nat) : Int), t0, x, t, l, ()) = some (.inl (((n + 1 : Nat) : Int), t0, x, t, l, ())) := by
      unfold tx_Take.p2
      simp only [tx_Take.p2.r]
      rw [bif_yes (by omega), cond_true' (by simpa using he)]
    show (tx_Take.p2 k (((n + 1 : Nat) : Int), t0, x, t, l, ())).bind _ = _
    rw [hp]
    simp only [Option.bind_some]
    have h1 := (tkBytes_ok hx (n := 32) (by omega)).1
    have h2 := tkNum_ok h1 (n := 4) (by omega)
    have h3 := (tkCount_ok h2 520 100).1
    have hv := tkCount_val (x := (tkNum (tkBytes x 32).1 4).1) 520 100 (by omega)
    have h4 := (tkBytes_ok h3 (n := (tkCount (tkNum (tkBytes x 32).1 4).1 520 100).2) hv.1).1
    show (tx_taker_bytes k 32 x).bind _ = _
    rw [tx_bytes_eq k hx (by omega)]
    simp only [Option.bind_some]
    show (tx_taker_u32 k (tkBytes x 32).1).bind _ = _
    rw [tx_u32_eq hk h1]
    simp only [Option.bind_some]
    show (tx_taker_script k (tkNum (tkBytes x 32).1 4).1).bind _ = _
    rw [tx_script_eq hk h2]
    simp only [Option.bind_some]
    show (tx_taker_u32 k (tkBytes (tkCount (tkNum (tkBytes x 32).1 4).1 520 100).1 (tkCount (tkNum (tkBytes x 32).1 4).1 520 100).2).1).bind _ = _
    rw [tx_u32_eq hk h4]
    simp only [Option.bind_some]
    rw [cond_true' (ble_of (by simp only [List.length_set, List.length_replicate]; omega)), copy_hash (tkBytes_size hx (n := 32) (by omega)), i64_in (n := ((n + 1 : Nat) : Int) - 1) (by omega), show ((n + 1 : Nat) : Int) - 1 = (n : Int) by omega]
    rfl
  · intro n x l hn hx he kn ke
    simp only [tx_Take.l1.r]
    have hp : tx_Take.p2 k ((n : Int), t0, x, t, l, ()) = some (.inr (t0, x, t, l, ())) := by
      unfold tx_Take.p2
      simp only [tx_Take.p2.r]
      rcases he with he | he
      · rw [bif_no (by omega)]
      · by_cases c : n = 0
        · rw [bif_no (by omega)]
        · rw [bif_yes (by omega), cond_false' (by simpa using he)]
    show (tx_Take.p2 k ((n : Int), t0, x, t, l, ())).bind _ = _
    rw [hp]
    rfl

theorem tx_outs_eq {k : Nat} (hk : 9 ≤ k) (t0 t : T0) (ins : List TIn) (n : Nat) (hn : n ≤ 4096) {x : Tk} (hx : TkOK x) (hf : n < k) :
    tx_Take.l3 k k ((n : Int), t0, x, t, ins, [], ()) = some (t0, (partsN oneOut n x []).1, t, ins, (partsN oneOut n x []).2, ()) := by
  refine parts_loop (r := tx_Take.l3.r k) oneOut (fun n x l => ((n : Int), t0, x, t, ins, l, ())) (fun x l => (t0, x, t, ins, l, ())) 4096 4096 (fun x h => oneOut_ok h) ?_ ?_ n x [] k hn hx (by simpa using hn) hf
  · intro n x l hn hx hl he kn ke
    simp only [tx_Take.l3.r]
    have hp : tx_Take.p4 k (((n + 1 : Nat) : Int), t0, x, t, ins, l, ()) = some (.inl (((n + 1 : Nat) : Int), t0, x, t, ins, l, ())) := by
      unfold tx_Take.p4
      simp only [tx_Take.p4.r]
      rw [bif_yes (by omega), cond_true' (by simpa using he)]
    show (tx_Take.p4 k (((n + 1 : Nat) : Int), t0, x, t, ins, l, ())).bind _ = _
    rw [hp]
    simp only [Option.bind_some]
    have h1 := tkNum_ok hx (n := 8) (by omega)
    have hs := tkBytes_size hx (n := 8) (by omega)
    show (tx_taker_bytes k 8 x).bind _ = _
    rw [tx_bytes_eq k hx (by omega)]
    simp only [Option.bind_some]
    rw [show num_NewReader k (tkBytes x 8).2 = some (((tkBytes x 8).2, 0, 0, ()), ()) from rfl]
    simp only [Option.bind_some]
    have hnf := numS_full (n := 8) hs (by omega)
    rw [u64_eq hk ⟨by dsimp only; omega, by dsimp only; omega, by dsimp only; omega⟩, show numS ((tkBytes x 8).2, 0, 0, ()) 8 = leI (ofBytes (tkBytes x 8).2) from hnf]
    simp only [Option.bind_some]
    show (tx_taker_script k (tkNum x 8).1).bind _ = _
    rw [tx_script_eq hk h1]
    simp only [Option.bind_some]
    rw [cond_true' (ble_of (by simp only [List.length_set, List.length_replicate]; omega)), i64_in (n := ((n + 1 : Nat) : Int) - 1) (by omega), show ((n + 1 : Nat) : Int) - 1 = (n : Int) by omega]
    rfl
  · intro n x l hn hx he kn ke
    simp only [tx_Take.l3.r]
    have hp : tx_Take.p4 k ((n : Int), t0, x, t, ins, l, ()) = some (.inr (t0, x, t, ins, l, ())) := by
      unfold tx_Take.p4
      simp only [tx_Take.p4.r]
      rcases he with he | he
      · rw [bif_no (by omega)]
      · by_cases c : n = 0
        · rw [bif_no (by omega)]
        · rw [bif_yes (by omega), cond_false' (by simpa using he)]
    show (tx_Take.p4 k ((n : Int), t0, x, t, ins, l, ())).bind _ = _
    rw [hp]
    rfl

/-- The transaction at a place. -/
def tkTake (s : ByteArray) (a : Int) : TTx × Int × Int :=
  if a < 0 ∨ a > (s.size : Int) then ((0, [], [], 0, ()), 0, 1) else
  let v := tkNum (s, a, a, 0, ()) 4
  let ni := tkCount v.1 4096 5
  let is := partsN oneIn ni.2.toNat ni.1 []
  let no := tkCount is.1 4096 5
  let os := partsN oneOut no.2.toNat no.1 []
  let t := tkNum os.1 4
  if t.1.2.2.2.1 ≠ 0 then ((0, [], [], 0, ()), 0, t.1.2.2.2.1) else ((v.2, is.2, os.2, t.2, ()), t.1.2.2.1, 0)

theorem tx_Take_eq {k : Nat} (hk : 4100 ≤ k) {s : ByteArray} (hs : s.size ≤ 4611686018427387904) (a : Int) : tx_Take k s a = some ((tkTake s a).1, (tkTake s a).2.1, (tkTake s a).2.2, ()) := by
  unfold tx_Take tx_Take.c
  have hp0 : tx_Take.p0 k (s, a, (0, (), (), 0, ()), ()) = some (if a < 0 ∨ a > (s.size : Int) then .inl (0, 1, (0, (), (), 0, ()), ()) else .inr (s, a, (0, (), (), 0, ()), ())) := by
    unfold tx_Take.p0
    simp only [tx_Take.p0.r]
    by_cases h1 : a < 0
    · rw [bif_yes h1, if_pos (.inl h1)]
    · rw [bif_no h1]
      by_cases h2 : a > (s.size : Int)
      · rw [bif_yes h2, if_pos (.inr h2)]
      · rw [bif_no h2, if_neg (by omega)]
  rw [hp0]
  simp only [Option.bind_some]
  unfold tkTake
  by_cases h : a < 0 ∨ a > (s.size : Int)
  · rw [if_pos h, if_pos h]
  · rw [if_neg h, if_neg h]
    dsimp only
    have hx : TkOK (s, a, a, 0, ()) := ⟨hs, by dsimp only; omega, by dsimp only; omega, by dsimp only; omega⟩
    have h1 := tkNum_ok hx (n := 4) (by omega)
    rw [tx_u32_eq (by omega) hx]
    simp only [Option.bind_some]
    show (tx_taker_count k 4096 5 (tkNum (s, a, a, 0, ()) 4).1).bind _ = _
    rw [tx_count_eq (by omega) h1 (by omega)]
    simp only [Option.bind_some]
    have h2 := (tkCount_ok h1 4096 5).1
    have hv2 := tkCount_val (x := (tkNum (s, a, a, 0, ()) 4).1) 4096 5 (by omega)
    obtain ⟨n, hn⟩ := Int.eq_ofNat_of_zero_le hv2.1
    have l1 := tx_ins_eq (k := k) (by omega) (0, (), (), 0, ()) ((tkNum (s, a, a, 0, ()) 4).2, (), (), 0, ()) n (by omega) h2 (by omega)
    rw [← hn] at l1
    show (tx_Take.l1 k k ((tkCount (tkNum (s, a, a, 0, ()) 4).1 4096 5).2, (0, (), (), 0, ()), (tkCount (tkNum (s, a, a, 0, ()) 4).1 4096 5).1, ((tkNum (s, a, a, 0, ()) 4).2, (), (), 0, ()), [], ())).bind _ = _
    rw [show (tkCount (tkNum (s, a, a, 0, ()) 4).1 4096 5).2.toNat = n by omega, l1]
    simp only [Option.bind_some]
    have h3 := partsN_ok (fun x h => oneIn_ok h) n [] h2
    generalize partsN oneIn n (tkCount (tkNum (s, a, a, 0, ()) 4).1 4096 5).1 [] = is at *
    show (tx_taker_count k 4096 5 is.1).bind _ = _
    rw [tx_count_eq (by omega) h3 (by omega)]
    simp only [Option.bind_some]
    have h4 := (tkCount_ok h3 4096 5).1
    have hv4 := tkCount_val (x := is.1) 4096 5 (by omega)
    obtain ⟨n2, hn2⟩ := Int.eq_ofNat_of_zero_le hv4.1
    have l3 := tx_outs_eq (k := k) (by omega) (0, (), (), 0, ()) ((tkNum (s, a, a, 0, ()) 4).2, (), (), 0, ()) is.2 n2 (by omega) h4 (by omega)
    rw [← hn2] at l3
    show (tx_Take.l3 k k ((tkCount is.1 4096 5).2, (0, (), (), 0, ()), (tkCount is.1 4096 5).1, ((tkNum (s, a, a, 0, ()) 4).2, (), (), 0, ()), is.2, [], ())).bind _ = _
    rw [show (tkCount is.1 4096 5).2.toNat = n2 by omega, l3]
    simp only [Option.bind_some]
    have h5 := partsN_ok (fun x h => oneOut_ok h) n2 [] h4
    generalize partsN oneOut n2 (tkCount is.1 4096 5).1 [] = os at *
    show (tx_taker_u32 k os.1).bind _ = _
    rw [tx_u32_eq (by omega) h5]
    simp only [Option.bind_some]
    by_cases c : (tkNum os.1 4).1.2.2.2.1 ≠ 0
    · rw [cond_true' (by simpa using c), if_pos c]
    · rw [cond_false' (by simpa using c), if_neg c]

/-! the document's -/
theorem ref10_copy (k : Nat) (hk : 40 ≤ k) (N i : Int) {b : ByteArray} (h : b.size = 0 ∨ b.size = 32) (t0 t : T0) (r : Tk) (l : List RIn) :
    bedrockref10_Take.l3 k k (N, i, b, (0 : Int), t0, r, t, l, (List.replicate 32 (0 : Int), 0, eb, 0, ()), ()) = some (N, i, t0, r, t, l, (hashOf b, 0, eb, 0, ()), ()) := by
  have hz := ofBytes_length b
  have := loop_from0 (r := bedrockref10_Take.l3.r k) (fun j => (N, i, b, (j : Int), t0, r, t, l, ((List.range j).map (fun j => (ofBytes b).getD j 0) ++ (List.replicate 32 (0 : Int)).drop j, (0 : Int), eb, (0 : Int), ()), ())) b.size (N, i, t0, r, t, l, (hashOf b, 0, eb, 0, ()), ()) ?_ ?_ (fuel := k) (by omega)
  · exact this
  · intro j hj kn ke
    simp only [bedrockref10_Take.l3.r]
    rw [bif_yes (by omega), bif_yes (by omega), bif_yes (by omega), i64_in (by omega), byteAt_eq, show (j : Int).toNat = j by omega, set_map (f := fun j => (ofBytes b).getD j 0) (by simp; omega)]
    rfl
  · intro kn ke
    simp only [bedrockref10_Take.l3.r]
    rw [bif_no (by omega)]
    have e : (List.range b.size).map (fun j => (ofBytes b).getD j 0) ++ (List.replicate 32 (0 : Int)).drop b.size = hashOf b := by
      unfold hashOf
      rcases h with h | h
      · rw [h, if_neg (by omega)]; rfl
      · rw [h, if_pos rfl]
        rw [map_full (by simp)]
        apply List.ext_getElem
        · simp; omega
        · intro j h1 h2
          simp only [List.length_map, List.length_range] at h1
          simp only [List.getElem_map, List.getElem_range, List.getD_eq_getElem?_getD]
          rw [List.getElem?_eq_getElem (by omega)]
          rfl
    rw [e]

theorem u32_num {x : Tk} (h : TkOK x) : IntKind.u32.wrap (tkNum x 4).2 = (tkNum x 4).2 := by
  have := tkNum_range h (n := 4)
  have e : (256 : Int) ^ 4 = 4294967296 := by decide
  exact u32_in (by have h1 := this.1; have h2 := this.2; rw [e] at h2; exact ⟨h1, by have : (tkNum x ((4 : Nat) : Int)).2 = (tkNum x 4).2 := rfl; omega⟩)

theorem ref10_ins_eq {k : Nat} (hk : 40 ≤ k) (t0 t : T0) (N : Nat) (hn : N ≤ 4096) {x : Tk} (hx : TkOK x) (hf : N < k) :
    bedrockref10_Take.l1 k k ((N : Int), (0 : Int), t0, x, t, [], ()) = some (t0, (partsN oneIn N x []).1, t, (partsN oneIn N x []).2.map gIn, ()) := by
  have hmap := partsN_map oneIn gIn N x []
  rw [List.map_nil] at hmap
  have := parts_loop (r := bedrockref10_Take.l1.r k) (fun x => ((oneIn x).1, gIn (oneIn x).2)) (fun n x l => ((N : Int), ((N - n : Nat) : Int), t0, x, t, l, ())) (fun x l => (t0, x, t, l, ())) N 4096 (fun x h => oneIn_ok h) ?_ ?_ N x [] k (Nat.le_refl _) hx (by simpa using hn) hf
  · rw [hmap] at this
    rw [Nat.sub_self] at this
    exact this
  · intro n x l hn hx hl he kn ke
    simp only [bedrockref10_Take.l1.r]
    have hp : bedrockref10_Take.p2 k ((N : Int), ((N - (n + 1) : Nat) : Int), t0, x, t, l, ()) = some (.inl ((N : Int), ((N - (n + 1) : Nat) : Int), t0, x, t, l, ())) := by
      unfold bedrockref10_Take.p2
      simp only [bedrockref10_Take.p2.r]
      rw [bif_yes (by omega), cond_true' (by simpa using he)]
    show (bedrockref10_Take.p2 k ((N : Int), ((N - (n + 1) : Nat) : Int), t0, x, t, l, ())).bind _ = _
    rw [hp]
    simp only [Option.bind_some]
    have h1 := (tkBytes_ok hx (n := 32) (by omega)).1
    have h2 := tkNum_ok h1 (n := 4) (by omega)
    have h3 := (tkCount_ok h2 520 100).1
    have hv := tkCount_val (x := (tkNum (tkBytes x 32).1 4).1) 520 100 (by omega)
    have h4 := (tkBytes_ok h3 (n := (tkCount (tkNum (tkBytes x 32).1 4).1 520 100).2) hv.1).1
    show (bedrockref10_bytes k x 32).bind _ = _
    rw [ref10_bytes_eq k hx (by omega)]
    simp only [Option.bind_some]
    show (bedrockref10_Take.l3 k k ((N : Int), ((N - (n + 1) : Nat) : Int), (tkBytes x 32).2, (0 : Int), t0, (tkBytes x 32).1, t, l, (List.replicate 32 (0 : Int), 0, eb, 0, ()), ())).bind _ = _
    rw [ref10_copy k hk _ _ (tkBytes_size hx (n := 32) (by omega)) t0 t _ l]
    simp only [Option.bind_some]
    show (bedrockref10_number k (tkBytes x 32).1 ((4 : Nat) : Int)).bind _ = _
    rw [ref10_number_eq (by omega) h1 (by omega)]
    simp only [Option.bind_some]
    show (bedrockref10_count k (tkNum (tkBytes x 32).1 4).1 520 100).bind _ = _
    rw [ref10_count_eq (by omega) h2 (by omega)]
    simp only [Option.bind_some]
    show (bedrockref10_bytes k (tkCount (tkNum (tkBytes x 32).1 4).1 520 100).1 (tkCount (tkNum (tkBytes x 32).1 4).1 520 100).2).bind _ = _
    rw [ref10_bytes_eq k h3 (by omega)]
    simp only [Option.bind_some]
    show (bedrockref10_number k (tkBytes (tkCount (tkNum (tkBytes x 32).1 4).1 520 100).1 (tkCount (tkNum (tkBytes x 32).1 4).1 520 100).2).1 ((4 : Nat) : Int)).bind _ = _
    rw [ref10_number_eq (by omega) h4 (by omega)]
    simp only [Option.bind_some]
    rw [cond_true' (ble_of (by simp only [List.length_set, List.length_replicate]; omega)), i64_in (n := ((N - (n + 1) : Nat) : Int) + 1) (by omega), show ((N - (n + 1) : Nat) : Int) + 1 = ((N - n : Nat) : Int) by omega]
    have w1 := u32_num h1
    have w2 := u32_num h4
    show kn _ = kn _
    congr 1
    have e : (List.set (List.replicate 1 (List.replicate 32 (0 : Int), (0 : Int), ByteArray.empty, (0 : Int), ())) 0 (hashOf (tkBytes x 32).2, IntKind.u32.wrap (tkNum (tkBytes x 32).1 4).2, (tkBytes (tkCount (tkNum (tkBytes x 32).1 4).1 520 100).1 (tkCount (tkNum (tkBytes x 32).1 4).1 520 100).2).2,
        IntKind.u32.wrap (tkNum (tkBytes (tkCount (tkNum (tkBytes x 32).1 4).1 520 100).1 (tkCount (tkNum (tkBytes x 32).1 4).1 520 100).2).1 4).2, ())) = [gIn (oneIn x).2] := by
      rw [w1, w2]
      rfl
    show ((N : Int), ((N - n : Nat) : Int), t0, _, t, l ++ _, ()) = ((N : Int), ((N - n : Nat) : Int), t0, _, t, l ++ _, ())
    rw [← e]
    rfl
  · intro n x l hn hx he kn ke
    simp only [bedrockref10_Take.l1.r]
    have hp : bedrockref10_Take.p2 k ((N : Int), ((N - n : Nat) : Int), t0, x, t, l, ()) = some (.inr (t0, x, t, l, ())) := by
      unfold bedrockref10_Take.p2
      simp only [bedrockref10_Take.p2.r]
      rcases he with he | he
      · rw [bif_no (by omega)]
      · by_cases c : n = 0
        · rw [bif_no (by omega)]
        · rw [bif_yes (by omega), cond_false' (by simpa using he)]
    show (bedrockref10_Take.p2 k ((N : Int), ((N - n : Nat) : Int), t0, x, t, l, ())).bind _ = _
    rw [hp]
    rfl

theorem ref10_outs_eq {k : Nat} (hk : 40 ≤ k) (t0 t : T0) (ins : List RIn) (N : Nat) (hn : N ≤ 4096) {x : Tk} (hx : TkOK x) (hf : N < k) :
    bedrockref10_Take.l4 k k ((N : Int), (0 : Int), t0, x, t, ins, [], ()) = some (t0, (partsN oneOut N x []).1, t, ins, (partsN oneOut N x []).2, ()) := by
  have := parts_loop (r := bedrockref10_Take.l4.r k) oneOut (fun n x l => ((N : Int), ((N - n : Nat) : Int), t0, x, t, ins, l, ())) (fun x l => (t0, x, t, ins, l, ())) N 4096 (fun x h => oneOut_ok h) ?_ ?_ N x [] k (Nat.le_refl _) hx (by simpa using hn) hf
  · rw [Nat.sub_self] at this
    exact this
  · intro n x l hn hx hl he kn ke
    simp only [bedrockref10_Take.l4.r]
    have hp : bedrockref10_Take.p5 k ((N : Int), ((N - (n + 1) : Nat) : Int), t0, x, t, ins, l, ()) = some (.inl ((N : Int), ((N - (n + 1) : Nat) : Int), t0, x, t, ins, l, ())) := by
      unfold bedrockref10_Take.p5
      simp only [bedrockref10_Take.p5.r]
      rw [bif_yes (by omega), cond_true' (by simpa using he)]
    show (bedrockref10_Take.p5 k ((N : Int), ((N - (n + 1) : Nat) : Int), t0, x, t, ins, l, ())).bind _ = _
    rw [hp]
    simp only [Option.bind_some]
    have h1 := tkNum_ok hx (n := 8) (by omega)
    have h3 := (tkCount_ok h1 520 100).1
    have hv := tkCount_val (x := (tkNum x 8).1) 520 100 (by omega)
    show (bedrockref10_number k x ((8 : Nat) : Int)).bind _ = _
    rw [ref10_number_eq (by omega) hx (by omega)]
    simp only [Option.bind_some]
    show (bedrockref10_count k (tkNum x 8).1 520 100).bind _ = _
    rw [ref10_count_eq (by omega) h1 (by omega)]
    simp only [Option.bind_some]
    show (bedrockref10_bytes k (tkCount (tkNum x 8).1 520 100).1 (tkCount (tkNum x 8).1 520 100).2).bind _ = _
    rw [ref10_bytes_eq k h3 (by omega)]
    simp only [Option.bind_some]
    rw [cond_true' (ble_of (by simp only [List.length_set, List.length_replicate]; omega)), i64_in (n := ((N - (n + 1) : Nat) : Int) + 1) (by omega), show ((N - (n + 1) : Nat) : Int) + 1 = ((N - n : Nat) : Int) by omega]
    rfl
  · intro n x l hn hx he kn ke
    simp only [bedrockref10_Take.l4.r]
    have hp : bedrockref10_Take.p5 k ((N : Int), ((N - n : Nat) : Int), t0, x, t, ins, l, ()) = some (.inr (t0, x, t, ins, l, ())) := by
      unfold bedrockref10_Take.p5
      simp only [bedrockref10_Take.p5.r]
      rcases he with he | he
      · rw [bif_no (by omega)]
      · by_cases c : n = 0
        · rw [bif_no (by omega)]
        · rw [bif_yes (by omega), cond_false' (by simpa using he)]
    show (bedrockref10_Take.p5 k ((N : Int), ((N - n : Nat) : Int), t0, x, t, ins, l, ())).bind _ = _
    rw [hp]
    rfl

theorem ref10_Take_eq {k : Nat} (hk : 4100 ≤ k) {s : ByteArray} (hs : s.size ≤ 4611686018427387904) (a : Int) : bedrockref10_Take k s a = some (gTx (tkTake s a).1, (tkTake s a).2.1, (tkTake s a).2.2, ()) := by
  unfold bedrockref10_Take bedrockref10_Take.c
  have hp0 : bedrockref10_Take.p0 k (s, a, (0, (), (), 0, ()), ()) = some (if a < 0 ∨ a > (s.size : Int) then .inl (0, 1, (0, (), (), 0, ()), ()) else .inr (s, a, (0, (), (), 0, ()), ())) := by
    unfold bedrockref10_Take.p0
    simp only [bedrockref10_Take.p0.r]
    by_cases h1 : a < 0
    · rw [bif_yes h1, if_pos (.inl h1)]
    · rw [bif_no h1]
      by_cases h2 : a > (s.size : Int)
      · rw [bif_yes h2, if_pos (.inr h2)]
      · rw [bif_no h2, if_neg (by omega)]
  rw [hp0]
  simp only [Option.bind_some]
  unfold tkTake
  by_cases h : a < 0 ∨ a > (s.size : Int)
  · rw [if_pos h, if_pos h]
    rfl
  · rw [if_neg h, if_neg h]
    dsimp only
    have hx : TkOK (s, a, a, 0, ()) := ⟨hs, by dsimp only; omega, by dsimp only; omega, by dsimp only; omega⟩
    have h1 := tkNum_ok hx (n := 4) (by omega)
    show (bedrockref10_number k (s, a, a, 0, ()) ((4 : Nat) : Int)).bind _ = _
    rw [ref10_number_eq (by omega) hx (by omega)]
    simp only [Option.bind_some]
    show (bedrockref10_count k (tkNum (s, a, a, 0, ()) 4).1 4096 5).bind _ = _
    rw [ref10_count_eq (by omega) h1 (by omega)]
    simp only [Option.bind_some]
    have h2 := (tkCount_ok h1 4096 5).1
    have hv2 := tkCount_val (x := (tkNum (s, a, a, 0, ()) 4).1) 4096 5 (by omega)
    obtain ⟨n, hn⟩ := Int.eq_ofNat_of_zero_le hv2.1
    have l1 := ref10_ins_eq (k := k) (by omega) (0, (), (), 0, ()) ((tkNum (s, a, a, 0, ()) 4).2, (), (), 0, ()) n (by omega) h2 (by omega)
    rw [← hn] at l1
    have hw := u32_num hx
    show (bedrockref10_Take.l1 k k ((tkCount (tkNum (s, a, a, 0, ()) 4).1 4096 5).2, (0 : Int), (0, (), (), 0, ()), (tkCount (tkNum (s, a, a, 0, ()) 4).1 4096 5).1, (IntKind.u32.wrap (tkNum (s, a, a, 0, ()) 4).2, (), (), 0, ()), [], ())).bind _ = _
    rw [hw, show (tkCount (tkNum (s, a, a, 0, ()) 4).1 4096 5).2.toNat = n by omega, l1]
    simp only [Option.bind_some]
    have h3 := partsN_ok (fun x h => oneIn_ok h) n [] h2
    generalize partsN oneIn n (tkCount (tkNum (s, a, a, 0, ()) 4).1 4096 5).1 [] = is at *
    show (bedrockref10_count k is.1 4096 5).bind _ = _
    rw [ref10_count_eq (by omega) h3 (by omega)]
    simp only [Option.bind_some]
    have h4 := (tkCount_ok h3 4096 5).1
    have hv4 := tkCount_val (x := is.1) 4096 5 (by omega)
    obtain ⟨n2, hn2⟩ := Int.eq_ofNat_of_zero_le hv4.1
    have l3 := ref10_outs_eq (k := k) (by omega) (0, (), (), 0, ()) ((tkNum (s, a, a, 0, ()) 4).2, (), (), 0, ()) (is.2.map gIn) n2 (by omega) h4 (by omega)
    rw [← hn2] at l3
    show (bedrockref10_Take.l4 k k ((tkCount is.1 4096 5).2, (0 : Int), (0, (), (), 0, ()), (tkCount is.1 4096 5).1, ((tkNum (s, a, a, 0, ()) 4).2, (), (), 0, ()), is.2.map gIn, [], ())).bind _ = _
    rw [show (tkCount is.1 4096 5).2.toNat = n2 by omega, l3]
    simp only [Option.bind_some]
    have h5 := partsN_ok (fun x h => oneOut_ok h) n2 [] h4
    generalize partsN oneOut n2 (tkCount is.1 4096 5).1 [] = os at *
    show (bedrockref10_number k os.1 ((4 : Nat) : Int)).bind _ = _
    rw [ref10_number_eq (by omega) h5 (by omega)]
    simp only [Option.bind_some]
    by_cases c : (tkNum os.1 4).1.2.2.2.1 ≠ 0
    · rw [cond_true' (show ((tkNum os.1 ((4 : Nat) : Int)).1.2.2.2.1 != 0) = true by simpa using c), if_pos c]
      rfl
    · rw [cond_false' (show ((tkNum os.1 ((4 : Nat) : Int)).1.2.2.2.1 != 0) = false by simpa using c), if_neg c]
      have hw2 := u32_num h5
      show some ((_, _, _, IntKind.u32.wrap (tkNum os.1 4).2, ()), _, _, ()) = _
      rw [hw2]
      rfl
end Go.Am
/- Transactions told: bytes, size; given and same. -/
namespace Go.Am
open Go

/-- A loop that looks for the first that is not fit. -/
theorem loop_find {σ τ : Type} {r : {ρ : Type} → σ → (σ → Option ρ) → (τ → Option ρ) → Option ρ} (S : Nat → σ) (n : Nat) (T U : τ) (p : Nat → Bool)
    (hgood : ∀ i, i < n → p i = true → ∀ (kn : σ → Option τ) (ke : τ → Option τ), r (S i) kn ke = kn (S (i + 1)))
    (hbad : ∀ i, i < n → p i = false → ∀ (kn : σ → Option τ) (ke : τ → Option τ), r (S i) kn ke = ke U)
    (hend : ∀ (kn : σ → Option τ) (ke : τ → Option τ), r (S n) kn ke = ke T) {fuel : Nat} (hf : n < fuel) :
    loopJ r fuel (S 0) = some (if ∀ i, i < n → p i = true then T else U) := by
  have key : ∀ (d i fuel : Nat), i + d = n → d < fuel → (∀ j, j < i → p j = true) → loopJ r fuel (S i) = some (if ∀ j, j < n → p j = true then T else U) := by
    intro d
    induction d with
    | zero =>
      intro i fuel hi hf hp
      cases fuel with
      | zero => omega
      | succ fuel =>
        have : i = n := by omega
        subst this
        rw [if_pos hp]
        exact hend _ _
    | succ d ih =>
      intro i fuel hi hf hp
      cases fuel with
      | zero => omega
      | succ fuel =>
        show r (S i) (loopJ r fuel) some = _
        cases hc : p i with
        | true =>
          rw [hgood i (by omega) hc]
          refine ih (i + 1) fuel (by omega) (by omega) fun j hj => ?_
          by_cases hji : j = i
          · rw [hji]; exact hc
          · exact hp j (by omega)
        | false =>
          rw [hbad i (by omega) hc, if_neg (fun h => by have := h i (by omega); rw [hc] at this; cases this)]
  exact key n 0 fuel (by omega) hf fun j hj => absurd hj (Nat.not_lt_zero j)

/-- The bytes of the first i things. -/
def cat {α : Type} (f : α → List Int) (d : α) (l : List α) : Nat → List Int
  | 0 => []
  | i + 1 => cat f d l i ++ f (l.getD i d)
theorem cat_eq {α : Type} (f : α → List Int) (d : α) (l : List α) : ∀ i, i ≤ l.length → cat f d l i = ((l.take i).map f).flatten
  | 0, _ => rfl
  | i + 1, h => by
    rw [cat, cat_eq f d l i (by omega), List.take_add_one, List.getD_eq_getElem?_getD, List.getElem?_eq_getElem (by omega), Option.toList_some, List.map_append, List.flatten_append]
    simp only [List.map_cons, List.map_nil, List.flatten_cons, List.flatten_nil, List.append_nil, Option.getD_some]
theorem cat_all {α : Type} (f : α → List Int) (d : α) (l : List α) : cat f d l l.length = (l.map f).flatten := by
  rw [cat_eq f d l _ (Nat.le_refl _), List.take_length]
theorem cat_mono {α : Type} (f : α → List Int) (d : α) (l : List α) : ∀ {i n : Nat}, i ≤ n → (cat f d l i).length ≤ (cat f d l n).length
  | i, 0, h => by rw [show i = 0 by omega]; exact Nat.le_refl _
  | i, n + 1, h => by
    rcases Nat.lt_or_ge i (n + 1) with g | g
    · have := cat_mono f d l (i := i) (n := n) (by omega)
      rw [cat, List.length_append]; omega
    · rw [show i = n + 1 by omega]; exact Nat.le_refl _
theorem cat_in {α : Type} {f : α → List Int} {d : α} {l : List α} : ∀ i, (∀ j, j < i → bytesIn (f (l.getD j d))) → bytesIn (cat f d l i)
  | 0, _ => fun x hx => by simp [cat] at hx
  | i + 1, h => bytesIn_append' (cat_in i fun j hj => h j (by omega)) (h i (by omega))
where bytesIn_append' {a b : List Int} (ha : bytesIn a) (hb : bytesIn b) : bytesIn (a ++ b) := fun x hx => (List.mem_append.1 hx).elim (ha x) (hb x)
theorem cat_ge {α : Type} {f : α → List Int} {d : α} {l : List α} {m : Nat} (h : ∀ x, m ≤ (f x).length) : ∀ i, m * i ≤ (cat f d l i).length
  | 0 => Nat.zero_le _
  | i + 1 => by
    have h1 := cat_ge (d := d) (l := l) h i
    have h2 := h (l.getD i d)
    rw [cat, List.length_append, Nat.mul_add]; omega

abbrev dIn : TIn := ((List.replicate 32 (0 : Int), 0, ()), ByteArray.empty, 0, ())
abbrev dOut : TOut := (0, ByteArray.empty, ())
theorem dIn_eq : ((List.replicate 32 (0 : Int), (0 : Int), ()), ByteArray.empty, (0 : Int), ()) = dIn := rfl
theorem dOut_eq : ((0 : Int), ByteArray.empty, ()) = dOut := rfl
def encStr (s : ByteArray) : List Int := cBytes (s.size : Int) ++ ofBytes s
def encIn (x : TIn) : List Int := x.1.1.take 32 ++ lowI x.1.2.1 4 ++ encStr x.2.1 ++ lowI x.2.2.1 4
def encOut (x : TOut) : List Int := lowI x.1 8 ++ encStr x.2.1
abbrev encIns (t : TTx) : Nat → List Int := cat encIn dIn t.2.1
abbrev encOuts (t : TTx) : Nat → List Int := cat encOut dOut t.2.2.1
/-- A transaction's bytes. -/
def encL (t : TTx) : List Int := lowI t.1 4 ++ cBytes (t.2.1.length : Int) ++ encIns t t.2.1.length ++ cBytes (t.2.2.1.length : Int) ++ encOuts t t.2.2.1.length ++ lowI t.2.2.2.1 4

def u32R (n : Int) : Prop := 0 ≤ n ∧ n ≤ 4294967295
def InOK (x : TIn) : Prop := (x.1.1.length = 32 ∧ bytesIn x.1.1) ∧ u32R x.1.2.1 ∧ u32R x.2.2.1
def OutOK (x : TOut) : Prop := 0 ≤ x.1 ∧ x.1 ≤ 18446744073709551615
structure TxOK (t : TTx) : Prop where
  v : u32R t.1
  tm : u32R t.2.2.2.1
  ins : ∀ i, i < t.2.1.length → InOK (t.2.1.getD i dIn)
  outs : ∀ i, i < t.2.2.1.length → OutOK (t.2.2.1.getD i dOut)
  nin : t.2.1.length ≤ 140737488355328
  nout : t.2.2.1.length ≤ 140737488355328

theorem encStr_in (s : ByteArray) : bytesIn (encStr s) := fun x hx => (List.mem_append.1 hx).elim (cBytes_in _ x) (ofBytes_in' s x)
theorem encStr_length (s : ByteArray) : ((encStr s).length : Int) = cLong (s.size : Int) + s.size := by
  unfold encStr
  rw [List.length_append, ofBytes_length, Int.natCast_add, cBytes_length]
theorem encIn_in {x : TIn} (h : InOK x) : bytesIn (encIn x) := by
  unfold encIn
  intro y hy
  rcases List.mem_append.1 hy with hy | hy
  · rcases List.mem_append.1 hy with hy | hy
    · rcases List.mem_append.1 hy with hy | hy
      · exact h.1.2 y (List.mem_of_mem_take hy)
      · exact lowI_in _ _ y hy
    · exact encStr_in _ y hy
  · exact lowI_in _ _ y hy
theorem encOut_in (x : TOut) : bytesIn (encOut x) := by
  intro y hy
  rcases List.mem_append.1 hy with hy | hy
  · exact lowI_in _ _ y hy
  · exact encStr_in _ y hy
theorem encIn_length {x : TIn} (h : InOK x) : ((encIn x).length : Int) = 40 + (cLong (x.2.1.size : Int) + x.2.1.size) := by
  unfold encIn
  have := h.1.1
  simp only [List.length_append, List.length_take, lowI_length, Int.natCast_add, encStr_length]
  omega
theorem encOut_length (x : TOut) : ((encOut x).length : Int) = 8 + (cLong (x.2.1.size : Int) + x.2.1.size) := by
  unfold encOut
  simp only [List.length_append, lowI_length, Int.natCast_add, encStr_length]
  omega
theorem cLong_range (n : Int) : 1 ≤ cLong n ∧ cLong n ≤ 9 := by
  unfold cLong; split <;> (try split) <;> (try split) <;> omega

theorem encL_length (t : TTx) : (encL t).length = 4 + (cBytes (t.2.1.length : Int)).length + (cat encIn dIn t.2.1 t.2.1.length).length + (cBytes (t.2.2.1.length : Int)).length + (cat encOut dOut t.2.2.1 t.2.2.1.length).length + 4 := by
  unfold encL encIns encOuts
  simp only [List.length_append, lowI_length]

/-! the writer -/
theorem wu32 {k : Nat} (hk : 9 ≤ k) {n : Int} (hn : u32R n) {u} {b1 : List Int} (h : b1.length ≤ 140737488350000) : num_Writer_U32 k n u b1 = some (u, b1 ++ lowI n 4, ()) := by
  unfold num_Writer_U32 num_Writer_U32.c
  have h1 := hn.1
  have h2 := hn.2
  rw [u64_in (by omega), show (4 : Int) = ((4 : Nat) : Int) from rfl, num_lay_eq hk _ 4 (by omega)]
  simp only [Option.bind_some]
  rw [wrl (lowI_in _ _) (by rw [lowI_length]; omega)]
  rfl
theorem wcnt {k : Nat} (hk : 9 ≤ k) (n : Int) {u} {b1 : List Int} (h : b1.length ≤ 140737488350000) : num_Writer_Count k n u b1 = some (u, b1 ++ cBytes n, ()) := by
  unfold num_Writer_Count num_Writer_Count.c
  rw [num_Count_eq hk]
  simp only [Option.bind_some]
  have := cBytes_le n
  rw [wrl (cBytes_in _) (by omega)]
  rfl
theorem wstr {k : Nat} (hk : 9 ≤ k) (s : ByteArray) {u} {b1 : List Int} (h : b1.length + s.size ≤ 140737488350000) : num_Writer_String k s u b1 = some (u, b1 ++ encStr s, ()) := by
  unfold num_Writer_String num_Writer_String.c
  rw [u64_in (by omega)]
  show (num_Writer_Count k (s.size : Int) u b1).bind _ = _
  rw [wcnt hk _ (by omega)]
  simp only [Option.bind_some]
  have := cBytes_le (s.size : Int)
  show (num_Writer_Bytes k s u (b1 ++ cBytes (s.size : Int))).bind _ = _
  rw [wb (by rw [List.length_append]; omega), List.append_assoc]
  rfl
theorem whash (k : Nat) {l : List Int} (hl : l.length = 32 ∧ bytesIn l) {u} {b1 : List Int} (h : b1.length ≤ 140737488350000) : num_Writer_Hash k l u b1 = some (u, b1 ++ l.take 32, ()) := by
  unfold num_Writer_Hash num_Writer_Hash.c
  rw [List.drop_zero]
  dsimp only
  rw [wrl (fun x hx => hl.2 x (List.mem_of_mem_take hx)) (by rw [List.length_take]; omega)]
  rfl

theorem tx_long_eq (k : Nat) {n : Nat} (h : n ≤ 4611686018427387904) : tx_long k (n : Int) = some (cLong (n : Int) + n, ()) := by
  unfold tx_long tx_long.c
  have := cLong_range (n : Int)
  rw [u64_in (by omega), num_CountLong_eq]
  simp only [Option.bind_some]
  rw [i64_in (by omega)]

theorem tx_Size_eq {k : Nat} {t : TTx} (ht : TxOK t) (hb : (encL t).length ≤ 4611686018427387904) (hk : t.2.1.length + t.2.2.1.length + 20 ≤ k) : tx_Size k t = some (((encL t).length : Int), ()) := by
  obtain ⟨v, ins, outs, tm, u⟩ := t
  obtain ⟨_, _, hi, ho, hni, hno⟩ := ht
  dsimp only at hi ho hni hno hk
  have hlen : ((encL (v, ins, outs, tm, u)).length : Int) = 4 + cLong (ins.length : Int) + (cat encIn dIn ins ins.length).length + cLong (outs.length : Int) + (cat encOut dOut outs outs.length).length + 4 := by
    have h1 := encL_length (v, ins, outs, tm, u)
    have h2 := cBytes_length (ins.length : Int)
    have h3 := cBytes_length (outs.length : Int)
    dsimp only at h1
    omega
  have c1 := cLong_range (ins.length : Int)
  have c2 := cLong_range (outs.length : Int)
  have si : ∀ i, i < ins.length → (ins.getD i dIn).2.1.size ≤ 4611686018427387904 := by
    intro i h
    have m := cat_mono encIn dIn ins (i := i + 1) (n := ins.length) (by omega)
    rw [cat, List.length_append] at m
    have := encIn_length (hi i h)
    have := cLong_range ((ins.getD i dIn).2.1.size : Int)
    omega
  have so : ∀ i, i < outs.length → (outs.getD i dOut).2.1.size ≤ 4611686018427387904 := by
    intro i h
    have m := cat_mono encOut dOut outs (i := i + 1) (n := outs.length) (by omega)
    rw [cat, List.length_append] at m
    have := encOut_length (outs.getD i dOut)
    have := cLong_range ((outs.getD i dOut).2.1.size : Int)
    omega
  unfold tx_Size tx_Size.c
  dsimp only
  rw [u64_in (n := (ins.length : Int)) (by omega), num_CountLong_eq]
  simp only [Option.bind_some]
  rw [u64_in (n := (outs.length : Int)) (by omega), num_CountLong_eq, i64_in (n := 4 + cLong (ins.length : Int)) (by omega)]
  simp only [Option.bind_some]
  rw [i64_in (n := 4 + cLong (ins.length : Int) + cLong (outs.length : Int)) (by omega), i64_in (n := 4 + cLong (ins.length : Int) + cLong (outs.length : Int) + 4) (by omega)]
  have l0 : tx_Size.l0 k k (4 + cLong (ins.length : Int) + cLong (outs.length : Int) + 4, ins, (ins.length : Int), (0 : Int), (v, ins, outs, tm, ()), ()) =
      some (4 + cLong (ins.length : Int) + cLong (outs.length : Int) + 4 + (cat encIn dIn ins ins.length).length, (v, ins, outs, tm, ()), ()) := by
    have := loop_from0 (r := tx_Size.l0.r k) (fun i => (4 + cLong (ins.length : Int) + cLong (outs.length : Int) + 4 + (cat encIn dIn ins i).length, ins, (ins.length : Int), (i : Int), (v, ins, outs, tm, ()), ())) ins.length
      (4 + cLong (ins.length : Int) + cLong (outs.length : Int) + 4 + (cat encIn dIn ins ins.length).length, (v, ins, outs, tm, ()), ()) ?_ ?_ (fuel := k) (by omega)
    · rw [cat, List.length_nil, Int.natCast_zero, Int.add_zero] at this
      exact this
    · intro i h kn ke
      simp only [tx_Size.l0.r]
      have m := cat_mono encIn dIn ins (i := i + 1) (n := ins.length) (by omega)
      rw [cat, List.length_append] at m
      have e := encIn_length (hi i h)
      have e2 := cLong_range ((ins.getD i dIn).2.1.size : Int)
      rw [bif_yes (by omega), bif_yes (by omega), show (i : Int).toNat = i by omega, tx_long_eq k (si i h)]
      simp only [Option.bind_some]
      rw [i64_in (n := 40 + _) (by omega), i64_in (n := _ + (40 + _)) (by omega), i64_in (by omega), cat, List.length_append, Int.natCast_add, e]
      rw [Int.add_assoc (4 + cLong (ins.length : Int) + cLong (outs.length : Int) + 4)]
      rfl
    · intro kn ke
      simp only [tx_Size.l0.r]
      rw [bif_no (by omega)]
  rw [l0]
  simp only [Option.bind_some]
  have l1 : tx_Size.l1 k k (4 + cLong (ins.length : Int) + cLong (outs.length : Int) + 4 + (cat encIn dIn ins ins.length).length, outs, (outs.length : Int), (0 : Int), ()) =
      some (4 + cLong (ins.length : Int) + cLong (outs.length : Int) + 4 + (cat encIn dIn ins ins.length).length + (cat encOut dOut outs outs.length).length, ()) := by
    have := loop_from0 (r := tx_Size.l1.r k) (fun i => (4 + cLong (ins.length : Int) + cLong (outs.length : Int) + 4 + (cat encIn dIn ins ins.length).length + (cat encOut dOut outs i).length, outs, (outs.length : Int), (i : Int), ())) outs.length
      (4 + cLong (ins.length : Int) + cLong (outs.length : Int) + 4 + (cat encIn dIn ins ins.length).length + (cat encOut dOut outs outs.length).length, ()) ?_ ?_ (fuel := k) (by omega)
    · rw [cat, List.length_nil, Int.natCast_zero, Int.add_zero] at this
      exact this
    · intro i h kn ke
      simp only [tx_Size.l1.r]
      have m := cat_mono encOut dOut outs (i := i + 1) (n := outs.length) (by omega)
      rw [cat, List.length_append] at m
      have e := encOut_length (outs.getD i dOut)
      have e2 := cLong_range ((outs.getD i dOut).2.1.size : Int)
      rw [bif_yes (by omega), bif_yes (by omega), show (i : Int).toNat = i by omega, tx_long_eq k (so i h)]
      simp only [Option.bind_some]
      rw [i64_in (n := 8 + _) (by omega), i64_in (n := _ + (8 + _)) (by omega), i64_in (by omega), cat, List.length_append, Int.natCast_add, e]
      rw [Int.add_assoc (4 + cLong (ins.length : Int) + cLong (outs.length : Int) + 4 + ((cat encIn dIn ins ins.length).length : Int))]
      rfl
    · intro kn ke
      simp only [tx_Size.l1.r]
      rw [bif_no (by omega)]
  rw [l1]
  simp only [Option.bind_some]
  rw [show (4 + cLong (ins.length : Int) + cLong (outs.length : Int) + 4 + ((cat encIn dIn ins ins.length).length : Int) + ((cat encOut dOut outs outs.length).length : Int)) = ((encL (v, ins, outs, tm, u)).length : Int) by omega]

/-- Are all scripts short enough? -/
def scOK (t : TTx) : Prop := (∀ i, i < t.2.1.length → (t.2.1.getD i dIn).2.1.size ≤ 520) ∧ (∀ i, i < t.2.2.1.length → (t.2.2.1.getD i dOut).2.1.size ≤ 520)
instance (t : TTx) : Decidable (scOK t) := by unfold scOK; infer_instance
/-- What telling a transaction answers. -/
def encS (t : TTx) : ByteArray × Int := if scOK t then (if (encL t).length > 4096 then (eb, 101) else (bytesOf (encL t), 0)) else (eb, 100)

theorem encIns_in {t : TTx} (ht : TxOK t) {i : Nat} (h : i ≤ t.2.1.length) : bytesIn (encIns t i) := cat_in i fun j hj => encIn_in (ht.ins j (by omega))
theorem encOuts_in (t : TTx) (i : Nat) : bytesIn (encOuts t i) := cat_in i fun j _ => encOut_in _
theorem encL_in {t : TTx} (ht : TxOK t) : bytesIn (encL t) := by
  unfold encL
  intro y hy
  rcases List.mem_append.1 hy with hy | hy
  · rcases List.mem_append.1 hy with hy | hy
    · rcases List.mem_append.1 hy with hy | hy
      · rcases List.mem_append.1 hy with hy | hy
        · rcases List.mem_append.1 hy with hy | hy
          · exact lowI_in _ _ y hy
          · exact cBytes_in _ y hy
        · exact encIns_in ht (Nat.le_refl _) y hy
      · exact cBytes_in _ y hy
    · exact encOuts_in t _ y hy
  · exact lowI_in _ _ y hy

/-- Short scripts: not too many bytes to count. -/
theorem encL_bound {t : TTx} (ht : TxOK t) (hs : scOK t) : (encL t).length ≤ 4611686018427387904 := by
  have h1 : ∀ i, i ≤ t.2.1.length → (encIns t i).length ≤ i * 569 := by
    intro i
    induction i with
    | zero => intro _; simp [encIns, cat]
    | succ i ih =>
      intro h
      have := ih (by omega)
      have e := encIn_length (ht.ins i (by omega))
      have e2 := cLong_range ((t.2.1.getD i dIn).2.1.size : Int)
      have e3 := hs.1 i (by omega)
      show (cat encIn dIn t.2.1 i ++ encIn (t.2.1.getD i dIn)).length ≤ _
      rw [List.length_append, Nat.add_mul]
      have : (cat encIn dIn t.2.1 i).length ≤ i * 569 := this
      omega
  have h2 : ∀ i, i ≤ t.2.2.1.length → (encOuts t i).length ≤ i * 537 := by
    intro i
    induction i with
    | zero => intro _; simp [encOuts, cat]
    | succ i ih =>
      intro h
      have := ih (by omega)
      have e := encOut_length (t.2.2.1.getD i dOut)
      have e2 := cLong_range ((t.2.2.1.getD i dOut).2.1.size : Int)
      have e3 := hs.2 i (by omega)
      show (cat encOut dOut t.2.2.1 i ++ encOut (t.2.2.1.getD i dOut)).length ≤ _
      rw [List.length_append, Nat.add_mul]
      have : (cat encOut dOut t.2.2.1 i).length ≤ i * 537 := this
      omega
  have a1 := h1 t.2.1.length (Nat.le_refl _)
  have a2 := h2 t.2.2.1.length (Nat.le_refl _)
  have c1 := cBytes_le (t.2.1.length : Int)
  have c2 := cBytes_le (t.2.2.1.length : Int)
  have n1 := ht.nin
  have n2 := ht.nout
  rw [encL_length]
  have b1 : (cat encIn dIn t.2.1 t.2.1.length).length ≤ t.2.1.length * 569 := a1
  have b2 : (cat encOut dOut t.2.2.1 t.2.2.1.length).length ≤ t.2.2.1.length * 537 := a2
  omega

theorem tx_Encode_eq {k : Nat} {t : TTx} (ht : TxOK t) (hk : t.2.1.length + t.2.2.1.length + 20 ≤ k) : tx_Encode k t = some ((encS t).1, (encS t).2, ()) := by
  obtain ⟨v, ins, outs, tm, u⟩ := t
  have ht' := ht
  obtain ⟨hv, htm, hi, ho, hni, hno⟩ := ht'
  dsimp only at hv htm hi ho hni hno hk
  unfold tx_Encode tx_Encode.c
  dsimp only
  have l0 : tx_Encode.l0 k k (ins, (ins.length : Int), (0 : Int), (v, ins, outs, tm, ()), ()) = some (if ∀ i, i < ins.length → decide ((ins.getD i dIn).2.1.size ≤ 520) = true then .inr ((v, ins, outs, tm, ()), ()) else .inl (eb, 100, ())) := by
    refine loop_find (r := tx_Encode.l0.r k) (fun i => (ins, (ins.length : Int), (i : Int), (v, ins, outs, tm, ()), ())) ins.length _ _ (fun i => decide ((ins.getD i dIn).2.1.size ≤ 520)) ?_ ?_ ?_ (by omega)
    · intro i h hp kn ke
      simp only [tx_Encode.l0.r]
      rw [dIn_eq]
      have := of_decide_eq_true hp
      rw [bif_yes (by omega), bif_yes (by omega), show (i : Int).toNat = i by omega, bif_no (by omega), i64_in (by omega)]
      rfl
    · intro i h hp kn ke
      simp only [tx_Encode.l0.r]
      rw [dIn_eq]
      have := of_decide_eq_false hp
      rw [bif_yes (by omega), bif_yes (by omega), show (i : Int).toNat = i by omega, bif_yes (by omega)]
    · intro kn ke
      simp only [tx_Encode.l0.r]
      rw [bif_no (by omega)]
  rw [l0]
  simp only [Option.bind_some]
  by_cases c1 : ∀ i, i < ins.length → decide ((ins.getD i dIn).2.1.size ≤ 520) = true
  case neg =>
    rw [if_neg c1]
    have : ¬ scOK (v, ins, outs, tm, u) := fun h => c1 fun i hi => decide_eq_true (h.1 i hi)
    unfold encS
    rw [if_neg this]
  rw [if_pos c1]
  dsimp only
  have l1 : tx_Encode.l1 k k (outs, (outs.length : Int), (0 : Int), (v, ins, outs, tm, ()), ()) = some (if ∀ i, i < outs.length → decide ((outs.getD i dOut).2.1.size ≤ 520) = true then .inr ((v, ins, outs, tm, ()), ()) else .inl (eb, 100, ())) := by
    refine loop_find (r := tx_Encode.l1.r k) (fun i => (outs, (outs.length : Int), (i : Int), (v, ins, outs, tm, ()), ())) outs.length _ _ (fun i => decide ((outs.getD i dOut).2.1.size ≤ 520)) ?_ ?_ ?_ (by omega)
    · intro i h hp kn ke
      simp only [tx_Encode.l1.r]
      rw [dOut_eq]
      have := of_decide_eq_true hp
      rw [bif_yes (by omega), bif_yes (by omega), show (i : Int).toNat = i by omega, bif_no (by omega), i64_in (by omega)]
      rfl
    · intro i h hp kn ke
      simp only [tx_Encode.l1.r]
      rw [dOut_eq]
      have := of_decide_eq_false hp
      rw [bif_yes (by omega), bif_yes (by omega), show (i : Int).toNat = i by omega, bif_yes (by omega)]
    · intro kn ke
      simp only [tx_Encode.l1.r]
      rw [bif_no (by omega)]
  rw [l1]
  simp only [Option.bind_some]
  by_cases c2 : ∀ i, i < outs.length → decide ((outs.getD i dOut).2.1.size ≤ 520) = true
  case neg =>
    rw [if_neg c2]
    have : ¬ scOK (v, ins, outs, tm, u) := fun h => c2 fun i hi => decide_eq_true (h.2 i hi)
    unfold encS
    rw [if_neg this]
  rw [if_pos c2]
  dsimp only
  have hs : scOK (v, ins, outs, tm, u) := ⟨fun i h => of_decide_eq_true (c1 i h), fun i h => of_decide_eq_true (c2 i h)⟩
  have hbd := encL_bound ht hs
  show (tx_Size k (v, ins, outs, tm, u)).bind _ = _
  rw [tx_Size_eq ht hbd hk]
  simp only [Option.bind_some]
  unfold encS
  rw [if_pos hs]
  by_cases c3 : (encL (v, ins, outs, tm, u)).length > 4096
  · rw [bif_yes (by omega), if_pos c3]
  · rw [bif_no (by omega), if_neg c3]
    have hlen : (encL (v, ins, outs, tm, u)).length = 4 + (cBytes (ins.length : Int)).length + (cat encIn dIn ins ins.length).length + (cBytes (outs.length : Int)).length + (cat encOut dOut outs outs.length).length + 4 := encL_length (v, ins, outs, tm, u)
    rw [show num_NewWriter k = some ((((), ((), ())), ()), [], ()) from rfl]
    simp only [Option.bind_some]
    rw [wu32 (by omega) hv (by simp), List.nil_append]
    simp only [Option.bind_some]
    rw [u64_in (n := (ins.length : Int)) (by omega), wcnt (by omega) _ (by rw [lowI_length]; omega)]
    simp only [Option.bind_some]
    have l2 : tx_Encode.l2 k k (ins, (ins.length : Int), (0 : Int), (v, ins, outs, tm, ()), (((), ((), ())), ()), lowI v 4 ++ cBytes (ins.length : Int), ()) =
        some ((v, ins, outs, tm, ()), (((), ((), ())), ()), lowI v 4 ++ cBytes (ins.length : Int) ++ cat encIn dIn ins ins.length, ()) := by
      have := loop_from0 (r := tx_Encode.l2.r k) (fun i => (ins, (ins.length : Int), (i : Int), (v, ins, outs, tm, ()), (((), ((), ())), ()), lowI v 4 ++ cBytes (ins.length : Int) ++ cat encIn dIn ins i, ())) ins.length
        ((v, ins, outs, tm, ()), (((), ((), ())), ()), lowI v 4 ++ cBytes (ins.length : Int) ++ cat encIn dIn ins ins.length, ()) ?_ ?_ (fuel := k) (by omega)
      · rw [cat, List.append_nil] at this
        exact this
      · intro i h kn ke
        simp only [tx_Encode.l2.r]
        rw [dIn_eq]
        have m := cat_mono encIn dIn ins (i := i + 1) (n := ins.length) (by omega)
        rw [cat, List.length_append] at m
        have ok := hi i h
        have e := encIn_length ok
        have e2 := cLong_range ((ins.getD i dIn).2.1.size : Int)
        have hl : (lowI v 4 ++ cBytes (ins.length : Int) ++ cat encIn dIn ins i).length ≤ 4096 := by simp only [List.length_append, lowI_length]; omega
        rw [bif_yes (by omega), bif_yes (by omega), show (i : Int).toNat = i by omega]
        generalize hP : lowI v 4 ++ cBytes (ins.length : Int) ++ cat encIn dIn ins i = P at *
        rw [whash k ok.1 (by omega)]
        simp only [Option.bind_some]
        rw [wu32 (by omega) ok.2.1 (by rw [List.length_append, List.length_take]; omega)]
        simp only [Option.bind_some]
        rw [wstr (by omega) _ (by simp only [List.length_append, List.length_take, lowI_length]; omega)]
        simp only [Option.bind_some]
        have := encStr_length (ins.getD i dIn).2.1
        rw [wu32 (by omega) ok.2.2 (by simp only [List.length_append, List.length_take, lowI_length]; omega)]
        simp only [Option.bind_some]
        rw [i64_in (by omega)]
        have e4 : P ++ (ins.getD i dIn).1.1.take 32 ++ lowI (ins.getD i dIn).1.2.1 4 ++ encStr (ins.getD i dIn).2.1 ++ lowI (ins.getD i dIn).2.2.1 4 = lowI v 4 ++ cBytes (ins.length : Int) ++ cat encIn dIn ins (i + 1) := by
          rw [cat, ← List.append_assoc, hP]
          unfold encIn
          simp only [List.append_assoc]
        rw [e4]
        rfl
      · intro kn ke
        simp only [tx_Encode.l2.r]
        rw [bif_no (by omega)]
    rw [l2]
    simp only [Option.bind_some]
    rw [u64_in (n := (outs.length : Int)) (by omega), wcnt (by omega) _ (by simp only [List.length_append, lowI_length]; omega)]
    simp only [Option.bind_some]
    generalize hQ : lowI v 4 ++ cBytes (ins.length : Int) ++ cat encIn dIn ins ins.length ++ cBytes (outs.length : Int) = Q
    have hQl : Q.length = 4 + (cBytes (ins.length : Int)).length + (cat encIn dIn ins ins.length).length + (cBytes (outs.length : Int)).length := by rw [← hQ]; simp only [List.length_append, lowI_length]
    have l3 : tx_Encode.l3 k k (outs, (outs.length : Int), (0 : Int), (v, ins, outs, tm, ()), (((), ((), ())), ()), Q, ()) = some ((v, ins, outs, tm, ()), (((), ((), ())), ()), Q ++ cat encOut dOut outs outs.length, ()) := by
      have := loop_from0 (r := tx_Encode.l3.r k) (fun i => (outs, (outs.length : Int), (i : Int), (v, ins, outs, tm, ()), (((), ((), ())), ()), Q ++ cat encOut dOut outs i, ())) outs.length
        ((v, ins, outs, tm, ()), (((), ((), ())), ()), Q ++ cat encOut dOut outs outs.length, ()) ?_ ?_ (fuel := k) (by omega)
      · rw [cat, List.append_nil] at this
        exact this
      · intro i h kn ke
        simp only [tx_Encode.l3.r]
        rw [dOut_eq]
        have m := cat_mono encOut dOut outs (i := i + 1) (n := outs.length) (by omega)
        rw [cat, List.length_append] at m
        have e := encOut_length (outs.getD i dOut)
        have e2 := cLong_range ((outs.getD i dOut).2.1.size : Int)
        have hl : (Q ++ cat encOut dOut outs i).length ≤ 4096 := by rw [List.length_append]; omega
        rw [bif_yes (by omega), bif_yes (by omega), show (i : Int).toNat = i by omega]
        generalize hP : Q ++ cat encOut dOut outs i = P at *
        rw [wu64 (by omega) _ (by omega)]
        simp only [Option.bind_some]
        rw [wstr (by omega) _ (by simp only [List.length_append, lowI_length]; omega)]
        simp only [Option.bind_some]
        rw [i64_in (by omega)]
        have e4 : P ++ lowI (outs.getD i dOut).1 8 ++ encStr (outs.getD i dOut).2.1 = Q ++ cat encOut dOut outs (i + 1) := by
          rw [cat, ← List.append_assoc, hP]
          unfold encOut
          simp only [List.append_assoc]
        rw [e4]
        rfl
      · intro kn ke
        simp only [tx_Encode.l3.r]
        rw [bif_no (by omega)]
    rw [l3]
    simp only [Option.bind_some]
    rw [wu32 (by omega) htm (by rw [List.length_append]; omega)]
    simp only [Option.bind_some]
    have e5 : Q ++ cat encOut dOut outs outs.length ++ lowI tm 4 = encL (v, ins, outs, tm, u) := by rw [← hQ]; rfl
    rw [e5]
    unfold num_Writer_Text num_Writer_Text.c
    rw [cond_true' (ble_of (by omega))]
    rfl
end Go.Am
/- TxReads: the law. -/
namespace Go.Am
open Go

theorem take_snoc {α β : Type} (f : α → β) (l : List α) (d : α) {i : Nat} (h : i < l.length) : (l.take i).map f ++ [f (l.getD i d)] = (l.take (i + 1)).map f := by
  rw [List.take_add_one, List.getD_eq_getElem?_getD, List.getElem?_eq_getElem h, Option.toList_some, List.map_append]
  rfl

/-- A transaction as the document has it. -/
theorem given_eq {k : Nat} {t : TTx} (h1 : t.2.1.length ≤ 2199023255552) (h2 : t.2.2.1.length ≤ 5864062014805) (hk : t.2.1.length + t.2.2.1.length + 1 ≤ k) : bedrocklaw10_given k t = some (gTx t, ()) := by
  obtain ⟨v, ins, outs, tm, u⟩ := t
  dsimp only at h1 h2 hk
  unfold bedrocklaw10_given bedrocklaw10_given.c
  dsimp only
  have l0 : bedrocklaw10_given.l0 k k (ins, (ins.length : Int), (0 : Int), (v, ins, outs, tm, ()), (0, (), (), 0, ()), (v, (), (), tm, ()), [], ()) = some ((v, ins, outs, tm, ()), (0, (), (), 0, ()), (v, (), (), tm, ()), ins.map gIn, ()) := by
    have := loop_from0 (r := bedrocklaw10_given.l0.r k) (fun i => (ins, (ins.length : Int), (i : Int), (v, ins, outs, tm, ()), (0, (), (), 0, ()), (v, (), (), tm, ()), (ins.take i).map gIn, ())) ins.length
      ((v, ins, outs, tm, ()), (0, (), (), 0, ()), (v, (), (), tm, ()), ins.map gIn, ()) ?_ ?_ (fuel := k) (by omega)
    · exact this
    · intro i h kn ke
      simp only [bedrocklaw10_given.l0.r]
      rw [dIn_eq, bif_yes (by omega), bif_yes (by omega), show (i : Int).toNat = i by omega,
        cond_true' (ble_of (by simp only [List.length_set, List.length_replicate, List.length_map, List.length_take]; omega)), i64_in (by omega)]
      have e : ∀ d : RIn, List.set (List.replicate 1 d) 0 ((ins.getD i dIn).1.1, (ins.getD i dIn).1.2.1, (ins.getD i dIn).2.1, (ins.getD i dIn).2.2.1, ()) = [gIn (ins.getD i dIn)] := fun _ => rfl
      rw [e, take_snoc gIn ins dIn h]
      rfl
    · intro kn ke
      simp only [bedrocklaw10_given.l0.r]
      rw [bif_no (by omega), List.take_length]
  rw [l0]
  simp only [Option.bind_some]
  have l1 : bedrocklaw10_given.l1 k k (outs, (outs.length : Int), (0 : Int), (0, (), (), 0, ()), (v, (), (), tm, ()), ins.map gIn, [], ()) = some ((0, (), (), 0, ()), (v, (), (), tm, ()), ins.map gIn, outs, ()) := by
    have := loop_from0 (r := bedrocklaw10_given.l1.r k) (fun i => (outs, (outs.length : Int), (i : Int), (0, (), (), 0, ()), (v, (), (), tm, ()), ins.map gIn, (outs.take i).map id, ())) outs.length
      ((0, (), (), 0, ()), (v, (), (), tm, ()), ins.map gIn, outs, ()) ?_ ?_ (fuel := k) (by omega)
    · exact this
    · intro i h kn ke
      simp only [bedrocklaw10_given.l1.r]
      rw [dOut_eq, bif_yes (by omega), bif_yes (by omega), show (i : Int).toNat = i by omega,
        cond_true' (ble_of (by simp only [List.length_set, List.length_replicate, List.length_map, List.length_take]; omega)), i64_in (by omega)]
      have e : ∀ d : TOut, List.set (List.replicate 1 d) 0 ((outs.getD i dOut).1, (outs.getD i dOut).2.1, ()) = [id (outs.getD i dOut)] := fun _ => rfl
      rw [e, take_snoc id outs dOut h]
      rfl
    · intro kn ke
      simp only [bedrocklaw10_given.l1.r]
      rw [bif_no (by omega), List.take_length, List.map_id]
  show (bedrocklaw10_given.l1 k k (outs, (outs.length : Int), (0 : Int), (0, (), (), 0, ()), (v, (), (), tm, ()), ins.map gIn, [], ())).bind _ = _
  rw [l1]
  rfl

theorem strEq_dec (s t : ByteArray) : strEq s t = decide (s = t) := by
  by_cases h : s = t
  · rw [h, strEq_self, decide_eq_true rfl]
  · rw [strEq_false h, decide_eq_false h]
theorem rin_dec (x y : RIn) : (decide (x.1 = y.1) && ((x.2.1 == y.2.1) && (strEq x.2.2.1 y.2.2.1 && ((x.2.2.2.1 == y.2.2.2.1) && true)))) = decide (x = y) := by
  obtain ⟨a, b, c, d, u⟩ := x
  obtain ⟨a', b', c', d', u'⟩ := y
  rw [Bool.eq_iff_iff]
  simp only [strEq_dec, Bool.and_eq_true, decide_eq_true_eq, beq_iff_eq, Bool.and_true, Prod.mk.injEq]
  simp
theorem out_dec (x y : TOut) : ((x.1 == y.1) && (strEq x.2.1 y.2.1 && true)) = decide (x = y) := by
  obtain ⟨a, b, u⟩ := x
  obtain ⟨a', b', u'⟩ := y
  rw [Bool.eq_iff_iff]
  simp only [strEq_dec, Bool.and_eq_true, decide_eq_true_eq, beq_iff_eq, Bool.and_true, Prod.mk.injEq]
  simp
theorem all_dec {α : Type} [DecidableEq α] (d : α) {a b : List α} (h : a.length = b.length) : (∀ i, i < a.length → decide (a.getD i d = b.getD i d) = true) ↔ a = b := by
  constructor
  · intro h2
    apply List.ext_getElem h
    intro i h3 h4
    have := of_decide_eq_true (h2 i h3)
    rw [List.getD_eq_getElem?_getD, List.getD_eq_getElem?_getD, List.getElem?_eq_getElem h3, List.getElem?_eq_getElem h4] at this
    exact this
  · rintro rfl i _
    exact decide_eq_true rfl

instance decRIn : DecidableEq RIn := inferInstance
instance decTOut : DecidableEq TOut := inferInstance
instance decRIns : DecidableEq (List RIn) := inferInstance
instance decTOuts : DecidableEq (List TOut) := inferInstance
instance decR1 : DecidableEq (List TOut × Int × Unit) := inferInstance
instance decR2 : DecidableEq (List RIn × List TOut × Int × Unit) := inferInstance
instance decRTx : DecidableEq RTx := inferInstance
abbrev dR : RIn := (List.replicate 32 (0 : Int), 0, ByteArray.empty, 0, ())
theorem dR_eq : (List.replicate 32 (0 : Int), (0 : Int), ByteArray.empty, (0 : Int), ()) = dR := rfl

/-- The same transactions? -/
theorem same10_eq {k : Nat} {a b : RTx} (h1 : a.2.1.length + a.2.2.1.length + 1 ≤ k) (h2 : a.2.1.length ≤ 4611686018427387904 ∧ a.2.2.1.length ≤ 4611686018427387904) : bedrocklaw10_same k a b = some (decide (a = b), ()) := by
  obtain ⟨v, ins, outs, tm, u⟩ := a
  obtain ⟨v', ins', outs', tm', u'⟩ := b
  dsimp only at h1 h2
  unfold bedrocklaw10_same bedrocklaw10_same.c
  have hp : bedrocklaw10_same.p0 k ((v, ins, outs, tm, ()), (v', ins', outs', tm', ()), ()) = some (if v = v' ∧ tm = tm' ∧ ins.length = ins'.length ∧ outs.length = outs'.length then .inr ((v, ins, outs, tm, ()), (v', ins', outs', tm', ()), ()) else .inl (false, ())) := by
    unfold bedrocklaw10_same.p0
    simp only [bedrocklaw10_same.p0.r]
    by_cases c1 : v = v'
    · rw [cond_false' (by simpa using c1)]
      by_cases c2 : tm = tm'
      · rw [cond_false' (by simpa using c2)]
        by_cases c3 : ins.length = ins'.length
        · rw [cond_false' (show ((ins.length : Int) != (ins'.length : Int)) = false by rw [c3, bne_self_eq_false])]
          by_cases c4 : outs.length = outs'.length
          · rw [cond_false' (show ((outs.length : Int) != (outs'.length : Int)) = false by rw [c4, bne_self_eq_false]), if_pos ⟨c1, c2, c3, c4⟩]
          · rw [cond_true' (by rw [bne_iff_ne]; omega), if_neg (fun h => c4 h.2.2.2)]
        · rw [cond_true' (by rw [bne_iff_ne]; omega), if_neg (fun h => c3 h.2.2.1)]
      · rw [cond_true' (by simpa using c2), if_neg (fun h => c2 h.2.1)]
    · rw [cond_true' (by simpa using c1), if_neg (fun h => c1 h.1)]
  show (bedrocklaw10_same.p0 k ((v, ins, outs, tm, ()), (v', ins', outs', tm', ()), ())).bind _ = _
  rw [hp]
  simp only [Option.bind_some]
  by_cases c : v = v' ∧ tm = tm' ∧ ins.length = ins'.length ∧ outs.length = outs'.length
  case neg =>
    rw [if_neg c]
    have : ¬ ((v, ins, outs, tm, u) : RTx) = (v', ins', outs', tm', u') := by
      intro h
      simp only [Prod.mk.injEq] at h
      exact c ⟨h.1, h.2.2.2.1, by rw [h.2.1], by rw [h.2.2.1]⟩
    rw [decide_eq_false this]
  rw [if_pos c]
  obtain ⟨rfl, rfl, c3, c4⟩ := c
  dsimp only
  have l1 : bedrocklaw10_same.l1 k k ((ins.length : Int), (0 : Int), (v, ins, outs, tm, ()), (v, ins', outs', tm, ()), ()) = some (if ∀ i, i < ins.length → decide (ins.getD i dR = ins'.getD i dR) = true then .inr ((v, ins, outs, tm, ()), (v, ins', outs', tm, ()), ()) else .inl (false, ())) := by
    refine loop_find (r := bedrocklaw10_same.l1.r k) (fun i => ((ins.length : Int), (i : Int), (v, ins, outs, tm, ()), (v, ins', outs', tm, ()), ())) ins.length _ _ (fun i => decide (ins.getD i dR = ins'.getD i dR)) ?_ ?_ ?_ (by omega)
    · intro i h hq kn ke
      simp only [bedrocklaw10_same.l1.r]
      rw [bif_yes (by omega), bif_yes (by omega), bif_yes (by omega), show (i : Int).toNat = i by omega, dR_eq, rin_dec, hq, i64_in (by omega)]
      rfl
    · intro i h hq kn ke
      simp only [bedrocklaw10_same.l1.r]
      rw [bif_yes (by omega), bif_yes (by omega), bif_yes (by omega), show (i : Int).toNat = i by omega, dR_eq, rin_dec, hq]
      rfl
    · intro kn ke
      simp only [bedrocklaw10_same.l1.r]
      rw [bif_no (by omega)]
  rw [l1]
  simp only [Option.bind_some]
  by_cases d1 : ins = ins'
  case neg =>
    rw [if_neg (fun h => d1 ((all_dec dR c3).1 h))]
    have : ¬ ((v, ins, outs, tm, u) : RTx) = (v, ins', outs', tm, u') := by
      intro h
      simp only [Prod.mk.injEq] at h
      exact d1 h.2.1
    rw [decide_eq_false this]
  rw [if_pos ((all_dec dR c3).2 d1)]
  dsimp only
  have l2 : bedrocklaw10_same.l2 k k ((outs.length : Int), (0 : Int), (v, ins, outs, tm, ()), (v, ins', outs', tm, ()), ()) = some (if ∀ i, i < outs.length → decide (outs.getD i dOut = outs'.getD i dOut) = true then .inr () else .inl (false, ())) := by
    refine loop_find (r := bedrocklaw10_same.l2.r k) (fun i => ((outs.length : Int), (i : Int), (v, ins, outs, tm, ()), (v, ins', outs', tm, ()), ())) outs.length _ _ (fun i => decide (outs.getD i dOut = outs'.getD i dOut)) ?_ ?_ ?_ (by omega)
    · intro i h hq kn ke
      simp only [bedrocklaw10_same.l2.r]
      rw [bif_yes (by omega), bif_yes (by omega), bif_yes (by omega), show (i : Int).toNat = i by omega, dOut_eq, out_dec, hq, i64_in (by omega)]
      rfl
    · intro i h hq kn ke
      simp only [bedrocklaw10_same.l2.r]
      rw [bif_yes (by omega), bif_yes (by omega), bif_yes (by omega), show (i : Int).toNat = i by omega, dOut_eq, out_dec, hq]
      rfl
    · intro kn ke
      simp only [bedrocklaw10_same.l2.r]
      rw [bif_no (by omega)]
  rw [l2]
  simp only [Option.bind_some]
  by_cases d2 : outs = outs'
  case neg =>
    rw [if_neg (fun h => d2 ((all_dec dOut c4).1 h))]
    have : ¬ ((v, ins, outs, tm, u) : RTx) = (v, ins', outs', tm, u') := by
      intro h
      simp only [Prod.mk.injEq] at h
      exact d2 h.2.2.1
    rw [decide_eq_false this]
  rw [if_pos ((all_dec dOut c4).2 d2)]
  subst d1; subst d2
  rw [decide_eq_true rfl]

theorem tkTake_len (s : ByteArray) (a : Int) : (tkTake s a).1.2.1.length ≤ 4096 ∧ (tkTake s a).1.2.2.1.length ≤ 4096 := by
  unfold tkTake
  split
  · exact ⟨Nat.zero_le _, Nat.zero_le _⟩
  · dsimp only
    split
    · exact ⟨Nat.zero_le _, Nat.zero_le _⟩
    · have h1 := partsN_length (f := oneIn) (tkCount (tkNum (s, a, a, 0, ()) 4).1 4096 5).2.toNat (tkCount (tkNum (s, a, a, 0, ()) 4).1 4096 5).1 []
      have h2 := tkCount_val (x := (tkNum (s, a, a, 0, ()) 4).1) 4096 5 (by omega)
      rw [List.length_nil] at h1
      refine ⟨by dsimp only; omega, ?_⟩
      dsimp only
      generalize partsN oneIn (tkCount (tkNum (s, a, a, 0, ()) 4).1 4096 5).2.toNat (tkCount (tkNum (s, a, a, 0, ()) 4).1 4096 5).1 [] = is
      have h3 := partsN_length (f := oneOut) (tkCount is.1 4096 5).2.toNat (tkCount is.1 4096 5).1 []
      have h4 := tkCount_val (x := is.1) 4096 5 (by omega)
      rw [List.length_nil] at h3
      omega
theorem tkTake_to {s : ByteArray} (hs : s.size ≤ 4611686018427387904) {a : Int} : (tkTake s a).2.1 ≤ (s.size : Int) := by
  unfold tkTake
  split
  · exact Int.natCast_nonneg _
  · rename_i h
    dsimp only
    split
    · exact Int.natCast_nonneg _
    · have hx : TkOK (s, a, a, 0, ()) := ⟨hs, by dsimp only; omega, by dsimp only; omega, by dsimp only; omega⟩
      have h1 := tkNum_ok hx (n := 4) (by omega)
      have h2 := (tkCount_ok h1 4096 5)
      have h3 := partsN_ok (fun x h => oneIn_ok h) (tkCount (tkNum (s, a, a, 0, ()) 4).1 4096 5).2.toNat [] h2.1
      have e : ∀ (n : Nat) (x : Tk) (l : List TIn), TkOK x → (partsN oneIn n x l).1.1 = x.1 := by
        intro n
        induction n with
        | zero => intro x l _; rfl
        | succ n ih =>
          intro x l hx
          unfold partsN
          split
          · rfl
          · rw [ih _ _ (oneIn_ok hx)]
            unfold oneIn
            dsimp only
            have g1 := tkBytes_ok hx (n := 32) (by omega)
            have g2 := tkBytes_ok g1.1 (n := 4) (by omega)
            have g3 := tkCount_ok (x := (tkNum (tkBytes x 32).1 4).1) g2.1 520 100
            have g4 := tkBytes_ok g3.1 (n := (tkCount (tkNum (tkBytes x 32).1 4).1 520 100).2) (tkCount_val 520 100 (by omega)).1
            have g5 := tkBytes_ok g4.1 (n := 4) (by omega)
            exact g5.2.1.trans (g4.2.1.trans (g3.2.1.trans (g2.2.1.trans g1.2.1)))
      have e2 : ∀ (n : Nat) (x : Tk) (l : List TOut), TkOK x → (partsN oneOut n x l).1.1 = x.1 := by
        intro n
        induction n with
        | zero => intro x l _; rfl
        | succ n ih =>
          intro x l hx
          unfold partsN
          split
          · rfl
          · rw [ih _ _ (oneOut_ok hx)]
            unfold oneOut
            dsimp only
            have g2 := tkBytes_ok hx (n := 8) (by omega)
            have g3 := tkCount_ok (x := (tkNum x 8).1) g2.1 520 100
            have g4 := tkBytes_ok g3.1 (n := (tkCount (tkNum x 8).1 520 100).2) (tkCount_val 520 100 (by omega)).1
            exact g4.2.1.trans (g3.2.1.trans g2.2.1)
      have f1 := e (tkCount (tkNum (s, a, a, 0, ()) 4).1 4096 5).2.toNat (tkCount (tkNum (s, a, a, 0, ()) 4).1 4096 5).1 [] h2.1
      generalize partsN oneIn (tkCount (tkNum (s, a, a, 0, ()) 4).1 4096 5).2.toNat (tkCount (tkNum (s, a, a, 0, ()) 4).1 4096 5).1 [] = is at *
      have h4 := tkCount_ok h3 4096 5
      have h5 := partsN_ok (fun x h => oneOut_ok h) (tkCount is.1 4096 5).2.toNat [] h4.1
      have f2 := e2 (tkCount is.1 4096 5).2.toNat (tkCount is.1 4096 5).1 [] h4.1
      generalize partsN oneOut (tkCount is.1 4096 5).2.toNat (tkCount is.1 4096 5).1 [] = os at *
      have h6 := tkBytes_ok h5 (n := 4) (by omega)
      have e0 : (tkNum os.1 4).1.1 = s := by
        have a1 : (tkNum os.1 4).1.1 = os.1.1 := h6.2.1
        have a2 : (tkNum (s, a, a, 0, ()) 4).1.1 = s := (tkBytes_ok hx (n := 4) (by omega)).2.1
        rw [a1, f2, h4.2.1, f1, h2.2.1, a2]
      have := h6.1.2.2.2
      rw [show (tkBytes os.1 4).1.1 = s from e0] at this
      exact this

/-- The bytes of a text, read whole. -/
def decS (s : ByteArray) : TTx × Int := if (tkTake s 0).2.2 ≠ 0 then ((0, [], [], 0, ()), (tkTake s 0).2.2) else if (tkTake s 0).2.1 ≠ (s.size : Int) then ((0, [], [], 0, ()), 5) else ((tkTake s 0).1, 0)
theorem tx_Decode_eq {k : Nat} (hk : 4100 ≤ k) {s : ByteArray} (hs : s.size ≤ 4611686018427387904) : tx_Decode k s = some ((decS s).1, (decS s).2, ()) := by
  unfold tx_Decode tx_Decode.c
  rw [tx_Take_eq hk hs]
  simp only [Option.bind_some]
  unfold decS
  by_cases c1 : (tkTake s 0).2.2 ≠ 0
  · rw [cond_true' (by simpa using c1), if_pos c1]
  · rw [cond_false' (by simpa using c1), if_neg c1]
    by_cases c2 : (tkTake s 0).2.1 ≠ (s.size : Int)
    · rw [cond_true' (by simpa using c2), if_pos c2]
    · rw [cond_false' (by simpa using c2), if_neg c2]

def awT : TTx := (1, [((List.replicate 32 0, 0, ()), ⟨List.toArray [107]⟩, 0, ())], [(5, eb, ())], 0, ())
theorem awT_ok : TxOK awT where
  v := by unfold u32R awT; decide
  tm := by unfold u32R awT; decide
  ins := by
    intro i h
    have : i = 0 := by have : i < 1 := h; omega
    subst this
    refine ⟨⟨rfl, ?_⟩, ?_, ?_⟩
    · intro x hx
      have := List.eq_of_mem_replicate (show x ∈ List.replicate 32 (0 : Int) from hx)
      omega
    · show u32R 0; unfold u32R; decide
    · show u32R 0; unfold u32R; decide
  outs := by
    intro i h
    have : i = 0 := by have : i < 1 := h; omega
    subst this
    show OutOK (5, eb, ())
    unfold OutOK; decide
  nin := by decide
  nout := by decide
set_option maxRecDepth 100000 in
theorem awT_enc : ((encS awT).2 == 0 && (((encS awT).1.size : Int) == 61) && ((decS (encS awT).1).2 == 0) && (decide (0 < (decS (encS awT).1).1.2.2.1.length) && ((List.getD (decS (encS awT).1).1.2.2.1 0 (0, ByteArray.empty, ())).1 == 5))) = true := by kernel_rfl

theorem awake10 {k : Nat} (hk : 4100 ≤ k) : bedrocklaw10_awake k = some (true, ()) := by
  unfold bedrocklaw10_awake bedrocklaw10_awake.c
  have he := awT_enc
  simp only [Bool.and_eq_true, beq_iff_eq, decide_eq_true_eq] at he
  obtain ⟨⟨⟨h1, h2⟩, h3⟩, h4, h5⟩ := he
  show (tx_Encode k awT).bind _ = _
  rw [tx_Encode_eq awT_ok (by show 1 + 1 + 20 ≤ k; omega)]
  simp only [Option.bind_some]
  have hs : (encS awT).1.size = 61 := by omega
  rw [tx_Decode_eq hk (by omega)]
  simp only [Option.bind_some]
  rw [h1, h3, h2, h5, bif_yes ⟨by omega, by omega⟩]
  rfl

theorem txReads_true {s : ByteArray} (hs : s.size ≤ 140737488351232) (a : Int) : bedrocklaw10_TxReads 10000 s a = some (true, ()) := by
  unfold bedrocklaw10_TxReads bedrocklaw10_TxReads.c
  generalize hk : 10000 = k
  have L := tkTake_len s a
  have L0 := tkTake_len s 0
  rw [tx_Take_eq (by omega) (by omega)]
  simp only [Option.bind_some]
  rw [ref10_Take_eq (by omega) (by omega)]
  simp only [Option.bind_some]
  have hgl : ∀ t : TTx, (gTx t).2.1.length = t.2.1.length ∧ (gTx t).2.2.1.length = t.2.2.1.length := fun t => ⟨by simp [gTx], rfl⟩
  have hp : bedrocklaw10_TxReads.p0 k (s, (tkTake s a).2.1, (tkTake s a).2.2, (tkTake s a).2.1, (tkTake s a).2.2, (tkTake s a).1, gTx (tkTake s a).1, ()) = some (.inr (s, (tkTake s a).1, gTx (tkTake s a).1, ())) := by
    unfold bedrocklaw10_TxReads.p0
    simp only [bedrocklaw10_TxReads.p0.r]
    rw [awake10 (by omega)]
    simp only [Option.bind_some, Bool.not_true, cond_false]
    show (bedrocklaw10_given k (tkTake s a).1).bind _ = _
    rw [given_eq (by omega) (by omega) (by omega)]
    simp only [Option.bind_some]
    show (bedrocklaw10_same k (gTx (tkTake s a).1) (gTx (tkTake s a).1)).bind _ = _
    rw [same10_eq (by rw [(hgl _).1, (hgl _).2]; omega) (by rw [(hgl _).1, (hgl _).2]; omega), decide_eq_true (rfl : gTx (tkTake s a).1 = gTx (tkTake s a).1)]
    simp only [Option.bind_some, Bool.not_true, cond_false, bne_self_eq_false]
  show (bedrocklaw10_TxReads.p0 k (s, (tkTake s a).2.1, (tkTake s a).2.2, (tkTake s a).2.1, (tkTake s a).2.2, (tkTake s a).1, gTx (tkTake s a).1, ())).bind _ = _
  rw [hp]
  simp only [Option.bind_some]
  rw [tx_Decode_eq (by omega) (by omega)]
  simp only [Option.bind_some]
  rw [ref10_Take_eq (by omega) (by omega)]
  simp only [Option.bind_some]
  have hto := tkTake_to (s := s) (a := 0) (by omega)
  have hz : gTx (0, [], [], 0, ()) = (0, [], [], 0, ()) := rfl
  have hd : (decS s).1.2.1.length ≤ 4096 ∧ (decS s).1.2.2.1.length ≤ 4096 := by
    unfold decS
    split
    · exact ⟨Nat.zero_le _, Nat.zero_le _⟩
    · split
      · exact ⟨Nat.zero_le _, Nat.zero_le _⟩
      · exact L0
  have G : bedrocklaw10_given k (decS s).1 = some (gTx (decS s).1, ()) := given_eq (by omega) (by omega) (by omega)
  have S : ∀ b, bedrocklaw10_same k (gTx (decS s).1) b = some (decide (gTx (decS s).1 = b), ()) := fun b => same10_eq (by rw [(hgl _).1, (hgl _).2]; omega) (by rw [(hgl _).1, (hgl _).2]; omega)
  by_cases c1 : (tkTake s 0).2.2 = 0
  · rw [cond_true' (by simpa using c1)]
    by_cases c2 : (tkTake s 0).2.1 < (s.size : Int)
    · rw [bif_yes c2]
      show (bedrocklaw10_given k (decS s).1).bind _ = _
      rw [G]
      simp only [Option.bind_some]
      show (bedrocklaw10_same k (gTx (decS s).1) (0, [], [], 0, ())).bind _ = _
      rw [S]
      have e : decS s = ((0, [], [], 0, ()), 5) := by unfold decS; rw [if_neg (by simpa using c1), if_pos (by omega)]
      rw [e]
      simp only [Option.bind_some]
      rw [hz, decide_eq_true rfl]
      rfl
    · rw [bif_no c2]
      show (bedrocklaw10_given k (decS s).1).bind _ = _
      rw [G]
      simp only [Option.bind_some]
      show (bedrocklaw10_same k (gTx (decS s).1) (gTx (tkTake s 0).1)).bind _ = _
      rw [S]
      have e : decS s = ((tkTake s 0).1, 0) := by unfold decS; rw [if_neg (by simpa using c1), if_neg (by simp; omega)]
      rw [e]
      simp only [Option.bind_some]
      rw [decide_true, c1]
      rfl
  · rw [cond_false' (by simpa using c1)]
    show (bedrocklaw10_given k (decS s).1).bind _ = _
    rw [G]
    simp only [Option.bind_some]
    show (bedrocklaw10_same k (gTx (decS s).1) (gTx (tkTake s 0).1)).bind _ = _
    rw [S]
    have e : decS s = ((0, [], [], 0, ()), (tkTake s 0).2.2) := by unfold decS; rw [if_pos c1]
    have e2 : (tkTake s 0).1 = (0, [], [], 0, ()) := by
      unfold tkTake at c1 ⊢
      split
      · rfl
      · rename_i h0
        rw [if_neg h0] at c1
        dsimp only at c1 ⊢
        split
        · rfl
        · rename_i h1
          rw [if_neg h1] at c1
          exact absurd rfl c1
    rw [e, e2]
    simp only [Option.bind_some]
    rw [decide_true, beq_self_eq_true]
    rfl
end Go.Am
