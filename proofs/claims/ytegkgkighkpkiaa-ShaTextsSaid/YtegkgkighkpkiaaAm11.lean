/- A part of a proof: a machine of abstract values that tells what functions of the program compute, and the plain facts on them. -/
import Derived.Test.YtegkgkighkpkiaaAm9
import Derived.Test.YtegkgkighkpkiaaAm10
import Derived.KernelRfl
set_option linter.unusedVariables false
set_option linter.unusedSimpArgs false
set_option linter.unnecessarySimpa false
set_option linter.unusedSectionVars false
/- ShaTexts: the plain law. -/
namespace Go.Am
open Go

theorem ref2_Text_eq {k : Nat} (hk : 32 < k) {h : List Int} (hh : h.length = 32) (hb : bytesIn h) : bedrockref02_Text k h = some (bytesOf (hexL h.reverse), ()) := by
  unfold bedrockref02_Text bedrockref02_Text.c
  have hrl : h.reverse.length = 32 := by rw [List.length_reverse]; exact hh
  have hl := loop_from0 (r := bedrockref02_Text.l0.r k) (fun i => ((31 : Int) - (i : Int), h, hexL (h.reverse.take i), ())) 32 (hexL h.reverse, ()) ?_ ?_ (fuel := k) hk
  · show (bedrockref02_Text.l0 k k ((31 : Int) - ((0 : Nat) : Int), h, hexL (h.reverse.take 0), ())).bind _ = _
    unfold bedrockref02_Text.l0
    rw [hl]
    rfl
  · intro i hi kn ke
    simp only [bedrockref02_Text.l0.r]
    have e : h.getD (31 - i) 0 = h.reverse.getD i 0 := by
      rw [List.getD_eq_getElem?_getD, List.getD_eq_getElem?_getD, List.getElem?_reverse (by omega), hh]
    have hr : 0 ≤ h.getD (31 - i) 0 ∧ h.getD (31 - i) 0 < 256 := by
      rw [List.getD_eq_getElem?_getD, List.getElem?_eq_getElem (by omega)]
      exact hb _ (List.getElem_mem _)
    rw [bif_yes (by omega), bif_yes (by omega), show ((31 : Int) - (i : Int)).toNat = 31 - i by omega, Int.tdiv_eq_ediv_of_nonneg hr.1, Int.tmod_eq_emod_of_nonneg hr.1, u8_in (n := h.getD (31 - i) 0 / 16) (by omega), bif_yes (by omega), bif_yes (by omega), bif_yes (by omega)]
    have e3 : List.set (List.set (List.replicate 2 (0 : Int)) 0 (byteAt hexS (h.getD (31 - i) 0 / 16).toNat)) 1 (byteAt hexS (h.getD (31 - i) 0 % 16).toNat) = hexL [h.getD (31 - i) 0] := rfl
    rw [e3, cond_true' (ble_of (by rw [hexL_length, List.length_take]; simp only [hexL, List.length_cons, List.length_nil]; omega)), ← hexL_append, e, ← take_snoc (by omega), i64_in (by omega), show (31 : Int) - (i : Int) - 1 = 31 - ((i + 1 : Nat) : Int) by omega]
  · intro kn ke
    simp only [bedrockref02_Text.l0.r]
    rw [bif_no (by omega), List.take_of_length_le (by omega)]

theorem ref2cmp_loop (k : Nat) (a b : List Int) : ∀ (i fuel : Nat), i ≤ 32 → i < fuel → bedrockref02_Compare.l0 k fuel ((i : Int) - 1, a, b, ()) = some (if cmpD a b i = 0 then .inr () else .inl (cmpD a b i, ()))
  | 0, fuel + 1, _, _ => by
    have e : bedrockref02_Compare.l0 k (fuel + 1) (((0 : Nat) : Int) - 1, a, b, ()) = bedrockref02_Compare.l0.r k (((0 : Nat) : Int) - 1, a, b, ()) (loopJ (bedrockref02_Compare.l0.r k) fuel) some := rfl
    rw [e]
    simp only [bedrockref02_Compare.l0.r]
    rw [bif_no (by omega)]
    rfl
  | i + 1, fuel + 1, hi, hf => by
    have e : bedrockref02_Compare.l0 k (fuel + 1) (((i + 1 : Nat) : Int) - 1, a, b, ()) = bedrockref02_Compare.l0.r k (((i + 1 : Nat) : Int) - 1, a, b, ()) (loopJ (bedrockref02_Compare.l0.r k) fuel) some := rfl
    rw [e]
    simp only [bedrockref02_Compare.l0.r]
    rw [bif_yes (by omega), bif_yes (by omega), bif_yes (by omega), show (((i + 1 : Nat) : Int) - 1).toNat = i by omega]
    simp only [cmpD]
    by_cases h1 : a.getD i 0 < b.getD i 0
    · simp only [if_pos h1]
      rw [bif_yes h1]; rfl
    · simp only [if_neg h1]
      rw [bif_no h1, bif_yes (by omega), bif_yes (by omega)]
      by_cases h2 : a.getD i 0 > b.getD i 0
      · simp only [if_pos h2]
        rw [bif_yes h2]; rfl
      · simp only [if_neg h2]
        rw [bif_no h2, i64_in (by omega), show ((i + 1 : Nat) : Int) - 1 - 1 = (i : Int) - 1 by omega]
        exact ref2cmp_loop k a b i fuel (by omega) (by omega)

theorem ref2_Compare_eq {k : Nat} (hk : 32 < k) (a b : List Int) : bedrockref02_Compare k a b = some (cmpD a b 32, ()) := by
  unfold bedrockref02_Compare bedrockref02_Compare.c
  have := ref2cmp_loop k a b 32 k (by omega) hk
  show (bedrockref02_Compare.l0 k k (((32 : Nat) : Int) - 1, a, b, ())).bind _ = _
  rw [this]
  simp only [Option.bind_some]
  by_cases h : cmpD a b 32 = 0
  · rw [if_pos h, h]
  · rw [if_neg h]

/-- The first i letters, laid from the end. -/
def backZ (l : List Int) (i j : Nat) : Int := pairZ l i (31 - j)

theorem ref2_p2 (k : Nat) (s : ByteArray) (i : Int) {c : Int} (hc : 0 ≤ c ∧ c < 256) (z o : List Int) : bedrockref02_Parse.p2 k (s, i, c, z, o, ()) = some (if val c = 16 then .inr (i, zeros32, ()) else .inl (s, i, val c, z, o, ())) := by
  unfold bedrockref02_Parse.p2 val
  simp only [bedrockref02_Parse.p2.r]
  by_cases h1 : c ≥ 48
  · rw [bif_yes h1]
    by_cases h2 : c ≤ 57
    · rw [bif_yes h2, u8_in (by omega)]
      simp only [if_pos (show 48 ≤ c ∧ c ≤ 57 from ⟨h1, h2⟩)]
      rw [if_neg (by omega)]
    · rw [bif_no h2]
      simp only [if_neg (show ¬ (48 ≤ c ∧ c ≤ 57) by omega)]
      by_cases h3 : c ≥ 97
      · rw [bif_yes h3]
        by_cases h4 : c ≤ 102
        · rw [bif_yes h4, u8_in (n := c - 97) (by omega), u8_in (by omega)]
          simp only [if_pos (show 97 ≤ c ∧ c ≤ 102 from ⟨h3, h4⟩)]
          rw [if_neg (by omega), show c - 97 + 10 = c - 87 by omega]
        · rw [bif_no h4]
          simp only [if_neg (show ¬ (97 ≤ c ∧ c ≤ 102) by omega)]
          rfl
      · rw [bif_no h3]
        simp only [if_neg (show ¬ (97 ≤ c ∧ c ≤ 102) by omega)]
        rfl
  · rw [bif_no h1, bif_no (by omega)]
    simp only [if_neg (show ¬ (48 ≤ c ∧ c ≤ 57) by omega), if_neg (show ¬ (97 ≤ c ∧ c ≤ 102) by omega)]
    rfl

theorem ref2_p1 (k : Nat) (s : ByteArray) (i : Nat) (z o : List Int) : bedrockref02_Parse.p1 k (s, (i : Int), z, o, ()) = some (if i < s.size ∧ i < 64 then .inl (s, (i : Int), z, o, ()) else .inr (s, z, o, ())) := by
  unfold bedrockref02_Parse.p1
  simp only [bedrockref02_Parse.p1.r]
  by_cases h1 : i < s.size
  · rw [bif_yes (by omega)]
    by_cases h2 : i < 64
    · rw [bif_yes (by omega), if_pos ⟨h1, h2⟩]
    · rw [bif_no (by omega), if_neg (by omega)]
  · rw [bif_no (by omega), if_neg (by omega)]

theorem ref2_Parse_eq {k : Nat} (hk : 64 < k) {s : ByteArray} (hs : s.size ≤ 140737488351232) :
    bedrockref02_Parse k s = some ((parseS (ofBytes s)).1, (if (parseS (ofBytes s)).2.2 then (parseS (ofBytes s)).2.1 else -1), ()) := by
  unfold bedrockref02_Parse bedrockref02_Parse.c parseS
  have hlen := ofBytes_length s
  have hfb := fb_le (ofBytes s)
  dsimp only
  have hl := loop_from0 (r := bedrockref02_Parse.l0.r k) (fun i => (s, (i : Int), List.replicate 32 (0 : Int), (List.range 32).map (backZ (ofBytes s) i), ())) (min (fb (ofBytes s)) 64)
    (if fb (ofBytes s) < min s.size 64 then (.inl ((fb (ofBytes s) : Int), zeros32, ())) else .inr (s, List.replicate 32 (0 : Int), (List.range 32).map (backZ (ofBytes s) (min (fb (ofBytes s)) 64)), ())) ?_ ?_ (fuel := k) (by omega)
  · have e0 : (List.range 32).map (backZ (ofBytes s) 0) = List.replicate 32 0 := by
      apply List.ext_getElem
      · simp
      · intro j h1 h2
        rw [List.getElem_map, List.getElem_range, List.getElem_replicate]
        simp [backZ, pairZ]
    rw [e0] at hl
    show (bedrockref02_Parse.l0 k k (s, ((0 : Nat) : Int), List.replicate 32 (0 : Int), List.replicate 32 (0 : Int), ())).bind _ = _
    unfold bedrockref02_Parse.l0
    rw [hl, hlen]
    simp only [Option.bind_some]
    by_cases h1 : fb (ofBytes s) < min s.size 64
    · simp only [if_pos h1, if_true]
    · simp only [if_neg h1]
      by_cases h2 : s.size = 64
      · simp only [if_neg (show ¬ s.size ≠ 64 by omega), Bool.false_eq_true, if_false]
        rw [bif_no (by omega), bif_no (by omega)]
        have e : (List.range 32).map (backZ (ofBytes s) (min (fb (ofBytes s)) 64)) = (pairs (ofBytes s)).reverse := by
          apply List.ext_getElem
          · simp [pairs_length, hlen, h2]
          · intro j g1 g2
            simp only [List.length_map, List.length_range] at g1
            rw [List.getElem_map, List.getElem_range, List.getElem_reverse]
            have hp : ∀ (i : Nat) (hi : i < (pairs (ofBytes s)).length), (pairs (ofBytes s))[i] = pairAt (ofBytes s) i := by intro i hi; simp [pairs]
            rw [hp]
            unfold backZ pairZ
            rw [if_pos (by omega), pairs_length, hlen, h2]
        rw [e]
      · simp only [if_pos (show s.size ≠ 64 from h2), if_true]
        by_cases h3 : s.size < 64
        · rw [bif_yes (by omega), show min s.size 64 = s.size by omega]
          rfl
        · rw [bif_no (by omega), bif_yes (by omega), show min s.size 64 = 64 by omega]
          rfl
  · intro i hi kn ke
    simp only [bedrockref02_Parse.l0.r]
    have hr := byteAt_range s i
    have hne : val (byteAt s i) ≠ 16 := by rw [byteAt_eq]; exact fb_lt (by omega)
    have hv := val_range (byteAt s i)
    rw [ref2_p1, if_pos (by omega)]
    simp only [Option.bind_some]
    rw [bif_yes (by omega), show (i : Int).toNat = i by omega, ref2_p2 k s _ hr, if_neg hne]
    simp only [Option.bind_some]
    have hm2 : Int.tdiv ((i : Nat) : Int) 2 = ((i / 2 : Nat) : Int) := by rw [Int.tdiv_eq_ediv_of_nonneg (by omega)]; omega
    rw [hm2, i64_in (n := ((i / 2 : Nat) : Int)) (by omega), i64_in (n := 31 - ((i / 2 : Nat) : Int)) (by omega), i64_in (n := (i : Int) + 1) (by omega), bif_yes (by omega), bif_yes (by omega), show ((31 : Int) - ((i / 2 : Nat) : Int)).toNat = 31 - i / 2 by omega, getD_range_map (by omega)]
    have hx : backZ (ofBytes s) i (31 - i / 2) = if i % 2 = 1 then val ((ofBytes s).getD (i - 1) 0) else 0 := by
      unfold backZ pairZ
      rw [show 31 - (31 - i / 2) = i / 2 by omega, if_neg (by omega)]
      by_cases he : i % 2 = 1
      · rw [if_pos (by omega), if_pos he, show 2 * (i / 2) = i - 1 by omega]
      · rw [if_neg (by omega), if_neg he]
    have hxr : 0 ≤ backZ (ofBytes s) i (31 - i / 2) ∧ backZ (ofBytes s) i (31 - i / 2) < 16 := by
      rw [hx]
      split
      · have h1 := fb_lt (l := ofBytes s) (i := i - 1) (by omega)
        have h2 := val_range ((ofBytes s).getD (i - 1) 0)
        omega
      · omega
    rw [u8_in (n := 16 * backZ (ofBytes s) i (31 - i / 2)) (by omega), u8_in (by omega)]
    have hval : 16 * backZ (ofBytes s) i (31 - i / 2) + val (byteAt s i) = backZ (ofBytes s) (i + 1) (31 - i / 2) := by
      rw [hx]
      unfold backZ pairZ
      rw [show 31 - (31 - i / 2) = i / 2 by omega, byteAt_eq]
      by_cases he : i % 2 = 1
      · rw [if_pos he, if_pos (by omega)]
        unfold pairAt
        rw [show 2 * (i / 2) + 1 = i by omega, show 2 * (i / 2) = i - 1 by omega]
        omega
      · rw [if_neg he, if_neg (by omega), if_pos (by omega), show 2 * (i / 2) = i by omega]
        omega
    rw [hval, set_range_map (f := backZ (ofBytes s) i) (g := backZ (ofBytes s) (i + 1)) (by omega)]
    · rfl
    · intro j hj hne2
      unfold backZ pairZ
      by_cases h1 : 2 * (31 - j) + 1 < i
      · rw [if_pos (by omega), if_pos h1]
      · rw [if_neg (by omega), if_neg h1]
        by_cases h2 : 2 * (31 - j) < i
        · omega
        · rw [if_neg (by omega), if_neg h2]
  · intro kn ke
    simp only [bedrockref02_Parse.l0.r]
    rw [ref2_p1]
    by_cases h1 : fb (ofBytes s) < min s.size 64
    · have hr := byteAt_range s (fb (ofBytes s))
      have h16 : val (byteAt s (fb (ofBytes s))) = 16 := by rw [byteAt_eq]; exact fb_at (by omega)
      rw [show min (fb (ofBytes s)) 64 = fb (ofBytes s) by omega, if_pos (by omega), if_pos h1]
      simp only [Option.bind_some]
      rw [bif_yes (by omega), show ((fb (ofBytes s) : Nat) : Int).toNat = fb (ofBytes s) by omega, ref2_p2 k s _ hr, if_pos h16]
      rfl
    · rw [if_neg (by omega), if_neg h1]
      rfl

theorem sha_Parse_eq {k : Nat} (hk : 64 < k) {s : ByteArray} (hs : s.size ≤ 140737488351232) :
    sha_Parse k s = some ((parseS (ofBytes s)).1, (parseS (ofBytes s)).2.1, (if (parseS (ofBytes s)).2.2 then 20 else 0), ()) := by
  unfold sha_Parse sha_Parse.c
  rw [num_Parse_eq hk hs]
  simp only [Option.bind_some]
  obtain ⟨q1, q2, q3, q4⟩ := parseS_at (ofBytes s)
  generalize parseS (ofBytes s) = p at *
  obtain ⟨v, f, q⟩ := p
  cases q with
  | true =>
    simp only [if_true]
    rw [show v = zeros32 from q3 rfl]
    rfl
  | false =>
    simp only [Bool.false_eq_true, if_false]
    rw [show f = 0 from q2 rfl]
    rfl

theorem shaTexts_true {a b : List Int} (ha : a.length = 32) (hb : b.length = 32) (ba : bytesIn a) (bb : bytesIn b) {s : ByteArray} (hs : s.size ≤ 140737488351232) : bedrocklaw02_ShaTexts 200 a b s = some (true, ()) := by
  unfold bedrocklaw02_ShaTexts bedrocklaw02_ShaTexts.c
  generalize hk : (200 : Nat) = k
  have brh : bytesIn a.reverse := fun x hx => ba x (List.mem_reverse.1 hx)
  have hxl : (hexL a.reverse).length = 64 := by rw [hexL_length, List.length_reverse]; omega
  have htext : sha_Text k a = some (bytesOf (hexL a.reverse), ()) := by
    unfold sha_Text sha_Text.c
    rw [num_Text_eq (by omega) ha ba]
    rfl
  have hp0 : bedrocklaw02_ShaTexts.p0 k (s, a, b, ()) = some (.inr (s, a, ())) := by
    unfold bedrocklaw02_ShaTexts.p0
    simp only [bedrocklaw02_ShaTexts.p0.r]
    rw [awake02 (by omega), htext, ref2_Text_eq (by omega) ha ba]
    simp only [Option.bind_some, Bool.not_true, cond_false, strEq_self]
    have hc : sha_Compare k a b = some (cmpD a b 32, ()) := by
      unfold sha_Compare sha_Compare.c
      rw [num_Compare_eq (by omega)]
      rfl
    rw [hc, ref2_Compare_eq (by omega)]
    simp only [Option.bind_some, bne_self_eq_false, cond_false]
    rw [show sha_Zero k a = some (decide (a = List.replicate 32 (0 : Int)), ()) from rfl]
    simp only [Option.bind_some, beq_self_eq_true, Bool.not_true, cond_false]
  rw [hp0]
  simp only [Option.bind_some]
  have hps : parseS (ofBytes (bytesOf (hexL a.reverse))) = (a, 0, false) := by
    rw [ofBytes_bytesOf (hexL_in brh)]
    unfold parseS
    rw [hexL_fb brh, hxl, List.length_reverse, if_neg (by omega), if_neg (by omega), hexL_pairs brh, List.reverse_reverse]
  rw [htext]
  simp only [Option.bind_some]
  rw [sha_Parse_eq (by omega) (by rw [bytesOf_size]; omega), hps]
  simp only [Option.bind_some]
  have hp1 : bedrocklaw02_ShaTexts.p1 k (s, 0, 0, a, a, ()) = some (.inr (s, ())) := by
    unfold bedrocklaw02_ShaTexts.p1
    simp only [bedrocklaw02_ShaTexts.p1.r, decide_true, Bool.not_true, cond_false, bne_self_eq_false]
  simp only [Bool.false_eq_true, if_false]
  rw [hp1]
  simp only [Option.bind_some]
  rw [sha_Parse_eq (by omega) hs, ref2_Parse_eq (by omega) hs]
  simp only [Option.bind_some]
  obtain ⟨q1, q2, q3, q4⟩ := parseS_at (ofBytes s)
  generalize parseS (ofBytes s) = p at *
  obtain ⟨v, f, q⟩ := p
  cases q with
  | true =>
    simp only [if_true]
    simp only at q1
    rw [bif_yes q1, decide_eq_true (show v = List.replicate 32 0 from q3 rfl), cond_true, beq_self_eq_true, cond_true]
    rfl
  | false =>
    simp only [Bool.false_eq_true, if_false]
    rw [bif_no (by omega), show f = 0 from q2 rfl]
    simp only [decide_true, cond_true]
    rfl
end Go.Am
