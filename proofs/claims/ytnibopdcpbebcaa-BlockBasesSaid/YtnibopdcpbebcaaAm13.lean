/- A part of a proof: a machine of abstract values that tells what functions of the program compute, and the plain facts on them. -/
import Derived.Test.YtnibopdcpbebcaaAm9
import Derived.KernelRfl
import Derived.Test.YtnibopdcpbebcaaAm12
import Derived.Test.YtnibopdcpbebcaaAm7
set_option linter.unusedVariables false
set_option linter.unusedSimpArgs false
set_option linter.unnecessarySimpa false
set_option linter.unusedSectionVars false
/- Genesis meets its target. -/
namespace Go.Am
open Go
theorem awake11 : bedrocklaw11_awake 140737488355328 = some (true, ()) := by kernel_rfl
end Go.Am
/- Blocks: transactions as the document has them, heights, rewards. -/
namespace Go.Am
open Go

theorem one_eq {k : Nat} {t : TTx} (h1 : t.2.1.length ≤ 2199023255552) (h2 : t.2.2.1.length ≤ 5864062014805) (hk : t.2.1.length + t.2.2.1.length + 1 ≤ k) : bedrocklaw11_one k t = some (gTx t, ()) := by
  obtain ⟨v, ins, outs, tm, u⟩ := t
  dsimp only at h1 h2 hk
  unfold bedrocklaw11_one bedrocklaw11_one.c
  dsimp only
  have l0 : bedrocklaw11_one.l0 k k ((0 : Int), (v, ins, outs, tm, ()), (0, (), (), 0, ()), (v, (), (), tm, ()), [], ()) = some ((v, ins, outs, tm, ()), (0, (), (), 0, ()), (v, (), (), tm, ()), ins.map gIn, ()) := by
    have := loop_from0 (r := bedrocklaw11_one.l0.r k) (fun i => ((i : Int), (v, ins, outs, tm, ()), (0, (), (), 0, ()), (v, (), (), tm, ()), (ins.take i).map gIn, ())) ins.length
      ((v, ins, outs, tm, ()), (0, (), (), 0, ()), (v, (), (), tm, ()), ins.map gIn, ()) ?_ ?_ (fuel := k) (by omega)
    · exact this
    · intro i h kn ke
      simp only [bedrocklaw11_one.l0.r]
      rw [dIn_eq, bif_yes (by omega), bif_yes (by omega), bif_yes (by omega), bif_yes (by omega), bif_yes (by omega), show (i : Int).toNat = i by omega,
        cond_true' (ble_of (by simp only [List.length_set, List.length_replicate, List.length_map, List.length_take]; omega)), i64_in (by omega)]
      have e : ∀ d : RIn, List.set (List.replicate 1 d) 0 ((ins.getD i dIn).1.1, (ins.getD i dIn).1.2.1, (ins.getD i dIn).2.1, (ins.getD i dIn).2.2.1, ()) = [gIn (ins.getD i dIn)] := fun _ => rfl
      rw [e, take_snoc gIn ins dIn h]
      rfl
    · intro kn ke
      simp only [bedrocklaw11_one.l0.r]
      rw [bif_no (by omega), List.take_length]
  rw [l0]
  simp only [Option.bind_some]
  have l1 : bedrocklaw11_one.l1 k k ((0 : Int), (v, ins, outs, tm, ()), (0, (), (), 0, ()), (v, (), (), tm, ()), ins.map gIn, [], ()) = some ((0, (), (), 0, ()), (v, (), (), tm, ()), ins.map gIn, outs, ()) := by
    have := loop_from0 (r := bedrocklaw11_one.l1.r k) (fun i => ((i : Int), (v, ins, outs, tm, ()), (0, (), (), 0, ()), (v, (), (), tm, ()), ins.map gIn, (outs.take i).map id, ())) outs.length
      ((0, (), (), 0, ()), (v, (), (), tm, ()), ins.map gIn, outs, ()) ?_ ?_ (fuel := k) (by omega)
    · exact this
    · intro i h kn ke
      simp only [bedrocklaw11_one.l1.r]
      rw [dOut_eq, bif_yes (by omega), bif_yes (by omega), bif_yes (by omega), show (i : Int).toNat = i by omega,
        cond_true' (ble_of (by simp only [List.length_set, List.length_replicate, List.length_map, List.length_take]; omega)), i64_in (by omega)]
      have e : ∀ d : TOut, List.set (List.replicate 1 d) 0 ((outs.getD i dOut).1, (outs.getD i dOut).2.1, ()) = [id (outs.getD i dOut)] := fun _ => rfl
      rw [e, take_snoc id outs dOut h]
      rfl
    · intro kn ke
      simp only [bedrocklaw11_one.l1.r]
      rw [bif_no (by omega), List.take_length, List.map_id]
  rw [l1]
  rfl

/-- Is it a coinbase? -/
def isBase (t : TTx) : Bool := decide (t.2.1.length = 1) && (decide ((t.2.1.getD 0 dIn).1.1 = List.replicate 32 (0 : Int)) && ((t.2.1.getD 0 dIn).1.2.1 == (4294967295 : Int)))
theorem isCoinbase_eq (k : Nat) (t : TTx) : block_IsCoinbase k t = some (isBase t, ()) := by
  unfold block_IsCoinbase block_IsCoinbase.c isBase
  dsimp only
  by_cases h : t.2.1.length = 1
  · rw [h, decide_eq_true rfl, Bool.true_and, dIn_eq, Bool.and_true]
    rfl
  · rw [decide_eq_false h, Bool.false_and, cond_false' (by rw [beq_eq_false_iff_ne]; omega)]
theorem ref10_Base_eq (k : Nat) (t : TTx) : bedrockref10_Base k (gTx t) = some (isBase t, ()) := by
  unfold bedrockref10_Base bedrockref10_Base.c isBase
  dsimp only
  rw [show (gTx t).2.1 = t.2.1.map gIn from rfl, List.length_map]
  by_cases h : t.2.1.length = 1
  · rw [h, decide_eq_true rfl, Bool.true_and, dR_eq, gIn_getD (by omega)]
    by_cases h2 : (t.2.1.getD 0 dIn).1.1 = List.replicate 32 (0 : Int)
    · show (bif decide ((t.2.1.getD 0 dIn).1.1 = List.replicate 32 (0 : Int)) then _ else _) = _
      rw [decide_eq_true h2]
      rfl
    · show (bif decide ((t.2.1.getD 0 dIn).1.1 = List.replicate 32 (0 : Int)) then _ else _) = _
      rw [decide_eq_false h2]
      rfl
  · rw [decide_eq_false h, Bool.false_and, cond_false' (by rw [beq_eq_false_iff_ne]; omega)]

/-- The height that a coinbase names. -/
def keyNum (s : ByteArray) : Int := leI ((ofBytes s).take 4)
def heightS (t : TTx) : Int × Bool :=
  if isBase t = true then (if (t.2.1.getD 0 dIn).2.1.size < 4 then (0, false) else if keyNum (t.2.1.getD 0 dIn).2.1 > 2147483647 then (0, false) else (keyNum (t.2.1.getD 0 dIn).2.1, true)) else (0, false)
theorem isBase_len {t : TTx} (h : isBase t = true) : t.2.1.length = 1 := by
  unfold isBase at h
  simp only [Bool.and_eq_true, decide_eq_true_eq] at h
  exact h.1
theorem keyNum_range (s : ByteArray) : 0 ≤ keyNum s ∧ keyNum s < 4294967296 := by
  have := leI_lt (l := (ofBytes s).take 4) (m := 4) (fun x hx => ofBytes_in' s x (List.mem_of_mem_take hx)) (by rw [List.length_take]; omega)
  exact this
theorem ofBytes_ext4 {s : ByteArray} (h : 4 ≤ s.size) : ofBytes (s.extract 0 4) = (ofBytes s).take 4 := by
  rw [ofBytes_extract]
  simp
theorem block_Height_eq {k : Nat} (hk : 9 ≤ k) {t : TTx} (hs : (t.2.1.getD 0 dIn).2.1.size ≤ 140737488351232) : block_Height k t = some ((heightS t).1, (heightS t).2, ()) := by
  unfold block_Height block_Height.c
  show (block_IsCoinbase k t).bind _ = _
  rw [isCoinbase_eq]
  simp only [Option.bind_some]
  unfold heightS
  by_cases h : isBase t = true
  · have hl := isBase_len h
    rw [h, Bool.not_true, cond_false, if_pos rfl, bif_yes (by omega), dIn_eq]
    generalize (t.2.1.getD 0 dIn).2.1 = s at hs ⊢
    show (num_Reader_U32 k (s, 0, 0, ())).bind _ = _
    rw [u32_eq hk ⟨hs, by simp, by simp⟩]
    simp only [Option.bind_some]
    generalize hr : takeS (s, 0, 0, ()) 4 = r at *
    show (bif (r.1.2.2.1 != 0) then _ else _) = _
    unfold takeS at hr
    rw [if_neg (by simp), if_neg (by omega)] at hr
    by_cases h4 : s.size < 4
    · rw [if_pos (by show (4 : Int) > (s.size : Int) - 0; omega)] at hr
      rw [← hr, if_pos h4]
      rfl
    · rw [if_neg (by show ¬ (4 : Int) > (s.size : Int) - 0; omega)] at hr
      have hn : numS (s, 0, 0, ()) 4 = keyNum s := by
        unfold numS keyNum takeS
        rw [if_neg (by simp), if_neg (by omega), if_neg (by show ¬ (4 : Int) > (s.size : Int) - 0; omega)]
        show leI (ofBytes (s.extract 0 4)) = _
        rw [ofBytes_ext4 (by omega)]
      have hb := keyNum_range s
      rw [← hr, if_neg h4, hn]
      show (bif decide (keyNum s > 2147483647) then _ else _) = _
      by_cases h5 : keyNum s > 2147483647
      · rw [bif_yes h5, if_pos h5]
      · rw [bif_no h5, if_neg h5, i64_in (by omega)]
  · rw [if_neg h, show isBase t = false by simpa using h]
    rfl
theorem ref11_Height_eq {k : Nat} (hk : 9 ≤ k) (t : TTx) : bedrockref11_Height k (gTx t) = some ((heightS t).1, (heightS t).2, ()) := by
  unfold bedrockref11_Height bedrockref11_Height.c
  dsimp only
  have hp : bedrockref11_Height.p0 k (gTx t, ()) = some (if isBase t = true ∧ ¬ (t.2.1.getD 0 dIn).2.1.size < 4 then .inr (gTx t, ()) else .inl (0, false, ())) := by
    unfold bedrockref11_Height.p0
    simp only [bedrockref11_Height.p0.r]
    show (bedrockref10_Base k (gTx t)).bind _ = _
    rw [ref10_Base_eq]
    simp only [Option.bind_some]
    by_cases h : isBase t = true
    · have hl := isBase_len h
      rw [h, Bool.not_true, cond_false, show (gTx t).2.1 = t.2.1.map gIn from rfl, bif_yes (by rw [List.length_map]; omega), dR_eq, gIn_getD (by omega)]
      show (bif decide (((t.2.1.getD 0 dIn).2.1.size : Int) < 4) then _ else _) = _
      by_cases h4 : (t.2.1.getD 0 dIn).2.1.size < 4
      · rw [bif_yes (by omega), if_neg (fun g => g.2 h4)]
      · rw [bif_no (by omega), if_pos ⟨rfl, h4⟩]
        rfl
    · rw [if_neg (fun g => h g.1), show isBase t = false by simpa using h]
      rfl
  show (bedrockref11_Height.p0 k (gTx t, ())).bind _ = _
  rw [hp]
  simp only [Option.bind_some]
  unfold heightS
  by_cases h : isBase t = true
  · rw [if_pos h]
    have hl := isBase_len h
    by_cases h4 : (t.2.1.getD 0 dIn).2.1.size < 4
    · rw [if_neg (fun g => g.2 h4), if_pos h4]
    · rw [if_pos ⟨h, h4⟩, if_neg h4]
      dsimp only
      rw [show (gTx t).2.1 = t.2.1.map gIn from rfl, bif_yes (by rw [List.length_map]; omega), dR_eq, gIn_getD (by omega)]
      show (bif decide ((0 : Int) ≤ 0 ∧ (0 : Int) ≤ 4 ∧ (4 : Int) ≤ ((t.2.1.getD 0 dIn).2.1.size : Int)) then (bedrockref01_Get k ((t.2.1.getD 0 dIn).2.1.extract 0 4)).bind _ else _) = _
      generalize (t.2.1.getD 0 dIn).2.1 = s at h4 ⊢
      have hb := keyNum_range s
      rw [bif_yes (by omega), bedrockref01_Get_eq hk _ (by rw [ByteArray.size_extract]; omega), ofBytes_ext4 (by omega)]
      simp only [Option.bind_some]
      show (bif decide (keyNum s > 2147483647) then _ else some (IntKind.i64.wrap (keyNum s), true, ())) = _
      by_cases h5 : keyNum s > 2147483647
      · rw [bif_yes h5, if_pos h5]
      · rw [bif_no h5, if_neg h5, i64_in (n := keyNum s) (by omega)]
  · rw [if_neg (fun g => h g.1), if_neg h]

/-- What a block makes. -/
def rewS (h : Int) : Int := if h < 0 then 0 else 5000 / 2 ^ (h / 64).toNat
theorem half_zero (n : Nat) (hn : 13 ≤ n) : (5000 : Int) / 2 ^ n = 0 := by
  refine Int.ediv_eq_zero_of_lt (by omega) ?_
  have h1 : (2 : Nat) ^ 13 ≤ 2 ^ n := Nat.pow_le_pow_right (n := 2) (by omega) hn
  have h2 : ((2 ^ n : Nat) : Int) = (2 : Int) ^ n := by simp
  omega
theorem shr_5000 (j : Nat) : shrOp .u64 5000 (j : Int) = 5000 / 2 ^ j := by
  unfold shrOp
  rw [Int.toNat_natCast, Int.fdiv_eq_ediv_of_nonneg _ (Int.le_of_lt (Int.pow_pos (by omega)))]
  by_cases h : j ≤ IntKind.u64.bits
  · rw [Nat.min_eq_left h]
  · have h64 : IntKind.u64.bits = 64 := rfl
    rw [half_zero j (by omega), half_zero _ (by omega)]
theorem block_Reward_eq (k : Nat) {h : Int} (hh : -9223372036854775808 ≤ h ∧ h ≤ 9223372036854775807) : block_Reward k h = some (rewS h, ()) := by
  unfold block_Reward block_Reward.c rewS
  by_cases h0 : h < 0
  · rw [bif_yes h0, if_pos h0]
  · rw [bif_no h0, if_neg h0, Int.tdiv_eq_ediv_of_nonneg (by omega), i64_in (by omega)]
    dsimp only
    rw [bif_yes (by omega), show h / 64 = (((h / 64).toNat : Nat) : Int) by omega, shr_5000]
    rfl
theorem half_step (n : Nat) : (5000 : Int) / 2 ^ n / 2 = 5000 / 2 ^ (n + 1) := by
  rw [Int.pow_succ, Int.ediv_ediv_of_nonneg (Int.le_of_lt (Int.pow_pos (by decide)))]
theorem ref11_Reward_eq {k : Nat} (hk : 20 ≤ k) {h : Int} (hh : -9223372036854775808 ≤ h ∧ h ≤ 9223372036854775807) : bedrockref11_Reward k h = some (rewS h, ()) := by
  unfold bedrockref11_Reward bedrockref11_Reward.c rewS
  by_cases h0 : h < 0
  · rw [bif_yes h0, if_pos h0]
  · rw [bif_no h0, if_neg h0]
    have hz := half_zero
    have hps : ∀ i, i < 13 → (0 : Int) < 5000 / 2 ^ i := by decide
    have l0 : bedrockref11_Reward.l0 k k (h, (5000 : Int), (0 : Int), ()) = some (5000 / 2 ^ (h / 64).toNat, ()) := by
      have key : ∀ (d i fuel : Nat), i + d = min (h / 64).toNat 13 → d < fuel → loopJ (bedrockref11_Reward.l0.r k) fuel (h, (5000 : Int) / 2 ^ i, (i : Int), ()) = some (5000 / 2 ^ (h / 64).toNat, ()) := by
        intro d
        induction d with
        | zero =>
          intro i fuel hi hf
          obtain ⟨f, rfl⟩ : ∃ f, fuel = f + 1 := ⟨fuel - 1, by omega⟩
          show bedrockref11_Reward.l0.r k _ (loopJ (bedrockref11_Reward.l0.r k) f) some = _
          simp only [bedrockref11_Reward.l0.r]
          rw [Int.tdiv_eq_ediv_of_nonneg (by omega), i64_in (by omega)]
          by_cases c : (i : Int) < h / 64
          · have hi13 : i = 13 := by omega
            rw [bif_yes c, hz i (by omega), bif_no (by omega), hz _ (by omega)]
          · rw [bif_no c, show i = (h / 64).toNat by omega]
        | succ d ih =>
          intro i fuel hi hf
          obtain ⟨f, rfl⟩ : ∃ f, fuel = f + 1 := ⟨fuel - 1, by omega⟩
          show bedrockref11_Reward.l0.r k _ (loopJ (bedrockref11_Reward.l0.r k) f) some = _
          simp only [bedrockref11_Reward.l0.r]
          have hpos := hps i (by omega)
          have hle : (5000 : Int) / 2 ^ i ≤ 5000 := Int.ediv_le_self _ (by omega)
          rw [Int.tdiv_eq_ediv_of_nonneg (by omega), i64_in (by omega), bif_yes (by omega), bif_yes hpos, Int.tdiv_eq_ediv_of_nonneg (by omega), half_step]
          have hle2 : (5000 : Int) / 2 ^ (i + 1) ≤ 5000 := Int.ediv_le_self _ (by omega)
          have hge2 : (0 : Int) ≤ 5000 / 2 ^ (i + 1) := Int.ediv_nonneg (by omega) (Int.le_of_lt (Int.pow_pos (by decide)))
          rw [u64_in (by omega), i64_in (by omega)]
          exact ih (i + 1) f (by omega) (by omega)
      have := key (min (h / 64).toNat 13) 0 k (by omega) (by omega)
      rw [Int.pow_zero, Int.ediv_one] at this
      exact this
    rw [l0]
    rfl
end Go.Am
/- BlockBases: the law. -/
namespace Go.Am
open Go

abbrev zHash : List Int := List.replicate 32 (0 : Int)
def baseKey (h : Int) (s : ByteArray) : ByteArray := bytesOf (lowI h 4 ++ ofBytes s)
def baseTx (h : Int) (s : ByteArray) (outs : List TOut) : TTx := (1, [((zHash, 4294967295, ()), baseKey h s, 4294967295, ())], outs, 0, ())
def basBad (h : Int) (s : ByteArray) : Prop := h < 0 ∨ h > 2147483647 ∨ s.size > 96
instance (h : Int) (s : ByteArray) : Decidable (basBad h s) := by unfold basBad; infer_instance
theorem lowI_in256 (n : Int) (b : Nat) : bytesIn (lowI n b) := fun x hx => by have := lowI_in n b x hx; omega
theorem block_Coinbase_eq {k : Nat} (hk : 9 ≤ k) (h : Int) (s : ByteArray) {outs : List TOut} (ho : outs.length ≤ 5864062014805) :
    block_Coinbase k h s outs = some (if basBad h s then ((0, [], [], 0, ()), 1, ()) else (baseTx h s outs, 0, ())) := by
  unfold block_Coinbase block_Coinbase.c
  have hp : block_Coinbase.p0 k (h, s, outs, (0, (), (), 0, ()), ()) = some (if basBad h s then .inl (1, (0, (), (), 0, ()), ()) else .inr (h, s, outs, (0, (), (), 0, ()), ())) := by
    unfold block_Coinbase.p0
    simp only [block_Coinbase.p0.r]
    by_cases c1 : h < 0
    · rw [bif_yes c1, if_pos (show basBad h s from .inl c1)]
    · rw [bif_no c1]
      by_cases c2 : h > 2147483647
      · rw [bif_yes c2, if_pos (show basBad h s from .inr (.inl c2))]
      · rw [bif_no c2]
        by_cases c3 : s.size > 96
        · rw [bif_yes (by omega), if_pos (show basBad h s from .inr (.inr c3))]
        · rw [bif_no (by omega), if_neg (show ¬ basBad h s by rintro (g | g | g) <;> contradiction)]
  rw [hp]
  simp only [Option.bind_some]
  by_cases c : basBad h s
  · rw [if_pos c, if_pos c]
  · rw [if_neg c, if_neg c]
    have c' : 0 ≤ h ∧ h ≤ 2147483647 ∧ s.size ≤ 96 := by unfold basBad at c; omega
    dsimp only
    rw [show num_NewWriter k = some ((((), ((), ())), ()), [], ()) from rfl]
    simp only [Option.bind_some]
    rw [u32_in (n := h) (by omega), wu32 (by omega) ⟨by omega, by omega⟩ (by simp), List.nil_append]
    simp only [Option.bind_some]
    rw [wb (by rw [lowI_length]; omega)]
    simp only [Option.bind_some]
    have ht : num_Writer_Text k (((), ((), ())), ()) (lowI h 4 ++ ofBytes s) = some (baseKey h s, ()) := by
      unfold num_Writer_Text num_Writer_Text.c
      rw [cond_true' (ble_of (by rw [List.length_append, lowI_length, ofBytes_length]; omega))]
      rfl
    rw [ht]
    simp only [Option.bind_some]
    rw [cond_true' (ble_of (by omega))]
    rfl
theorem baseKey_size (h : Int) (s : ByteArray) : (baseKey h s).size = 4 + s.size := by unfold baseKey; rw [bytesOf_size, List.length_append, lowI_length, ofBytes_length]
theorem baseTx_base (h : Int) (s : ByteArray) (outs : List TOut) : isBase (baseTx h s outs) = true := rfl
theorem baseTx_height {h : Int} {s : ByteArray} (c : ¬ basBad h s) (outs : List TOut) : heightS (baseTx h s outs) = (h, true) := by
  have c' : 0 ≤ h ∧ h ≤ 2147483647 ∧ s.size ≤ 96 := by unfold basBad at c; omega
  unfold heightS
  rw [if_pos (baseTx_base h s outs)]
  show (if (baseKey h s).size < 4 then _ else if keyNum (baseKey h s) > 2147483647 then _ else (keyNum (baseKey h s), true)) = _
  have hn : keyNum (baseKey h s) = h := by
    unfold keyNum baseKey
    rw [ofBytes_bytesOf (fun x hx => (List.mem_append.1 hx).elim (lowI_in256 _ _ x) (ofBytes_in' s x)), List.take_append_of_le_length (by rw [lowI_length]; omega), List.take_of_length_le (by rw [lowI_length]; omega)]
    rw [leI_lowI]
    omega
  rw [if_neg (by rw [baseKey_size]; omega), hn, if_neg (by omega)]

theorem blockBases_main {k : Nat} (hk : k = 140737488355328) (haw : bedrocklaw11_awake k = some (true, ())) {h : Int} {s : ByteArray} {outs : List TOut} {t : TTx} (hh : -9223372036854775808 ≤ h ∧ h ≤ 9223372036854775807) (hs : s.size ≤ 140737488351232) (ho : outs.length ≤ 5864062014805) (h1 : t.2.1.length ≤ 2199023255552) (h2 : t.2.2.1.length ≤ 5864062014805)
    (hkey : (t.2.1.getD 0 dIn).2.1.size ≤ 140737488351232) : bedrocklaw11_BlockBases k (h, s, outs, t, ()) = some (true, ()) := by
  unfold bedrocklaw11_BlockBases bedrocklaw11_BlockBases.c
  dsimp only
  rw [block_Coinbase_eq (by omega) h s ho]
  simp only [Option.bind_some]
  show (block_Height k t).bind _ = _
  rw [block_Height_eq (by omega) hkey]
  simp only [Option.bind_some]
  show (bedrocklaw11_one k t).bind _ = _
  rw [one_eq h1 h2 (by omega)]
  simp only [Option.bind_some]
  show (bedrockref11_Height k (gTx t)).bind _ = _
  rw [ref11_Height_eq (by omega)]
  simp only [Option.bind_some]
  generalize hC : (if basBad h s then ((0, [], [], 0, ()), 1, ()) else (baseTx h s outs, 0, ()) : TTx × Int × Unit) = C
  obtain ⟨c, e, u⟩ := C
  have hp0 : bedrocklaw11_BlockBases.p0 k (e, (heightS t).1, (heightS t).2, (heightS t).1, (heightS t).2, (h, s, outs, t, ()), c, ()) = some (.inr (e, (h, s, outs, t, ()), c, ())) := by
    unfold bedrocklaw11_BlockBases.p0
    simp only [bedrocklaw11_BlockBases.p0.r]
    rw [haw]
    simp only [Option.bind_some, Bool.not_true, cond_false, bne_self_eq_false, beq_self_eq_true]
    show (block_IsCoinbase k t).bind _ = _
    rw [isCoinbase_eq]
    simp only [Option.bind_some]
    show (bedrocklaw11_one k t).bind _ = _
    rw [one_eq h1 h2 (by omega)]
    simp only [Option.bind_some]
    show (bedrockref10_Base k (gTx t)).bind _ = _
    rw [ref10_Base_eq]
    simp only [Option.bind_some, Bool.not_true, cond_false, beq_self_eq_true]
    rw [block_Reward_eq k hh]
    simp only [Option.bind_some]
    rw [ref11_Reward_eq (by omega) hh]
    simp only [Option.bind_some, bne_self_eq_false, cond_false]
  show (bedrocklaw11_BlockBases.p0 k (e, (heightS t).1, (heightS t).2, (heightS t).1, (heightS t).2, (h, s, outs, t, ()), c, ())).bind _ = _
  rw [hp0]
  simp only [Option.bind_some]
  by_cases cb : basBad h s
  · rw [if_pos cb] at hC
    cases hC
    have hp1 : bedrocklaw11_BlockBases.p1 k (1, (h, s, outs, t, ()), (0, [], [], 0, ()), ()) = some (.inl (true, ())) := by
      unfold bedrocklaw11_BlockBases.p1
      simp only [bedrocklaw11_BlockBases.p1.r]
      unfold basBad at cb
      by_cases c1 : h < 0
      · rw [bif_yes c1]; rfl
      · rw [bif_no c1]
        by_cases c2 : h > 2147483647
        · rw [bif_yes c2]; rfl
        · rw [bif_no c2, bif_yes (by omega)]; rfl
    show (bedrocklaw11_BlockBases.p1 k (1, (h, s, outs, t, ()), (0, [], [], 0, ()), ())).bind _ = _
    rw [hp1]
    rfl
  · rw [if_neg cb] at hC
    cases hC
    have c' : 0 ≤ h ∧ h ≤ 2147483647 ∧ s.size ≤ 96 := by unfold basBad at cb; omega
    have hp1 : bedrocklaw11_BlockBases.p1 k (0, (h, s, outs, t, ()), baseTx h s outs, ()) = some (.inr (0, (h, s, outs, t, ()), baseTx h s outs, ())) := by
      unfold bedrocklaw11_BlockBases.p1
      simp only [bedrocklaw11_BlockBases.p1.r]
      rw [bif_no (by omega), bif_no (by omega), bif_no (by omega)]
    show (bedrocklaw11_BlockBases.p1 k (0, (h, s, outs, t, ()), baseTx h s outs, ())).bind _ = _
    rw [hp1]
    simp only [Option.bind_some]
    show (bedrocklaw11_one k (baseTx h s outs)).bind _ = _
    rw [one_eq (by show [_].length ≤ _; rw [List.length_singleton]; omega) ho (by show [_].length + outs.length + 1 ≤ k; rw [List.length_singleton]; omega)]
    simp only [Option.bind_some]
    have hp2 : bedrocklaw11_BlockBases.p2 k (0, (h, s, outs, t, ()), baseTx h s outs, gTx (baseTx h s outs), ()) = some (.inr ((h, s, outs, t, ()), baseTx h s outs, gTx (baseTx h s outs), ())) := by
      unfold bedrocklaw11_BlockBases.p2
      simp only [bedrocklaw11_BlockBases.p2.r, bne_self_eq_false, cond_false]
      show (bedrockref10_Base k (gTx (baseTx h s outs))).bind _ = _
      rw [ref10_Base_eq]
      simp only [Option.bind_some]
      rw [baseTx_base, Bool.not_true, cond_false]
      show (bedrockref01_Low k (IntKind.u64.wrap h) 4).bind _ = _
      rw [u64_in (n := h) (by omega), show (4 : Int) = ((4 : Nat) : Int) from rfl, bedrockref01_Low_eq (by omega) h (by omega) 4 (by omega)]
      simp only [Option.bind_some]
      rw [cond_true' (ble_of (by rw [bytesOf_size, lowI_length]; omega))]
      have hkey : bytesOf (lowI h 4) ++ s = baseKey h s := by
        unfold baseKey
        rw [← bytesOf_append, bytesOf_ofBytes]
      rw [hkey]
      show (bif !strEq (baseKey h s) (baseKey h s) then _ else _) = _
      rw [strEq_self, Bool.not_true, cond_false]
      show (bif ((outs.length : Int) != (outs.length : Int)) then _ else _) = _
      rw [bne_self_eq_false]
      rfl
    show (bedrocklaw11_BlockBases.p2 k (0, (h, s, outs, t, ()), baseTx h s outs, gTx (baseTx h s outs), ())).bind _ = _
    rw [hp2]
    simp only [Option.bind_some]
    have hl3 : bedrocklaw11_BlockBases.l3 k k ((0 : Int), (h, s, outs, t, ()), baseTx h s outs, gTx (baseTx h s outs), ()) = some (.inr ((h, s, outs, t, ()), baseTx h s outs, ())) := by
      have := loop_from0 (r := bedrocklaw11_BlockBases.l3.r k) (fun i => ((i : Int), (h, s, outs, t, ()), baseTx h s outs, gTx (baseTx h s outs), ())) outs.length (.inr ((h, s, outs, t, ()), baseTx h s outs, ())) ?_ ?_ (fuel := k) (by omega)
      · exact this
      · intro i hi kn ke
        simp only [bedrocklaw11_BlockBases.l3.r]
        rw [show (gTx (baseTx h s outs)).2.2.1 = outs from rfl, bif_yes (by omega), bif_yes (by omega), bif_yes (by omega), bne_self_eq_false, cond_false, bif_yes (by omega), bif_yes (by omega), strEq_self, Bool.not_true, cond_false, i64_in (by omega)]
        rfl
      · intro kn ke
        simp only [bedrocklaw11_BlockBases.l3.r]
        rw [show (gTx (baseTx h s outs)).2.2.1 = outs from rfl, bif_no (by omega)]
    show (bedrocklaw11_BlockBases.l3 k k ((0 : Int), (h, s, outs, t, ()), baseTx h s outs, gTx (baseTx h s outs), ())).bind _ = _
    rw [hl3]
    simp only [Option.bind_some]
    show (block_Height k (baseTx h s outs)).bind _ = _
    rw [block_Height_eq (by omega) (by show (baseKey h s).size ≤ _; rw [baseKey_size]; omega)]
    simp only [Option.bind_some]
    rw [baseTx_height cb]
    show some (h == h, ()) = _
    rw [beq_self_eq_true]
end Go.Am
/- What the rows on transactions share. -/
namespace Go.Am
open Go

abbrev inTy : Ty := .pair (.pair (.arr 32 (.int .u8)) (.pair (.int .u32) .unit)) (.pair .str (.pair (.int .u32) .unit))
abbrev outTy : Ty := .pair (.int .u64) (.pair .str .unit)
abbrev txTy : Ty := .pair (.int .u32) (.pair (.sl inTy) (.pair (.sl outTy) (.pair (.int .u32) .unit)))
theorem hash_wf {N : Nat} {l : List Int} (h : WF N (.arr 32 (.int .u8)) l) : l.length = 32 ∧ bytesIn l :=
  ⟨h.1, all_getD (p := fun x => 0 ≤ x ∧ x < 256) fun i hi => by
    have := wf_u8 (h.2 i (by have := h.1; omega))
    have e : l.getD i (Ty.zero (.int .u8)) = l.getD i 0 := rfl
    rw [e] at this
    omega⟩
theorem u32_wf {N : Nat} {x : Int} (h : WF N (.int .u32) x) : u32R x := wf_u32 h
theorem inOK_of {N : Nat} {x : TIn} (h : WF N inTy x) : InOK x := ⟨hash_wf h.1.1, u32_wf (N := N) h.1.2.1, u32_wf (N := N) h.2.2.1⟩
theorem outOK_of {N : Nat} {x : TOut} (h : WF N outTy x) : OutOK x := wf_u64 h.1
theorem txOK_of {N : Nat} (hN : N ≤ 140737488355328) {t : TTx} (h : WF N txTy t) : TxOK t where
  v := u32_wf (N := N) h.1
  tm := u32_wf (N := N) h.2.2.2.1
  ins := fun i hi => inOK_of (h.2.1.2 i hi)
  outs := fun i hi => outOK_of (h.2.2.1.2 i hi)
  nin := Nat.le_trans h.2.1.1 hN
  nout := Nat.le_trans h.2.2.1.1 hN
end Go.Am
/- What the weights say of a slice's length. -/
namespace Go.Am
open Go
variable {H : Type} {P : Program}
theorem sl_len {T e : TypeId} {N : Nat} {t : Ty} {xs : (Ty.sl t).den} {d : DataW H} (hu : P.underlying T = some (.slice e)) (hr : RD (.sl t) xs d) (hw : ∀ w ∈ d.weights P T, w ≤ N) : xs.length * P.bytesOf e ≤ N := by
  rcases hr with ⟨rfl, rfl⟩ | ⟨es, sp, rfl, h1, h2⟩
  · simp
  · simp only [DataW.weights, hu] at hw
    have h3 := hw ((es.length + sp.length) * P.bytesOf e) (by simp)
    have h4 : es.length * P.bytesOf e ≤ (es.length + sp.length) * P.bytesOf e := Nat.mul_le_mul_right _ (Nat.le_add_right _ _)
    rw [show xs.length = es.length by first | exact h1 | exact h1.symm]
    exact Nat.le_trans h4 h3
theorem tx_len {T T0 T1 T2 T3 e1 e2 : TypeId} {fs : Array Field} {N : Nat} {t : TTx} {d : DataW H} (hu : P.underlying T = some (.struct fs)) (hf : fs.toList.map (·.type) = [T0, T1, T2, T3])
    (h1 : P.underlying T1 = some (.slice e1)) (h2 : P.underlying T2 = some (.slice e2)) (hr : RD txTy t d) (hw : ∀ w ∈ d.weights P T, w ≤ N) : t.2.1.length * P.bytesOf e1 ≤ N ∧ t.2.2.1.length * P.bytesOf e2 ≤ N := by
  obtain ⟨d0, r0, rfl, _, d1, r1, hd1, hr1, d2, r2, hd2, hr2, _⟩ := hr
  cases hd1
  cases hd2
  simp only [DataW.weights, hu, hf, DataW.weightsEach, List.mem_append] at hw
  exact ⟨sl_len h1 hr1 fun w h => hw w (.inr (.inl h)), sl_len h2 hr2 fun w h => hw w (.inr (.inr (.inl h)))⟩
/-- The weights of the second of some arguments. -/
theorem each_snd {T0 T1 : TypeId} {Ts : List TypeId} {d0 d1 : DataW H} {ds gs : List (DataW H)} {ps vs : List TypeId} (hp : ps = T0 :: T1 :: Ts) {N : Nat} (h : (DataW.weightsEach P (ps ++ vs) ((d0 :: d1 :: ds) ++ gs)).all (· ≤ N) = true) : ∀ w ∈ d1.weights P T1, w ≤ N := by
  subst hp
  simp only [List.cons_append, DataW.weightsEach, List.all_append, Bool.and_eq_true, List.all_eq_true, decide_eq_true_eq] at h
  exact h.2.1
/-- Is a type a transaction's, its inputs of 64 bytes and its outputs of 24? -/
def txLens (P : Program) (T : TypeId) : Bool :=
  match P.underlying T with
  | some (.struct fs) => match fs.toList.map (·.type) with
    | [_, a, b, _] => match P.underlying a, P.underlying b with
      | some (.slice e1), some (.slice e2) => P.bytesOf e1 == 64 && P.bytesOf e2 == 24
      | _, _ => false
    | _ => false
  | _ => false
theorem txLens_ok {T : TypeId} (h : txLens P T = true) {N : Nat} {t : TTx} {d : DataW H} (hr : RD txTy t d) (hw : ∀ w ∈ d.weights P T, w ≤ N) : t.2.1.length * 64 ≤ N ∧ t.2.2.1.length * 24 ≤ N := by
  unfold txLens at h
  split at h
  · rename_i fs hu
    split at h
    · rename_i T0 a b T3 hf
      split at h
      · rename_i e1 e2 h1 h2
        simp only [Bool.and_eq_true, beq_iff_eq] at h
        have := tx_len hu hf h1 h2 hr hw
        rw [h.1, h.2] at this
        exact this
      · cases h
    · cases h
  · cases h
def sndLens (P : Program) : List TypeId → Bool
  | _ :: T1 :: _ => txLens P T1
  | _ => false
theorem sndLens_ok {ps vs : List TypeId} (hp : sndLens P ps = true) {N : Nat} {ts : List Ty} {t0 : Ty} {x : dens (t0 :: txTy :: ts)} {ds gs : List (DataW H)} (hd : RDa (t0 :: txTy :: ts) x ds) (h : (DataW.weightsEach P (ps ++ vs) (ds ++ gs)).all (· ≤ N) = true) : x.2.1.2.1.length * 64 ≤ N ∧ x.2.1.2.2.1.length * 24 ≤ N := by
  obtain ⟨d0, r0, rfl, h0, d1, r1, rfl, h1, _⟩ := hd
  match ps, hp with
  | T0 :: T1 :: Ts, hp => exact txLens_ok hp h1 (each_snd rfl h)
end Go.Am
/- BlockBases: what the weights say. -/
namespace Go.Am
open Go
variable {H : Type} {P : Program}
abbrev basTy : Ty := .pair (.int .i64) (.pair .str (.pair (.sl outTy) (.pair txTy .unit)))
def basLens (P : Program) : List TypeId → Bool
  | T :: _ =>
    match P.underlying T with
    | some (.struct fs) => match fs.toList.map (·.type) with
      | [_, _, a, b] => match P.underlying a with
        | some (.slice e) => P.bytesOf e == 24 && txLens P b
        | _ => false
      | _ => false
    | _ => false
  | _ => false
theorem basLens_ok {ps vs : List TypeId} (hp : basLens P ps = true) {N : Nat} {ts : List Ty} {x : dens (basTy :: ts)} {ds gs : List (DataW H)} (hd : RDa (basTy :: ts) x ds) (h : (DataW.weightsEach P (ps ++ vs) (ds ++ gs)).all (· ≤ N) = true) :
    x.1.2.2.1.length * 24 ≤ N ∧ x.1.2.2.2.1.2.1.length * 64 ≤ N ∧ x.1.2.2.2.1.2.2.1.length * 24 ≤ N := by
  obtain ⟨d0, r0, rfl, h0, _⟩ := hd
  match ps, hp with
  | T :: Ts, hp =>
    simp only [List.cons_append, DataW.weightsEach, List.all_append, Bool.and_eq_true, List.all_eq_true, decide_eq_true_eq] at h
    have hw := h.1
    simp only [basLens] at hp
    split at hp
    · rename_i fs hu
      split at hp
      · rename_i T0 T1 a b hf
        split at hp
        · rename_i e ha
          simp only [Bool.and_eq_true, beq_iff_eq] at hp
          obtain ⟨d1, r1, rfl, _, d2, r2, hd2, _, d3, r3, hd3, h3, d4, r4, hd4, h4, _⟩ := h0
          cases hd2
          cases hd3
          cases hd4
          simp only [DataW.weights, hu, hf, DataW.weightsEach, List.mem_append] at hw
          have q1 := sl_len ha h3 fun w hw' => hw w (.inr (.inr (.inl hw')))
          have q2 := txLens_ok hp.2 h4 fun w hw' => hw w (.inr (.inr (.inr (.inl hw'))))
          rw [hp.1] at q1
          exact ⟨q1, q2⟩
        · cases hp
      · cases hp
    · cases hp
end Go.Am
