/- A part of a proof: a machine of abstract values that tells what functions of the program compute, and the plain facts on them. -/
import Derived.Test.YtnibopdcpbebcaaAm7
import Derived.Test.YtnibopdcpbebcaaAm12
import Derived.Test.YtnibopdcpbebcaaAm9
import Derived.KernelRfl
set_option linter.unusedVariables false
set_option linter.unusedSimpArgs false
set_option linter.unnecessarySimpa false
set_option linter.unusedSectionVars false
/- What the rows on transactions share. -/
namespace Go.Am
open Go

abbrev inTy : Ty := .pair (.pair (.arr 32 (.int .u8)) (.pair (.int .u32) .unit)) (.pair .str (.pair (.int .u32) .unit))
abbrev outTy : Ty := .pair (.int .u64) (.pair .str .unit)
abbrev txTy : Ty := .pair (.int .u32) (.pair (.sl inTy) (.pair (.sl outTy) (.pair (.int .u32) .unit)))
theorem hash_wf {N : Nat} {l : List Int} (h : WF N (.arr 32 (.int .u8)) l) : l.length = 32 ∧ bytesIn l :=
  ⟨h.1, all_getD (p := fun x => 0 ≤ x ∧ x < 256) fun i hi => by
    have := wf_u8 (h.2 i (by have := h.1; omega))
    have e : l.getD i (Ty.zero (.int .u8)) = l.getD i 0 := rfl
    rw [e] at this
    omega⟩
theorem u32_wf {N : Nat} {x : Int} (h : WF N (.int .u32) x) : u32R x := wf_u32 h
theorem inOK_of {N : Nat} {x : TIn} (h : WF N inTy x) : InOK x := ⟨hash_wf h.1.1, u32_wf (N := N) h.1.2.1, u32_wf (N := N) h.2.2.1⟩
theorem outOK_of {N : Nat} {x : TOut} (h : WF N outTy x) : OutOK x := wf_u64 h.1
theorem txOK_of {N : Nat} (hN : N ≤ 140737488355328) {t : TTx} (h : WF N txTy t) : TxOK t where
  v := u32_wf (N := N) h.1
  tm := u32_wf (N := N) h.2.2.2.1
  ins := fun i hi => inOK_of (h.2.1.2 i hi)
  outs := fun i hi => outOK_of (h.2.2.1.2 i hi)
  nin := Nat.le_trans h.2.1.1 hN
  nout := Nat.le_trans h.2.2.1.1 hN
end Go.Am
/- What the weights say of a slice's length. -/
namespace Go.Am
open Go
variable {H : Type} {P : Program}
theorem sl_len {T e : TypeId} {N : Nat} {t : Ty} {xs : (Ty.sl t).den} {d : DataW H} (hu : P.underlying T = some (.slice e)) (hr : RD (.sl t) xs d) (hw : ∀ w ∈ d.weights P T, w ≤ N) : xs.length * P.bytesOf e ≤ N := by
  rcases hr with ⟨rfl, rfl⟩ | ⟨es, sp, rfl, h1, h2⟩
  · simp
  · simp only [DataW.weights, hu] at hw
    have h3 := hw ((es.length + sp.length) * P.bytesOf e) (by simp)
    have h4 : es.length * P.bytesOf e ≤ (es.length + sp.length) * P.bytesOf e := Nat.mul_le_mul_right _ (Nat.le_add_right _ _)
    rw [show xs.length = es.length by first | exact h1 | exact h1.symm]
    exact Nat.le_trans h4 h3
theorem tx_len {T T0 T1 T2 T3 e1 e2 : TypeId} {fs : Array Field} {N : Nat} {t : TTx} {d : DataW H} (hu : P.underlying T = some (.struct fs)) (hf : fs.toList.map (·.type) = [T0, T1, T2, T3])
    (h1 : P.underlying T1 = some (.slice e1)) (h2 : P.underlying T2 = some (.slice e2)) (hr : RD txTy t d) (hw : ∀ w ∈ d.weights P T, w ≤ N) : t.2.1.length * P.bytesOf e1 ≤ N ∧ t.2.2.1.length * P.bytesOf e2 ≤ N := by
  obtain ⟨d0, r0, rfl, _, d1, r1, hd1, hr1, d2, r2, hd2, hr2, _⟩ := hr
  cases hd1
  cases hd2
  simp only [DataW.weights, hu, hf, DataW.weightsEach, List.mem_append] at hw
  exact ⟨sl_len h1 hr1 fun w h => hw w (.inr (.inl h)), sl_len h2 hr2 fun w h => hw w (.inr (.inr (.inl h)))⟩
/-- The weights of the second of some arguments. -/
theorem each_snd {T0 T1 : TypeId} {Ts : List TypeId} {d0 d1 : DataW H} {ds gs : List (DataW H)} {ps vs : List TypeId} (hp : ps = T0 :: T1 :: Ts) {N : Nat} (h : (DataW.weightsEach P (ps ++ vs) ((d0 :: d1 :: ds) ++ gs)).all (· ≤ N) = true) : ∀ w ∈ d1.weights P T1, w ≤ N := by
  subst hp
  simp only [List.cons_append, DataW.weightsEach, List.all_append, Bool.and_eq_true, List.all_eq_true, decide_eq_true_eq] at h
  exact h.2.1
/-- Is a type a transaction's, its inputs of 64 bytes and its outputs of 24? -/
def txLens (P : Program) (T : TypeId) : Bool :=
  match P.underlying T with
  | some (.struct fs) => match fs.toList.map (·.type) with
    | [_, a, b, _] => match P.underlying a, P.underlying b with
      | some (.slice e1), some (.slice e2) => P.bytesOf e1 == 64 && P.bytesOf e2 == 24
      | _, _ => false
    | _ => false
  | _ => false
theorem txLens_ok {T : TypeId} (h : txLens P T = true) {N : Nat} {t : TTx} {d : DataW H} (hr : RD txTy t d) (hw : ∀ w ∈ d.weights P T, w ≤ N) : t.2.1.length * 64 ≤ N ∧ t.2.2.1.length * 24 ≤ N := by
  unfold txLens at h
  split at h
  · rename_i fs hu
    split at h
    · rename_i T0 a b T3 hf
      split at h
      · rename_i e1 e2 h1 h2
        simp only [Bool.and_eq_true, beq_iff_eq] at h
        have := tx_len hu hf h1 h2 hr hw
        rw [h.1, h.2] at this
        exact this
      · cases h
    · cases h
  · cases h
def sndLens (P : Program) : List TypeId → Bool
  | _ :: T1 :: _ => txLens P T1
  | _ => false
theorem sndLens_ok {ps vs : List TypeId} (hp : sndLens P ps = true) {N : Nat} {ts : List Ty} {t0 : Ty} {x : dens (t0 :: txTy :: ts)} {ds gs : List (DataW H)} (hd : RDa (t0 :: txTy :: ts) x ds) (h : (DataW.weightsEach P (ps ++ vs) (ds ++ gs)).all (· ≤ N) = true) : x.2.1.2.1.length * 64 ≤ N ∧ x.2.1.2.2.1.length * 24 ≤ N := by
  obtain ⟨d0, r0, rfl, h0, d1, r1, rfl, h1, _⟩ := hd
  match ps, hp with
  | T0 :: T1 :: Ts, hp => exact txLens_ok hp h1 (each_snd rfl h)
end Go.Am
/- Genesis meets its target. -/
namespace Go.Am
open Go
theorem awake11 : bedrocklaw11_awake 140737488355328 = some (true, ()) := by kernel_rfl
end Go.Am
/- Blocks: transactions as the document has them, heights, rewards. -/
namespace Go.Am
open Go

theorem one_eq {k : Nat} {t : TTx} (h1 : t.2.1.length ≤ 2199023255552) (h2 : t.2.2.1.length ≤ 5864062014805) (hk : t.2.1.length + t.2.2.1.length + 1 ≤ k) : bedrocklaw11_one k t = some (gTx t, ()) := by
  obtain ⟨v, ins, outs, tm, u⟩ := t
  dsimp only at h1 h2 hk
  unfold bedrocklaw11_one bedrocklaw11_one.c
  dsimp only
  have l0 : bedrocklaw11_one.l0 k k ((0 : Int), (v, ins, outs, tm, ()), (0, (), (), 0, ()), (v, (), (), tm, ()), [], ()) = some ((v, ins, outs, tm, ()), (0, (), (), 0, ()), (v, (), (), tm, ()), ins.map gIn, ()) := by
    have := loop_from0 (r := bedrocklaw11_one.l0.r k) (fun i => ((i : Int), (v, ins, outs, tm, ()), (0, (), (), 0, ()), (v, (), (), tm, ()), (ins.take i).map gIn, ())) ins.length
      ((v, ins, outs, tm, ()), (0, (), (), 0, ()), (v, (), (), tm, ()), ins.map gIn, ()) ?_ ?_ (fuel := k) (by omega)
    · exact this
    · intro i h kn ke
      simp only [bedrocklaw11_one.l0.r]
      rw [dIn_eq, bif_yes (by omega), bif_yes (by omega), bif_yes (by omega), bif_yes (by omega), bif_yes (by omega), show (i : Int).toNat = i by omega,
        cond_true' (ble_of (by simp only [List.length_set, List.length_replicate, List.length_map, List.length_take]; omega)), i64_in (by omega)]
      have e : ∀ d : RIn, List.set (List.replicate 1 d) 0 ((ins.getD i dIn).1.1, (ins.getD i dIn).1.2.1, (ins.getD i dIn).2.1, (ins.getD i dIn).2.2.1, ()) = [gIn (ins.getD i dIn)] := fun _ => rfl
      rw [e, take_snoc gIn ins dIn h]
      rfl
    · intro kn ke
      simp only [bedrocklaw11_one.l0.r]
      rw [bif_no (by omega), List.take_length]
  rw [l0]
  simp only [Option.bind_some]
  have l1 : bedrocklaw11_one.l1 k k ((0 : Int), (v, ins, outs, tm, ()), (0, (), (), 0, ()), (v, (), (), tm, ()), ins.map gIn, [], ()) = some ((0, (), (), 0, ()), (v, (), (), tm, ()), ins.map gIn, outs, ()) := by
    have := loop_from0 (r := bedrocklaw11_one.l1.r k) (fun i => ((i : Int), (v, ins, outs, tm, ()), (0, (), (), 0, ()), (v, (), (), tm, ()), ins.map gIn, (outs.take i).map id, ())) outs.length
      ((0, (), (), 0, ()), (v, (), (), tm, ()), ins.map gIn, outs, ()) ?_ ?_ (fuel := k) (by omega)
    · exact this
    · intro i h kn ke
      simp only [bedrocklaw11_one.l1.r]
      rw [dOut_eq, bif_yes (by omega), bif_yes (by omega), bif_yes (by omega), show (i : Int).toNat = i by omega,
        cond_true' (ble_of (by simp only [List.length_set, List.length_replicate, List.length_map, List.length_take]; omega)), i64_in (by omega)]
      have e : ∀ d : TOut, List.set (List.replicate 1 d) 0 ((outs.getD i dOut).1, (outs.getD i dOut).2.1, ()) = [id (outs.getD i dOut)] := fun _ => rfl
      rw [e, take_snoc id outs dOut h]
      rfl
    · intro kn ke
      simp only [bedrocklaw11_one.l1.r]
      rw [bif_no (by omega), List.take_length, List.map_id]
  rw [l1]
  rfl

/-- Is it a coinbase? -/
def isBase (t : TTx) : Bool := decide (t.2.1.length = 1) && (decide ((t.2.1.getD 0 dIn).1.1 = List.replicate 32 (0 : Int)) && ((t.2.1.getD 0 dIn).1.2.1 == (4294967295 : Int)))
theorem isCoinbase_eq (k : Nat) (t : TTx) : block_IsCoinbase k t = some (isBase t, ()) := by
  unfold block_IsCoinbase block_IsCoinbase.c isBase
  dsimp only
  by_cases h : t.2.1.length = 1
  · rw [h, decide_eq_true rfl, Bool.true_and, dIn_eq, Bool.and_true]
    rfl
  · rw [decide_eq_false h, Bool.false_and, cond_false' (by rw [beq_eq_false_iff_ne]; omega)]
theorem ref10_Base_eq (k : Nat) (t : TTx) : bedrockref10_Base k (gTx t) = some (isBase t, ()) := by
  unfold bedrockref10_Base bedrockref10_Base.c isBase
  dsimp only
  rw [show (gTx t).2.1 = t.2.1.map gIn from rfl, List.length_map]
  by_cases h : t.2.1.length = 1
  · rw [h, decide_eq_true rfl, Bool.true_and, dR_eq, gIn_getD (by omega)]
    by_cases h2 : (t.2.1.getD 0 dIn).1.1 = List.replicate 32 (0 : Int)
    · show (bif decide ((t.2.1.getD 0 dIn).1.1 = List.replicate 32 (0 : Int)) then _ else _) = _
      rw [decide_eq_true h2]
      rfl
    · show (bif decide ((t.2.1.getD 0 dIn).1.1 = List.replicate 32 (0 : Int)) then _ else _) = _
      rw [decide_eq_false h2]
      rfl
  · rw [decide_eq_false h, Bool.false_and, cond_false' (by rw [beq_eq_false_iff_ne]; omega)]

/-- The height that a coinbase names. -/
def keyNum (s : ByteArray) : Int := leI ((ofBytes s).take 4)
def heightS (t : TTx) : Int × Bool :=
  if isBase t = true then (if (t.2.1.getD 0 dIn).2.1.size < 4 then (0, false) else if keyNum (t.2.1.getD 0 dIn).2.1 > 2147483647 then (0, false) else (keyNum (t.2.1.getD 0 dIn).2.1, true)) else (0, false)
theorem isBase_len {t : TTx} (h : isBase t = true) : t.2.1.length = 1 := by
  unfold isBase at h
  simp only [Bool.and_eq_true, decide_eq_true_eq] at h
  exact h.1
theorem keyNum_range (s : ByteArray) : 0 ≤ keyNum s ∧ keyNum s < 4294967296 := by
  have := leI_lt (l := (ofBytes s).take 4) (m := 4) (fun x hx => ofBytes_in' s x (List.mem_of_mem_take hx)) (by rw [List.length_take]; omega)
  exact this
theorem ofBytes_ext4 {s : ByteArray} (h : 4 ≤ s.size) : ofBytes (s.extract 0 4) = (ofBytes s).take 4 := by
  rw [ofBytes_extract]
  simp
theorem block_Height_eq {k : Nat} (hk : 9 ≤ k) {t : TTx} (hs : (t.2.1.getD 0 dIn).2.1.size ≤ 140737488351232) : block_Height k t = some ((heightS t).1, (heightS t).2, ()) := by
  unfold block_Height block_Height.c
  show (block_IsCoinbase k t).bind _ = _
  rw [isCoinbase_eq]
  simp only [Option.bind_some]
  unfold heightS
  by_cases h : isBase t = true
  · have hl := isBase_len h
    rw [h, Bool.not_true, cond_false, if_pos rfl, bif_yes (by omega), dIn_eq]
    generalize (t.2.1.getD 0 dIn).2.1 = s at hs ⊢
    show (num_Reader_U32 k (s, 0, 0, ())).bind _ = _
    rw [u32_eq hk ⟨hs, by simp, by simp⟩]
    simp only [Option.bind_some]
    generalize hr : takeS (s, 0, 0, ()) 4 = r at *
    show (bif (r.1.2.2.1 != 0) then _ else _) = _
    unfold takeS at hr
    rw [if_neg (by simp), if_neg (by omega)] at hr
    by_cases h4 : s.size < 4
    · rw [if_pos (by show (4 : Int) > (s.size : Int) - 0; omega)] at hr
      rw [← hr, if_pos h4]
      rfl
    · rw [if_neg (by show ¬ (4 : Int) > (s.size : Int) - 0; omega)] at hr
      have hn : numS (s, 0, 0, ()) 4 = keyNum s := by
        unfold numS keyNum takeS
        rw [if_neg (by simp), if_neg (by omega), if_neg (by show ¬ (4 : Int) > (s.size : Int) - 0; omega)]
        show leI (ofBytes (s.extract 0 4)) = _
        rw [ofBytes_ext4 (by omega)]
      have hb := keyNum_range s
      rw [← hr, if_neg h4, hn]
      show (bif decide (keyNum s > 2147483647) then _ else _) = _
      by_cases h5 : keyNum s > 2147483647
      · rw [bif_yes h5, if_pos h5]
      · rw [bif_no h5, if_neg h5, i64_in (by omega)]
  · rw [if_neg h, show isBase t = false by simpa using h]
    rfl
theorem ref11_Height_eq {k : Nat} (hk : 9 ≤ k) (t : TTx) : bedrockref11_Height k (gTx t) = some ((heightS t).1, (heightS t).2, ()) := by
  unfold bedrockref11_Height bedrockref11_Height.c
  dsimp only
  have hp : bedrockref11_Height.p0 k (gTx t, ()) = some (if isBase t = true ∧ ¬ (t.2.1.getD 0 dIn).2.1.size < 4 then .inr (gTx t, ()) else .inl (0, false, ())) := by
    unfold bedrockref11_Height.p0
    simp only [bedrockref11_Height.p0.r]
    show (bedrockref10_Base k (gTx t)).bind _ = _
    rw [ref10_Base_eq]
    simp only [Option.bind_some]
    by_cases h : isBase t = true
    · have hl := isBase_len h
      rw [h, Bool.not_true, cond_false, show (gTx t).2.1 = t.2.1.map gIn from rfl, bif_yes (by rw [List.length_map]; omega), dR_eq, gIn_getD (by omega)]
      show (bif decide (((t.2.1.getD 0 dIn).2.1.size : Int) < 4) then _ else _) = _
      by_cases h4 : (t.2.1.getD 0 dIn).2.1.size < 4
      · rw [bif_yes (by omega), if_neg (fun g => g.2 h4)]
      · rw [bif_no (by omega), if_pos ⟨rfl, h4⟩]
        rfl
    · rw [if_neg (fun g => h g.1), show isBase t = false by simpa using h]
      rfl
  show (bedrockref11_Height.p0 k (gTx t, ())).bind _ = _
  rw [hp]
  simp only [Option.bind_some]
  unfold heightS
  by_cases h : isBase t = true
  · rw [if_pos h]
    have hl := isBase_len h
    by_cases h4 : (t.2.1.getD 0 dIn).2.1.size < 4
    · rw [if_neg (fun g => g.2 h4), if_pos h4]
    · rw [if_pos ⟨h, h4⟩, if_neg h4]
      dsimp only
      rw [show (gTx t).2.1 = t.2.1.map gIn from rfl, bif_yes (by rw [List.length_map]; omega), dR_eq, gIn_getD (by omega)]
      show (bif decide ((0 : Int) ≤ 0 ∧ (0 : Int) ≤ 4 ∧ (4 : Int) ≤ ((t.2.1.getD 0 dIn).2.1.size : Int)) then (bedrockref01_Get k ((t.2.1.getD 0 dIn).2.1.extract 0 4)).bind _ else _) = _
      generalize (t.2.1.getD 0 dIn).2.1 = s at h4 ⊢
      have hb := keyNum_range s
      rw [bif_yes (by omega), bedrockref01_Get_eq hk _ (by rw [ByteArray.size_extract]; omega), ofBytes_ext4 (by omega)]
      simp only [Option.bind_some]
      show (bif decide (keyNum s > 2147483647) then _ else some (IntKind.i64.wrap (keyNum s), true, ())) = _
      by_cases h5 : keyNum s > 2147483647
      · rw [bif_yes h5, if_pos h5]
      · rw [bif_no h5, if_neg h5, i64_in (n := keyNum s) (by omega)]
  · rw [if_neg (fun g => h g.1), if_neg h]

/-- What a block makes. -/
def rewS (h : Int) : Int := if h < 0 then 0 else 5000 / 2 ^ (h / 64).toNat
theorem half_zero (n : Nat) (hn : 13 ≤ n) : (5000 : Int) / 2 ^ n = 0 := by
  refine Int.ediv_eq_zero_of_lt (by omega) ?_
  have h1 : (2 : Nat) ^ 13 ≤ 2 ^ n := Nat.pow_le_pow_right (n := 2) (by omega) hn
  have h2 : ((2 ^ n : Nat) : Int) = (2 : Int) ^ n := by simp
  omega
theorem shr_5000 (j : Nat) : shrOp .u64 5000 (j : Int) = 5000 / 2 ^ j := by
  unfold shrOp
  rw [Int.toNat_natCast, Int.fdiv_eq_ediv_of_nonneg _ (Int.le_of_lt (Int.pow_pos (by omega)))]
  by_cases h : j ≤ IntKind.u64.bits
  · rw [Nat.min_eq_left h]
  · have h64 : IntKind.u64.bits = 64 := rfl
    rw [half_zero j (by omega), half_zero _ (by omega)]
theorem block_Reward_eq (k : Nat) {h : Int} (hh : -9223372036854775808 ≤ h ∧ h ≤ 9223372036854775807) : block_Reward k h = some (rewS h, ()) := by
  unfold block_Reward block_Reward.c rewS
  by_cases h0 : h < 0
  · rw [bif_yes h0, if_pos h0]
  · rw [bif_no h0, if_neg h0, Int.tdiv_eq_ediv_of_nonneg (by omega), i64_in (by omega)]
    dsimp only
    rw [bif_yes (by omega), show h / 64 = (((h / 64).toNat : Nat) : Int) by omega, shr_5000]
    rfl
theorem half_step (n : Nat) : (5000 : Int) / 2 ^ n / 2 = 5000 / 2 ^ (n + 1) := by
  rw [Int.pow_succ, Int.ediv_ediv_of_nonneg (Int.le_of_lt (Int.pow_pos (by decide)))]
theorem ref11_Reward_eq {k : Nat} (hk : 20 ≤ k) {h : Int} (hh : -9223372036854775808 ≤ h ∧ h ≤ 9223372036854775807) : bedrockref11_Reward k h = some (rewS h, ()) := by
  unfold bedrockref11_Reward bedrockref11_Reward.c rewS
  by_cases h0 : h < 0
  · rw [bif_yes h0, if_pos h0]
  · rw [bif_no h0, if_neg h0]
    have hz := half_zero
    have hps : ∀ i, i < 13 → (0 : Int) < 5000 / 2 ^ i := by decide
    have l0 : bedrockref11_Reward.l0 k k (h, (5000 : Int), (0 : Int), ()) = some (5000 / 2 ^ (h / 64).toNat, ()) := by
      have key : ∀ (d i fuel : Nat), i + d = min (h / 64).toNat 13 → d < fuel → loopJ (bedrockref11_Reward.l0.r k) fuel (h, (5000 : Int) / 2 ^ i, (i : Int), ()) = some (5000 / 2 ^ (h / 64).toNat, ()) := by
        intro d
        induction d with
        | zero =>
          intro i fuel hi hf
          obtain ⟨f, rfl⟩ : ∃ f, fuel = f + 1 := ⟨fuel - 1, by omega⟩
          show bedrockref11_Reward.l0.r k _ (loopJ (bedrockref11_Reward.l0.r k) f) some = _
          simp only [bedrockref11_Reward.l0.r]
          rw [Int.tdiv_eq_ediv_of_nonneg (by omega), i64_in (by omega)]
          by_cases c : (i : Int) < h / 64
          · have hi13 : i = 13 := by omega
            rw [bif_yes c, hz i (by omega), bif_no (by omega), hz _ (by omega)]
          · rw [bif_no c, show i = (h / 64).toNat by omega]
        | succ d ih =>
          intro i fuel hi hf
          obtain ⟨f, rfl⟩ : ∃ f, fuel = f + 1 := ⟨fuel - 1, by omega⟩
          show bedrockref11_Reward.l0.r k _ (loopJ (bedrockref11_Reward.l0.r k) f) some = _
          simp only [bedrockref11_Reward.l0.r]
          have hpos := hps i (by omega)
          have hle : (5000 : Int) / 2 ^ i ≤ 5000 := Int.ediv_le_self _ (by omega)
          rw [Int.tdiv_eq_ediv_of_nonneg (by omega), i64_in (by omega), bif_yes (by omega), bif_yes hpos, Int.tdiv_eq_ediv_of_nonneg (by omega), half_step]
          have hle2 : (5000 : Int) / 2 ^ (i + 1) ≤ 5000 := Int.ediv_le_self _ (by omega)
          have hge2 : (0 : Int) ≤ 5000 / 2 ^ (i + 1) := Int.ediv_nonneg (by omega) (Int.le_of_lt (Int.pow_pos (by decide)))
          rw [u64_in (by omega), i64_in (by omega)]
          exact ih (i + 1) f (by omega) (by omega)
      have := key (min (h / 64).toNat 13) 0 k (by omega) (by omega)
      rw [Int.pow_zero, Int.ediv_one] at this
      exact this
    rw [l0]
    rfl
end Go.Am
/- Blocks: the root of ids. -/
namespace Go.Am
open Go

abbrev zH : List Int := List.replicate 32 (0 : Int)
/-- The digest of two ids. -/
def pairS (a b : List Int) : List Int := sumL (sumL (a ++ b))
def isH (l : List Int) : Prop := l.length = 32 ∧ bytesIn l
theorem zH_isH : isH zH := ⟨rfl, fun x hx => by have := List.eq_of_mem_replicate hx; omega⟩
theorem sumL_isH (a : List Int) : isH (sumL a) := ⟨sumL_length a, fun x hx => by have := sumL_in a x hx; omega⟩
theorem take_drop32 {l : List Int} (h : l.length = 32) : (l.drop 0).take 32 = l := by rw [List.drop_zero, List.take_of_length_le (by omega)]
theorem merkle_Pair_eq {k : Nat} (hk : 300 ≤ k) {a b : List Int} (ha : isH a) (hb : isH b) : merkle_Pair k a b = some (pairS a b, ()) := by
  unfold merkle_Pair merkle_Pair.c pairS
  dsimp only
  have h1 := ha.1
  have h2 := hb.1
  rw [take_drop32 ha.1, take_drop32 hb.1, cond_true' (ble_of (by rw [bytesOf_size, bytesOf_size]; omega)), bytesOf_append, sha_Twice_eq (by omega) (by rw [bytesOf_size, List.length_append]; omega) (by rw [bytesOf_size, List.length_append]; omega)]
  simp only [Option.bind_some]
  rw [ofBytes_bytesOf (fun x hx => (List.mem_append.1 hx).elim (ha.2 x) (hb.2 x))]
theorem ref06_Pair_eq {k : Nat} (hk : 300 ≤ k) {a b : List Int} (ha : isH a) (hb : isH b) : bedrockref06_Pair k a b = some (pairS a b, ()) := by
  unfold bedrockref06_Pair bedrockref06_Pair.c pairS
  dsimp only
  have h1 := ha.1
  have h2 := hb.1
  rw [take_drop32 ha.1, take_drop32 hb.1, cond_true' (ble_of (by rw [bytesOf_size, bytesOf_size]; omega)), bytesOf_append, ref_Twice_eq (by omega) (by rw [bytesOf_size, List.length_append]; omega) (by rw [bytesOf_size, List.length_append]; omega)]
  simp only [Option.bind_some]
  rw [ofBytes_bytesOf (fun x hx => (List.mem_append.1 hx).elim (ha.2 x) (hb.2 x))]

/-- The next level, its first j ids; do two of the first j pairs stand together that are the same? -/
def nxtE (l : List (List Int)) (j : Nat) : List Int := pairS (l.getD (2 * j) zH) (l.getD (min (2 * j + 1) (l.length - 1)) zH)
def nxtN (l : List (List Int)) (n : Nat) : List (List Int) := (List.range n).map (nxtE l)
def nxt (l : List (List Int)) : List (List Int) := nxtN l ((l.length + 1) / 2)
def mutN (l : List (List Int)) (m : Bool) : Nat → Bool
  | 0 => m
  | j + 1 => mutN l m j || decide (2 * j + 1 < l.length ∧ l.getD (2 * j) zH = l.getD (2 * j + 1) zH)
def mutS (l : List (List Int)) (m : Bool) : Bool := mutN l m ((l.length + 1) / 2)
theorem nxtN_succ (l : List (List Int)) (j : Nat) : nxtN l j ++ [nxtE l j] = nxtN l (j + 1) := by unfold nxtN; rw [List.range_succ, List.map_append]; rfl
theorem nxtN_length (l : List (List Int)) (j : Nat) : (nxtN l j).length = j := by unfold nxtN; simp
theorem nxt_length (l : List (List Int)) : (nxt l).length = (l.length + 1) / 2 := nxtN_length _ _
def allH (l : List (List Int)) : Prop := ∀ i, i < l.length → isH (l.getD i zH)
theorem nxt_allH (l : List (List Int)) : allH (nxt l) := by
  intro i hi
  rw [nxt_length] at hi
  unfold nxt nxtN
  rw [List.getD_eq_getElem?_getD, List.getElem?_map, List.getElem?_range hi]
  exact sumL_isH _
theorem set_one32 (a : List Int) : List.set (List.replicate 1 (List.replicate 32 (0 : Int))) 0 a = [a] := rfl

theorem merkle_above_eq {k : Nat} {l : List (List Int)} (hl : allH l) (hb : l.length ≤ 2199023255552) (hk : l.length + 300 ≤ k) : merkle_above k l = some (nxt l, ()) := by
  unfold merkle_above merkle_above.c
  have l0 : merkle_above.l0 k k (l, (0 : Int), [], ()) = some (nxt l, ()) := by
    have := loop_from0 (r := merkle_above.l0.r k) (fun j => (l, ((2 * j : Nat) : Int), nxtN l j, ())) ((l.length + 1) / 2) (nxt l, ()) ?_ ?_ (fuel := k) (by omega)
    · exact this
    · intro j hj kn ke
      simp only [merkle_above.l0.r]
      rw [bif_yes (by omega), bif_yes (by omega), i64_in (by omega), i64_in (by omega)]
      have e : (if ((l.length : Int) - 1 < ((2 * j : Nat) : Int) + 1) then (l.length : Int) - 1 else ((2 * j : Nat) : Int) + 1) = ((min (2 * j + 1) (l.length - 1) : Nat) : Int) := by split <;> omega
      rw [e, bif_yes (by omega), Int.toNat_natCast, Int.toNat_natCast, merkle_Pair_eq (by omega) (hl _ (by omega)) (hl _ (by omega))]
      simp only [Option.bind_some]
      rw [set_one32, cond_true' (ble_of (by rw [nxtN_length, List.length_singleton]; omega)), i64_in (by omega)]
      show kn (l, ((2 * j : Nat) : Int) + 2, nxtN l j ++ [nxtE l j], ()) = _
      rw [nxtN_succ, show ((2 * j : Nat) : Int) + 2 = ((2 * (j + 1) : Nat) : Int) by omega]
    · intro kn ke
      simp only [merkle_above.l0.r]
      rw [bif_no (by omega)]
      rfl
  rw [l0]
  rfl

theorem ref06_Next_eq {k : Nat} {l : List (List Int)} (hl : allH l) (hb : l.length ≤ 2199023255552) (hk : l.length + 300 ≤ k) : bedrockref06_Next k l = some (nxt l, mutS l false, ()) := by
  unfold bedrockref06_Next bedrockref06_Next.c
  have l0 : bedrockref06_Next.l0 k k (l, false, (0 : Int), List.replicate 0 (List.replicate 32 (0 : Int)), ()) = some (mutS l false, nxt l, ()) := by
    have := loop_from0 (r := bedrockref06_Next.l0.r k) (fun j => (l, mutN l false j, ((2 * j : Nat) : Int), nxtN l j, ())) ((l.length + 1) / 2) (mutS l false, nxt l, ()) ?_ ?_ (fuel := k) (by omega)
    · exact this
    · intro j hj kn ke
      simp only [bedrockref06_Next.l0.r]
      rw [bif_yes (by omega), i64_in (by omega)]
      have n1 : isH (l.getD (2 * j) zH) := hl _ (by omega)
      by_cases c : 2 * j + 1 = l.length
      · rw [cond_true' (by rw [beq_iff_eq]; omega), bif_yes (by omega), bif_yes (by omega), Int.toNat_natCast, ref06_Pair_eq (by omega) n1 n1]
        simp only [Option.bind_some]
        rw [set_one32, cond_true' (ble_of (by rw [nxtN_length, List.length_singleton]; omega)), i64_in (by omega)]
        have e1 : nxtE l j = pairS (l.getD (2 * j) zH) (l.getD (2 * j) zH) := by unfold nxtE; rw [show min (2 * j + 1) (l.length - 1) = 2 * j by omega]
        have e2 : mutN l false (j + 1) = mutN l false j := by simp only [mutN]; rw [decide_eq_false (fun g => by omega), Bool.or_false]
        rw [e2, ← nxtN_succ, e1, show ((2 * (j + 1) : Nat) : Int) = ((2 * j : Nat) : Int) + 2 by omega]
      · have n2 : isH (l.getD (2 * j + 1) zH) := hl _ (by omega)
        have e1 : nxtE l j = pairS (l.getD (2 * j) zH) (l.getD (2 * j + 1) zH) := by unfold nxtE; rw [show min (2 * j + 1) (l.length - 1) = 2 * j + 1 by omega]
        have et : (((2 * j : Nat) : Int) + 1).toNat = 2 * j + 1 := by omega
        rw [cond_false' (by rw [beq_eq_false_iff_ne]; omega)]
        cases hm : mutN l false j with
        | true =>
          rw [cond_true, bif_yes (by omega), bif_yes (by omega), et, Int.toNat_natCast, ref06_Pair_eq (by omega) n1 n2]
          simp only [Option.bind_some]
          rw [set_one32, cond_true' (ble_of (by rw [nxtN_length, List.length_singleton]; omega)), i64_in (by omega)]
          have e2 : mutN l false (j + 1) = true := by simp only [mutN]; rw [hm, Bool.true_or]
          rw [e2, ← nxtN_succ, e1, show ((2 * (j + 1) : Nat) : Int) = ((2 * j : Nat) : Int) + 2 by omega]
        | false =>
          rw [cond_false, bif_yes (by omega), bif_yes (by omega), bif_yes (by omega), bif_yes (by omega), et, Int.toNat_natCast, ref06_Pair_eq (by omega) n1 n2]
          simp only [Option.bind_some]
          rw [set_one32, cond_true' (ble_of (by rw [nxtN_length, List.length_singleton]; omega)), i64_in (by omega)]
          have e2 : mutN l false (j + 1) = decide (l.getD (2 * j) zH = l.getD (2 * j + 1) zH) := by
            simp only [mutN]; rw [hm, Bool.false_or]
            exact decide_eq_decide.2 ⟨fun g => g.2, fun g => ⟨by omega, g⟩⟩
          rw [e2, ← nxtN_succ, e1, show ((2 * (j + 1) : Nat) : Int) = ((2 * j : Nat) : Int) + 2 by omega]
    · intro kn ke
      simp only [bedrockref06_Next.l0.r]
      rw [bif_no (by omega)]
      rfl
  rw [l0]
  rfl

/-- All levels above the first; the root, and whether the list is mutated. -/
def levF : Nat → List (List Int) → List (List (List Int))
  | 0, _ => []
  | n + 1, l => if l.length > 1 then nxt l :: levF n (nxt l) else []
def rootF : Nat → List (List Int) → Bool → List Int × Bool
  | 0, l, m => (l.getD 0 zH, m)
  | n + 1, l, m => if l.length > 1 then rootF n (nxt l) (mutS l m) else (l.getD 0 zH, m)
theorem mutN_or (l : List (List Int)) (m : Bool) : ∀ j, mutN l m j = (m || mutN l false j)
  | 0 => by simp [mutN]
  | j + 1 => by simp only [mutN]; rw [mutN_or l m j, Bool.or_assoc]
theorem mutS_or (l : List (List Int)) (m : Bool) : mutS l m = (m || mutS l false) := mutN_or l m _

theorem ref06_Root_eq {k : Nat} {l : List (List Int)} (hl : allH l) (hb : l.length ≤ 2199023255552) (hk : 2 * l.length + 400 ≤ k) : bedrockref06_Root k l = some (if l = [] then (zH, false, ()) else ((rootF l.length l false).1, (rootF l.length l false).2, ())) := by
  unfold bedrockref06_Root bedrockref06_Root.c
  dsimp only
  by_cases h0 : l = []
  · subst h0; rfl
  · have hpos : 0 < l.length := List.length_pos_iff.2 h0
    rw [cond_false' (by rw [beq_eq_false_iff_ne]; omega), if_neg h0]
    have key : ∀ (n : Nat) (l : List (List Int)) (m : Bool) (fuel : Nat), allH l → 0 < l.length → l.length ≤ n + 1 → l.length ≤ 2199023255552 → l.length + 300 ≤ k → n < fuel →
        ∃ l2, loopJ (bedrockref06_Root.l0.r k) fuel (l, m, zH, ()) = some (l2, (rootF n l m).2, zH, ()) ∧ 0 < l2.length ∧ l2.getD 0 zH = (rootF n l m).1 := by
      intro n
      induction n with
      | zero =>
        intro l m fuel _ hp hn _ _ hf
        obtain ⟨f, rfl⟩ : ∃ f, fuel = f + 1 := ⟨fuel - 1, by omega⟩
        refine ⟨l, ?_, hp, rfl⟩
        show bedrockref06_Root.l0.r k _ (loopJ (bedrockref06_Root.l0.r k) f) some = _
        simp only [bedrockref06_Root.l0.r]
        rw [bif_no (by omega)]
        rfl
      | succ n ih =>
        intro l m fuel hl hp hn hb2 hk2 hf
        obtain ⟨f, rfl⟩ : ∃ f, fuel = f + 1 := ⟨fuel - 1, by omega⟩
        show ∃ l2, bedrockref06_Root.l0.r k _ (loopJ (bedrockref06_Root.l0.r k) f) some = _ ∧ _
        simp only [bedrockref06_Root.l0.r, rootF]
        by_cases c : l.length > 1
        · rw [bif_yes (by omega), ref06_Next_eq hl hb2 (by omega), if_pos c]
          simp only [Option.bind_some]
          obtain ⟨l2, h1, h2, h3⟩ := ih (nxt l) (mutS l m) f (nxt_allH l) (by rw [nxt_length]; omega) (by rw [nxt_length]; omega) (by rw [nxt_length]; omega) (by rw [nxt_length]; omega) (by omega)
          refine ⟨l2, ?_, h2, h3⟩
          rw [← h1]
          cases m with
          | true => rw [show mutS l true = true by rw [mutS_or, Bool.true_or]]; rfl
          | false => rfl
        · rw [bif_no (by omega), if_neg c]
          exact ⟨l, rfl, hp, rfl⟩
    obtain ⟨l2, h1, h2, h3⟩ := key l.length l false k hl hpos (by omega) hb (by omega) (by omega)
    show (bedrockref06_Root.l0 k k (l, false, zH, ())).bind _ = _
    unfold bedrockref06_Root.l0
    rw [h1]
    simp only [Option.bind_some]
    rw [bif_yes (by omega), h3]
end Go.Am
/- BlockRoots: the law. -/
namespace Go.Am
open Go

theorem mutN_odd (l : List (List Int)) (m : Bool) : mutS l m = mutN l m (l.length / 2) := by
  unfold mutS
  by_cases h : (l.length + 1) / 2 = l.length / 2
  · rw [h]
  · have e : (l.length + 1) / 2 = l.length / 2 + 1 := by omega
    rw [e]
    simp only [mutN]
    rw [decide_eq_false (fun g => by omega), Bool.or_false]
theorem mutS_one {l : List (List Int)} (h : l.length ≤ 1) (m : Bool) : mutS l m = m := by
  rw [mutN_odd, show l.length / 2 = 0 by omega]
  rfl

theorem clone_eq' {k : Nat} {l : List (List Int)} (h : 1 ≤ l.length) (hb : l.length ≤ 2199023255552) : slices_Clone__api_Hash_api_Hash k l = some (l, ()) := by
  unfold slices_Clone__api_Hash_api_Hash slices_Clone__api_Hash_api_Hash.c
  rw [cond_true' (ble_of h), cond_true' (ble_of (by omega))]
  rfl
theorem set_nil1 (a : List (List Int)) : List.set (List.replicate 1 ([] : List (List Int))) 0 a = [a] := rfl
theorem merkle_Levels_eq {k : Nat} {l : List (List Int)} (hl : allH l) (hb : l.length ≤ 2199023255552) (hk : 2 * l.length + 400 ≤ k) : merkle_Levels k l = some (if l = [] then [] else l :: levF l.length l, ()) := by
  unfold merkle_Levels merkle_Levels.c
  dsimp only
  by_cases h0 : l = []
  · subst h0; rfl
  · have hpos : 0 < l.length := List.length_pos_iff.2 h0
    rw [cond_false' (by rw [beq_eq_false_iff_ne]; omega), if_neg h0, clone_eq' hpos hb]
    simp only [Option.bind_some]
    rw [set_nil1]
    have key : ∀ (n : Nat) (l : List (List Int)) (out : List (List (List Int))) (fuel : Nat), allH l → 0 < l.length → l.length ≤ n + 1 → l.length + out.length ≤ 2199023255553 ∧ 0 < out.length → l.length + 300 ≤ k → n < fuel →
        loopJ (merkle_Levels.l0.r k) fuel (l, out, ()) = some (out ++ levF n l, ()) := by
      intro n
      induction n with
      | zero =>
        intro l out fuel _ hp hn _ _ hf
        obtain ⟨f, rfl⟩ : ∃ f, fuel = f + 1 := ⟨fuel - 1, by omega⟩
        show merkle_Levels.l0.r k _ (loopJ (merkle_Levels.l0.r k) f) some = _
        simp only [merkle_Levels.l0.r]
        rw [bif_no (by omega)]
        simp only [levF, List.append_nil]
      | succ n ih =>
        intro l out fuel hl hp hn hb2 hk2 hf
        obtain ⟨f, rfl⟩ : ∃ f, fuel = f + 1 := ⟨fuel - 1, by omega⟩
        show merkle_Levels.l0.r k _ (loopJ (merkle_Levels.l0.r k) f) some = _
        simp only [merkle_Levels.l0.r, levF]
        by_cases c : l.length > 1
        · rw [bif_yes (by omega), merkle_above_eq hl (by omega) (by omega), if_pos c]
          simp only [Option.bind_some]
          rw [set_nil1, cond_true' (ble_of (by rw [List.length_singleton]; omega)), ih (nxt l) (out ++ [nxt l]) f (nxt_allH l) (by rw [nxt_length]; omega) (by rw [nxt_length]; omega) (by rw [nxt_length, List.length_append, List.length_singleton]; omega) (by rw [nxt_length]; omega) (by omega)]
          rw [List.append_assoc]
          rfl
        · rw [bif_no (by omega), if_neg c, List.append_nil]
    have := key l.length l [l] k hl hpos (by omega) (by rw [List.length_singleton]; omega) (by omega) (by omega)
    show (merkle_Levels.l0 k k (l, [l], ())).bind _ = _
    unfold merkle_Levels.l0
    rw [this]
    rfl

theorem levF_mem : ∀ (n : Nat) (l : List (List Int)), allH l → ∀ x ∈ levF n l, allH x ∧ x.length ≤ l.length
  | 0, _, _, x, hx => by simp [levF] at hx
  | n + 1, l, hl, x, hx => by
    simp only [levF] at hx
    split at hx
    · rcases List.mem_cons.1 hx with rfl | hx
      · exact ⟨nxt_allH l, by rw [nxt_length]; omega⟩
      · have := levF_mem n (nxt l) (nxt_allH l) x hx
        rw [nxt_length] at this
        exact ⟨this.1, by omega⟩
    · simp at hx
theorem levF_length : ∀ (n : Nat) (l : List (List Int)), (levF n l).length ≤ n
  | 0, _ => Nat.le_refl _
  | n + 1, l => by
    simp only [levF]
    split
    · have := levF_length n (nxt l)
      simp only [List.length_cons]; omega
    · exact Nat.zero_le _
theorem rootF_lev : ∀ (n : Nat) (l : List (List Int)) (m : Bool), 0 < l.length → l.length ≤ n + 1 →
    rootF n l m = (((l :: levF n l).getLast (by simp)).getD 0 zH, (l :: levF n l).foldl (fun m l => mutS l m) m) ∧ 0 < ((l :: levF n l).getLast (by simp)).length
  | 0, l, m, hp, hn => by
    simp only [rootF, levF, List.getLast_singleton, List.foldl_cons, List.foldl_nil]
    rw [mutS_one (by omega)]
    exact ⟨rfl, hp⟩
  | n + 1, l, m, hp, hn => by
    simp only [rootF, levF]
    by_cases c : l.length > 1
    · simp only [if_pos c]
      have ih := rootF_lev n (nxt l) (mutS l m) (by rw [nxt_length]; omega) (by rw [nxt_length]; omega)
      rw [List.getLast_cons (by simp)]
      exact ih
    · simp only [if_neg c, List.getLast_singleton, List.foldl_cons, List.foldl_nil]
      rw [mutS_one (by omega)]
      exact ⟨rfl, hp⟩

theorem merkle_Root_l1 {k : Nat} {m : Bool} {A B : List (List (List Int))} {l : List (List Int)} {n i : Int} {z : List Int} (hb : l.length ≤ 2199023255552) (hk : l.length + 10 ≤ k) :
    merkle_Root.l1 k k (m, A, l, (0 : Int), B, n, i, z, ()) = some (mutS l m, A, B, n, i, z, ()) := by
  have := loop_from0 (r := merkle_Root.l1.r k) (fun j => (mutN l m j, A, l, ((2 * j : Nat) : Int), B, n, i, z, ())) (l.length / 2) (mutS l m, A, B, n, i, z, ()) ?_ ?_ (fuel := k) (by omega)
  · exact this
  · intro j hj kn ke
    simp only [merkle_Root.l1.r]
    rw [i64_in (n := ((2 * j : Nat) : Int) + 1) (by omega), bif_yes (by omega)]
    cases hm : mutN l m j with
    | true =>
      rw [cond_true, i64_in (by omega)]
      have e2 : mutN l m (j + 1) = true := by simp only [mutN]; rw [hm, Bool.true_or]
      rw [e2, show ((2 * (j + 1) : Nat) : Int) = ((2 * j : Nat) : Int) + 2 by omega]
    | false =>
      have et : (((2 * j : Nat) : Int) + 1).toNat = 2 * j + 1 := by omega
      rw [cond_false, bif_yes (by omega), bif_yes (by omega), i64_in (by omega), et, Int.toNat_natCast]
      have e2 : mutN l m (j + 1) = decide (l.getD (2 * j) zH = l.getD (2 * j + 1) zH) := by
        simp only [mutN]; rw [hm, Bool.false_or]
        exact decide_eq_decide.2 ⟨fun g => g.2, fun g => ⟨by omega, g⟩⟩
      rw [e2, show ((2 * (j + 1) : Nat) : Int) = ((2 * j : Nat) : Int) + 2 by omega]
  · intro kn ke
    simp only [merkle_Root.l1.r]
    rw [i64_in (n := ((2 * (l.length / 2) : Nat) : Int) + 1) (by omega), bif_no (by omega), ← mutN_odd]

def rootS (l : List (List Int)) : List Int × Bool := if l = [] then (zH, false) else rootF l.length l false
theorem getD_mem {α : Type} {l : List α} {i : Nat} (d : α) (h : i < l.length) : l.getD i d ∈ l := by
  rw [List.getD_eq_getElem?_getD, List.getElem?_eq_getElem h]
  exact List.getElem_mem h
theorem merkle_Root_eq {k : Nat} {l : List (List Int)} (hl : allH l) (hb : l.length ≤ 2199023255552) (hk : 2 * l.length + 400 ≤ k) : merkle_Root k l = some ((rootS l).1, (rootS l).2, ()) := by
  unfold merkle_Root merkle_Root.c
  rw [merkle_Levels_eq hl hb hk]
  simp only [Option.bind_some]
  generalize hL : (if l = [] then [] else l :: levF l.length l) = L
  have hLm : ∀ x ∈ L, x.length ≤ l.length := by
    intro x hx
    rw [← hL] at hx
    split at hx
    · simp at hx
    · rcases List.mem_cons.1 hx with rfl | hx
      · exact Nat.le_refl _
      · exact (levF_mem _ _ hl x hx).2
  have hLl : L.length ≤ l.length + 1 := by
    rw [← hL]; split
    · simp
    · have := levF_length l.length l; simp only [List.length_cons]; omega
  have l0 : merkle_Root.l0 k k (false, L, L, (L.length : Int), (0 : Int), zH, ()) = some (L.foldl (fun m l => mutS l m) false, L, zH, ()) := by
    have := loop_from0 (r := merkle_Root.l0.r k) (fun i => ((L.take i).foldl (fun m l => mutS l m) false, L, L, (L.length : Int), (i : Int), zH, ())) L.length (L.foldl (fun m l => mutS l m) false, L, zH, ()) ?_ ?_ (fuel := k) (by omega)
    · exact this
    · intro i hi kn ke
      simp only [merkle_Root.l0.r]
      have hx := hLm _ (getD_mem [] hi)
      rw [bif_yes (by omega), bif_yes (by omega), Int.toNat_natCast, merkle_Root_l1 (by omega) (by omega)]
      simp only [Option.bind_some]
      rw [i64_in (by omega), List.take_add_one, List.getElem?_eq_getElem hi, Option.toList_some, List.foldl_append, List.getD_eq_getElem?_getD, List.getElem?_eq_getElem hi]
      rfl
    · intro kn ke
      simp only [merkle_Root.l0.r]
      rw [bif_no (by omega), List.take_length]
  show (merkle_Root.l0 k k (false, L, L, (L.length : Int), (0 : Int), zH, ())).bind _ = _
  rw [l0]
  simp only [Option.bind_some]
  unfold rootS
  by_cases h0 : l = []
  · rw [if_pos h0] at hL ⊢
    subst hL
    rfl
  · rw [if_neg h0] at hL ⊢
    have hpos : 0 < l.length := List.length_pos_iff.2 h0
    have hr := rootF_lev l.length l false hpos (by omega)
    subst hL
    rw [hr.1]
    have hne : 0 < (l :: levF l.length l).length := by simp
    rw [cond_false' (by rw [beq_eq_false_iff_ne]; omega), i64_in (by omega), bif_yes (by omega)]
    have hlast : (l :: levF l.length l).getD (((l :: levF l.length l).length : Int) - 1).toNat [] = (l :: levF l.length l).getLast (by simp) := by
      rw [List.getLast_eq_getElem, List.getD_eq_getElem?_getD, show (((l :: levF l.length l).length : Int) - 1).toNat = (l :: levF l.length l).length - 1 by omega, List.getElem?_eq_getElem (by omega)]
      rfl
    rw [hlast, bif_yes (by have := hr.2; omega)]

/-- The ids of transactions. -/
abbrev dTx : TTx := (0, [], [], 0, ())
def txIds (txs : List TTx) (n : Nat) : List (List Int) := (List.range n).map fun i => idS (txs.getD i dTx)
theorem txIds_succ (txs : List TTx) (n : Nat) : txIds txs n ++ [idS (txs.getD n dTx)] = txIds txs (n + 1) := by unfold txIds; rw [List.range_succ, List.map_append]; rfl
theorem txIds_length (txs : List TTx) (n : Nat) : (txIds txs n).length = n := by unfold txIds; simp
theorem idS_isH (t : TTx) : isH (idS t) := by unfold idS; split <;> first | exact zH_isH | exact sumL_isH _
theorem txIds_allH (txs : List TTx) (n : Nat) : allH (txIds txs n) := by
  intro i hi
  rw [txIds_length] at hi
  unfold txIds
  rw [List.getD_eq_getElem?_getD, List.getElem?_map, List.getElem?_range hi]
  exact idS_isH _
def txsOK (txs : List TTx) : Prop := ∀ i, i < txs.length → TxOK (txs.getD i dTx) ∧ (txs.getD i dTx).2.1.length ≤ 2199023255552 ∧ (txs.getD i dTx).2.2.1.length ≤ 5864062014805

theorem block_Root_eq {k : Nat} {txs : List TTx} (ht : txsOK txs) (hb : txs.length ≤ 2199023255552) (hk : 20000000000000 ≤ k) : block_Root k txs = some ((rootS (txIds txs txs.length)).1, (rootS (txIds txs txs.length)).2, ()) := by
  unfold block_Root block_Root.c
  dsimp only
  rw [decide_eq_true (by omega), Bool.true_and, cond_true' (ble_of (by omega)), Int.toNat_natCast]
  have l0 : block_Root.l0 k k (txs, (txs.length : Int), (0 : Int), zH, List.replicate txs.length zH, ()) = some (zH, txIds txs txs.length, ()) := by
    have := loop_from0 (r := block_Root.l0.r k) (fun i => (txs, (txs.length : Int), (i : Int), zH, txIds txs i ++ (List.replicate txs.length zH).drop i, ())) txs.length (zH, txIds txs txs.length, ()) ?_ ?_ (fuel := k) (by omega)
    · rw [List.drop_zero] at this
      exact this
    · intro i hi kn ke
      simp only [block_Root.l0.r]
      obtain ⟨h1, h2, h3⟩ := ht i hi
      rw [bif_yes (by omega), bif_yes (by omega), Int.toNat_natCast]
      show (tx_ID k (txs.getD i dTx)).bind _ = _
      rw [tx_ID_eq h1 (by omega)]
      simp only [Option.bind_some]
      rw [bif_yes (by rw [List.length_append, txIds_length, List.length_drop, List.length_replicate]; omega), i64_in (by omega)]
      have e := set_map (f := fun i => idS (txs.getD i dTx)) (y := List.replicate txs.length zH) (i := i) (by rw [List.length_replicate]; exact hi)
      show kn (txs, (txs.length : Int), (i : Int) + 1, zH, (txIds txs i ++ (List.replicate txs.length zH).drop i).set i (idS (txs.getD i dTx)), ()) = _
      unfold txIds
      rw [e]
      rfl
    · intro kn ke
      simp only [block_Root.l0.r]
      rw [bif_no (by omega), List.drop_of_length_le (by rw [List.length_replicate]; omega), List.append_nil]
  show (block_Root.l0 k k (txs, (txs.length : Int), (0 : Int), zH, List.replicate txs.length zH, ())).bind _ = _
  rw [l0]
  simp only [Option.bind_some]
  rw [merkle_Root_eq (txIds_allH _ _) (by rw [txIds_length]; exact hb) (by rw [txIds_length]; omega)]
  rfl

abbrev dRTx : RTx := (0, [], [], 0, ())
theorem gTx_getD {l : List TTx} {i : Nat} (h : i < l.length) : (l.map gTx).getD i dRTx = gTx (l.getD i dTx) := by
  rw [List.getD_eq_getElem?_getD, List.getD_eq_getElem?_getD, List.getElem?_map, List.getElem?_eq_getElem h]
  rfl
theorem ref11_Root_eq {k : Nat} {txs : List TTx} (ht : txsOK txs) (hb : txs.length ≤ 2199023255552) (hk : 20000000000000 ≤ k) : bedrockref11_Root k (txs.map gTx) = some ((rootS (txIds txs txs.length)).1, (rootS (txIds txs txs.length)).2, ()) := by
  unfold bedrockref11_Root bedrockref11_Root.c
  have l0 : bedrockref11_Root.l0 k k (txs.map gTx, (0 : Int), zH, List.replicate 0 zH, ()) = some (zH, txIds txs txs.length, ()) := by
    have := loop_from0 (r := bedrockref11_Root.l0.r k) (fun i => (txs.map gTx, (i : Int), zH, txIds txs i, ())) txs.length (zH, txIds txs txs.length, ()) ?_ ?_ (fuel := k) (by omega)
    · exact this
    · intro i hi kn ke
      simp only [bedrockref11_Root.l0.r]
      obtain ⟨h1, h2, h3⟩ := ht i hi
      rw [bif_yes (by rw [List.length_map]; omega), bif_yes (by rw [List.length_map]; omega), Int.toNat_natCast]
      show (bedrockref10_ID k ((txs.map gTx).getD i dRTx)).bind _ = _
      rw [gTx_getD hi, ref10_ID_eq h1 (by omega)]
      simp only [Option.bind_some]
      by_cases c : (encS (txs.getD i dTx)).2 = 0
      · rw [decide_eq_true c, Bool.not_true, cond_false, set_one32, cond_true' (ble_of (by rw [txIds_length, List.length_singleton]; omega)), i64_in (by omega), txIds_succ]
        rfl
      · have e : idS (txs.getD i dTx) = zH := by unfold idS; rw [if_pos c]
        rw [decide_eq_false c, Bool.not_false, cond_true, set_one32, cond_true' (ble_of (by rw [txIds_length, List.length_singleton]; omega)), i64_in (by omega), show [List.replicate 32 (0 : Int)] = [idS (txs.getD i dTx)] by rw [e], txIds_succ]
        rfl
    · intro kn ke
      simp only [bedrockref11_Root.l0.r]
      rw [bif_no (by rw [List.length_map]; omega)]
  show (bedrockref11_Root.l0 k k (txs.map gTx, (0 : Int), zH, List.replicate 0 zH, ())).bind _ = _
  rw [l0]
  simp only [Option.bind_some]
  rw [ref06_Root_eq (txIds_allH _ _) (by rw [txIds_length]; exact hb) (by rw [txIds_length]; omega)]
  unfold rootS
  by_cases h0 : txIds txs txs.length = []
  · rw [if_pos h0, if_pos h0]; rfl
  · rw [if_neg h0, if_neg h0]; rfl

abbrev THd : Type := Int × List Int × List Int × Int × Int × Int × Unit
abbrev TBk : Type := THd × List TTx × Unit
abbrev RBk : Type := THd × List RTx × Unit
def gBk (b : TBk) : RBk := (b.1, b.2.1.map gTx, ())
theorem ref_eq {k : Nat} {b : TBk} (ht : txsOK b.2.1) (hb : b.2.1.length ≤ 2199023255552) (hk : 20000000000000 ≤ k) : bedrocklaw11_ref k b = some (gBk b, ()) := by
  obtain ⟨h, txs, u⟩ := b
  dsimp only at ht hb
  unfold bedrocklaw11_ref bedrocklaw11_ref.c
  show (bedrocklaw11_head k h).bind _ = _
  rw [show bedrocklaw11_head k h = some (h, ()) from rfl]
  simp only [Option.bind_some]
  generalize hz : (((0 : Int), zH, zH, (0 : Int), (0 : Int), (0 : Int), ()), (), ()) = Z
  have l0 : bedrocklaw11_ref.l0 k k ((0 : Int), (h, txs, ()), Z, (h, (), ()), [], ()) = some (Z, (h, (), ()), txs.map gTx, ()) := by
    have := loop_from0 (r := bedrocklaw11_ref.l0.r k) (fun i => ((i : Int), (h, txs, ()), Z, (h, (), ()), (txs.take i).map gTx, ())) txs.length (Z, (h, (), ()), txs.map gTx, ()) ?_ ?_ (fuel := k) (by omega)
    · exact this
    · intro i hi kn ke
      simp only [bedrocklaw11_ref.l0.r]
      obtain ⟨h1, h2, h3⟩ := ht i hi
      rw [bif_yes (by omega), bif_yes (by omega), Int.toNat_natCast]
      show (bedrocklaw11_one k (txs.getD i dTx)).bind _ = _
      rw [one_eq h2 h3 (by omega)]
      simp only [Option.bind_some]
      have e : ∀ d : RTx, List.set (List.replicate 1 d) 0 ((gTx (txs.getD i dTx)).1, (gTx (txs.getD i dTx)).2.1, (gTx (txs.getD i dTx)).2.2.1, (gTx (txs.getD i dTx)).2.2.2.1, ()) = [gTx (txs.getD i dTx)] := fun _ => rfl
      rw [e, take_snoc gTx txs dTx hi, cond_true' (ble_of (by simp only [List.length_singleton, List.length_map, List.length_take]; omega)), i64_in (by omega)]
      rfl
    · intro kn ke
      simp only [bedrocklaw11_ref.l0.r]
      rw [bif_no (by omega), List.take_length]
  show (bedrocklaw11_ref.l0 k k ((0 : Int), (h, txs, ()), Z, (h, (), ()), [], ())).bind _ = _
  rw [l0]
  rfl

def wholeS (b : TBk) : Bool := decide (b.2.1.length > 0) && (decide ((rootS (txIds b.2.1 b.2.1.length)).1 = b.1.2.2.1) && !(rootS (txIds b.2.1 b.2.1.length)).2)
theorem block_Whole_eq {k : Nat} {b : TBk} (ht : txsOK b.2.1) (hb : b.2.1.length ≤ 2199023255552) (hk : 20000000000000 ≤ k) : block_Whole k b = some (wholeS b, ()) := by
  unfold block_Whole block_Whole.c wholeS
  dsimp only
  rw [block_Root_eq ht hb hk]
  simp only [Option.bind_some]
  by_cases c : b.2.1.length > 0
  · rw [bif_yes (by omega), decide_eq_true c, Bool.true_and]
    cases decide ((rootS (txIds b.2.1 b.2.1.length)).1 = b.1.2.2.1) <;> rfl
  · rw [bif_no (by omega), decide_eq_false c, Bool.false_and]
theorem ref11_Whole_eq {k : Nat} {b : TBk} (ht : txsOK b.2.1) (hb : b.2.1.length ≤ 2199023255552) (hk : 20000000000000 ≤ k) : bedrockref11_Whole k (gBk b) = some (wholeS b, ()) := by
  unfold bedrockref11_Whole bedrockref11_Whole.c wholeS
  dsimp only
  rw [show (gBk b).2.1 = b.2.1.map gTx from rfl, ref11_Root_eq ht hb hk]
  simp only [Option.bind_some]
  rw [List.length_map]
  by_cases c : b.2.1.length > 0
  · rw [bif_yes (by omega), decide_eq_true c, Bool.true_and]
    show (bif decide ((rootS (txIds b.2.1 b.2.1.length)).1 = b.1.2.2.1) then _ else _) = _
    cases decide ((rootS (txIds b.2.1 b.2.1.length)).1 = b.1.2.2.1) <;> rfl
  · rw [bif_no (by omega), decide_eq_false c, Bool.false_and]

theorem blockRoots_main {k : Nat} (hk : k = 140737488355328) (haw : bedrocklaw11_awake k = some (true, ())) {b : TBk} (ht : txsOK b.2.1) (hb : b.2.1.length ≤ 2199023255552) (fix : Bool) : bedrocklaw11_BlockRoots k b fix = some (true, ()) := by
  obtain ⟨⟨v, prev, root, tm, bits, nonce, u1⟩, txs, u2⟩ := b
  dsimp only at ht hb
  unfold bedrocklaw11_BlockRoots bedrocklaw11_BlockRoots.c
  dsimp only
  rw [block_Root_eq ht hb (by omega)]
  simp only [Option.bind_some]
  show (bedrocklaw11_ref k ((v, prev, root, tm, bits, nonce, ()), txs, ())).bind _ = _
  rw [ref_eq ht hb (by omega)]
  simp only [Option.bind_some]
  show (bedrockref11_Root k (txs.map gTx)).bind _ = _
  rw [ref11_Root_eq ht hb (by omega)]
  simp only [Option.bind_some]
  generalize hR : rootS (txIds txs txs.length) = R
  have fin : ∀ r : List Int, ((block_Whole k ((v, prev, r, tm, bits, nonce, ()), txs, ())).bind fun t13 => (bedrockref11_Whole k ((v, prev, r, tm, bits, nonce, ()), txs.map gTx, ())).bind fun t14 => some ((t13.1 == t14.1), ())) = some (true, ()) := by
    intro r
    have h1 := block_Whole_eq (k := k) (b := ((v, prev, r, tm, bits, nonce, ()), txs, ())) ht hb (by omega)
    have h2 := ref11_Whole_eq (k := k) (b := ((v, prev, r, tm, bits, nonce, ()), txs, ())) ht hb (by omega)
    rw [h1]
    simp only [Option.bind_some]
    have e : gBk ((v, prev, r, tm, bits, nonce, ()), txs, ()) = ((v, prev, r, tm, bits, nonce, ()), txs.map gTx, ()) := rfl
    rw [← e, h2]
    simp only [Option.bind_some]
    rw [beq_self_eq_true]
  cases fix with
  | true =>
    show (bedrocklaw11_awake k).bind _ = _
    rw [haw]
    simp only [Option.bind_some, cond_true, decide_true, beq_self_eq_true]
    exact fin R.1
  | false =>
    show (bedrocklaw11_awake k).bind _ = _
    rw [haw]
    simp only [Option.bind_some, cond_true, decide_true, beq_self_eq_true]
    exact fin root
end Go.Am
/- BlockRoots: what the weights say. -/
namespace Go.Am
open Go
variable {H : Type} {P : Program}
abbrev hdTy : Ty := .pair (.int .u32) (.pair (.arr 32 (.int .u8)) (.pair (.arr 32 (.int .u8)) (.pair (.int .u32) (.pair (.int .u32) (.pair (.int .u32) .unit)))))
abbrev blkTy : Ty := .pair hdTy (.pair (.sl txTy) .unit)
def blkLens (P : Program) : List TypeId → Bool
  | T :: _ =>
    match P.underlying T with
    | some (.struct fs) => match fs.toList.map (·.type) with
      | [_, a] => match P.underlying a with
        | some (.slice e) => P.bytesOf e == 64 && txLens P e
        | _ => false
      | _ => false
    | _ => false
  | _ => false
theorem blkLens_ok {ps vs : List TypeId} (hp : blkLens P ps = true) {N : Nat} {ts : List Ty} {x : dens (blkTy :: ts)} {ds gs : List (DataW H)} (hd : RDa (blkTy :: ts) x ds) (h : (DataW.weightsEach P (ps ++ vs) (ds ++ gs)).all (· ≤ N) = true) :
    x.1.2.1.length * 64 ≤ N ∧ ∀ i, i < x.1.2.1.length → (x.1.2.1.getD i dTx).2.1.length * 64 ≤ N ∧ (x.1.2.1.getD i dTx).2.2.1.length * 24 ≤ N := by
  obtain ⟨d0, r0, rfl, h0, _⟩ := hd
  match ps, hp with
  | T :: Ts, hp =>
    simp only [List.cons_append, DataW.weightsEach, List.all_append, Bool.and_eq_true, List.all_eq_true, decide_eq_true_eq] at h
    have hw := h.1
    simp only [blkLens] at hp
    split at hp
    · rename_i fs hu
      split at hp
      · rename_i T0 a hf
        split at hp
        · rename_i e ha
          simp only [Bool.and_eq_true, beq_iff_eq] at hp
          obtain ⟨d1, r1, rfl, _, d2, r2, hd2, h2, _⟩ := h0
          cases hd2
          simp only [DataW.weights, hu, hf, DataW.weightsEach, List.mem_append] at hw
          have hw2 : ∀ w ∈ d2.weights P a, w ≤ N := fun w hw' => hw w (.inr (.inl hw'))
          have q1 := sl_len ha h2 hw2
          rw [hp.1] at q1
          refine ⟨q1, fun i hi => ?_⟩
          rcases h2 with ⟨_, e1⟩ | ⟨es, sp, rfl, g1, g2⟩
          · rw [e1] at hi; simp at hi
          · simp only [DataW.weights, ha] at hw2
            have hlen : i < es.length := by
              have : x.1.2.1.length = es.length := by first | exact g1 | exact g1.symm
              omega
            have hdi : es[i]? = some (es.getD i .nil) := by rw [List.getD_eq_getElem?_getD]; simp [hlen]
            exact txLens_ok hp.2 (g2 i hi) (weightsAll_mem (fun w hx => hw2 w (by simp [hx])) i _ hdi)
        · cases hp
      · cases hp
    · cases hp
theorem txsOK_of {N : Nat} (hN : N ≤ 140737488355328) {txs : List TTx} (h : WF N (.sl txTy) txs) (hl : ∀ i, i < txs.length → (txs.getD i dTx).2.1.length * 64 ≤ 140737488351232 ∧ (txs.getD i dTx).2.2.1.length * 24 ≤ 140737488351232) : txsOK txs := fun i hi => by
  have h1 := hl i hi
  exact ⟨txOK_of hN (h.2 i hi), by omega, by omega⟩
end Go.Am
