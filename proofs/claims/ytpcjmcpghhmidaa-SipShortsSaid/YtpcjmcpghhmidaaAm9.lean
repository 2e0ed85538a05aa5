/- A part of a proof: a machine of abstract values that tells what functions of the program compute, and the plain facts on them. -/
import Derived.Test.YtpcjmcpghhmidaaAm8
import Derived.KernelRfl
set_option linter.unusedVariables false
set_option linter.unusedSimpArgs false
set_option linter.unnecessarySimpa false
set_option linter.unusedSectionVars false
/- SipHash: turns, rounds, words. -/
namespace Go.Am
open Go

def r64 (x : Int) : Prop := 0 ≤ x ∧ x ≤ 18446744073709551615
theorem r64_xor (x y : Int) : r64 (bitsOp .xor .u64 x y) := by
  unfold r64
  simp only [bitsOp]
  rw [u64_mod]; omega
theorem r64_or (x y : Int) : r64 (bitsOp .or .u64 x y) := by
  unfold r64
  simp only [bitsOp]
  rw [u64_mod]; omega
theorem r64_wrap (x : Int) : r64 (IntKind.u64.wrap x) := by
  unfold r64
  rw [u64_mod]; omega

def rotl (x n : Int) : Int := bitsOp .or .u64 (shlOp .u64 x n) (shrOp .u64 x (64 - n))

theorem shl_u64 (x : Int) {j : Nat} (hj : j ≤ 64) : shlOp .u64 x (j : Int) = (x * 2 ^ j) % 18446744073709551616 := by
  unfold shlOp
  rw [show min (j : Int).toNat IntKind.u64.bits = j by simp [IntKind.bits]; omega, u64_mod]

/-- A word turned to the left, as a number. -/
def rotV (x : Int) (n : Nat) : Int := (x * 2 ^ n) % 18446744073709551616 + x / 2 ^ (64 - n)

theorem rotl_val {x : Int} (hx : r64 x) {n : Nat} (hn : n ≤ 64) : rotl x (n : Int) = rotV x n := by
  obtain ⟨X, rfl⟩ := Int.eq_ofNat_of_zero_le hx.1
  have hX : X < 2 ^ 64 := by have := hx.2; omega
  have hsplit : 2 ^ (64 - n) * 2 ^ n = 2 ^ 64 := by rw [← Nat.pow_add]; congr 1; omega
  unfold rotl rotV
  rw [shl_u64 _ hn, show (64 : Int) - (n : Int) = ((64 - n : Nat) : Int) by omega, shr_u64 (by omega), or_comm_bits]
  have e1 : ((X : Int) * 2 ^ n) % 18446744073709551616 = ((X % 2 ^ (64 - n) * 2 ^ n : Nat) : Int) := by
    have : X * 2 ^ n % 2 ^ 64 = X % 2 ^ (64 - n) * 2 ^ n := by rw [← hsplit, Nat.mul_mod_mul_right]
    rw [← this]
    simp
  have e2 : (X : Int) / 2 ^ (64 - n) = ((X / 2 ^ (64 - n) : Nat) : Int) := by simp
  have hA : X / 2 ^ (64 - n) < 2 ^ n := by
    rw [Nat.div_lt_iff_lt_mul (Nat.two_pow_pos _), Nat.mul_comm, hsplit]; exact hX
  have hB : X % 2 ^ (64 - n) < 2 ^ (64 - n) := Nat.mod_lt _ (Nat.two_pow_pos _)
  have hlt : X % 2 ^ (64 - n) * 2 ^ n + X / 2 ^ (64 - n) < 18446744073709551616 := by
    have h1 : (X % 2 ^ (64 - n) + 1) * 2 ^ n ≤ 2 ^ (64 - n) * 2 ^ n := Nat.mul_le_mul_right _ hB
    rw [Nat.add_mul, hsplit] at h1
    omega
  rw [e1, e2, or_u64 hA hlt]
  simp

theorem rot_nat {X P Q : Nat} (hPQ : P * Q = 9223372036854775808) (hX : X < 18446744073709551616) :
    (X * P % 18446744073709551616 + X / (2 * Q)) * 2 % 18446744073709551616 + (X * P % 18446744073709551616 + X / (2 * Q)) / 9223372036854775808 = X * (2 * P) % 18446744073709551616 + X / Q := by
  have hQ : 0 < Q := Nat.pos_of_ne_zero fun h => by subst h; simp at hPQ
  have h1 := Nat.div_add_mod X (2 * Q)
  have h2 := Nat.div_add_mod (X % (2 * Q)) Q
  have h3 : X % (2 * Q) < 2 * Q := Nat.mod_lt _ (by omega)
  have h4 : X % (2 * Q) % Q < Q := Nat.mod_lt _ hQ
  generalize X / (2 * Q) = a at *
  generalize X % (2 * Q) = b at *
  generalize hc : b / Q = c at *
  generalize b % Q = d at *
  have hc2 : c < 2 := by rw [← hc, Nat.div_lt_iff_lt_mul hQ]; omega
  have e1 : X * P = a * 18446744073709551616 + c * 9223372036854775808 + d * P := by
    rw [← h1, ← h2, ← show P * Q * 2 = 18446744073709551616 by omega, ← hPQ]
    simp only [Nat.add_mul, Nat.mul_add]
    have x1 : 2 * Q * a * P = a * (P * Q * 2) := by rw [Nat.mul_comm a, Nat.mul_assoc (2 * Q), Nat.mul_comm a P, ← Nat.mul_assoc]; congr 1; rw [Nat.mul_comm 2 Q, Nat.mul_assoc, Nat.mul_comm 2 P, ← Nat.mul_assoc, Nat.mul_comm Q P]
    have x2 : Q * c * P = c * (P * Q) := by rw [Nat.mul_comm Q c, Nat.mul_assoc, Nat.mul_comm Q P]
    omega
  have e2 : X * (2 * P) = 2 * (X * P) := by rw [Nat.mul_left_comm]
  have e3 : X / Q = 2 * a + c := by
    have : X = d + Q * (2 * a + c) := by
      rw [Nat.mul_add, ← Nat.mul_assoc, Nat.mul_comm Q 2]; omega
    rw [this, Nat.add_mul_div_left _ _ hQ, Nat.div_eq_of_lt h4]; omega
  have e4 : d * P + a < 9223372036854775808 := by
    have g1 : (d + 1) * P ≤ Q * P := Nat.mul_le_mul_right _ h4
    have g2 : a < P := by
      apply Nat.lt_of_mul_lt_mul_left (a := 2 * Q)
      have : 2 * Q * P = 18446744073709551616 := by rw [Nat.mul_assoc, Nat.mul_comm Q P]; omega
      omega
    rw [Nat.add_mul, Nat.mul_comm Q P] at g1
    omega
  rw [e2, e3]
  generalize X * P = y at *
  generalize d * P = z at *
  have m1 : y % 18446744073709551616 = c * 9223372036854775808 + z := by omega
  have m2 : (c * 9223372036854775808 + z + a) / 9223372036854775808 = c := by omega
  have m3 : (c * 9223372036854775808 + z + a) * 2 % 18446744073709551616 = 2 * (z + a) := by omega
  have m4 : 2 * y % 18446744073709551616 = 2 * z := by omega
  rw [m1, m2, m3, m4]
  omega

theorem rotV_step {x : Int} (h : r64 x) {i : Nat} (hi : i < 64) : (rotV x i * 2) % 18446744073709551616 + rotV x i / 2 ^ 63 = rotV x (i + 1) := by
  obtain ⟨X, rfl⟩ := Int.eq_ofNat_of_zero_le h.1
  have hx2 := h.2
  have hpq : 2 ^ i * 2 ^ (63 - i) = 9223372036854775808 := by rw [← Nat.pow_add, show i + (63 - i) = 63 by omega]
  have := rot_nat (X := X) hpq (by omega)
  have e : 2 * 2 ^ (63 - i) = 2 ^ (64 - i) := by rw [← Nat.pow_succ', show (63 - i).succ = 64 - i by omega]
  have e' : 2 * 2 ^ i = 2 ^ (i + 1) := by rw [← Nat.pow_succ']
  rw [e, e'] at this
  unfold rotV
  rw [show 64 - (i + 1) = 63 - i by omega]
  have g := congrArg (Int.ofNat) this
  simpa using g

theorem rotV_range {x : Int} (h : r64 x) {i : Nat} (hi : i ≤ 32) : r64 (rotV x i) := by
  rw [← rotl_val h (by omega)]; exact r64_or _ _

theorem ref03_turn_eq {k : Nat} (hk : 33 ≤ k) {x : Int} (h : r64 x) {n : Nat} (hn : n ≤ 32) : bedrockref03_turn k x (n : Int) = some (rotl x (n : Int), ()) := by
  unfold bedrockref03_turn bedrockref03_turn.c
  have hl : bedrockref03_turn.l0 k k (x, (n : Int), (0 : Int), ()) = some (rotV x n, ()) := by
    have e0 : rotV x 0 = x := by
      unfold rotV
      have h1 := h.1
      have h2 := h.2
      simp only [Int.reducePow, Nat.reduceSub]
      omega
    have := loop_from0 (r := bedrockref03_turn.l0.r k) (fun i => (rotV x i, (n : Int), (i : Int), ())) n (rotV x n, ()) ?_ ?_ (by omega : n < k)
    · rw [e0] at this
      exact this
    · intro i hi kn ke
      simp only [bedrockref03_turn.l0.r]
      have hr := rotV_range h (i := i) (by omega)
      have hs := rotV_step h (i := i) (by omega)
      have hr2 := rotV_range h (i := i + 1) (by omega)
      have ew : IntKind.u64.wrap (IntKind.u64.wrap (rotV x i * 2) + shrOp .u64 (rotV x i) 63) = rotV x (i + 1) := by
        rw [show (63 : Int) = ((63 : Nat) : Int) from rfl, shr_u64 (by omega), u64_mod (rotV x i * 2), hs, u64_in hr2]
      rw [bif_yes (by omega), ew, i64_in (by omega)]
      rfl
    · intro kn ke
      simp only [bedrockref03_turn.l0.r]
      rw [bif_no (by omega)]
  rw [hl, rotl_val h (by omega)]
  rfl

/-- A round of the four words. -/
def roundS : List Int → List Int
  | [a, b, c, d] =>
    let a1 := IntKind.u64.wrap (a + b)
    let b1 := bitsOp .xor .u64 (rotl b 13) a1
    let a2 := rotl a1 32
    let c1 := IntKind.u64.wrap (c + d)
    let d1 := bitsOp .xor .u64 (rotl d 16) c1
    let a3 := IntKind.u64.wrap (a2 + d1)
    let d2 := bitsOp .xor .u64 (rotl d1 21) a3
    let c2 := IntKind.u64.wrap (c1 + b1)
    let b2 := bitsOp .xor .u64 (rotl b1 17) c2
    [a3, b2, rotl c2 32, d2]
  | l => l

/-- Four words. -/
def W4 (v : List Int) : Prop := ∃ a b c d, v = [a, b, c, d] ∧ r64 a ∧ r64 b ∧ r64 c ∧ r64 d
theorem roundS_W4 {v : List Int} (h : W4 v) : W4 (roundS v) := by
  obtain ⟨a, b, c, d, rfl, ha, hb, hc, hd⟩ := h
  exact ⟨_, _, _, _, rfl, r64_wrap _, r64_xor _ _, r64_or _ _, r64_xor _ _⟩
theorem W4_set {v : List Int} (h : W4 v) (i : Nat) {x : Int} (hx : r64 x) : W4 (v.set i x) := by
  obtain ⟨a, b, c, d, rfl, ha, hb, hc, hd⟩ := h
  match i with
  | 0 => exact ⟨_, _, _, _, rfl, hx, hb, hc, hd⟩
  | 1 => exact ⟨_, _, _, _, rfl, ha, hx, hc, hd⟩
  | 2 => exact ⟨_, _, _, _, rfl, ha, hb, hx, hd⟩
  | 3 => exact ⟨_, _, _, _, rfl, ha, hb, hc, hx⟩
  | i + 4 => exact ⟨_, _, _, _, rfl, ha, hb, hc, hd⟩

set_option maxRecDepth 100000 in
theorem rl_eq (k : Nat) (x : Int) : math_bits_RotateLeft64 k x 13 = some (rotl x 13, ()) ∧ math_bits_RotateLeft64 k x 16 = some (rotl x 16, ()) ∧ math_bits_RotateLeft64 k x 17 = some (rotl x 17, ()) ∧ math_bits_RotateLeft64 k x 21 = some (rotl x 21, ()) ∧ math_bits_RotateLeft64 k x 32 = some (rotl x 32, ()) :=
  ⟨by kernel_rfl, by kernel_rfl, by kernel_rfl, by kernel_rfl, by kernel_rfl⟩

theorem sip_Round_eq (k : Nat) {v : List Int} (h : W4 v) : sip_Round k v = some (roundS v, ()) := by
  obtain ⟨a, b, c, d, rfl, ha, hb, hc, hd⟩ := h
  unfold sip_Round sip_Round.c
  simp only [List.set_cons_zero, List.set_cons_succ, List.getD_cons_zero, List.getD_cons_succ, (rl_eq k _).1, (rl_eq k _).2.1, (rl_eq k _).2.2.1, (rl_eq k _).2.2.2.1, (rl_eq k _).2.2.2.2, Option.bind_some]
  rfl
theorem ref03_Round_eq {k : Nat} (hk : 33 ≤ k) {v : List Int} (h : W4 v) : bedrockref03_Round k v = some (roundS v, ()) := by
  obtain ⟨a, b, c, d, rfl, ha, hb, hc, hd⟩ := h
  unfold bedrockref03_Round bedrockref03_Round.c
  simp only [List.set_cons_zero, List.set_cons_succ, List.getD_cons_zero, List.getD_cons_succ]
  have t13 : ∀ {x : Int}, r64 x → bedrockref03_turn k x 13 = some (rotl x 13, ()) := fun hx => ref03_turn_eq hk hx (n := 13) (by omega)
  have t16 : ∀ {x : Int}, r64 x → bedrockref03_turn k x 16 = some (rotl x 16, ()) := fun hx => ref03_turn_eq hk hx (n := 16) (by omega)
  have t17 : ∀ {x : Int}, r64 x → bedrockref03_turn k x 17 = some (rotl x 17, ()) := fun hx => ref03_turn_eq hk hx (n := 17) (by omega)
  have t21 : ∀ {x : Int}, r64 x → bedrockref03_turn k x 21 = some (rotl x 21, ()) := fun hx => ref03_turn_eq hk hx (n := 21) (by omega)
  have t32 : ∀ {x : Int}, r64 x → bedrockref03_turn k x 32 = some (rotl x 32, ()) := fun hx => ref03_turn_eq hk hx (n := 32) (by omega)
  rw [t13 hb]
  simp only [Option.bind_some]
  rw [t32 (r64_wrap _)]
  simp only [Option.bind_some]
  rw [t16 hd]
  simp only [Option.bind_some]
  rw [t21 (r64_xor _ _)]
  simp only [Option.bind_some]
  rw [t17 (r64_xor _ _)]
  simp only [Option.bind_some]
  rw [t32 (r64_wrap _)]
  rfl

/-- The words behind another word. -/
def mixS (v : List Int) (m : Int) : List Int :=
  let w := roundS (roundS (v.set 3 (bitsOp .xor .u64 (v.getD 3 0) m)))
  w.set 0 (bitsOp .xor .u64 (w.getD 0 0) m)
theorem mixS_W4 {v : List Int} (h : W4 v) (m : Int) : W4 (mixS v m) := W4_set (roundS_W4 (roundS_W4 (W4_set h 3 (r64_xor _ _)))) 0 (r64_xor _ _)

/-- Behind n words of a text. -/
def mixN (v l : List Int) : Nat → List Int
  | 0 => v
  | n + 1 => mixS (mixN v l n) (leI ((l.drop (8 * n)).take 8))
theorem mixN_W4 {v : List Int} (h : W4 v) (l : List Int) : ∀ n, W4 (mixN v l n)
  | 0 => h
  | n + 1 => mixS_W4 (mixN_W4 h l n) _
theorem mixN_prefix (v a b : List Int) : ∀ n, 8 * n ≤ a.length → mixN v (a ++ b) n = mixN v a n
  | 0, _ => rfl
  | n + 1, h => by
    simp only [mixN]
    rw [mixN_prefix v a b n (by omega), List.drop_append_of_le_length (by omega), List.take_append_of_le_length (by rw [List.length_drop]; omega)]
theorem mixN_add (v l : List Int) (q : Nat) : ∀ j, mixN v l (q + j) = mixN (mixN v l q) (l.drop (8 * q)) j
  | 0 => rfl
  | j + 1 => by
    show mixS (mixN v l (q + j)) (leI ((l.drop (8 * (q + j))).take 8)) = mixS (mixN (mixN v l q) (l.drop (8 * q)) j) (leI (((l.drop (8 * q)).drop (8 * j)).take 8))
    rw [mixN_add v l q j, List.drop_drop, show 8 * q + 8 * j = 8 * (q + j) by omega]

theorem bytesOf_extract {l : List Int} (h : bytesIn l) (a b : Nat) : (bytesOf l).extract a b = bytesOf ((l.drop a).take (b - a)) := by
  apply ofBytes_inj
  rw [ofBytes_extract, ofBytes_bytesOf h, ofBytes_bytesOf]
  intro x hx
  exact h x (List.mem_of_mem_drop (List.mem_of_mem_take hx))

theorem sip_mixed_eq {k : Nat} (hk : 9 ≤ k) {v : List Int} (h : W4 v) {l : List Int} (hl : bytesIn l) (h8 : l.length = 8) : sip_mixed k v (bytesOf l) = some (mixS v (leI l), ()) := by
  unfold sip_mixed sip_mixed.c
  rw [show num_NewReader k (bytesOf l) = some ((bytesOf l, 0, 0, ()), ()) from rfl]
  simp only [Option.bind_some]
  have hs : (bytesOf l).size = 8 := by rw [bytesOf_size, h8]
  have hn : numS (bytesOf l, 0, 0, ()) 8 = leI l := by
    unfold numS takeS
    dsimp only
    rw [if_neg (by simp), if_neg (by omega), if_neg (by omega)]
    dsimp only
    rw [show ((0 : Int)).toNat = 0 from rfl, show ((0 : Int) + 8).toNat = 8 from rfl, bytesOf_extract hl, List.drop_zero, List.take_of_length_le (by omega), ofBytes_bytesOf hl]
  rw [u64_eq hk ⟨by dsimp only; omega, by dsimp only; omega, by dsimp only; omega⟩, hn]
  simp only [Option.bind_some]
  rw [sip_Round_eq k (W4_set h 3 (r64_xor _ _))]
  simp only [Option.bind_some]
  rw [sip_Round_eq k (roundS_W4 (W4_set h 3 (r64_xor _ _)))]
  rfl
end Go.Am
/- SipHash of a text: what the hasher holds, its digest; the document's. -/
namespace Go.Am
open Go

/-- What is left of a text behind its words. -/
def sh (a : List Int) : List Int := a.drop (8 * (a.length / 8))
theorem sh_length (a : List Int) : (sh a).length = a.length % 8 := by
  unfold sh; rw [List.length_drop]; omega
theorem sh_in {a : List Int} (h : bytesIn a) : bytesIn (sh a) := fun x hx => h x (List.mem_of_mem_drop hx)
abbrev SipT : Type := List Int × ByteArray × Int × Unit
/-- The hasher behind a text. -/
def SP (v a : List Int) : SipT := (mixN v a (a.length / 8), bytesOf (sh a), (a.length : Int), ())

theorem bytesIn_append {a b : List Int} (ha : bytesIn a) (hb : bytesIn b) : bytesIn (a ++ b) := fun x hx => (List.mem_append.1 hx).elim (ha x) (hb x)
theorem bytesIn_rep (n : Nat) : bytesIn (List.replicate n 0) := fun x hx => by have := List.eq_of_mem_replicate hx; omega

theorem mix_append (v a b : List Int) : mixN (mixN v a (a.length / 8)) (sh a ++ b) ((sh a ++ b).length / 8) = mixN v (a ++ b) ((a ++ b).length / 8) ∧ (sh a ++ b).drop (8 * ((sh a ++ b).length / 8)) = sh (a ++ b) := by
  have e : sh a ++ b = (a ++ b).drop (8 * (a.length / 8)) := by unfold sh; rw [List.drop_append_of_le_length (by omega)]
  have hl := sh_length a
  have hn : a.length / 8 + (sh a ++ b).length / 8 = (a ++ b).length / 8 := by simp only [List.length_append, hl]; omega
  constructor
  · rw [← hn, mixN_add, mixN_prefix v a b _ (by omega), ← e]
  · show (sh a ++ b).drop _ = (a ++ b).drop (8 * ((a ++ b).length / 8))
    rw [← hn, Nat.mul_add, ← List.drop_drop, ← e]

theorem swrite_loop (k : Nat) (hk : 9 ≤ k) {v l : List Int} (hv : W4 v) (hl : bytesIn l) (h : ByteArray) (n : Int) {fuel : Nat} (hf : l.length / 8 < fuel) (hm : l.length ≤ 9223372036854775807) :
    sip_Sip_Write.l0 k fuel (bytesOf l, (v, h, n, ()), ()) = some (bytesOf (l.drop (8 * (l.length / 8))), (mixN v l (l.length / 8), h, n, ()), ()) := by
  refine loop_from0 (r := sip_Sip_Write.l0.r k) (fun i => (bytesOf (l.drop (8 * i)), (mixN v l i, h, n, ()), ())) (l.length / 8) _ ?_ ?_ hf
  · intro i hi kn ke
    simp only [sip_Sip_Write.l0.r]
    have hd : bytesIn (l.drop (8 * i)) := fun x hx => hl x (List.mem_of_mem_drop hx)
    have hs : (bytesOf (l.drop (8 * i))).size = l.length - 8 * i := by rw [bytesOf_size, List.length_drop]
    rw [bif_yes (by omega), bif_yes (by omega), bytesOf_extract hd, List.drop_zero, sip_mixed_eq hk (mixN_W4 hv l i) (fun x hx => hd x (List.mem_of_mem_take hx)) (by rw [List.length_take, List.length_drop]; omega)]
    simp only [Option.bind_some]
    rw [bif_yes (by omega), bytesOf_extract hd, List.drop_drop, List.take_of_length_le (by rw [List.length_drop]; omega)]
    rfl
  · intro kn ke
    simp only [sip_Sip_Write.l0.r]
    have hs : (bytesOf (l.drop (8 * (l.length / 8)))).size = l.length - 8 * (l.length / 8) := by rw [bytesOf_size, List.length_drop]
    rw [bif_no (by omega)]

theorem swrite_eq {k : Nat} (hk : 9 ≤ k) {v a : List Int} (hv : W4 v) (ha : bytesIn a) {s : ByteArray} (hs : a.length + s.size ≤ 140737488355328) (hf : s.size / 8 + 2 < k) :
    sip_Sip_Write k s (SP v a) = some (SP v (a ++ ofBytes s), ()) := by
  unfold sip_Sip_Write sip_Sip_Write.c SP
  dsimp only
  have hh := sh_length a
  have hz := ofBytes_length s
  rw [cond_true' (ble_of (by rw [bytesOf_size]; omega)), i64_in (by omega)]
  have e : bytesOf (sh a) ++ s = bytesOf (sh a ++ ofBytes s) := by rw [← bytesOf_append, bytesOf_ofBytes]
  have hin : bytesIn (sh a ++ ofBytes s) := bytesIn_append (sh_in ha) (ofBytes_in' s)
  rw [e, swrite_loop k hk (mixN_W4 hv a _) hin _ _ (by rw [List.length_append]; omega) (by rw [List.length_append]; omega)]
  simp only [Option.bind_some]
  rw [(mix_append v a (ofBytes s)).1, (mix_append v a (ofBytes s)).2]
  unfold strings_Clone strings_Clone.c stringslite_Clone cloneJ
  have hl2 := sh_length (a ++ ofBytes s)
  rw [cond_true' (ble_of (by rw [bytesOf_size]; omega))]
  simp only [Option.bind_some]
  rw [show (a.length : Int) + (s.size : Int) = ((a ++ ofBytes s).length : Int) by rw [List.length_append, hz]; omega]

/-- The digest out of the words. -/
def finS (v : List Int) : Int :=
  let w := roundS (roundS (roundS (roundS (v.set 2 (bitsOp .xor .u64 (v.getD 2 0) 255)))))
  bitsOp .xor .u64 (bitsOp .xor .u64 (bitsOp .xor .u64 (w.getD 0 0) (w.getD 1 0)) (w.getD 2 0)) (w.getD 3 0)
/-- The last word. -/
def lastW (a : List Int) : List Int := sh a ++ List.replicate (7 - (sh a).length) 0 ++ [IntKind.u8.wrap (a.length : Int)]
theorem lastW_length (a : List Int) : (lastW a).length = 8 := by
  have := sh_length a
  unfold lastW
  simp only [List.length_append, List.length_replicate, List.length_singleton]; omega
theorem lastW_in {a : List Int} (h : bytesIn a) : bytesIn (lastW a) := by
  refine bytesIn_append (bytesIn_append (sh_in h) (bytesIn_rep _)) ?_
  intro x hx
  simp only [List.mem_singleton] at hx
  rw [hx, u8_mod]; omega
/-- The digest of a text from these words on. -/
def sumS (v a : List Int) : Int := finS (mixS (mixN v a (a.length / 8)) (leI (lastW a)))
theorem sumS_range (v a : List Int) : r64 (sumS v a) := r64_xor _ _

theorem repeat0 (n : Nat) : repB ⟨List.toArray [0]⟩ (n : Int) = bytesOf (List.replicate n 0) := by
  unfold repB bytesOf
  congr 1
  have : ∀ m, Lib.repeatL [(0 : UInt8)] m = List.replicate m 0 := by
    intro m
    induction m with
    | zero => rfl
    | succ m ih => simp [Lib.repeatL, ih, List.replicate_succ]
  rw [show (n : Int).toNat = n by omega]
  show (Lib.repeatL [(0 : UInt8)] n).toArray = _
  rw [this]
  simp

theorem ssum_eq {k : Nat} (hk : 9 ≤ k) {v a : List Int} (hv : W4 v) (ha : bytesIn a) (hs : a.length ≤ 140737488355328) : sip_Sip_Sum k (SP v a) = some (sumS v a, SP v a, ()) := by
  unfold sip_Sip_Sum sip_Sip_Sum.c SP
  dsimp only
  have hh := sh_length a
  rw [bytesOf_size, i64_in (by omega), show (7 : Int) - ((sh a).length : Int) = ((7 - (sh a).length : Nat) : Int) by omega]
  have hrep : strings_Repeat k (⟨(List.toArray [0])⟩ : ByteArray) ((7 - (sh a).length : Nat) : Int) = some (bytesOf (List.replicate (7 - (sh a).length) 0), ()) := by
    unfold strings_Repeat repJ
    rw [repeat0]
    have : (⟨(List.toArray [0])⟩ : ByteArray).size = 1 := rfl
    rw [this, cond_true']
    simp only [Bool.and_eq_true, decide_eq_true_eq, Nat.ble_eq]
    omega
  rw [hrep]
  simp only [Option.bind_some]
  rw [cond_true' (ble_of (by rw [bytesOf_size, List.length_replicate]; omega)), bytesOf_append]
  have e1 : bytesOf (List.set (List.replicate 1 (0 : Int)) 0 (IntKind.u8.wrap (a.length : Int))) = bytesOf [IntKind.u8.wrap (a.length : Int)] := rfl
  rw [e1, cond_true' (ble_of (by rw [bytesOf_size, bytesOf_size, List.length_append, List.length_replicate, List.length_singleton]; omega)), bytesOf_append]
  have hw := mixS_W4 (mixN_W4 hv a (a.length / 8)) (leI (lastW a))
  rw [show sh a ++ List.replicate (7 - (sh a).length) 0 ++ [IntKind.u8.wrap (a.length : Int)] = lastW a from rfl, sip_mixed_eq hk (mixN_W4 hv a _) (lastW_in ha) (lastW_length a)]
  simp only [Option.bind_some]
  have h2 := W4_set hw 2 (r64_xor ((mixS (mixN v a (a.length / 8)) (leI (lastW a))).getD 2 0) 255)
  rw [sip_Round_eq k h2]
  simp only [Option.bind_some]
  rw [sip_Round_eq k (roundS_W4 h2)]
  simp only [Option.bind_some]
  rw [sip_Round_eq k (roundS_W4 (roundS_W4 h2))]
  simp only [Option.bind_some]
  rw [sip_Round_eq k (roundS_W4 (roundS_W4 (roundS_W4 h2)))]
  rfl

/-- The words at first. -/
def kv (k0 k1 : Int) : List Int := [bitsOp .xor .u64 k0 8317987319222330741, bitsOp .xor .u64 k1 7237128888997146477, bitsOp .xor .u64 k0 7816392313619706465, bitsOp .xor .u64 k1 8387220255154660723]
theorem kv_W4 (k0 k1 : Int) : W4 (kv k0 k1) := ⟨_, _, _, _, rfl, r64_xor _ _, r64_xor _ _, r64_xor _ _, r64_xor _ _⟩
theorem sip_New_eq (k : Nat) (k0 k1 : Int) : sip_New k (k0, k1, ()) = some (SP (kv k0 k1) [], ()) := rfl
/-- The digest of a text. -/
def hashS (k0 k1 : Int) (s : ByteArray) : Int := sumS (kv k0 k1) (ofBytes s)
theorem sip_Hash_eq {k : Nat} (hk : 9 ≤ k) (k0 k1 : Int) {s : ByteArray} (hs : s.size ≤ 140737488351232) (hf : s.size / 8 + 2 < k) : sip_Hash k (k0, k1, ()) s = some (hashS k0 k1 s, ()) := by
  unfold sip_Hash sip_Hash.c
  rw [sip_New_eq]
  simp only [Option.bind_some]
  show (sip_Sip_Write k s (SP (kv k0 k1) [])).bind _ = _
  rw [swrite_eq hk (kv_W4 k0 k1) (fun x hx => by simp at hx) (by simp only [List.length_nil]; omega) hf]
  simp only [Option.bind_some, List.nil_append]
  show (sip_Sip_Sum k (SP (kv k0 k1) (ofBytes s))).bind _ = _
  rw [ssum_eq hk (kv_W4 k0 k1) (ofBytes_in' s) (by rw [ofBytes_length]; omega)]
  rfl

set_option maxRecDepth 100000 in
theorem awakeSum : (sumS (kv 506097522914230528 1084818905618843912) [] == 8246050544436514353) = true := by kernel_rfl
theorem awake03 {k : Nat} (hk : 9 ≤ k) : bedrocklaw03_awake k = some (true, ()) := by
  unfold bedrocklaw03_awake bedrocklaw03_awake.c
  rw [sip_Hash_eq hk _ _ (by decide) (by have : (⟨(List.toArray [])⟩ : ByteArray).size = 0 := rfl; omega)]
  simp only [Option.bind_some]
  show some ((sumS (kv 506097522914230528 1084818905618843912) [] == 8246050544436514353), ()) = _
  rw [awakeSum]

/-! the document's -/
theorem refh_l0 (k : Nat) (s : ByteArray) (hs : s.size ≤ 140737488351232) (v : List Int) {fuel : Nat} (hf : 8 < fuel) :
    bedrockref03_Hash.l0 k fuel (s, s, v, ()) = some (s, bytesOf (ofBytes s ++ List.replicate (7 - s.size % 8) 0), v, ()) := by
  have hz := ofBytes_length s
  have := loop_from0 (r := bedrockref03_Hash.l0.r k) (fun i => (s, bytesOf (ofBytes s ++ List.replicate i 0), v, ())) (7 - s.size % 8) (s, bytesOf (ofBytes s ++ List.replicate (7 - s.size % 8) 0), v, ()) ?_ ?_ (fuel := fuel) (by omega)
  · have e0 : bytesOf (ofBytes s ++ List.replicate 0 0) = s := by rw [List.replicate_zero, List.append_nil, bytesOf_ofBytes]
    rw [e0] at this
    exact this
  · intro i hi kn ke
    simp only [bedrockref03_Hash.l0.r]
    have hsz : (bytesOf (ofBytes s ++ List.replicate i 0)).size = s.size + i := by rw [bytesOf_size, List.length_append, List.length_replicate, hz]
    rw [hsz, Int.tmod_eq_emod_of_nonneg (by omega)]
    have hne : (((s.size + i : Nat) : Int) % 8 != 7) = true := by
      rw [bne_iff_ne]; omega
    rw [cond_true' hne, cond_true' (ble_of (by omega))]
    have e : bytesOf (ofBytes s ++ List.replicate i 0) ++ (⟨(List.toArray [0])⟩ : ByteArray) = bytesOf (ofBytes s ++ List.replicate (i + 1) 0) := by
      rw [show (⟨(List.toArray [0])⟩ : ByteArray) = bytesOf [0] from rfl, bytesOf_append, List.append_assoc, ← List.replicate_succ']
    rw [e]
  · intro kn ke
    simp only [bedrockref03_Hash.l0.r]
    have hsz : (bytesOf (ofBytes s ++ List.replicate (7 - s.size % 8) 0)).size = s.size + (7 - s.size % 8) := by rw [bytesOf_size, List.length_append, List.length_replicate, hz]
    rw [hsz, Int.tmod_eq_emod_of_nonneg (by omega)]
    have hne : (((s.size + (7 - s.size % 8) : Nat) : Int) % 8 != 7) = false := by
      rw [bne_eq_false_iff_eq]; omega
    rw [cond_false' hne]

theorem refh_l1 {k : Nat} (hk : 33 ≤ k) {v l : List Int} (hv : W4 v) (hl : bytesIn l) (h8 : l.length % 8 = 0) (hs : l.length ≤ 140737488355328) {fuel : Nat} (hf : l.length / 8 < fuel) :
    bedrockref03_Hash.l1 k fuel (bytesOf l, (0 : Int), v, ()) = some (mixN v l (l.length / 8), ()) := by
  refine loop_from0 (r := bedrockref03_Hash.l1.r k) (fun i => (bytesOf l, ((8 * i : Nat) : Int), mixN v l i, ())) (l.length / 8) _ ?_ ?_ hf
  · intro i hi kn ke
    simp only [bedrockref03_Hash.l1.r]
    have hsz := bytesOf_size l
    rw [bif_yes (by omega), i64_in (by omega), bif_yes (by omega), bytesOf_extract hl, show (((8 * i : Nat) : Int) + 8).toNat - ((8 * i : Nat) : Int).toNat = 8 by omega, show ((8 * i : Nat) : Int).toNat = 8 * i by omega]
    have hin : bytesIn ((l.drop (8 * i)).take 8) := fun x hx => hl x (List.mem_of_mem_drop (List.mem_of_mem_take hx))
    have hlen : ((l.drop (8 * i)).take 8).length = 8 := by rw [List.length_take, List.length_drop]; omega
    rw [bedrockref01_Get_eq (by omega) _ (by rw [bytesOf_size]; omega), ofBytes_bytesOf hin]
    simp only [Option.bind_some]
    have hw := W4_set (mixN_W4 hv l i) 3 (r64_xor ((mixN v l i).getD 3 0) (leI ((l.drop (8 * i)).take 8)))
    rw [ref03_Round_eq hk hw]
    simp only [Option.bind_some]
    rw [ref03_Round_eq hk (roundS_W4 hw)]
    simp only [Option.bind_some]
    rw [show ((8 * i : Nat) : Int) + 8 = ((8 * (i + 1) : Nat) : Int) by omega]
    rfl
  · intro kn ke
    simp only [bedrockref03_Hash.l1.r]
    rw [bytesOf_size, bif_no (by omega)]

theorem ref03_Hash_eq {k : Nat} (hk : 33 ≤ k) (k0 k1 : Int) {s : ByteArray} (hs : s.size ≤ 140737488351232) (hf : s.size / 8 + 2 < k) : bedrockref03_Hash k k0 k1 s = some (hashS k0 k1 s, ()) := by
  unfold bedrockref03_Hash bedrockref03_Hash.c
  have hz := ofBytes_length s
  show (bedrockref03_Hash.l0 k k (s, s, kv k0 k1, ())).bind _ = _
  rw [refh_l0 k s hs _ (by omega)]
  simp only [Option.bind_some]
  have e1 : bytesOf (List.set (List.replicate 1 (0 : Int)) 0 (IntKind.u8.wrap (s.size : Int))) = bytesOf [IntKind.u8.wrap (s.size : Int)] := rfl
  rw [e1, cond_true' (ble_of (by rw [bytesOf_size, bytesOf_size, List.length_append, List.length_replicate, List.length_singleton]; omega)), bytesOf_append]
  have e2 : ofBytes s ++ List.replicate (7 - s.size % 8) 0 ++ [IntKind.u8.wrap (s.size : Int)] = ofBytes s ++ (List.replicate (7 - s.size % 8) 0 ++ [IntKind.u8.wrap (s.size : Int)]) := List.append_assoc _ _ _
  have hb : bytesIn (ofBytes s ++ (List.replicate (7 - s.size % 8) 0 ++ [IntKind.u8.wrap (s.size : Int)])) := by
    refine bytesIn_append (ofBytes_in' s) (bytesIn_append (bytesIn_rep _) ?_)
    intro x hx
    simp only [List.mem_singleton] at hx
    rw [hx, u8_mod]; omega
  have hlen : (ofBytes s ++ (List.replicate (7 - s.size % 8) 0 ++ [IntKind.u8.wrap (s.size : Int)])).length = 8 * (s.size / 8 + 1) := by
    simp only [List.length_append, List.length_replicate, List.length_singleton]; omega
  rw [e2, refh_l1 hk (kv_W4 k0 k1) hb (by omega) (by omega) (by omega), hlen, Nat.mul_div_cancel_left _ (by omega)]
  have e3 : mixN (kv k0 k1) (ofBytes s ++ (List.replicate (7 - s.size % 8) 0 ++ [IntKind.u8.wrap (s.size : Int)])) (s.size / 8 + 1) = mixS (mixN (kv k0 k1) (ofBytes s) ((ofBytes s).length / 8)) (leI (lastW (ofBytes s))) := by
    simp only [mixN]
    rw [mixN_prefix _ _ _ _ (by omega), hz]
    congr 2
    unfold lastW
    rw [sh_length, List.drop_append_of_le_length (by omega), hz]
    unfold sh
    rw [hz, List.append_assoc]
    exact List.take_of_length_le (by simp only [List.length_append, List.length_drop, List.length_replicate, List.length_singleton]; omega)
  rw [e3]
  simp only [Option.bind_some]
  have hw := mixS_W4 (mixN_W4 (kv_W4 k0 k1) (ofBytes s) ((ofBytes s).length / 8)) (leI (lastW (ofBytes s)))
  have h2 := W4_set hw 2 (r64_xor ((mixS (mixN (kv k0 k1) (ofBytes s) ((ofBytes s).length / 8)) (leI (lastW (ofBytes s)))).getD 2 0) 255)
  rw [ref03_Round_eq hk h2]
  simp only [Option.bind_some]
  rw [ref03_Round_eq hk (roundS_W4 h2)]
  simp only [Option.bind_some]
  rw [ref03_Round_eq hk (roundS_W4 (roundS_W4 h2))]
  simp only [Option.bind_some]
  rw [ref03_Round_eq hk (roundS_W4 (roundS_W4 (roundS_W4 h2)))]
  rfl
end Go.Am
/- SipShorts: the law. -/
namespace Go.Am
open Go

abbrev wu : (Unit × (Unit × Unit)) × Unit := (((), ((), ())), ())

/-- A number of eight bytes out of a reader. -/
theorem rd8 {k : Nat} (hk : 9 ≤ k) {l : List Int} (hl : bytesIn l) (hm : l.length ≤ 140737488351232) {p : Nat} (hp : p + 8 ≤ l.length) :
    num_Reader_U64 k (bytesOf l, (p : Int), 0, ()) = some (leI ((l.drop p).take 8), (bytesOf l, ((p + 8 : Nat) : Int), 0, ()), ()) := by
  have hs := bytesOf_size l
  rw [u64_eq hk ⟨by dsimp only; omega, by dsimp only; omega, by dsimp only; omega⟩]
  unfold numS takeS
  dsimp only
  rw [if_neg (by simp), if_neg (by omega), if_neg (by omega)]
  dsimp only
  rw [bytesOf_extract hl, ofBytes_bytesOf (fun x hx => hl x (List.mem_of_mem_drop (List.mem_of_mem_take hx))), show (p : Int).toNat = p by omega, show ((p : Int) + 8).toNat - p = 8 by omega, Int.natCast_add]
  rfl

theorem rd8_0 {k : Nat} (hk : 9 ≤ k) {l : List Int} (hl : bytesIn l) (hm : l.length ≤ 140737488351232) (hp : 8 ≤ l.length) :
    num_Reader_U64 k (bytesOf l, 0, 0, ()) = some (leI (l.take 8), (bytesOf l, 8, 0, ()), ()) := rd8 (p := 0) hk hl hm (by omega)
theorem rd8_8 {k : Nat} (hk : 9 ≤ k) {l : List Int} (hl : bytesIn l) (hm : l.length ≤ 140737488351232) (hp : 16 ≤ l.length) :
    num_Reader_U64 k (bytesOf l, 8, 0, ()) = some (leI ((l.drop 8).take 8), (bytesOf l, 16, 0, ()), ()) := rd8 (p := 8) hk hl hm (by omega)

theorem bytesIn_sum (a : List Int) : bytesIn (sumL a) := fun x hx => by have := bytesBE_in _ x hx; omega
theorem sumL_length (a : List Int) : (sumL a).length = 32 := bytesBE_length _

/-- Keys of a header's bytes and a nonce. -/
def keysS (h : ByteArray) (n : Int) : Int × Int := (leI ((sumL (ofBytes h ++ lowI n 8)).take 8), leI (((sumL (ofBytes h ++ lowI n 8)).drop 8).take 8))

theorem sip_Keys_eq {k : Nat} (hk : 130 ≤ k) {h : ByteArray} (hh : h.size = 80) (n : Int) : sip_Keys k h n = some (((keysS h n).1, (keysS h n).2, ()), 0, ()) := by
  unfold sip_Keys sip_Keys.c
  rw [show (((ByteArray.size h : Nat) : Int) != 80) = false by rw [hh]; rfl, cond_false, show num_NewWriter k = some (wu, [], ()) from rfl]
  simp only [Option.bind_some]
  have hz := ofBytes_length h
  rw [wb (by simp only [List.length_nil]; omega)]
  simp only [Option.bind_some, List.nil_append]
  rw [wu64 (by omega) n (by omega)]
  simp only [Option.bind_some]
  have hl : (ofBytes h ++ lowI n 8).length = 88 := by rw [List.length_append, lowI_length]; omega
  have hin : bytesIn (ofBytes h ++ lowI n 8) := bytesIn_append (ofBytes_in' h) (lowI_in n 8)
  unfold num_Writer_Text num_Writer_Text.c
  rw [cond_true' (ble_of (by omega))]
  simp only [Option.bind_some]
  rw [sha_Sum_eq (by omega) (by rw [bytesOf_size]; omega) (by rw [bytesOf_size]; omega), ofBytes_bytesOf hin]
  simp only [Option.bind_some]
  have h32 := sumL_length (ofBytes h ++ lowI n 8)
  have hb := bytesIn_sum (ofBytes h ++ lowI n 8)
  rw [List.drop_zero, List.take_of_length_le (by omega), show num_NewReader k (bytesOf (sumL (ofBytes h ++ lowI n 8))) = some ((bytesOf (sumL (ofBytes h ++ lowI n 8)), 0, 0, ()), ()) from rfl]
  simp only [Option.bind_some]
  rw [rd8_0 (by omega) hb (by omega) (by omega)]
  simp only [Option.bind_some]
  rw [rd8_8 (by omega) hb (by omega) (by omega)]
  rfl
theorem sip_Keys_no (k : Nat) {h : ByteArray} (hh : h.size ≠ 80) (n : Int) : sip_Keys k h n = some ((0, 0, ()), 1, ()) := by
  unfold sip_Keys sip_Keys.c
  rw [show (((ByteArray.size h : Nat) : Int) != 80) = true by rw [bne_iff_ne]; omega]
  rfl
theorem ref03_Keys_eq {k : Nat} (hk : 130 ≤ k) {h : ByteArray} (hh : h.size = 80) {n : Int} (hn : 0 ≤ n ∧ n ≤ 18446744073709551615) : bedrockref03_Keys k h n = some ((keysS h n).1, (keysS h n).2, ()) := by
  unfold bedrockref03_Keys bedrockref03_Keys.c
  rw [show (8 : Int) = ((8 : Nat) : Int) from rfl, bedrockref01_Low_eq (by omega) n hn 8 (by omega)]
  simp only [Option.bind_some]
  have hb := bytesIn_sum (ofBytes h ++ lowI n 8)
  have h32 := sumL_length (ofBytes h ++ lowI n 8)
  have hsz : (h ++ bytesOf (lowI n 8)).size = 88 := by rw [ByteArray.size_append, bytesOf_size, lowI_length]; omega
  rw [cond_true' (ble_of (by rw [bytesOf_size, lowI_length]; omega)), ref_Sum_eq (by omega) (by omega) (by omega), ofBytes_append, ofBytes_bytesOf (lowI_in n 8)]
  simp only [Option.bind_some]
  rw [List.drop_zero, bedrockref01_Get_eq (by omega) _ (by rw [bytesOf_size, List.length_take]; omega), ofBytes_bytesOf (fun x hx => hb x (List.mem_of_mem_take hx))]
  simp only [Option.bind_some]
  rw [bedrockref01_Get_eq (by omega) _ (by rw [bytesOf_size, List.length_take]; omega), ofBytes_bytesOf (fun x hx => hb x (List.mem_of_mem_drop (List.mem_of_mem_take hx)))]
  rfl

theorem and_u64_48 {x : Int} (h : r64 x) : bitsOp .and .u64 x 281474976710655 = x % 281474976710656 := by
  obtain ⟨X, rfl⟩ := Int.eq_ofNat_of_zero_le h.1
  have h2 := h.2
  show IntKind.u64.wrap (((BitVec.ofInt 64 (X : Int) &&& BitVec.ofInt 64 ((281474976710655 : Nat) : Int) : BitVec 64).toNat : Nat) : Int) = _
  rw [BitVec.toNat_and, toNat_ofInt 64 X (by omega), toNat_ofInt 64 281474976710655 (by decide)]
  have : X &&& 281474976710655 = X % 281474976710656 := Nat.and_two_pow_sub_one_eq_mod X 48
  rw [this, u64_in (by omega)]
  omega

theorem hashS_range (k0 k1 : Int) (s : ByteArray) : r64 (hashS k0 k1 s) := sumS_range _ _
/-- An id's short id. -/
def shortS (k0 k1 : Int) (id : List Int) : Int := hashS k0 k1 (bytesOf id) % 281474976710656
theorem shortS_range (k0 k1 : Int) (id : List Int) : 0 ≤ shortS k0 k1 id ∧ shortS k0 k1 id < 281474976710656 := by unfold shortS; omega
theorem sip_Short_eq {k : Nat} (hk : 33 ≤ k) (k0 k1 : Int) {id : List Int} (hi : id.length = 32) : sip_Short k (k0, k1, ()) id = some (shortS k0 k1 id, ()) := by
  unfold sip_Short sip_Short.c
  rw [List.drop_zero, List.take_of_length_le (by omega)]
  dsimp only
  rw [sip_Hash_eq (by omega) k0 k1 (by rw [bytesOf_size]; omega) (by rw [bytesOf_size]; omega)]
  simp only [Option.bind_some]
  rw [and_u64_48 (hashS_range _ _ _)]
  rfl
theorem ref03_Short_eq {k : Nat} (hk : 33 ≤ k) (k0 k1 : Int) {id : List Int} (hi : id.length = 32) : bedrockref03_Short k k0 k1 id = some (shortS k0 k1 id, ()) := by
  unfold bedrockref03_Short bedrockref03_Short.c
  rw [List.drop_zero, List.take_of_length_le (by omega)]
  dsimp only
  rw [ref03_Hash_eq hk k0 k1 (by rw [bytesOf_size]; omega) (by rw [bytesOf_size]; omega)]
  simp only [Option.bind_some]
  rw [Int.tmod_eq_emod_of_nonneg (hashS_range _ _ _).1]
  rfl

theorem sip_ShortBytes_eq {k : Nat} (hk : 9 ≤ k) {n : Int} (hn : n ≤ 281474976710655) : sip_ShortBytes k n = some (bytesOf (lowI n 6), 0, ()) := by
  unfold sip_ShortBytes sip_ShortBytes.c
  rw [bif_no (by omega), show num_NewWriter k = some (wu, [], ()) from rfl]
  simp only [Option.bind_some]
  rw [wu64 hk n (by simp only [List.length_nil]; omega)]
  simp only [Option.bind_some, List.nil_append]
  unfold num_Writer_Text num_Writer_Text.c
  have hl := lowI_length n 8
  rw [cond_true' (ble_of (by omega))]
  simp only [Option.bind_some]
  have hs := bytesOf_size (lowI n 8)
  rw [bif_yes (by omega), bytesOf_extract (lowI_in n 8), List.drop_zero]
  rfl
theorem sip_ShortBytes_no {k : Nat} {n : Int} (hn : 281474976710655 < n) : sip_ShortBytes k n = some (⟨List.toArray []⟩, 30, ()) := by
  unfold sip_ShortBytes sip_ShortBytes.c
  rw [bif_yes (by omega)]

/-- The short id at a place. -/
def tkS (s : ByteArray) (at' : Int) : Int × Int := if at' < 0 ∨ at' > (s.size : Int) then (0, 1) else if (s.size : Int) - at' < 6 then (0, 4) else (leI (((ofBytes s).drop at'.toNat).take 6), 0)

theorem sip_TakeShort_eq {k : Nat} (hk : 9 ≤ k) {s : ByteArray} (hs : s.size ≤ 140737488351232) (at' : Int) : sip_TakeShort k s at' = some ((tkS s at').1, (tkS s at').2, ()) := by
  unfold sip_TakeShort sip_TakeShort.c
  have hp : sip_TakeShort.p0 k (s, at', ()) = some (if at' < 0 ∨ at' > (s.size : Int) then .inl (0, 1, ()) else .inr (s, at', ())) := by
    unfold sip_TakeShort.p0
    simp only [sip_TakeShort.p0.r]
    by_cases h1 : at' < 0
    · rw [bif_yes h1, if_pos (.inl h1)]
    · rw [bif_no h1]
      by_cases h2 : at' > (s.size : Int)
      · rw [bif_yes h2, if_pos (.inr h2)]
      · rw [bif_no h2, if_neg (by omega)]
  rw [hp]
  simp only [Option.bind_some]
  unfold tkS
  by_cases h : at' < 0 ∨ at' > (s.size : Int)
  · rw [if_pos h, if_pos h]
  · rw [if_neg h, if_neg h]
    dsimp only
    obtain ⟨p, rfl⟩ := Int.eq_ofNat_of_zero_le (show 0 ≤ at' by omega)
    have hp2 : p ≤ s.size := by omega
    have hz := ofBytes_length s
    rw [bif_yes (by omega), show (p : Int).toNat = p by omega, show ((s.size : Nat) : Int).toNat = s.size by omega]
    have he : s.extract p s.size = bytesOf ((ofBytes s).drop p) := by
      apply ofBytes_inj
      rw [ofBytes_extract, ofBytes_bytesOf (fun x hx => ofBytes_in' s x (List.mem_of_mem_drop hx)), List.take_of_length_le (by rw [List.length_drop]; omega)]
    have hin : bytesIn ((ofBytes s).drop p) := fun x hx => ofBytes_in' s x (List.mem_of_mem_drop hx)
    have hsz : (bytesOf ((ofBytes s).drop p)).size = s.size - p := by rw [bytesOf_size, List.length_drop, hz]
    rw [he, show num_NewReader k (bytesOf ((ofBytes s).drop p)) = some ((bytesOf ((ofBytes s).drop p), 0, 0, ()), ()) from rfl]
    simp only [Option.bind_some]
    rw [bytes_eq k ⟨by dsimp only; omega, by dsimp only; omega, by dsimp only; omega⟩]
    simp only [Option.bind_some]
    unfold takeS
    dsimp only
    rw [if_neg (by simp), if_neg (by omega)]
    by_cases h6 : (s.size : Int) - (p : Int) < 6
    · rw [if_pos (by omega), if_pos h6]
      rfl
    · rw [if_neg (by omega), if_neg h6]
      dsimp only
      rw [show num_Reader_Err k (bytesOf ((ofBytes s).drop p), (0 : Int) + 6, 0, ()) = some (0, (bytesOf ((ofBytes s).drop p), (0 : Int) + 6, 0, ()), ()) from rfl]
      simp only [Option.bind_some]
      rw [show ((0 : Int) != 0) = false from rfl, cond_false, bytesOf_extract hin]
      have ht : ((List.drop (0 : Int).toNat ((ofBytes s).drop p)).take (((0 : Int) + 6).toNat - (0 : Int).toNat)) = ((ofBytes s).drop p).take 6 := rfl
      rw [ht]
      have hl6 : (((ofBytes s).drop p).take 6).length = 6 := by rw [List.length_take, List.length_drop]; omega
      have hi6 : bytesIn (((ofBytes s).drop p).take 6) := fun x hx => hin x (List.mem_of_mem_take hx)
      rw [cond_true' (ble_of (by rw [bytesOf_size]; omega)), show (⟨(List.toArray [0, 0])⟩ : ByteArray) = bytesOf [0, 0] from rfl, bytesOf_append]
      have hi8 : bytesIn (((ofBytes s).drop p).take 6 ++ [0, 0]) := bytesIn_append hi6 (by intro x hx; simp at hx; omega)
      rw [show num_NewReader k (bytesOf (((ofBytes s).drop p).take 6 ++ [0, 0])) = some ((bytesOf (((ofBytes s).drop p).take 6 ++ [0, 0]), 0, 0, ()), ()) from rfl]
      simp only [Option.bind_some]
      rw [rd8_0 hk hi8 (by rw [List.length_append]; simp only [List.length_cons, List.length_nil]; omega) (by rw [List.length_append]; simp only [List.length_cons, List.length_nil]; omega)]
      simp only [Option.bind_some]
      rw [List.take_of_length_le (by rw [List.length_append]; simp only [List.length_cons, List.length_nil]; omega), leI_append]
      simp [leI]

theorem sipShorts_true {header : ByteArray} (hh : header.size ≤ 140737488351232) {nonce : Int} (hn : 0 ≤ nonce ∧ nonce ≤ 18446744073709551615) {id : List Int} (hid : id.length = 32) {s : ByteArray} (hs : s.size ≤ 140737488351232) (at' : Int) :
    bedrocklaw03_SipShorts 200 (header, nonce, id, s, at', ()) = some (true, ()) := by
  unfold bedrocklaw03_SipShorts bedrocklaw03_SipShorts.c
  generalize hk : 200 = k
  dsimp only
  -- what Keys answers
  obtain ⟨k0, k1, e, hK, hp0, hp1⟩ : ∃ k0 k1 e, sip_Keys k header nonce = some ((k0, k1, ()), e, ()) ∧
      bedrocklaw03_SipShorts.p0 k (header, nonce, s, at', e, id, (k0, k1, ()), ()) = some (.inr (header, nonce, s, at', e, id, (k0, k1, ()), ())) ∧
      bedrocklaw03_SipShorts.p1 k (header, nonce, s, at', e, id, (k0, k1, ()), ()) = some (.inr (nonce, s, at', id, (k0, k1, ()), ())) := by
    by_cases h80 : header.size = 80
    · refine ⟨_, _, _, sip_Keys_eq (by omega) h80 nonce, ?_, ?_⟩
      · unfold bedrocklaw03_SipShorts.p0
        simp only [bedrocklaw03_SipShorts.p0.r]
        rw [awake03 (by omega), h80]
        rfl
      · unfold bedrocklaw03_SipShorts.p1
        simp only [bedrocklaw03_SipShorts.p1.r]
        rw [ref03_Keys_eq (by omega) h80 hn]
        simp only [Option.bind_some, bne_self_eq_false, cond_false]
        rfl
    · refine ⟨_, _, _, sip_Keys_no k h80 nonce, ?_, ?_⟩
      · unfold bedrocklaw03_SipShorts.p0
        simp only [bedrocklaw03_SipShorts.p0.r]
        rw [awake03 (by omega), show (((ByteArray.size header : Nat) : Int) == 80) = false by rw [beq_eq_false_iff_ne]; omega]
        rfl
      · unfold bedrocklaw03_SipShorts.p1
        simp only [bedrocklaw03_SipShorts.p1.r]
        rfl
  rw [hK]
  simp only [Option.bind_some]
  rw [hp0]
  simp only [Option.bind_some]
  rw [hp1]
  simp only [Option.bind_some]
  have hsr := shortS_range k0 k1 id
  rw [sip_Short_eq (by omega) k0 k1 hid]
  simp only [Option.bind_some]
  rw [sip_ShortBytes_eq (by omega) (by omega)]
  simp only [Option.bind_some]
  have hsz : (bytesOf (lowI (shortS k0 k1 id) 6)).size = 6 := by rw [bytesOf_size, lowI_length]
  have htk : tkS (bytesOf (lowI (shortS k0 k1 id) 6)) 0 = (shortS k0 k1 id, 0) := by
    unfold tkS
    rw [hsz, if_neg (by omega), if_neg (by omega), ofBytes_bytesOf (lowI_in _ _)]
    rw [show (0 : Int).toNat = 0 from rfl, List.drop_zero, List.take_of_length_le (by rw [lowI_length]; omega), leI_lowI]
    rw [Int.emod_eq_of_lt hsr.1 (by exact hsr.2)]
  rw [sip_TakeShort_eq (by omega) (by omega), htk]
  simp only [Option.bind_some]
  obtain ⟨t, h, hSB, hh1⟩ : ∃ t h, sip_ShortBytes k nonce = some (t, h, ()) ∧ ((nonce ≤ 281474976710655 ∧ h = 0) ∨ (281474976710655 < nonce ∧ h = 30)) := by
    by_cases hle : nonce ≤ 281474976710655
    · exact ⟨_, _, sip_ShortBytes_eq (by omega) hle, .inl ⟨hle, rfl⟩⟩
    · exact ⟨_, _, sip_ShortBytes_no (by omega), .inr ⟨by omega, rfl⟩⟩
  rw [hSB]
  simp only [Option.bind_some]
  have hp2 : bedrocklaw03_SipShorts.p2 k (nonce, s, at', shortS k0 k1 id, bytesOf (lowI (shortS k0 k1 id) 6), 0, shortS k0 k1 id, 0, h, id, (k0, k1, ()), ()) = some (.inr (s, at', ())) := by
    unfold bedrocklaw03_SipShorts.p2
    simp only [bedrocklaw03_SipShorts.p2.r]
    rw [ref03_Short_eq (by omega) k0 k1 hid]
    simp only [Option.bind_some, bne_self_eq_false, cond_false]
    rw [show (6 : Int) = ((6 : Nat) : Int) from rfl, bedrockref01_Low_eq (by omega) _ (by omega) 6 (by omega)]
    simp only [Option.bind_some]
    rw [strEq_self]
    rcases hh1 with ⟨h1, rfl⟩ | ⟨h1, rfl⟩
    · rw [decide_eq_true (show nonce < 281474976710656 by omega)]
      rfl
    · rw [decide_eq_false (show ¬ nonce < 281474976710656 by omega)]
      rfl
  rw [hp2]
  simp only [Option.bind_some]
  rw [sip_TakeShort_eq (by omega) hs at']
  simp only [Option.bind_some]
  unfold bedrocklaw03_SipShorts.p3
  simp only [bedrocklaw03_SipShorts.p3.r]
  have hz := ofBytes_length s
  unfold tkS
  by_cases hlt : at' < 0
  · rw [bif_yes hlt, if_pos (.inl hlt)]
    rfl
  · rw [bif_no hlt]
    by_cases hgt : at' > (s.size : Int)
    · rw [bif_yes hgt, if_pos (.inr hgt)]
      rfl
    · rw [bif_no hgt, if_neg (by omega)]
      simp only [Option.bind_some]
      rw [i64_in (n := (s.size : Int) - at') (by omega)]
      by_cases h6 : (s.size : Int) - at' < 6
      · rw [bif_yes h6, if_pos h6]
        rfl
      · rw [bif_no h6, if_neg h6, show ((0 : Int) == 0) = true from rfl, cond_true, i64_in (by omega), bif_yes (by omega)]
        have hl6 : (((ofBytes s).drop at'.toNat).take 6).length = 6 := by rw [List.length_take, List.length_drop]; omega
        have hex : (s.extract at'.toNat (at' + 6).toNat) = bytesOf (((ofBytes s).drop at'.toNat).take 6) := by
          apply ofBytes_inj
          rw [ofBytes_extract, ofBytes_bytesOf (fun x hx => ofBytes_in' s x (List.mem_of_mem_drop (List.mem_of_mem_take hx))), show (at' + 6).toNat - at'.toNat = 6 by omega]
        rw [hex, bedrockref01_Get_eq (by omega) _ (by rw [bytesOf_size]; omega), ofBytes_bytesOf (fun x hx => ofBytes_in' s x (List.mem_of_mem_drop (List.mem_of_mem_take hx)))]
        simp only [Option.bind_some, beq_self_eq_true]
end Go.Am
