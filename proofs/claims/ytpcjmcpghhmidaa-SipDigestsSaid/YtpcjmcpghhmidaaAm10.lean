/- A part of a proof: a machine of abstract values that tells what functions of the program compute, and the plain facts on them. -/
import Derived.Test.YtpcjmcpghhmidaaAm9
import Derived.KernelRfl
import Derived.Test.YtpcjmcpghhmidaaAm8
set_option linter.unusedVariables false
set_option linter.unusedSimpArgs false
set_option linter.unnecessarySimpa false
set_option linter.unusedSectionVars false
/- SipHash: turns, rounds, words. -/
namespace Go.Am
open Go

def r64 (x : Int) : Prop := 0 ≤ x ∧ x ≤ 18446744073709551615
theorem r64_xor (x y : Int) : r64 (bitsOp .xor .u64 x y) := by
  unfold r64
  simp only [bitsOp]
  rw [u64_mod]; omega
theorem r64_or (x y : Int) : r64 (bitsOp .or .u64 x y) := by
  unfold r64
  simp only [bitsOp]
  rw [u64_mod]; omega
theorem r64_wrap (x : Int) : r64 (IntKind.u64.wrap x) := by
  unfold r64
  rw [u64_mod]; omega

def rotl (x n : Int) : Int := bitsOp .or .u64 (shlOp .u64 x n) (shrOp .u64 x (64 - n))

theorem shl_u64 (x : Int) {j : Nat} (hj : j ≤ 64) : shlOp .u64 x (j : Int) = (x * 2 ^ j) % 18446744073709551616 := by
  unfold shlOp
  rw [show min (j : Int).toNat IntKind.u64.bits = j by simp [IntKind.bits]; omega, u64_mod]

/-- A word turned to the left, as a number. -/
def rotV (x : Int) (n : Nat) : Int := (x * 2 ^ n) % 18446744073709551616 + x / 2 ^ (64 - n)

theorem rotl_val {x : Int} (hx : r64 x) {n : Nat} (hn : n ≤ 64) : rotl x (n : Int) = rotV x n := by
  obtain ⟨X, rfl⟩ := Int.eq_ofNat_of_zero_le hx.1
  have hX : X < 2 ^ 64 := by have := hx.2; omega
  have hsplit : 2 ^ (64 - n) * 2 ^ n = 2 ^ 64 := by rw [← Nat.pow_add]; congr 1; omega
  unfold rotl rotV
  rw [shl_u64 _ hn, show (64 : Int) - (n : Int) = ((64 - n : Nat) : Int) by omega, shr_u64 (by omega), or_comm_bits]
  have e1 : ((X : Int) * 2 ^ n) % 18446744073709551616 = ((X % 2 ^ (64 - n) * 2 ^ n : Nat) : Int) := by
    have : X * 2 ^ n % 2 ^ 64 = X % 2 ^ (64 - n) * 2 ^ n := by rw [← hsplit, Nat.mul_mod_mul_right]
    rw [← this]
    simp
  have e2 : (X : Int) / 2 ^ (64 - n) = ((X / 2 ^ (64 - n) : Nat) : Int) := by simp
  have hA : X / 2 ^ (64 - n) < 2 ^ n := by
    rw [Nat.div_lt_iff_lt_mul (Nat.two_pow_pos _), Nat.mul_comm, hsplit]; exact hX
  have hB : X % 2 ^ (64 - n) < 2 ^ (64 - n) := Nat.mod_lt _ (Nat.two_pow_pos _)
  have hlt : X % 2 ^ (64 - n) * 2 ^ n + X / 2 ^ (64 - n) < 18446744073709551616 := by
    have h1 : (X % 2 ^ (64 - n) + 1) * 2 ^ n ≤ 2 ^ (64 - n) * 2 ^ n := Nat.mul_le_mul_right _ hB
    rw [Nat.add_mul, hsplit] at h1
    omega
  rw [e1, e2, or_u64 hA hlt]
  simp

theorem rot_nat {X P Q : Nat} (hPQ : P * Q = 9223372036854775808) (hX : X < 18446744073709551616) :
    (X * P % 18446744073709551616 + X / (2 * Q)) * 2 % 18446744073709551616 + (X * P % 18446744073709551616 + X / (2 * Q)) / 9223372036854775808 = X * (2 * P) % 18446744073709551616 + X / Q := by
  have hQ : 0 < Q := Nat.pos_of_ne_zero fun h => by subst h; simp at hPQ
  have h1 := Nat.div_add_mod X (2 * Q)
  have h2 := Nat.div_add_mod (X % (2 * Q)) Q
  have h3 : X % (2 * Q) < 2 * Q := Nat.mod_lt _ (by omega)
  have h4 : X % (2 * Q) % Q < Q := Nat.mod_lt _ hQ
  generalize X / (2 * Q) = a at *
  generalize X % (2 * Q) = b at *
  generalize hc : b / Q = c at *
  generalize b % Q = d at *
  have hc2 : c < 2 := by rw [← hc, Nat.div_lt_iff_lt_mul hQ]; omega
  have e1 : X * P = a * 18446744073709551616 + c * 9223372036854775808 + d * P := by
    rw [← h1, ← h2, ← show P * Q * 2 = 18446744073709551616 by omega, ← hPQ]
    simp only [Nat.add_mul, Nat.mul_add]
    have x1 : 2 * Q * a * P = a * (P * Q * 2) := by rw [Nat.mul_comm a, Nat.mul_assoc (2 * Q), Nat.mul_comm a P, ← Nat.mul_assoc]; congr 1; rw [Nat.mul_comm 2 Q, Nat.mul_assoc, Nat.mul_comm 2 P, ← Nat.mul_assoc, Nat.mul_comm Q P]
    have x2 : Q * c * P = c * (P * Q) := by rw [Nat.mul_comm Q c, Nat.mul_assoc, Nat.mul_comm Q P]
    omega
  have e2 : X * (2 * P) = 2 * (X * P) := by rw [Nat.mul_left_comm]
  have e3 : X / Q = 2 * a + c := by
    have : X = d + Q * (2 * a + c) := by
      rw [Nat.mul_add, ← Nat.mul_assoc, Nat.mul_comm Q 2]; omega
    rw [this, Nat.add_mul_div_left _ _ hQ, Nat.div_eq_of_lt h4]; omega
  have e4 : d * P + a < 9223372036854775808 := by
    have g1 : (d + 1) * P ≤ Q * P := Nat.mul_le_mul_right _ h4
    have g2 : a < P := by
      apply Nat.lt_of_mul_lt_mul_left (a := 2 * Q)
      have : 2 * Q * P = 18446744073709551616 := by rw [Nat.mul_assoc, Nat.mul_comm Q P]; omega
      omega
    rw [Nat.add_mul, Nat.mul_comm Q P] at g1
    omega
  rw [e2, e3]
  generalize X * P = y at *
  generalize d * P = z at *
  have m1 : y % 18446744073709551616 = c * 9223372036854775808 + z := by omega
  have m2 : (c * 9223372036854775808 + z + a) / 9223372036854775808 = c := by omega
  have m3 : (c * 9223372036854775808 + z + a) * 2 % 18446744073709551616 = 2 * (z + a) := by omega
  have m4 : 2 * y % 18446744073709551616 = 2 * z := by omega
  rw [m1, m2, m3, m4]
  omega

theorem rotV_step {x : Int} (h : r64 x) {i : Nat} (hi : i < 64) : (rotV x i * 2) % 18446744073709551616 + rotV x i / 2 ^ 63 = rotV x (i + 1) := by
  obtain ⟨X, rfl⟩ := Int.eq_ofNat_of_zero_le h.1
  have hx2 := h.2
  have hpq : 2 ^ i * 2 ^ (63 - i) = 9223372036854775808 := by rw [← Nat.pow_add, show i + (63 - i) = 63 by omega]
  have := rot_nat (X := X) hpq (by omega)
  have e : 2 * 2 ^ (63 - i) = 2 ^ (64 - i) := by rw [← Nat.pow_succ', show (63 - i).succ = 64 - i by omega]
  have e' : 2 * 2 ^ i = 2 ^ (i + 1) := by rw [← Nat.pow_succ']
  rw [e, e'] at this
  unfold rotV
  rw [show 64 - (i + 1) = 63 - i by omega]
  have g := congrArg (Int.ofNat) this
  simpa using g

theorem rotV_range {x : Int} (h : r64 x) {i : Nat} (hi : i ≤ 32) : r64 (rotV x i) := by
  rw [← rotl_val h (by omega)]; exact r64_or _ _

theorem ref03_turn_eq {k : Nat} (hk : 33 ≤ k) {x : Int} (h : r64 x) {n : Nat} (hn : n ≤ 32) : bedrockref03_turn k x (n : Int) = some (rotl x (n : Int), ()) := by
  unfold bedrockref03_turn bedrockref03_turn.c
  have hl : bedrockref03_turn.l0 k k (x, (n : Int), (0 : Int), ()) = some (rotV x n, ()) := by
    have e0 : rotV x 0 = x := by
      unfold rotV
      have h1 := h.1
      have h2 := h.2
      simp only [Int.reducePow, Nat.reduceSub]
      omega
    have := loop_from0 (r := bedrockref03_turn.l0.r k) (fun i => (rotV x i, (n : Int), (i : Int), ())) n (rotV x n, ()) ?_ ?_ (by omega : n < k)
    · rw [e0] at this
      exact this
    · intro i hi kn ke
      simp only [bedrockref03_turn.l0.r]
      have hr := rotV_range h (i := i) (by omega)
      have hs := rotV_step h (i := i) (by omega)
      have hr2 := rotV_range h (i := i + 1) (by omega)
      have ew : IntKind.u64.wrap (IntKind.u64.wrap (rotV x i * 2) + shrOp .u64 (rotV x i) 63) = rotV x (i + 1) := by
        rw [show (63 : Int) = ((63 : Nat) : Int) from rfl, shr_u64 (by omega), u64_mod (rotV x i * 2), hs, u64_in hr2]
      rw [bif_yes (by omega), ew, i64_in (by omega)]
      rfl
    · intro kn ke
      simp only [bedrockref03_turn.l0.r]
      rw [bif_no (by omega)]
  rw [hl, rotl_val h (by omega)]
  rfl

/-- A round of the four words. -/
def roundS : List Int → List Int
  | [a, b, c, d] =>
    let a1 := IntKind.u64.wrap (a + b)
    let b1 := bitsOp .xor .u64 (rotl b 13) a1
    let a2 := rotl a1 32
    let c1 := IntKind.u64.wrap (c + d)
    let d1 := bitsOp .xor .u64 (rotl d 16) c1
    let a3 := IntKind.u64.wrap (a2 + d1)
    let d2 := bitsOp .xor .u64 (rotl d1 21) a3
    let c2 := IntKind.u64.wrap (c1 + b1)
    let b2 := bitsOp .xor .u64 (rotl b1 17) c2
    [a3, b2, rotl c2 32, d2]
  | l => l

/-- Four words. -/
def W4 (v : List Int) : Prop := ∃ a b c d, v = [a, b, c, d] ∧ r64 a ∧ r64 b ∧ r64 c ∧ r64 d
theorem roundS_W4 {v : List Int} (h : W4 v) : W4 (roundS v) := by
  obtain ⟨a, b, c, d, rfl, ha, hb, hc, hd⟩ := h
  exact ⟨_, _, _, _, rfl, r64_wrap _, r64_xor _ _, r64_or _ _, r64_xor _ _⟩
theorem W4_set {v : List Int} (h : W4 v) (i : Nat) {x : Int} (hx : r64 x) : W4 (v.set i x) := by
  obtain ⟨a, b, c, d, rfl, ha, hb, hc, hd⟩ := h
  match i with
  | 0 => exact ⟨_, _, _, _, rfl, hx, hb, hc, hd⟩
  | 1 => exact ⟨_, _, _, _, rfl, ha, hx, hc, hd⟩
  | 2 => exact ⟨_, _, _, _, rfl, ha, hb, hx, hd⟩
  | 3 => exact ⟨_, _, _, _, rfl, ha, hb, hc, hx⟩
  | i + 4 => exact ⟨_, _, _, _, rfl, ha, hb, hc, hd⟩

set_option maxRecDepth 100000 in
theorem rl_eq (k : Nat) (x : Int) : math_bits_RotateLeft64 k x 13 = some (rotl x 13, ()) ∧ math_bits_RotateLeft64 k x 16 = some (rotl x 16, ()) ∧ math_bits_RotateLeft64 k x 17 = some (rotl x 17, ()) ∧ math_bits_RotateLeft64 k x 21 = some (rotl x 21, ()) ∧ math_bits_RotateLeft64 k x 32 = some (rotl x 32, ()) :=
  ⟨by kernel_rfl, by kernel_rfl, by kernel_rfl, by kernel_rfl, by kernel_rfl⟩

theorem sip_Round_eq (k : Nat) {v : List Int} (h : W4 v) : sip_Round k v = some (roundS v, ()) := by
  obtain ⟨a, b, c, d, rfl, ha, hb, hc, hd⟩ := h
  unfold sip_Round sip_Round.c
  simp only [List.set_cons_zero, List.set_cons_succ, List.getD_cons_zero, List.getD_cons_succ, (rl_eq k _).1, (rl_eq k _).2.1, (rl_eq k _).2.2.1, (rl_eq k _).2.2.2.1, (rl_eq k _).2.2.2.2, Option.bind_some]
  rfl
theorem ref03_Round_eq {k : Nat} (hk : 33 ≤ k) {v : List Int} (h : W4 v) : bedrockref03_Round k v = some (roundS v, ()) := by
  obtain ⟨a, b, c, d, rfl, ha, hb, hc, hd⟩ := h
  unfold bedrockref03_Round bedrockref03_Round.c
  simp only [List.set_cons_zero, List.set_cons_succ, List.getD_cons_zero, List.getD_cons_succ]
  have t13 : ∀ {x : Int}, r64 x → bedrockref03_turn k x 13 = some (rotl x 13, ()) := fun hx => ref03_turn_eq hk hx (n := 13) (by omega)
  have t16 : ∀ {x : Int}, r64 x → bedrockref03_turn k x 16 = some (rotl x 16, ()) := fun hx => ref03_turn_eq hk hx (n := 16) (by omega)
  have t17 : ∀ {x : Int}, r64 x → bedrockref03_turn k x 17 = some (rotl x 17, ()) := fun hx => ref03_turn_eq hk hx (n := 17) (by omega)
  have t21 : ∀ {x : Int}, r64 x → bedrockref03_turn k x 21 = some (rotl x 21, ()) := fun hx => ref03_turn_eq hk hx (n := 21) (by omega)
  have t32 : ∀ {x : Int}, r64 x → bedrockref03_turn k x 32 = some (rotl x 32, ()) := fun hx => ref03_turn_eq hk hx (n := 32) (by omega)
  rw [t13 hb]
  simp only [Option.bind_some]
  rw [t32 (r64_wrap _)]
  simp only [Option.bind_some]
  rw [t16 hd]
  simp only [Option.bind_some]
  rw [t21 (r64_xor _ _)]
  simp only [Option.bind_some]
  rw [t17 (r64_xor _ _)]
  simp only [Option.bind_some]
  rw [t32 (r64_wrap _)]
  rfl

/-- The words behind another word. -/
def mixS (v : List Int) (m : Int) : List Int :=
  let w := roundS (roundS (v.set 3 (bitsOp .xor .u64 (v.getD 3 0) m)))
  w.set 0 (bitsOp .xor .u64 (w.getD 0 0) m)
theorem mixS_W4 {v : List Int} (h : W4 v) (m : Int) : W4 (mixS v m) := W4_set (roundS_W4 (roundS_W4 (W4_set h 3 (r64_xor _ _)))) 0 (r64_xor _ _)

/-- Behind n words of a text. -/
def mixN (v l : List Int) : Nat → List Int
  | 0 => v
  | n + 1 => mixS (mixN v l n) (leI ((l.drop (8 * n)).take 8))
theorem mixN_W4 {v : List Int} (h : W4 v) (l : List Int) : ∀ n, W4 (mixN v l n)
  | 0 => h
  | n + 1 => mixS_W4 (mixN_W4 h l n) _
theorem mixN_prefix (v a b : List Int) : ∀ n, 8 * n ≤ a.length → mixN v (a ++ b) n = mixN v a n
  | 0, _ => rfl
  | n + 1, h => by
    simp only [mixN]
    rw [mixN_prefix v a b n (by omega), List.drop_append_of_le_length (by omega), List.take_append_of_le_length (by rw [List.length_drop]; omega)]
theorem mixN_add (v l : List Int) (q : Nat) : ∀ j, mixN v l (q + j) = mixN (mixN v l q) (l.drop (8 * q)) j
  | 0 => rfl
  | j + 1 => by
    show mixS (mixN v l (q + j)) (leI ((l.drop (8 * (q + j))).take 8)) = mixS (mixN (mixN v l q) (l.drop (8 * q)) j) (leI (((l.drop (8 * q)).drop (8 * j)).take 8))
    rw [mixN_add v l q j, List.drop_drop, show 8 * q + 8 * j = 8 * (q + j) by omega]

theorem bytesOf_extract {l : List Int} (h : bytesIn l) (a b : Nat) : (bytesOf l).extract a b = bytesOf ((l.drop a).take (b - a)) := by
  apply ofBytes_inj
  rw [ofBytes_extract, ofBytes_bytesOf h, ofBytes_bytesOf]
  intro x hx
  exact h x (List.mem_of_mem_drop (List.mem_of_mem_take hx))

theorem sip_mixed_eq {k : Nat} (hk : 9 ≤ k) {v : List Int} (h : W4 v) {l : List Int} (hl : bytesIn l) (h8 : l.length = 8) : sip_mixed k v (bytesOf l) = some (mixS v (leI l), ()) := by
  unfold sip_mixed sip_mixed.c
  rw [show num_NewReader k (bytesOf l) = some ((bytesOf l, 0, 0, ()), ()) from rfl]
  simp only [Option.bind_some]
  have hs : (bytesOf l).size = 8 := by rw [bytesOf_size, h8]
  have hn : numS (bytesOf l, 0, 0, ()) 8 = leI l := by
    unfold numS takeS
    dsimp only
    rw [if_neg (by simp), if_neg (by omega), if_neg (by omega)]
    dsimp only
    rw [show ((0 : Int)).toNat = 0 from rfl, show ((0 : Int) + 8).toNat = 8 from rfl, bytesOf_extract hl, List.drop_zero, List.take_of_length_le (by omega), ofBytes_bytesOf hl]
  rw [u64_eq hk ⟨by dsimp only; omega, by dsimp only; omega, by dsimp only; omega⟩, hn]
  simp only [Option.bind_some]
  rw [sip_Round_eq k (W4_set h 3 (r64_xor _ _))]
  simp only [Option.bind_some]
  rw [sip_Round_eq k (roundS_W4 (W4_set h 3 (r64_xor _ _)))]
  rfl
end Go.Am
/- SipHash of a text: what the hasher holds, its digest; the document's. -/
namespace Go.Am
open Go

/-- What is left of a text behind its words. -/
def sh (a : List Int) : List Int := a.drop (8 * (a.length / 8))
theorem sh_length (a : List Int) : (sh a).length = a.length % 8 := by
  unfold sh; rw [List.length_drop]; omega
theorem sh_in {a : List Int} (h : bytesIn a) : bytesIn (sh a) := fun x hx => h x (List.mem_of_mem_drop hx)
abbrev SipT : Type := List Int × ByteArray × Int × Unit
/-- The hasher behind a text. -/
def SP (v a : List Int) : SipT := (mixN v a (a.length / 8), bytesOf (sh a), (a.length : Int), ())

theorem bytesIn_append {a b : List Int} (ha : bytesIn a) (hb : bytesIn b) : bytesIn (a ++ b) := fun x hx => (List.mem_append.1 hx).elim (ha x) (hb x)
theorem bytesIn_rep (n : Nat) : bytesIn (List.replicate n 0) := fun x hx => by have := List.eq_of_mem_replicate hx; omega

theorem mix_append (v a b : List Int) : mixN (mixN v a (a.length / 8)) (sh a ++ b) ((sh a ++ b).length / 8) = mixN v (a ++ b) ((a ++ b).length / 8) ∧ (sh a ++ b).drop (8 * ((sh a ++ b).length / 8)) = sh (a ++ b) := by
  have e : sh a ++ b = (a ++ b).drop (8 * (a.length / 8)) := by unfold sh; rw [List.drop_append_of_le_length (by omega)]
  have hl := sh_length a
  have hn : a.length / 8 + (sh a ++ b).length / 8 = (a ++ b).length / 8 := by simp only [List.length_append, hl]; omega
  constructor
  · rw [← hn, mixN_add, mixN_prefix v a b _ (by omega), ← e]
  · show (sh a ++ b).drop _ = (a ++ b).drop (8 * ((a ++ b).length / 8))
    rw [← hn, Nat.mul_add, ← List.drop_drop, ← e]

theorem swrite_loop (k : Nat) (hk : 9 ≤ k) {v l : List Int} (hv : W4 v) (hl : bytesIn l) (h : ByteArray) (n : Int) {fuel : Nat} (hf : l.length / 8 < fuel) (hm : l.length ≤ 9223372036854775807) :
    sip_Sip_Write.l0 k fuel (bytesOf l, (v, h, n, ()), ()) = some (bytesOf (l.drop (8 * (l.length / 8))), (mixN v l (l.length / 8), h, n, ()), ()) := by
  refine loop_from0 (r := sip_Sip_Write.l0.r k) (fun i => (bytesOf (l.drop (8 * i)), (mixN v l i, h, n, ()), ())) (l.length / 8) _ ?_ ?_ hf
  · intro i hi kn ke
    simp only [sip_Sip_Write.l0.r]
    have hd : bytesIn (l.drop (8 * i)) := fun x hx => hl x (List.mem_of_mem_drop hx)
    have hs : (bytesOf (l.drop (8 * i))).size = l.length - 8 * i := by rw [bytesOf_size, List.length_drop]
    rw [bif_yes (by omega), bif_yes (by omega), bytesOf_extract hd, List.drop_zero, sip_mixed_eq hk (mixN_W4 hv l i) (fun x hx => hd x (List.mem_of_mem_take hx)) (by rw [List.length_take, List.length_drop]; omega)]
    simp only [Option.bind_some]
    rw [bif_yes (by omega), bytesOf_extract hd, List.drop_drop, List.take_of_length_le (by rw [List.length_drop]; omega)]
    rfl
  · intro kn ke
    simp only [sip_Sip_Write.l0.r]
    have hs : (bytesOf (l.drop (8 * (l.length / 8)))).size = l.length - 8 * (l.length / 8) := by rw [bytesOf_size, List.length_drop]
    rw [bif_no (by omega)]

theorem swrite_eq {k : Nat} (hk : 9 ≤ k) {v a : List Int} (hv : W4 v) (ha : bytesIn a) {s : ByteArray} (hs : a.length + s.size ≤ 140737488355328) (hf : s.size / 8 + 2 < k) :
    sip_Sip_Write k s (SP v a) = some (SP v (a ++ ofBytes s), ()) := by
  unfold sip_Sip_Write sip_Sip_Write.c SP
  dsimp only
  have hh := sh_length a
  have hz := ofBytes_length s
  rw [cond_true' (ble_of (by rw [bytesOf_size]; omega)), i64_in (by omega)]
  have e : bytesOf (sh a) ++ s = bytesOf (sh a ++ ofBytes s) := by rw [← bytesOf_append, bytesOf_ofBytes]
  have hin : bytesIn (sh a ++ ofBytes s) := bytesIn_append (sh_in ha) (ofBytes_in' s)
  rw [e, swrite_loop k hk (mixN_W4 hv a _) hin _ _ (by rw [List.length_append]; omega) (by rw [List.length_append]; omega)]
  simp only [Option.bind_some]
  rw [(mix_append v a (ofBytes s)).1, (mix_append v a (ofBytes s)).2]
  unfold strings_Clone strings_Clone.c stringslite_Clone cloneJ
  have hl2 := sh_length (a ++ ofBytes s)
  rw [cond_true' (ble_of (by rw [bytesOf_size]; omega))]
  simp only [Option.bind_some]
  rw [show (a.length : Int) + (s.size : Int) = ((a ++ ofBytes s).length : Int) by rw [List.length_append, hz]; omega]

/-- The digest out of the words. -/
def finS (v : List Int) : Int :=
  let w := roundS (roundS (roundS (roundS (v.set 2 (bitsOp .xor .u64 (v.getD 2 0) 255)))))
  bitsOp .xor .u64 (bitsOp .xor .u64 (bitsOp .xor .u64 (w.getD 0 0) (w.getD 1 0)) (w.getD 2 0)) (w.getD 3 0)
/-- The last word. -/
def lastW (a : List Int) : List Int := sh a ++ List.replicate (7 - (sh a).length) 0 ++ [IntKind.u8.wrap (a.length : Int)]
theorem lastW_length (a : List Int) : (lastW a).length = 8 := by
  have := sh_length a
  unfold lastW
  simp only [List.length_append, List.length_replicate, List.length_singleton]; omega
theorem lastW_in {a : List Int} (h : bytesIn a) : bytesIn (lastW a) := by
  refine bytesIn_append (bytesIn_append (sh_in h) (bytesIn_rep _)) ?_
  intro x hx
  simp only [List.mem_singleton] at hx
  rw [hx, u8_mod]; omega
/-- The digest of a text from these words on. -/
def sumS (v a : List Int) : Int := finS (mixS (mixN v a (a.length / 8)) (leI (lastW a)))
theorem sumS_range (v a : List Int) : r64 (sumS v a) := r64_xor _ _

theorem repeat0 (n : Nat) : repB ⟨List.toArray [0]⟩ (n : Int) = bytesOf (List.replicate n 0) := by
  unfold repB bytesOf
  congr 1
  have : ∀ m, Lib.repeatL [(0 : UInt8)] m = List.replicate m 0 := by
    intro m
    induction m with
    | zero => rfl
    | succ m ih => simp [Lib.repeatL, ih, List.replicate_succ]
  rw [show (n : Int).toNat = n by omega]
  show (Lib.repeatL [(0 : UInt8)] n).toArray = _
  rw [this]
  simp

theorem ssum_eq {k : Nat} (hk : 9 ≤ k) {v a : List Int} (hv : W4 v) (ha : bytesIn a) (hs : a.length ≤ 140737488355328) : sip_Sip_Sum k (SP v a) = some (sumS v a, SP v a, ()) := by
  unfold sip_Sip_Sum sip_Sip_Sum.c SP
  dsimp only
  have hh := sh_length a
  rw [bytesOf_size, i64_in (by omega), show (7 : Int) - ((sh a).length : Int) = ((7 - (sh a).length : Nat) : Int) by omega]
  have hrep : strings_Repeat k (⟨(List.toArray [0])⟩ : ByteArray) ((7 - (sh a).length : Nat) : Int) = some (bytesOf (List.replicate (7 - (sh a).length) 0), ()) := by
    unfold strings_Repeat repJ
    rw [repeat0]
    have : (⟨(List.toArray [0])⟩ : ByteArray).size = 1 := rfl
    rw [this, cond_true']
    simp only [Bool.and_eq_true, decide_eq_true_eq, Nat.ble_eq]
    omega
  rw [hrep]
  simp only [Option.bind_some]
  rw [cond_true' (ble_of (by rw [bytesOf_size, List.length_replicate]; omega)), bytesOf_append]
  have e1 : bytesOf (List.set (List.replicate 1 (0 : Int)) 0 (IntKind.u8.wrap (a.length : Int))) = bytesOf [IntKind.u8.wrap (a.length : Int)] := rfl
  rw [e1, cond_true' (ble_of (by rw [bytesOf_size, bytesOf_size, List.length_append, List.length_replicate, List.length_singleton]; omega)), bytesOf_append]
  have hw := mixS_W4 (mixN_W4 hv a (a.length / 8)) (leI (lastW a))
  rw [show sh a ++ List.replicate (7 - (sh a).length) 0 ++ [IntKind.u8.wrap (a.length : Int)] = lastW a from rfl, sip_mixed_eq hk (mixN_W4 hv a _) (lastW_in ha) (lastW_length a)]
  simp only [Option.bind_some]
  have h2 := W4_set hw 2 (r64_xor ((mixS (mixN v a (a.length / 8)) (leI (lastW a))).getD 2 0) 255)
  rw [sip_Round_eq k h2]
  simp only [Option.bind_some]
  rw [sip_Round_eq k (roundS_W4 h2)]
  simp only [Option.bind_some]
  rw [sip_Round_eq k (roundS_W4 (roundS_W4 h2))]
  simp only [Option.bind_some]
  rw [sip_Round_eq k (roundS_W4 (roundS_W4 (roundS_W4 h2)))]
  rfl

/-- The words at first. -/
def kv (k0 k1 : Int) : List Int := [bitsOp .xor .u64 k0 8317987319222330741, bitsOp .xor .u64 k1 7237128888997146477, bitsOp .xor .u64 k0 7816392313619706465, bitsOp .xor .u64 k1 8387220255154660723]
theorem kv_W4 (k0 k1 : Int) : W4 (kv k0 k1) := ⟨_, _, _, _, rfl, r64_xor _ _, r64_xor _ _, r64_xor _ _, r64_xor _ _⟩
theorem sip_New_eq (k : Nat) (k0 k1 : Int) : sip_New k (k0, k1, ()) = some (SP (kv k0 k1) [], ()) := rfl
/-- The digest of a text. -/
def hashS (k0 k1 : Int) (s : ByteArray) : Int := sumS (kv k0 k1) (ofBytes s)
theorem sip_Hash_eq {k : Nat} (hk : 9 ≤ k) (k0 k1 : Int) {s : ByteArray} (hs : s.size ≤ 140737488351232) (hf : s.size / 8 + 2 < k) : sip_Hash k (k0, k1, ()) s = some (hashS k0 k1 s, ()) := by
  unfold sip_Hash sip_Hash.c
  rw [sip_New_eq]
  simp only [Option.bind_some]
  show (sip_Sip_Write k s (SP (kv k0 k1) [])).bind _ = _
  rw [swrite_eq hk (kv_W4 k0 k1) (fun x hx => by simp at hx) (by simp only [List.length_nil]; omega) hf]
  simp only [Option.bind_some, List.nil_append]
  show (sip_Sip_Sum k (SP (kv k0 k1) (ofBytes s))).bind _ = _
  rw [ssum_eq hk (kv_W4 k0 k1) (ofBytes_in' s) (by rw [ofBytes_length]; omega)]
  rfl

set_option maxRecDepth 100000 in
theorem awakeSum : (sumS (kv 506097522914230528 1084818905618843912) [] == 8246050544436514353) = true := by kernel_rfl
theorem awake03 {k : Nat} (hk : 9 ≤ k) : bedrocklaw03_awake k = some (true, ()) := by
  unfold bedrocklaw03_awake bedrocklaw03_awake.c
  rw [sip_Hash_eq hk _ _ (by decide) (by have : (⟨(List.toArray [])⟩ : ByteArray).size = 0 := rfl; omega)]
  simp only [Option.bind_some]
  show some ((sumS (kv 506097522914230528 1084818905618843912) [] == 8246050544436514353), ()) = _
  rw [awakeSum]

/-! the document's -/
theorem refh_l0 (k : Nat) (s : ByteArray) (hs : s.size ≤ 140737488351232) (v : List Int) {fuel : Nat} (hf : 8 < fuel) :
    bedrockref03_Hash.l0 k fuel (s, s, v, ()) = some (s, bytesOf (ofBytes s ++ List.replicate (7 - s.size % 8) 0), v, ()) := by
  have hz := ofBytes_length s
  have := loop_from0 (r := bedrockref03_Hash.l0.r k) (fun i => (s, bytesOf (ofBytes s ++ List.replicate i 0), v, ())) (7 - s.size % 8) (s, bytesOf (ofBytes s ++ List.replicate (7 - s.size % 8) 0), v, ()) ?_ ?_ (fuel := fuel) (by omega)
  · have e0 : bytesOf (ofBytes s ++ List.replicate 0 0) = s := by rw [List.replicate_zero, List.append_nil, bytesOf_ofBytes]
    rw [e0] at this
    exact this
  · intro i hi kn ke
    simp only [bedrockref03_Hash.l0.r]
    have hsz : (bytesOf (ofBytes s ++ List.replicate i 0)).size = s.size + i := by rw [bytesOf_size, List.length_append, List.length_replicate, hz]
    rw [hsz, Int.tmod_eq_emod_of_nonneg (by omega)]
    have hne : (((s.size + i : Nat) : Int) % 8 != 7) = true := by
      rw [bne_iff_ne]; omega
    rw [cond_true' hne, cond_true' (ble_of (by omega))]
    have e : bytesOf (ofBytes s ++ List.replicate i 0) ++ (⟨(List.toArray [0])⟩ : ByteArray) = bytesOf (ofBytes s ++ List.replicate (i + 1) 0) := by
      rw [show (⟨(List.toArray [0])⟩ : ByteArray) = bytesOf [0] from rfl, bytesOf_append, List.append_assoc, ← List.replicate_succ']
    rw [e]
  · intro kn ke
    simp only [bedrockref03_Hash.l0.r]
    have hsz : (bytesOf (ofBytes s ++ List.replicate (7 - s.size % 8) 0)).size = s.size + (7 - s.size % 8) := by rw [bytesOf_size, List.length_append, List.length_replicate, hz]
    rw [hsz, Int.tmod_eq_emod_of_nonneg (by omega)]
    have hne : (((s.size + (7 - s.size % 8) : Nat) : Int) % 8 != 7) = false := by
      rw [bne_eq_false_iff_eq]; omega
    rw [cond_false' hne]

theorem refh_l1 {k : Nat} (hk : 33 ≤ k) {v l : List Int} (hv : W4 v) (hl : bytesIn l) (h8 : l.length % 8 = 0) (hs : l.length ≤ 140737488355328) {fuel : Nat} (hf : l.length / 8 < fuel) :
    bedrockref03_Hash.l1 k fuel (bytesOf l, (0 : Int), v, ()) = some (mixN v l (l.length / 8), ()) := by
  refine loop_from0 (r := bedrockref03_Hash.l1.r k) (fun i => (bytesOf l, ((8 * i : Nat) : Int), mixN v l i, ())) (l.length / 8) _ ?_ ?_ hf
  · intro i hi kn ke
    simp only [bedrockref03_Hash.l1.r]
    have hsz := bytesOf_size l
    rw [bif_yes (by omega), i64_in (by omega), bif_yes (by omega), bytesOf_extract hl, show (((8 * i : Nat) : Int) + 8).toNat - ((8 * i : Nat) : Int).toNat = 8 by omega, show ((8 * i : Nat) : Int).toNat = 8 * i by omega]
    have hin : bytesIn ((l.drop (8 * i)).take 8) := fun x hx => hl x (List.mem_of_mem_drop (List.mem_of_mem_take hx))
    have hlen : ((l.drop (8 * i)).take 8).length = 8 := by rw [List.length_take, List.length_drop]; omega
    rw [bedrockref01_Get_eq (by omega) _ (by rw [bytesOf_size]; omega), ofBytes_bytesOf hin]
    simp only [Option.bind_some]
    have hw := W4_set (mixN_W4 hv l i) 3 (r64_xor ((mixN v l i).getD 3 0) (leI ((l.drop (8 * i)).take 8)))
    rw [ref03_Round_eq hk hw]
    simp only [Option.bind_some]
    rw [ref03_Round_eq hk (roundS_W4 hw)]
    simp only [Option.bind_some]
    rw [show ((8 * i : Nat) : Int) + 8 = ((8 * (i + 1) : Nat) : Int) by omega]
    rfl
  · intro kn ke
    simp only [bedrockref03_Hash.l1.r]
    rw [bytesOf_size, bif_no (by omega)]

theorem ref03_Hash_eq {k : Nat} (hk : 33 ≤ k) (k0 k1 : Int) {s : ByteArray} (hs : s.size ≤ 140737488351232) (hf : s.size / 8 + 2 < k) : bedrockref03_Hash k k0 k1 s = some (hashS k0 k1 s, ()) := by
  unfold bedrockref03_Hash bedrockref03_Hash.c
  have hz := ofBytes_length s
  show (bedrockref03_Hash.l0 k k (s, s, kv k0 k1, ())).bind _ = _
  rw [refh_l0 k s hs _ (by omega)]
  simp only [Option.bind_some]
  have e1 : bytesOf (List.set (List.replicate 1 (0 : Int)) 0 (IntKind.u8.wrap (s.size : Int))) = bytesOf [IntKind.u8.wrap (s.size : Int)] := rfl
  rw [e1, cond_true' (ble_of (by rw [bytesOf_size, bytesOf_size, List.length_append, List.length_replicate, List.length_singleton]; omega)), bytesOf_append]
  have e2 : ofBytes s ++ List.replicate (7 - s.size % 8) 0 ++ [IntKind.u8.wrap (s.size : Int)] = ofBytes s ++ (List.replicate (7 - s.size % 8) 0 ++ [IntKind.u8.wrap (s.size : Int)]) := List.append_assoc _ _ _
  have hb : bytesIn (ofBytes s ++ (List.replicate (7 - s.size % 8) 0 ++ [IntKind.u8.wrap (s.size : Int)])) := by
    refine bytesIn_append (ofBytes_in' s) (bytesIn_append (bytesIn_rep _) ?_)
    intro x hx
    simp only [List.mem_singleton] at hx
    rw [hx, u8_mod]; omega
  have hlen : (ofBytes s ++ (List.replicate (7 - s.size % 8) 0 ++ [IntKind.u8.wrap (s.size : Int)])).length = 8 * (s.size / 8 + 1) := by
    simp only [List.length_append, List.length_replicate, List.length_singleton]; omega
  rw [e2, refh_l1 hk (kv_W4 k0 k1) hb (by omega) (by omega) (by omega), hlen, Nat.mul_div_cancel_left _ (by omega)]
  have e3 : mixN (kv k0 k1) (ofBytes s ++ (List.replicate (7 - s.size % 8) 0 ++ [IntKind.u8.wrap (s.size : Int)])) (s.size / 8 + 1) = mixS (mixN (kv k0 k1) (ofBytes s) ((ofBytes s).length / 8)) (leI (lastW (ofBytes s))) := by
    simp only [mixN]
    rw [mixN_prefix _ _ _ _ (by omega), hz]
    congr 2
    unfold lastW
    rw [sh_length, List.drop_append_of_le_length (by omega), hz]
    unfold sh
    rw [hz, List.append_assoc]
    exact List.take_of_length_le (by simp only [List.length_append, List.length_drop, List.length_replicate, List.length_singleton]; omega)
  rw [e3]
  simp only [Option.bind_some]
  have hw := mixS_W4 (mixN_W4 (kv_W4 k0 k1) (ofBytes s) ((ofBytes s).length / 8)) (leI (lastW (ofBytes s)))
  have h2 := W4_set hw 2 (r64_xor ((mixS (mixN (kv k0 k1) (ofBytes s) ((ofBytes s).length / 8)) (leI (lastW (ofBytes s)))).getD 2 0) 255)
  rw [ref03_Round_eq hk h2]
  simp only [Option.bind_some]
  rw [ref03_Round_eq hk (roundS_W4 h2)]
  simp only [Option.bind_some]
  rw [ref03_Round_eq hk (roundS_W4 (roundS_W4 h2))]
  simp only [Option.bind_some]
  rw [ref03_Round_eq hk (roundS_W4 (roundS_W4 (roundS_W4 h2)))]
  rfl
end Go.Am
namespace Go.Am
open Go Go.Proofs
set_option maxRecDepth 100000
/-! 26 (*bedrock/sip.Sip).Clone · with blocks -/
abbrev sip_Sip_Clone.τ : Type := (((List Int) × (ByteArray × (Int × Unit))) × ((List Int) × (ByteArray × (Int × Unit))) × Unit)
def sip_Sip_Clone.c (k : Nat) {ρ : Type} (b0 : ((List Int) × (ByteArray × (Int × Unit)))) (K : sip_Sip_Clone.τ → Option ρ) : Option ρ :=
  K ((b0.1, (b0.2.1, (b0.2.2.1, ()))), ((b0.1, (b0.2.1, (b0.2.2.1, ()))), ()))
def sip_Sip_Clone (k : Nat) (b0 : ((List Int) × (ByteArray × (Int × Unit)))) : Option sip_Sip_Clone.τ := sip_Sip_Clone.c k b0 some
def sip_Sip_Clone.T : CallT := ⟨[.ptr 0 []], [.dat (.pair (.arr 4 (.int .u64)) (.pair .str (.pair (.int .i64) .unit)))], 1⟩
def sip_Sip_Clone.os : List Out := [⟨.ret, [.auto 1], ⟨[.ptr 1 []], [.dat (.pair (.arr 4 (.int .u64)) (.pair .str (.pair (.int .i64) .unit))), .dat (.pair (.arr 4 (.int .u64)) (.pair .str (.pair (.int .i64) .unit)))]⟩⟩]
def sip_Sip_Clone.sem (k : Nat) : CallSem := callH sip_Sip_Clone.T sip_Sip_Clone.os fun x => sip_Sip_Clone k x.1
noncomputable def sip_Sip_Clone.ctx (k : Nat) : Ctx := ⟨Try.prog, gam []⟩
theorem sip_Sip_Clone.gok (k : Nat) : ∀ f, SemOK Try.prog f ((sip_Sip_Clone.ctx k).Γ f) := gam_nil
def sip_Sip_Clone.ann (k : Nat) : Ann := .nil
theorem sip_Sip_Clone.body (k : Nat) : BodyH (sip_Sip_Clone.ctx k) Try.f26 (Func.code Try.f26) (sip_Sip_Clone.ann k) sip_Sip_Clone.T sip_Sip_Clone.os (fun x K => sip_Sip_Clone.c k x.1 K) := by
  intro ρ x K; kernel_rfl
theorem sip_Sip_Clone.sem_ok (k : Nat) : SemOK Try.prog 26 (sip_Sip_Clone.sem k) :=
  callH_ok (C := sip_Sip_Clone.ctx k) (sip_Sip_Clone.gok k) Try.mix (c := Func.code Try.f26) (ann := sip_Sip_Clone.ann k) (T := sip_Sip_Clone.T) (os := sip_Sip_Clone.os) (fun x K => sip_Sip_Clone.c k x.1 K) Try.func26 (by kernel_rfl) (by kernel_rfl) AnnOK.nil (sip_Sip_Clone.body k) (by kernel_rfl) (by kernel_rfl) (by kernel_rfl)

/-! 28 (*bedrock/sip.Sip).Len · with blocks -/
abbrev sip_Sip_Len.τ : Type := (Int × ((List Int) × (ByteArray × (Int × Unit))) × Unit)
def sip_Sip_Len.c (k : Nat) {ρ : Type} (b0 : ((List Int) × (ByteArray × (Int × Unit)))) (K : sip_Sip_Len.τ → Option ρ) : Option ρ :=
  let v0 : Int := b0.2.2.1
  K (v0, ((b0.1, (b0.2.1, (b0.2.2.1, ()))), ()))
def sip_Sip_Len (k : Nat) (b0 : ((List Int) × (ByteArray × (Int × Unit)))) : Option sip_Sip_Len.τ := sip_Sip_Len.c k b0 some
def sip_Sip_Len.T : CallT := ⟨[.ptr 0 []], [.dat (.pair (.arr 4 (.int .u64)) (.pair .str (.pair (.int .i64) .unit)))], 1⟩
def sip_Sip_Len.os : List Out := [⟨.ret, [.freeze (.slot 0), .auto 1], ⟨[.dat (.int .i64)], [.dat (.pair (.arr 4 (.int .u64)) (.pair .str (.pair (.int .i64) .unit)))]⟩⟩]
def sip_Sip_Len.sem (k : Nat) : CallSem := callH sip_Sip_Len.T sip_Sip_Len.os fun x => sip_Sip_Len k x.1
noncomputable def sip_Sip_Len.ctx (k : Nat) : Ctx := ⟨Try.prog, gam []⟩
theorem sip_Sip_Len.gok (k : Nat) : ∀ f, SemOK Try.prog f ((sip_Sip_Len.ctx k).Γ f) := gam_nil
def sip_Sip_Len.ann (k : Nat) : Ann := .nil
theorem sip_Sip_Len.body (k : Nat) : BodyH (sip_Sip_Len.ctx k) Try.f28 (Func.code Try.f28) (sip_Sip_Len.ann k) sip_Sip_Len.T sip_Sip_Len.os (fun x K => sip_Sip_Len.c k x.1 K) := by
  intro ρ x K; kernel_rfl
theorem sip_Sip_Len.sem_ok (k : Nat) : SemOK Try.prog 28 (sip_Sip_Len.sem k) :=
  callH_ok (C := sip_Sip_Len.ctx k) (sip_Sip_Len.gok k) Try.mix (c := Func.code Try.f28) (ann := sip_Sip_Len.ann k) (T := sip_Sip_Len.T) (os := sip_Sip_Len.os) (fun x K => sip_Sip_Len.c k x.1 K) Try.func28 (by kernel_rfl) (by kernel_rfl) AnnOK.nil (sip_Sip_Len.body k) (by kernel_rfl) (by kernel_rfl) (by kernel_rfl)

/-! 27 (*bedrock/sip.Sip).Write · with blocks -/
abbrev sip_Sip_Write_n.τ : Type := (Unit)
def sip_Sip_Write_n.c (k : Nat) {ρ : Type} (s : ByteArray) (K : sip_Sip_Write_n.τ → Option ρ) : Option ρ :=
  K ()
def sip_Sip_Write_n (k : Nat) (s : ByteArray) : Option sip_Sip_Write_n.τ := sip_Sip_Write_n.c k s some
def sip_Sip_Write_n.T : CallT := ⟨[.nilp, .dat .str], [], 0⟩
def sip_Sip_Write_n.os : List Out := [⟨.ret, [.auto 0], ⟨[], []⟩⟩]
def sip_Sip_Write_n.sem (k : Nat) : CallSem := callH sip_Sip_Write_n.T sip_Sip_Write_n.os fun x => sip_Sip_Write_n k x.1
noncomputable def sip_Sip_Write_n.ctx (k : Nat) : Ctx := ⟨Try.prog, gam []⟩
theorem sip_Sip_Write_n.gok (k : Nat) : ∀ f, SemOK Try.prog f ((sip_Sip_Write_n.ctx k).Γ f) := gam_nil
def sip_Sip_Write_n.ann (k : Nat) : Ann := .nil
theorem sip_Sip_Write_n.body (k : Nat) : BodyH (sip_Sip_Write_n.ctx k) Try.f27 (Func.code Try.f27) (sip_Sip_Write_n.ann k) sip_Sip_Write_n.T sip_Sip_Write_n.os (fun x K => sip_Sip_Write_n.c k x.1 K) := by
  intro ρ x K; kernel_rfl
theorem sip_Sip_Write_n.sem_ok (k : Nat) : SemOK Try.prog 27 (sip_Sip_Write_n.sem k) :=
  callH_ok (C := sip_Sip_Write_n.ctx k) (sip_Sip_Write_n.gok k) Try.mix (c := Func.code Try.f27) (ann := sip_Sip_Write_n.ann k) (T := sip_Sip_Write_n.T) (os := sip_Sip_Write_n.os) (fun x K => sip_Sip_Write_n.c k x.1 K) Try.func27 (by kernel_rfl) (by kernel_rfl) AnnOK.nil (sip_Sip_Write_n.body k) (by kernel_rfl) (by kernel_rfl) (by kernel_rfl)

/-! 29 (*bedrock/sip.Sip).Sum · with blocks -/
abbrev sip_Sip_Sum_n.τ : Type := (Int × Unit)
def sip_Sip_Sum_n.c (k : Nat) {ρ : Type}  (K : sip_Sip_Sum_n.τ → Option ρ) : Option ρ :=
  K ((0 : Int), ())
def sip_Sip_Sum_n (k : Nat)  : Option sip_Sip_Sum_n.τ := sip_Sip_Sum_n.c k  some
def sip_Sip_Sum_n.T : CallT := ⟨[.nilp], [], 0⟩
def sip_Sip_Sum_n.os : List Out := [⟨.ret, [.freeze (.slot 0), .auto 0], ⟨[.dat (.int .u64)], []⟩⟩]
def sip_Sip_Sum_n.sem (k : Nat) : CallSem := callH sip_Sip_Sum_n.T sip_Sip_Sum_n.os fun x => sip_Sip_Sum_n k 
noncomputable def sip_Sip_Sum_n.ctx (k : Nat) : Ctx := ⟨Try.prog, gam []⟩
theorem sip_Sip_Sum_n.gok (k : Nat) : ∀ f, SemOK Try.prog f ((sip_Sip_Sum_n.ctx k).Γ f) := gam_nil
def sip_Sip_Sum_n.ann (k : Nat) : Ann := .nil
theorem sip_Sip_Sum_n.body (k : Nat) : BodyH (sip_Sip_Sum_n.ctx k) Try.f29 (Func.code Try.f29) (sip_Sip_Sum_n.ann k) sip_Sip_Sum_n.T sip_Sip_Sum_n.os (fun x K => sip_Sip_Sum_n.c k  K) := by
  intro ρ x K; kernel_rfl
theorem sip_Sip_Sum_n.sem_ok (k : Nat) : SemOK Try.prog 29 (sip_Sip_Sum_n.sem k) :=
  callH_ok (C := sip_Sip_Sum_n.ctx k) (sip_Sip_Sum_n.gok k) Try.mix (c := Func.code Try.f29) (ann := sip_Sip_Sum_n.ann k) (T := sip_Sip_Sum_n.T) (os := sip_Sip_Sum_n.os) (fun x K => sip_Sip_Sum_n.c k  K) Try.func29 (by kernel_rfl) (by kernel_rfl) AnnOK.nil (sip_Sip_Sum_n.body k) (by kernel_rfl) (by kernel_rfl) (by kernel_rfl)

/-! 28 (*bedrock/sip.Sip).Len · with blocks -/
abbrev sip_Sip_Len_n.τ : Type := (Int × Unit)
def sip_Sip_Len_n.c (k : Nat) {ρ : Type}  (K : sip_Sip_Len_n.τ → Option ρ) : Option ρ :=
  K ((0 : Int), ())
def sip_Sip_Len_n (k : Nat)  : Option sip_Sip_Len_n.τ := sip_Sip_Len_n.c k  some
def sip_Sip_Len_n.T : CallT := ⟨[.nilp], [], 0⟩
def sip_Sip_Len_n.os : List Out := [⟨.ret, [.freeze (.slot 0), .auto 0], ⟨[.dat (.int .i64)], []⟩⟩]
def sip_Sip_Len_n.sem (k : Nat) : CallSem := callH sip_Sip_Len_n.T sip_Sip_Len_n.os fun x => sip_Sip_Len_n k 
noncomputable def sip_Sip_Len_n.ctx (k : Nat) : Ctx := ⟨Try.prog, gam []⟩
theorem sip_Sip_Len_n.gok (k : Nat) : ∀ f, SemOK Try.prog f ((sip_Sip_Len_n.ctx k).Γ f) := gam_nil
def sip_Sip_Len_n.ann (k : Nat) : Ann := .nil
theorem sip_Sip_Len_n.body (k : Nat) : BodyH (sip_Sip_Len_n.ctx k) Try.f28 (Func.code Try.f28) (sip_Sip_Len_n.ann k) sip_Sip_Len_n.T sip_Sip_Len_n.os (fun x K => sip_Sip_Len_n.c k  K) := by
  intro ρ x K; kernel_rfl
theorem sip_Sip_Len_n.sem_ok (k : Nat) : SemOK Try.prog 28 (sip_Sip_Len_n.sem k) :=
  callH_ok (C := sip_Sip_Len_n.ctx k) (sip_Sip_Len_n.gok k) Try.mix (c := Func.code Try.f28) (ann := sip_Sip_Len_n.ann k) (T := sip_Sip_Len_n.T) (os := sip_Sip_Len_n.os) (fun x K => sip_Sip_Len_n.c k  K) Try.func28 (by kernel_rfl) (by kernel_rfl) AnnOK.nil (sip_Sip_Len_n.body k) (by kernel_rfl) (by kernel_rfl) (by kernel_rfl)

/-! 26 (*bedrock/sip.Sip).Clone · with blocks -/
abbrev sip_Sip_Clone_n.τ : Type := (Unit)
def sip_Sip_Clone_n.c (k : Nat) {ρ : Type}  (K : sip_Sip_Clone_n.τ → Option ρ) : Option ρ :=
  K ()
def sip_Sip_Clone_n (k : Nat)  : Option sip_Sip_Clone_n.τ := sip_Sip_Clone_n.c k  some
def sip_Sip_Clone_n.T : CallT := ⟨[.nilp], [], 0⟩
def sip_Sip_Clone_n.os : List Out := [⟨.ret, [.auto 0], ⟨[.nilp], []⟩⟩]
def sip_Sip_Clone_n.sem (k : Nat) : CallSem := callH sip_Sip_Clone_n.T sip_Sip_Clone_n.os fun x => sip_Sip_Clone_n k 
noncomputable def sip_Sip_Clone_n.ctx (k : Nat) : Ctx := ⟨Try.prog, gam []⟩
theorem sip_Sip_Clone_n.gok (k : Nat) : ∀ f, SemOK Try.prog f ((sip_Sip_Clone_n.ctx k).Γ f) := gam_nil
def sip_Sip_Clone_n.ann (k : Nat) : Ann := .nil
theorem sip_Sip_Clone_n.body (k : Nat) : BodyH (sip_Sip_Clone_n.ctx k) Try.f26 (Func.code Try.f26) (sip_Sip_Clone_n.ann k) sip_Sip_Clone_n.T sip_Sip_Clone_n.os (fun x K => sip_Sip_Clone_n.c k  K) := by
  intro ρ x K; kernel_rfl
theorem sip_Sip_Clone_n.sem_ok (k : Nat) : SemOK Try.prog 26 (sip_Sip_Clone_n.sem k) :=
  callH_ok (C := sip_Sip_Clone_n.ctx k) (sip_Sip_Clone_n.gok k) Try.mix (c := Func.code Try.f26) (ann := sip_Sip_Clone_n.ann k) (T := sip_Sip_Clone_n.T) (os := sip_Sip_Clone_n.os) (fun x K => sip_Sip_Clone_n.c k  K) Try.func26 (by kernel_rfl) (by kernel_rfl) AnnOK.nil (sip_Sip_Clone_n.body k) (by kernel_rfl) (by kernel_rfl) (by kernel_rfl)

/-! 5 bedrock/bedrocklaw03.SipFeeds -/
abbrev bedrocklaw03_SipFeeds.p0.σ : Type := (List ByteArray) × (Int × (Int × Unit)) × ((List Int) × (ByteArray × (Int × Unit))) × Unit
abbrev bedrocklaw03_SipFeeds.p0.τ : Type := (Bool × Unit) ⊕ ((List ByteArray) × (Int × (Int × Unit)) × ((List Int) × (ByteArray × (Int × Unit))) × Unit)
def bedrocklaw03_SipFeeds.p0.r (k : Nat) {ρ : Type} (x : bedrocklaw03_SipFeeds.p0.σ) (K : bedrocklaw03_SipFeeds.p0.τ → Option ρ) : Option ρ :=
  (bedrocklaw03_awake k ).bind fun t1 => bif (!t1.1) then (K (.inl (false, ()))) else (K (.inr (x.1, ((x.2.1.1, (x.2.1.2.1, ())), ((x.2.2.1.1, (x.2.2.1.2.1, (x.2.2.1.2.2.1, ()))), ())))))
def bedrocklaw03_SipFeeds.p0 (k : Nat) (x : bedrocklaw03_SipFeeds.p0.σ) : Option bedrocklaw03_SipFeeds.p0.τ := bedrocklaw03_SipFeeds.p0.r k x some
def bedrocklaw03_SipFeeds.p0.T : StT := ⟨us 1 ++ .dat (.sl .str) :: .ptr 0 [] :: us 2 ++ .ptr 1 [] :: us 75, [.dat (.pair (.int .u64) (.pair (.int .u64) .unit)), .dat (.pair (.arr 4 (.int .u64)) (.pair .str (.pair (.int .i64) .unit)))]⟩
def bedrocklaw03_SipFeeds.p0.os : List Out := [⟨.ret, [.mask [4], .auto 0], ⟨us 4 ++ .dat .bool :: us 76, []⟩⟩, ⟨.normal, [.mask [1, 2, 5], .auto 0], ⟨us 1 ++ .dat (.sl .str) :: .ptr 0 [] :: us 2 ++ .ptr 1 [] :: us 75, [.dat (.pair (.int .u64) (.pair (.int .u64) .unit)), .dat (.pair (.arr 4 (.int .u64)) (.pair .str (.pair (.int .i64) .unit)))]⟩⟩]
abbrev bedrocklaw03_SipFeeds.l1.σ : Type := (List ByteArray) × ByteArray × Int × (Int × (Int × Unit)) × ((List Int) × (ByteArray × (Int × Unit))) × Unit
abbrev bedrocklaw03_SipFeeds.l1.τ : Type := (Bool × Unit) ⊕ (ByteArray × (Int × (Int × Unit)) × ((List Int) × (ByteArray × (Int × Unit))) × Unit)
def bedrocklaw03_SipFeeds.l1.r (k : Nat) {ρ : Type} (x : bedrocklaw03_SipFeeds.l1.σ) (kn : bedrocklaw03_SipFeeds.l1.σ → Option ρ) (ke : bedrocklaw03_SipFeeds.l1.τ → Option ρ) : Option ρ :=
  let v5 : Int := (((List.length x.1) : Nat) : Int)
  bif (decide (x.2.2.1 < v5)) then ((sip_Sip_Clone k (x.2.2.2.2.1.1, (x.2.2.2.2.1.2.1, (x.2.2.2.2.1.2.2.1, ())))).bind fun t6 => (sip_Sip_Write k (⟨(List.toArray [111, 116, 104, 101, 114])⟩ : ByteArray) (t6.2.1.1, (t6.2.1.2.1, (t6.2.1.2.2.1, ())))).bind fun t7 => bif (decide (((0 : Int) ≤ x.2.2.1) ∧ (x.2.2.1 < (((List.length x.1) : Nat) : Int)))) then (let v8 : ByteArray := (List.getD x.1 (Int.toNat x.2.2.1) ByteArray.empty)
  (sip_Sip_Write k v8 (t6.1.1, (t6.1.2.1, (t6.1.2.2.1, ())))).bind fun t9 => bif (decide (((0 : Int) ≤ x.2.2.1) ∧ (x.2.2.1 < (((List.length x.1) : Nat) : Int)))) then (let v10 : ByteArray := (List.getD x.1 (Int.toNat x.2.2.1) ByteArray.empty)
  bif (Nat.ble ((ByteArray.size x.2.1) + (ByteArray.size v10)) 9223372036854775807) then (let v11 : ByteArray := (x.2.1 ++ v10)
  (sip_Sip_Len k (t9.1.1, (t9.1.2.1, (t9.1.2.2.1, ())))).bind fun t12 => bif (t12.1 != (((ByteArray.size v11) : Nat) : Int)) then (ke (.inl (false, ()))) else ((sip_Sip_Sum k (t12.2.1.1, (t12.2.1.2.1, (t12.2.1.2.2.1, ())))).bind fun t13 => let v14 : Int := x.2.2.2.1.1
  let v15 : Int := x.2.2.2.1.2.1
  (bedrockref03_Hash k v14 v15 v11).bind fun t16 => bif (t13.1 != t16.1) then (ke (.inl (false, ()))) else (let v17 : Int := (IntKind.wrap IntKind.i64 (x.2.2.1 + (1 : Int)))
  kn (x.1, (v11, (v17, ((x.2.2.2.1.1, (x.2.2.2.1.2.1, ())), ((t13.2.1.1, (t13.2.1.2.1, (t13.2.1.2.2.1, ()))), ())))))))) else (none)) else (none)) else (none)) else (ke (.inr (x.2.1, ((x.2.2.2.1.1, (x.2.2.2.1.2.1, ())), ((x.2.2.2.2.1.1, (x.2.2.2.2.1.2.1, (x.2.2.2.2.1.2.2.1, ()))), ())))))
def bedrocklaw03_SipFeeds.l1 (k : Nat) : Nat → bedrocklaw03_SipFeeds.l1.σ → Option bedrocklaw03_SipFeeds.l1.τ := loopJ (bedrocklaw03_SipFeeds.l1.r k)
def bedrocklaw03_SipFeeds.l1.T : StT := ⟨us 1 ++ .dat (.sl .str) :: .ptr 0 [] :: us 2 ++ .ptr 1 [] :: .dat .str :: .dat (.int .i64) :: us 73, [.dat (.pair (.int .u64) (.pair (.int .u64) .unit)), .dat (.pair (.arr 4 (.int .u64)) (.pair .str (.pair (.int .i64) .unit)))]⟩
def bedrocklaw03_SipFeeds.l1.os : List Out := [⟨.ret, [.mask [4], .auto 0], ⟨us 4 ++ .dat .bool :: us 76, []⟩⟩, ⟨(.exit 0), [.mask [2, 5, 6], .auto 0], ⟨us 2 ++ .ptr 0 [] :: us 2 ++ .ptr 1 [] :: .dat .str :: us 74, [.dat (.pair (.int .u64) (.pair (.int .u64) .unit)), .dat (.pair (.arr 4 (.int .u64)) (.pair .str (.pair (.int .i64) .unit)))]⟩⟩]
def bedrocklaw03_SipFeeds.c (k : Nat) {ρ : Type} (k_0 : (Int × (Int × Unit))) (parts : (List ByteArray)) (K : Bool × Unit → Option ρ) : Option ρ :=
  (sip_New k (k_0.1, (k_0.2.1, ()))).bind fun t0 => (bedrocklaw03_SipFeeds.p0 k (parts, ((k_0.1, (k_0.2.1, ())), ((t0.1.1, (t0.1.2.1, (t0.1.2.2.1, ()))), ())))).bind fun t2 => (match t2 with | .inl t3 => (K (t3.1, ())) | .inr (t4) => ((bedrocklaw03_SipFeeds.l1 k k (t4.1, ((⟨(List.toArray [])⟩ : ByteArray), ((0 : Int), ((t4.2.1.1, (t4.2.1.2.1, ())), ((t4.2.2.1.1, (t4.2.2.1.2.1, (t4.2.2.1.2.2.1, ()))), ())))))).bind fun t18 => (match t18 with | .inl t19 => (K (t19.1, ())) | .inr (t20) => ((sip_Sip_Write_n k (⟨(List.toArray [97])⟩ : ByteArray)).bind fun t21 => (sip_Sip_Sum k (t20.2.2.1.1, (t20.2.2.1.2.1, (t20.2.2.1.2.2.1, ())))).bind fun t22 => (sip_Hash k (t20.2.1.1, (t20.2.1.2.1, ())) t20.1).bind fun t23 => bif (t22.1 == t23.1) then ((sip_Sip_Sum_n k ).bind fun t24 => bif (t24.1 == (0 : Int)) then ((sip_Sip_Len_n k ).bind fun t25 => bif (t25.1 == (0 : Int)) then ((sip_Sip_Clone_n k ).bind fun t26 => K (true, ())) else (K (false, ()))) else (K (false, ()))) else (K (false, ()))))))
def bedrocklaw03_SipFeeds (k : Nat) (k_0 : (Int × (Int × Unit))) (parts : (List ByteArray)) : Option (Bool × Unit) := bedrocklaw03_SipFeeds.c k k_0 parts some
def bedrocklaw03_SipFeeds.tin : List Ty := [(.pair (.int .u64) (.pair (.int .u64) .unit)), (.sl .str)]
def bedrocklaw03_SipFeeds.tout : List Ty := [.bool]
def bedrocklaw03_SipFeeds.sem (k : Nat) : CallSem := callPure bedrocklaw03_SipFeeds.tin bedrocklaw03_SipFeeds.tout fun x => bedrocklaw03_SipFeeds k x.1 x.2.1
noncomputable def bedrocklaw03_SipFeeds.ctx (k : Nat) : Ctx := ⟨Try.prog, gam [(25, (sip_New.sem k)), (14, (bedrocklaw03_awake.sem k)), (26, (orSem (fitsH sip_Sip_Clone.T) (sip_Sip_Clone.sem k) (sip_Sip_Clone_n.sem k))), (27, (orSem (fitsH sip_Sip_Write.T) (sip_Sip_Write.sem k) (sip_Sip_Write_n.sem k))), (28, (orSem (fitsH sip_Sip_Len.T) (sip_Sip_Len.sem k) (sip_Sip_Len_n.sem k))), (29, (orSem (fitsH sip_Sip_Sum.T) (sip_Sip_Sum.sem k) (sip_Sip_Sum_n.sem k))), (16, (bedrockref03_Hash.sem k)), (15, (sip_Hash.sem k))]⟩
theorem bedrocklaw03_SipFeeds.gok (k : Nat) : ∀ f, SemOK Try.prog f ((bedrocklaw03_SipFeeds.ctx k).Γ f) := (gam_cons (sip_New.sem_ok k) (gam_cons (bedrocklaw03_awake.sem_ok k) (gam_cons (orSem_ok (sip_Sip_Clone.sem_ok k) (sip_Sip_Clone_n.sem_ok k)) (gam_cons (orSem_ok (sip_Sip_Write.sem_ok k) (sip_Sip_Write_n.sem_ok k)) (gam_cons (orSem_ok (sip_Sip_Len.sem_ok k) (sip_Sip_Len_n.sem_ok k)) (gam_cons (orSem_ok (sip_Sip_Sum.sem_ok k) (sip_Sip_Sum_n.sem_ok k)) (gam_cons (bedrockref03_Hash.sem_ok k) (gam_cons (sip_Hash.sem_ok k) gam_nil))))))))
theorem bedrocklaw03_SipFeeds.p0.is (k : Nat) : PieceIs (bedrocklaw03_SipFeeds.ctx k) (codeAt (Func.code Try.f5) [1, 1, 0]) (.nil) bedrocklaw03_SipFeeds.p0.T bedrocklaw03_SipFeeds.p0.os (bedrocklaw03_SipFeeds.p0.r k) := by
  intro ρ x K; kernel_rfl
theorem bedrocklaw03_SipFeeds.p0.ok (k : Nat) : StOK 0 Try.prog (codeAt (Func.code Try.f5) [1, 1, 0]) (pieceSem bedrocklaw03_SipFeeds.p0.T bedrocklaw03_SipFeeds.p0.os (bedrocklaw03_SipFeeds.p0 k)) :=
  piece_ok (C := bedrocklaw03_SipFeeds.ctx k) (T := bedrocklaw03_SipFeeds.p0.T) (os := bedrocklaw03_SipFeeds.p0.os) (bedrocklaw03_SipFeeds.gok k) Try.mix (fun x K => bedrocklaw03_SipFeeds.p0.r k x K) AnnOK.nil (by kernel_rfl) (by kernel_rfl) (bedrocklaw03_SipFeeds.p0.is k)
theorem bedrocklaw03_SipFeeds.l1.round (k : Nat) : RoundIs (bedrocklaw03_SipFeeds.ctx k) (codeAt (Func.code Try.f5) [1, 1, 1, 1, 0, 1, 0, 0]) (.nil) bedrocklaw03_SipFeeds.l1.T [.mask [1, 2, 5, 6, 7], .auto 0] bedrocklaw03_SipFeeds.l1.os (bedrocklaw03_SipFeeds.l1.r k) := by
  intro ρ x kn ke; kernel_rfl
theorem bedrocklaw03_SipFeeds.l1.ok (k : Nat) : StOK 0 Try.prog (.loop (codeAt (Func.code Try.f5) [1, 1, 1, 1, 0, 1, 0, 0])) (pieceSem bedrocklaw03_SipFeeds.l1.T bedrocklaw03_SipFeeds.l1.os (bedrocklaw03_SipFeeds.l1 k k)) :=
  loop_ok (C := bedrocklaw03_SipFeeds.ctx k) (bedrocklaw03_SipFeeds.gok k) Try.mix AnnOK.nil (by kernel_rfl) (by kernel_rfl) (by kernel_rfl) (bedrocklaw03_SipFeeds.l1.round k) k
def bedrocklaw03_SipFeeds.ann (k : Nat) : Ann := .node [] none (.nil) (.node [] none (.nil) (.node [] none (.node [.mask [1, 2, 5], .auto 0] (some (pieceSem bedrocklaw03_SipFeeds.p0.T bedrocklaw03_SipFeeds.p0.os (bedrocklaw03_SipFeeds.p0 k))) .nil .nil) (.node [] none (.nil) (.node [] none (.node [] none (.nil) (.node [] none (.node [.mask [1, 2, 5, 6, 7], .auto 0] (some (pieceSem bedrocklaw03_SipFeeds.l1.T bedrocklaw03_SipFeeds.l1.os (bedrocklaw03_SipFeeds.l1 k k))) .nil .nil) (.nil))) (.nil)))))
theorem bedrocklaw03_SipFeeds.body (k : Nat) : BodyIs (bedrocklaw03_SipFeeds.ctx k) Try.f5 (Func.code Try.f5) (bedrocklaw03_SipFeeds.ann k) bedrocklaw03_SipFeeds.tin bedrocklaw03_SipFeeds.tout (fun x K => bedrocklaw03_SipFeeds.c k x.1 x.2.1 K) := by
  intro ρ x K; kernel_rfl
theorem bedrocklaw03_SipFeeds.sem_ok (k : Nat) : SemOK Try.prog 5 (bedrocklaw03_SipFeeds.sem k) :=
  callPure_ok (C := bedrocklaw03_SipFeeds.ctx k) (bedrocklaw03_SipFeeds.gok k) Try.mix (c := Func.code Try.f5) (ann := bedrocklaw03_SipFeeds.ann k) (tin := bedrocklaw03_SipFeeds.tin) (tout := bedrocklaw03_SipFeeds.tout) (fun x K => bedrocklaw03_SipFeeds.c k x.1 x.2.1 K) Try.func5 (by kernel_rfl) (by kernel_rfl) (AnnOK.seq AnnOK.nil (AnnOK.seq AnnOK.nil (AnnOK.seq (AnnOK.loop (by kernel_rfl) (bedrocklaw03_SipFeeds.p0.ok k)) (AnnOK.seq AnnOK.nil (AnnOK.seq (AnnOK.seq AnnOK.nil (AnnOK.block (AnnOK.loop (by kernel_rfl) (bedrocklaw03_SipFeeds.l1.ok k)))) AnnOK.nil))))) (bedrocklaw03_SipFeeds.body k)

end Go.Am
namespace Go.Am
open Go Go.Proofs
set_option maxRecDepth 100000
/-! 13 bedrock/sip.Part -/
def sip_Part.c (k : Nat) {ρ : Type} (k_0 : (Int × (Int × Unit))) (s : ByteArray) (parts : Int) (K : Int × Int × Unit → Option ρ) : Option ρ :=
  bif (decide (parts < (1 : Int))) then (K ((0 : Int), ((1 : Int), ()))) else (bif (decide (parts > (2147483647 : Int))) then (K ((0 : Int), ((1 : Int), ()))) else ((sip_Hash k (k_0.1, (k_0.2.1, ())) s).bind fun t0 => bif (!(decide ((IntKind.wrap IntKind.u64 parts) = (0 : Int)))) then (let v1 : Int := (Int.tmod t0.1 (IntKind.wrap IntKind.u64 parts))
  K ((IntKind.wrap IntKind.i64 v1), ((0 : Int), ()))) else (none)))
def sip_Part (k : Nat) (k_0 : (Int × (Int × Unit))) (s : ByteArray) (parts : Int) : Option (Int × Int × Unit) := sip_Part.c k k_0 s parts some
def sip_Part.tin : List Ty := [(.pair (.int .u64) (.pair (.int .u64) .unit)), .str, (.int .i64)]
def sip_Part.tout : List Ty := [(.int .i64), (.int .i64)]
def sip_Part.sem (k : Nat) : CallSem := callPure sip_Part.tin sip_Part.tout fun x => sip_Part k x.1 x.2.1 x.2.2.1
noncomputable def sip_Part.ctx (k : Nat) : Ctx := ⟨Try.prog, gam [(15, (sip_Hash.sem k))]⟩
theorem sip_Part.gok (k : Nat) : ∀ f, SemOK Try.prog f ((sip_Part.ctx k).Γ f) := (gam_cons (sip_Hash.sem_ok k) gam_nil)
def sip_Part.ann (k : Nat) : Ann := .nil
theorem sip_Part.body (k : Nat) : BodyIs (sip_Part.ctx k) Try.f13 (Func.code Try.f13) (sip_Part.ann k) sip_Part.tin sip_Part.tout (fun x K => sip_Part.c k x.1 x.2.1 x.2.2.1 K) := by
  intro ρ x K; kernel_rfl
theorem sip_Part.sem_ok (k : Nat) : SemOK Try.prog 13 (sip_Part.sem k) :=
  callPure_ok (C := sip_Part.ctx k) (sip_Part.gok k) Try.mix (c := Func.code Try.f13) (ann := sip_Part.ann k) (tin := sip_Part.tin) (tout := sip_Part.tout) (fun x K => sip_Part.c k x.1 x.2.1 x.2.2.1 K) Try.func13 (by kernel_rfl) (by kernel_rfl) AnnOK.nil (sip_Part.body k)

/-! 3 bedrock/bedrocklaw03.SipDigests -/
abbrev bedrocklaw03_SipDigests.p0.σ : Type := ByteArray × Int × Int × Int × (Int × (Int × Unit)) × (List Int) × Unit
abbrev bedrocklaw03_SipDigests.p0.τ : Type := (Bool × Unit) ⊕ (ByteArray × Int × Int × Int × (Int × (Int × Unit)) × Unit)
def bedrocklaw03_SipDigests.p0.r (k : Nat) {ρ : Type} (x : bedrocklaw03_SipDigests.p0.σ) (K : bedrocklaw03_SipDigests.p0.τ → Option ρ) : Option ρ :=
  (bedrocklaw03_awake k ).bind fun t6 => bif (!t6.1) then (K (.inl (false, ()))) else ((sip_Hash k (x.2.2.2.2.1.1, (x.2.2.2.2.1.2.1, ())) x.1).bind fun t7 => let v8 : Int := x.2.2.2.2.1.1
  let v9 : Int := x.2.2.2.2.1.2.1
  (bedrockref03_Hash k v8 v9 x.1).bind fun t10 => bif (t7.1 != t10.1) then (K (.inl (false, ()))) else (let v11 : (List Int) := x.2.2.2.2.2.1
  (sip_Round k v11).bind fun t12 => let v13 : (List Int) := x.2.2.2.2.2.1
  (bedrockref03_Round k v13).bind fun t14 => bif (!(decide (t12.1 = t14.1))) then (K (.inl (false, ()))) else (K (.inr (x.1, (x.2.1, (x.2.2.1, (x.2.2.2.1, ((x.2.2.2.2.1.1, (x.2.2.2.2.1.2.1, ())), ())))))))))
def bedrocklaw03_SipDigests.p0 (k : Nat) (x : bedrocklaw03_SipDigests.p0.σ) : Option bedrocklaw03_SipDigests.p0.τ := bedrocklaw03_SipDigests.p0.r k x some
def bedrocklaw03_SipDigests.p0.T : StT := ⟨us 3 ++ .ptr 0 [] :: .dat .str :: .ptr 1 [] :: .dat (.int .i64) :: .dat (.int .i64) :: .dat (.int .i64) :: us 64, [.dat (.pair (.int .u64) (.pair (.int .u64) .unit)), .dat (.arr 4 (.int .u64))]⟩
def bedrocklaw03_SipDigests.p0.os : List Out := [⟨.ret, [.mask [2], .auto 0], ⟨us 2 ++ .dat .bool :: us 70, []⟩⟩, ⟨.normal, [.mask [3, 4, 6, 7, 8], .auto 0], ⟨us 3 ++ .ptr 0 [] :: .dat .str :: us 1 ++ .dat (.int .i64) :: .dat (.int .i64) :: .dat (.int .i64) :: us 64, [.dat (.pair (.int .u64) (.pair (.int .u64) .unit))]⟩⟩]
abbrev bedrocklaw03_SipDigests.p1.σ : Type := ByteArray × Int × Int × Int × (Int × (Int × Unit)) × Unit
abbrev bedrocklaw03_SipDigests.p1.τ : Type := (Bool × Unit) ⊕ (ByteArray × Int × Int × Int × (Int × (Int × Unit)) × Unit)
def bedrocklaw03_SipDigests.p1.r (k : Nat) {ρ : Type} (x : bedrocklaw03_SipDigests.p1.σ) (K : bedrocklaw03_SipDigests.p1.τ → Option ρ) : Option ρ :=
  bif (decide (x.2.1 < (1 : Int))) then (bif (x.2.2.1 == (0 : Int)) then (K (.inl ((x.2.2.2.1 == (1 : Int)), ()))) else (K (.inl (false, ())))) else (bif (decide (x.2.1 > (2147483647 : Int))) then (bif (x.2.2.1 == (0 : Int)) then (K (.inl ((x.2.2.2.1 == (1 : Int)), ()))) else (K (.inl (false, ())))) else (K (.inr (x.1, (x.2.1, (x.2.2.1, (x.2.2.2.1, ((x.2.2.2.2.1.1, (x.2.2.2.2.1.2.1, ())), ()))))))))
def bedrocklaw03_SipDigests.p1 (k : Nat) (x : bedrocklaw03_SipDigests.p1.σ) : Option bedrocklaw03_SipDigests.p1.τ := bedrocklaw03_SipDigests.p1.r k x some
def bedrocklaw03_SipDigests.p1.T : StT := ⟨us 3 ++ .ptr 0 [] :: .dat .str :: us 1 ++ .dat (.int .i64) :: .dat (.int .i64) :: .dat (.int .i64) :: us 64, [.dat (.pair (.int .u64) (.pair (.int .u64) .unit))]⟩
def bedrocklaw03_SipDigests.p1.os : List Out := [⟨.ret, [.mask [2], .auto 0], ⟨us 2 ++ .dat .bool :: us 70, []⟩⟩, ⟨.normal, [.mask [3, 4, 6, 7, 8], .auto 0], ⟨us 3 ++ .ptr 0 [] :: .dat .str :: us 1 ++ .dat (.int .i64) :: .dat (.int .i64) :: .dat (.int .i64) :: us 64, [.dat (.pair (.int .u64) (.pair (.int .u64) .unit))]⟩⟩]
def bedrocklaw03_SipDigests.c (k : Nat) {ρ : Type} (d : ((Int × (Int × Unit)) × (ByteArray × ((List Int) × (Int × Unit))))) (K : Bool × Unit → Option ρ) : Option ρ :=
  let v0 : ByteArray := d.2.1
  let v1 : (List Int) := d.2.2.1
  let v2 : Int := d.2.2.2.1
  (sip_Part k (d.1.1, (d.1.2.1, ())) v0 v2).bind fun t3 => let v4 : Int := t3.1
  let v5 : Int := t3.2.1
  (bedrocklaw03_SipDigests.p0 k (v0, (v2, (v4, (v5, ((d.1.1, (d.1.2.1, ())), (v1, ()))))))).bind fun t15 => (match t15 with | .inl t16 => (K (t16.1, ())) | .inr (t17) => ((bedrocklaw03_SipDigests.p1 k (t17.1, (t17.2.1, (t17.2.2.1, (t17.2.2.2.1, ((t17.2.2.2.2.1.1, (t17.2.2.2.2.1.2.1, ())), ())))))).bind fun t18 => (match t18 with | .inl t19 => (K (t19.1, ())) | .inr (t20) => (bif (t20.2.2.2.1 == (0 : Int)) then (let v21 : Int := (IntKind.wrap IntKind.u64 t20.2.2.1)
  let v22 : Int := t20.2.2.2.2.1.1
  let v23 : Int := t20.2.2.2.2.1.2.1
  (bedrockref03_Hash k v22 v23 t20.1).bind fun t24 => let v25 : Int := (IntKind.wrap IntKind.u64 t20.2.1)
  bif (!(decide (v25 = (0 : Int)))) then (let v26 : Int := (Int.tmod t24.1 v25)
  K ((v21 == v26), ())) else (none)) else (K (false, ()))))))
def bedrocklaw03_SipDigests (k : Nat) (d : ((Int × (Int × Unit)) × (ByteArray × ((List Int) × (Int × Unit))))) : Option (Bool × Unit) := bedrocklaw03_SipDigests.c k d some
def bedrocklaw03_SipDigests.tin : List Ty := [(.pair (.pair (.int .u64) (.pair (.int .u64) .unit)) (.pair .str (.pair (.arr 4 (.int .u64)) (.pair (.int .i64) .unit))))]
def bedrocklaw03_SipDigests.tout : List Ty := [.bool]
def bedrocklaw03_SipDigests.sem (k : Nat) : CallSem := callPure bedrocklaw03_SipDigests.tin bedrocklaw03_SipDigests.tout fun x => bedrocklaw03_SipDigests k x.1
noncomputable def bedrocklaw03_SipDigests.ctx (k : Nat) : Ctx := ⟨Try.prog, gam [(13, (sip_Part.sem k)), (14, (bedrocklaw03_awake.sem k)), (15, (sip_Hash.sem k)), (16, (bedrockref03_Hash.sem k)), (17, (sip_Round.sem k)), (18, (bedrockref03_Round.sem k))]⟩
theorem bedrocklaw03_SipDigests.gok (k : Nat) : ∀ f, SemOK Try.prog f ((bedrocklaw03_SipDigests.ctx k).Γ f) := (gam_cons (sip_Part.sem_ok k) (gam_cons (bedrocklaw03_awake.sem_ok k) (gam_cons (sip_Hash.sem_ok k) (gam_cons (bedrockref03_Hash.sem_ok k) (gam_cons (sip_Round.sem_ok k) (gam_cons (bedrockref03_Round.sem_ok k) gam_nil))))))
theorem bedrocklaw03_SipDigests.p0.is (k : Nat) : PieceIs (bedrocklaw03_SipDigests.ctx k) (codeAt (Func.code Try.f3) [1, 1, 1, 0]) (.nil) bedrocklaw03_SipDigests.p0.T bedrocklaw03_SipDigests.p0.os (bedrocklaw03_SipDigests.p0.r k) := by
  intro ρ x K; kernel_rfl
theorem bedrocklaw03_SipDigests.p0.ok (k : Nat) : StOK 0 Try.prog (codeAt (Func.code Try.f3) [1, 1, 1, 0]) (pieceSem bedrocklaw03_SipDigests.p0.T bedrocklaw03_SipDigests.p0.os (bedrocklaw03_SipDigests.p0 k)) :=
  piece_ok (C := bedrocklaw03_SipDigests.ctx k) (T := bedrocklaw03_SipDigests.p0.T) (os := bedrocklaw03_SipDigests.p0.os) (bedrocklaw03_SipDigests.gok k) Try.mix (fun x K => bedrocklaw03_SipDigests.p0.r k x K) AnnOK.nil (by kernel_rfl) (by kernel_rfl) (bedrocklaw03_SipDigests.p0.is k)
theorem bedrocklaw03_SipDigests.p1.is (k : Nat) : PieceIs (bedrocklaw03_SipDigests.ctx k) (codeAt (Func.code Try.f3) [1, 1, 1, 1, 0]) (.nil) bedrocklaw03_SipDigests.p1.T bedrocklaw03_SipDigests.p1.os (bedrocklaw03_SipDigests.p1.r k) := by
  intro ρ x K; kernel_rfl
theorem bedrocklaw03_SipDigests.p1.ok (k : Nat) : StOK 0 Try.prog (codeAt (Func.code Try.f3) [1, 1, 1, 1, 0]) (pieceSem bedrocklaw03_SipDigests.p1.T bedrocklaw03_SipDigests.p1.os (bedrocklaw03_SipDigests.p1 k)) :=
  piece_ok (C := bedrocklaw03_SipDigests.ctx k) (T := bedrocklaw03_SipDigests.p1.T) (os := bedrocklaw03_SipDigests.p1.os) (bedrocklaw03_SipDigests.gok k) Try.mix (fun x K => bedrocklaw03_SipDigests.p1.r k x K) AnnOK.nil (by kernel_rfl) (by kernel_rfl) (bedrocklaw03_SipDigests.p1.is k)
def bedrocklaw03_SipDigests.ann (k : Nat) : Ann := .node [] none (.nil) (.node [] none (.nil) (.node [] none (.nil) (.node [] none (.node [.mask [3, 4, 5, 6, 7, 8], .auto 0] (some (pieceSem bedrocklaw03_SipDigests.p0.T bedrocklaw03_SipDigests.p0.os (bedrocklaw03_SipDigests.p0 k))) .nil .nil) (.node [] none (.node [.mask [3, 4, 6, 7, 8], .auto 0] (some (pieceSem bedrocklaw03_SipDigests.p1.T bedrocklaw03_SipDigests.p1.os (bedrocklaw03_SipDigests.p1 k))) .nil .nil) (.nil)))))
theorem bedrocklaw03_SipDigests.body (k : Nat) : BodyIs (bedrocklaw03_SipDigests.ctx k) Try.f3 (Func.code Try.f3) (bedrocklaw03_SipDigests.ann k) bedrocklaw03_SipDigests.tin bedrocklaw03_SipDigests.tout (fun x K => bedrocklaw03_SipDigests.c k x.1 K) := by
  intro ρ x K; kernel_rfl
theorem bedrocklaw03_SipDigests.sem_ok (k : Nat) : SemOK Try.prog 3 (bedrocklaw03_SipDigests.sem k) :=
  callPure_ok (C := bedrocklaw03_SipDigests.ctx k) (bedrocklaw03_SipDigests.gok k) Try.mix (c := Func.code Try.f3) (ann := bedrocklaw03_SipDigests.ann k) (tin := bedrocklaw03_SipDigests.tin) (tout := bedrocklaw03_SipDigests.tout) (fun x K => bedrocklaw03_SipDigests.c k x.1 K) Try.func3 (by kernel_rfl) (by kernel_rfl) (AnnOK.seq AnnOK.nil (AnnOK.seq AnnOK.nil (AnnOK.seq AnnOK.nil (AnnOK.seq (AnnOK.loop (by kernel_rfl) (bedrocklaw03_SipDigests.p0.ok k)) (AnnOK.seq (AnnOK.loop (by kernel_rfl) (bedrocklaw03_SipDigests.p1.ok k)) AnnOK.nil))))) (bedrocklaw03_SipDigests.body k)

end Go.Am
/- SipDigests: the law. -/
namespace Go.Am
open Go

theorem sip_Part_eq {k : Nat} (hk : 9 ≤ k) (k0 k1 : Int) {s : ByteArray} (hs : s.size ≤ 140737488351232) (hf : s.size / 8 + 2 < k) (p : Int) :
    sip_Part k (k0, k1, ()) s p = some (if p < 1 ∨ p > 2147483647 then (0, 1, ()) else (hashS k0 k1 s % p, 0, ())) := by
  unfold sip_Part sip_Part.c
  by_cases c1 : p < 1
  · rw [bif_yes c1, if_pos (.inl c1)]
  · rw [bif_no c1]
    by_cases c2 : p > 2147483647
    · rw [bif_yes c2, if_pos (.inr c2)]
    · rw [bif_no c2, if_neg (by omega)]
      show (sip_Hash k (k0, k1, ()) s).bind _ = _
      rw [sip_Hash_eq hk k0 k1 hs hf]
      simp only [Option.bind_some]
      have hr := sumS_range (kv k0 k1) (ofBytes s)
      have h0 : 0 ≤ hashS k0 k1 s := hr.1
      rw [u64_in (n := p) (by omega), decide_eq_false (by omega), Bool.not_false, cond_true, Int.tmod_eq_emod_of_nonneg h0]
      have h1 := Int.emod_nonneg (hashS k0 k1 s) (show p ≠ 0 by omega)
      have h2 := Int.emod_lt_of_pos (hashS k0 k1 s) (show 0 < p by omega)
      rw [i64_in (by omega)]

theorem sipDigests_main {k : Nat} (hk : k = 140737488355328) {k0 k1 p : Int} {s : ByteArray} {v : List Int} (hs : s.size ≤ 140737488351232) (hv : W4 v) : bedrocklaw03_SipDigests k ((k0, k1, ()), s, v, p, ()) = some (true, ()) := by
  unfold bedrocklaw03_SipDigests bedrocklaw03_SipDigests.c
  dsimp only
  rw [sip_Part_eq (by omega) k0 k1 hs (by omega)]
  simp only [Option.bind_some]
  generalize hX : (if p < 1 ∨ p > 2147483647 then (0, 1, ()) else (hashS k0 k1 s % p, 0, ()) : Int × Int × Unit) = X
  obtain ⟨x, e, u⟩ := X
  have hp0 : bedrocklaw03_SipDigests.p0 k (s, p, x, e, (k0, k1, ()), v, ()) = some (.inr (s, p, x, e, (k0, k1, ()), ())) := by
    unfold bedrocklaw03_SipDigests.p0
    simp only [bedrocklaw03_SipDigests.p0.r]
    rw [awake03 (by omega)]
    simp only [Option.bind_some, Bool.not_true, cond_false]
    rw [sip_Hash_eq (by omega) k0 k1 hs (by omega)]
    simp only [Option.bind_some]
    rw [ref03_Hash_eq (by omega) k0 k1 hs (by omega)]
    simp only [Option.bind_some, bne_self_eq_false, cond_false]
    rw [sip_Round_eq k hv]
    simp only [Option.bind_some]
    rw [ref03_Round_eq (by omega) hv]
    simp only [Option.bind_some, decide_true, Bool.not_true, cond_false]
  show (bedrocklaw03_SipDigests.p0 k (s, p, x, e, (k0, k1, ()), v, ())).bind _ = _
  rw [hp0]
  simp only [Option.bind_some]
  by_cases c : p < 1 ∨ p > 2147483647
  · rw [if_pos c] at hX
    cases hX
    have hp1 : bedrocklaw03_SipDigests.p1 k (s, p, 0, 1, (k0, k1, ()), ()) = some (.inl (true, ())) := by
      unfold bedrocklaw03_SipDigests.p1
      simp only [bedrocklaw03_SipDigests.p1.r]
      by_cases c1 : p < 1
      · rw [bif_yes c1]; rfl
      · rw [bif_no c1, bif_yes (by omega)]; rfl
    show (bedrocklaw03_SipDigests.p1 k (s, p, 0, 1, (k0, k1, ()), ())).bind _ = _
    rw [hp1]
    rfl
  · rw [if_neg c] at hX
    cases hX
    have hp1 : bedrocklaw03_SipDigests.p1 k (s, p, hashS k0 k1 s % p, 0, (k0, k1, ()), ()) = some (.inr (s, p, hashS k0 k1 s % p, 0, (k0, k1, ()), ())) := by
      unfold bedrocklaw03_SipDigests.p1
      simp only [bedrocklaw03_SipDigests.p1.r]
      rw [bif_no (by omega), bif_no (by omega)]
    show (bedrocklaw03_SipDigests.p1 k (s, p, hashS k0 k1 s % p, 0, (k0, k1, ()), ())).bind _ = _
    rw [hp1]
    simp only [Option.bind_some, beq_self_eq_true, cond_true]
    rw [ref03_Hash_eq (by omega) k0 k1 hs (by omega)]
    simp only [Option.bind_some]
    have hr := sumS_range (kv k0 k1) (ofBytes s)
    have h0 : 0 ≤ hashS k0 k1 s := hr.1
    have h1 := Int.emod_nonneg (hashS k0 k1 s) (show p ≠ 0 by omega)
    have h2 := Int.emod_lt_of_pos (hashS k0 k1 s) (show 0 < p by omega)
    rw [u64_in (n := p) (by omega), decide_eq_false (by omega), Bool.not_false, cond_true, Int.tmod_eq_emod_of_nonneg h0, u64_in (by omega), beq_self_eq_true]
end Go.Am
