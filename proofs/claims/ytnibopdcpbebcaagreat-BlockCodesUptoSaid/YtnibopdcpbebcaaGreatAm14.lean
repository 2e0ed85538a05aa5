/- A part of a proof: a machine of abstract values that tells what functions of the program compute, and the plain facts on them. -/
import Derived.Test.YtnibopdcpbebcaaGreatAm5
import Derived.Test.YtnibopdcpbebcaaGreatAm4
import Derived.Test.YtnibopdcpbebcaaGreatAm13
set_option linter.unusedVariables false
set_option linter.unusedSimpArgs false
set_option linter.unnecessarySimpa false
set_option linter.unusedSectionVars false
namespace Go.Am
open Go
theorem Q8U {σ τ : Type} {r : {ρ : Type} → σ → (σ → Option ρ) → (τ → Option ρ) → Option ρ} (S : Nat → σ) (n : Nat) (T : τ) (a : Nat)
  (hstep : ∀ i, a ≤ i → i < n → ∀ (kn : σ → Option τ) (ke : τ → Option τ), r (S i) kn ke = kn (S (i + 1))) (hend : ∀ (kn : σ → Option τ) (ke : τ → Option τ), r (S n) kn ke = ke T) :
  ∀ {fuel : Nat}, a ≤ n → n - a < fuel → Q15 r fuel (S a) = some T := by
 intro fuel ha hf
 have key : ∀ (d i fuel : Nat), a ≤ i → i + d = n → d < fuel → Q15 r fuel (S i) = some T := by
  intro d
  induction d with
  | zero =>
   intro i fuel _ hi hf
   cases fuel with
   | zero => omega
   | succ fuel =>
    have : i = n := by omega
    subst this
    exact hend _ _
  | succ d ih =>
   intro i fuel hai hi hf
   cases fuel with
   | zero => omega
   | succ fuel =>
    show r (S i) (Q15 r fuel) some = _
    rw [hstep i hai (by omega)]
    exact ih (i + 1) fuel (by omega) (by omega) (by omega)
 exact key (n - a) a fuel (Nat.le_refl _) (by omega) hf
theorem Q1w {σ τ : Type} {r : {ρ : Type} → σ → (σ → Option ρ) → (τ → Option ρ) → Option ρ} (S : Nat → σ) (n : Nat) (T : τ)
  (hstep : ∀ i, i < n → ∀ (kn : σ → Option τ) (ke : τ → Option τ), r (S i) kn ke = kn (S (i + 1))) (hend : ∀ (kn : σ → Option τ) (ke : τ → Option τ), r (S n) kn ke = ke T)
  {fuel : Nat} (hf : n < fuel) : Q15 r fuel (S 0) = some T := Q8U S n T 0 (fun i _ hi => hstep i hi) hend (Nat.zero_le _) (by omega)
theorem QeU {σ τ : Type} {r : {ρ : Type} → σ → (σ → Option ρ) → (τ → Option ρ) → Option ρ} (I : Nat → σ → Prop) (T : τ → Prop)
  (h : ∀ n s, I n s → (∃ s' m, m < n ∧ I m s' ∧ ∀ (kn : σ → Option τ) (ke : τ → Option τ), r s kn ke = kn s') ∨ (∃ t, T t ∧ ∀ (kn : σ → Option τ) (ke : τ → Option τ), r s kn ke = ke t)) :
  ∀ (n fuel : Nat) (s : σ), n < fuel → I n s → ∃ t, T t ∧ Q15 r fuel s = some t
 | n, fuel + 1, s, hf, hi => by
  rcases h n s hi with ⟨s', m, hm, hI, hr⟩ | ⟨t, ht, hr⟩
  ·obtain ⟨t, ht, h2⟩ := QeU I T h m fuel s' (by omega) hI
   exact ⟨t, ht, (hr (Q15 r fuel) some).trans h2⟩
  ·exact ⟨t, ht, hr (Q15 r fuel) some⟩
theorem i64_in {n : Int} (h : -9223372036854775808 ≤ n ∧ n ≤ 9223372036854775807) : IntKind.i64.wrap n = n := IntWalk.i64_in n h
theorem u64_in {n : Int} (h : 0 ≤ n ∧ n ≤ 18446744073709551615) : IntKind.u64.wrap n = n := IntWalk.u64_in n h
theorem u8_in {n : Int} (h : 0 ≤ n ∧ n ≤ 255) : IntKind.u8.wrap n = n := IntWalk.u8_in n h
theorem Q1I {a b : Nat} (h : a ≤ b) : Nat.ble a b = true := by rw [Nat.ble_eq]; exact h
theorem Qb3 (n : Int) : IntKind.u8.wrap n = n % 256 := IntKind.wrap_u8 n
theorem Q6K (n : Int) : IntKind.u32.wrap n = n % 4294967296 := IntKind.wrap_u32 n
theorem QaG (n : Int) : IntKind.u64.wrap n = n % 18446744073709551616 := IntKind.wrap_u64 n
theorem Q3g {n : Int} (h : 0 ≤ n ∧ n ≤ 4294967295) : IntKind.u32.wrap n = n := by rw [Q6K]; omega
theorem QX {α : Type} {b : Bool} {x y : α} (h : b = true) : (bif b then x else y) = x := by rw [h]; rfl
theorem Q1t {α : Type} {b : Bool} {x y : α} (h : b = false) : (bif b then x else y) = y := by rw [h]; rfl
theorem Qy {α : Type} {p : Prop} [Decidable p] {x y : α} (h : p) : (bif decide p then x else y) = x := by rw [decide_eq_true h]; rfl
theorem Q0Z {α : Type} {p : Prop} [Decidable p] {x y : α} (h : ¬ p) : (bif decide p then x else y) = y := by rw [decide_eq_false h]; rfl
theorem QaX (k : IntKind) (x y : Int) : Q12 .or k x y = Q12 .or k y x := by
 simp only [Q12, BitVec.or_comm]
theorem Qf8 (k : IntKind) (x y : Int) : Q12 .xor k x y = Q12 .xor k y x := by
 simp only [Q12, BitVec.xor_comm]
theorem Qf6 (k : IntKind) (x y : Int) : Q12 .and k x y = Q12 .and k y x := by
 simp only [Q12, BitVec.and_comm]
theorem toNat_ofInt (w A : Nat) (h : A < 2 ^ w) : (BitVec.ofInt w (A : Int)).toNat = A := by
 rw [BitVec.toNat_ofInt]
 have : ((A : Int) % ((2 : Nat) ^ w : Nat)).toNat = A % 2 ^ w := by
  rw [← Int.natCast_emod]; rfl
 rw [this]
 exact Nat.mod_eq_of_lt h
theorem QgI {A B : Nat} (ha : A < 4294967296) (hb : B < 4294967296) : Q12 .and .u32 (A : Int) (B : Int) = ((A &&& B : Nat) : Int) := by
 show IntKind.u32.wrap (((BitVec.ofInt 32 (A : Int) &&& BitVec.ofInt 32 (B : Int) : BitVec 32).toNat : Nat) : Int) = _
 rw [BitVec.toNat_and, toNat_ofInt 32 A (by simpa using ha), toNat_ofInt 32 B (by simpa using hb)]
 exact Q3g ⟨by omega, by have : A &&& B ≤ A := Nat.and_le_left; omega⟩
theorem Qgp {A B : Nat} (ha : A < 4294967296) (hb : B < 4294967296) : Q12 .or .u32 (A : Int) (B : Int) = ((A ||| B : Nat) : Int) := by
 show IntKind.u32.wrap (((BitVec.ofInt 32 (A : Int) ||| BitVec.ofInt 32 (B : Int) : BitVec 32).toNat : Nat) : Int) = _
 rw [BitVec.toNat_or, toNat_ofInt 32 A (by simpa using ha), toNat_ofInt 32 B (by simpa using hb)]
 exact Q3g ⟨by omega, by have : A ||| B < 2 ^ 32 := Nat.or_lt_two_pow (by simpa using ha) (by simpa using hb); simp at this; omega⟩
theorem Qfn {A B : Nat} (ha : A < 4294967296) (hb : B < 4294967296) : Q12 .xor .u32 (A : Int) (B : Int) = ((A ^^^ B : Nat) : Int) := by
 show IntKind.u32.wrap (((BitVec.ofInt 32 (A : Int) ^^^ BitVec.ofInt 32 (B : Int) : BitVec 32).toNat : Nat) : Int) = _
 rw [BitVec.toNat_xor, toNat_ofInt 32 A (by simpa using ha), toNat_ofInt 32 B (by simpa using hb)]
 exact Q3g ⟨by omega, by have : A ^^^ B < 2 ^ 32 := Nat.xor_lt_two_pow (by simpa using ha) (by simpa using hb); simp at this; omega⟩
theorem Qfw {x : Int} (h : 0 ≤ x ∧ x ≤ 4294967295) : notI .u32 x = 4294967295 - x := by
 obtain ⟨A, rfl⟩ := Int.eq_ofNat_of_zero_le h.1
 show Q12 .xor .u32 (4294967295 : Int) (A : Int) = _
 rw [show (4294967295 : Int) = ((4294967295 : Nat) : Int) from rfl, Qfn (by omega) (by omega)]
 have : 4294967295 ^^^ A = 4294967295 - A := by
  have h1 : (BitVec.allOnes 32 ^^^ BitVec.ofNat 32 A).toNat = 4294967295 - A := by
   rw [BitVec.allOnes_xor, BitVec.toNat_not, BitVec.toNat_ofNat, Nat.mod_eq_of_lt (by omega)]
  rw [← h1, BitVec.toNat_xor, BitVec.toNat_allOnes, BitVec.toNat_ofNat, Nat.mod_eq_of_lt (show A < 2 ^ 32 by omega)]
 rw [this]; omega
theorem QeY (op : BinOp) (x y : Int) (h : op = .and ∨ op = .or ∨ op = .xor) : 0 ≤ Q12 op .u32 x y ∧ Q12 op .u32 x y ≤ 4294967295 := by
 rcases h with rfl | rfl | rfl <;> simp only [Q12] <;> rw [Q6K] <;> omega
theorem QfY {A B j : Nat} (ha : A < 2 ^ j) : A ||| B * 2 ^ j = B * 2 ^ j + A := by
 rw [Nat.or_comm, Nat.mul_comm, ← Nat.two_pow_add_eq_or_of_lt ha]
theorem Q56 {A B j : Nat} (ha : A < 2 ^ j) (hlt : B * 2 ^ j + A < 4294967296) : Q12 .or .u32 ((B * 2 ^ j : Nat) : Int) (A : Int) = ((B * 2 ^ j + A : Nat) : Int) := by
 rw [Qgp (by omega) (by omega), Nat.or_comm, QfY ha]
theorem Q8t (x : Int) {j : Nat} (hj : j ≤ 32) : Q2w .u32 x (j : Int) = (x * 2 ^ j) % 4294967296 := by
 unfold Q2w
 rw [show min (j : Int).toNat IntKind.u32.bits = j by simp [IntKind.bits]; omega, Q6K]
theorem QgH {x : Int} {j : Nat} (hj : j ≤ 32) : Q2c .u32 x (j : Int) = x / 2 ^ j := by
 unfold Q2c
 rw [show min (j : Int).toNat IntKind.u32.bits = j by simp [IntKind.bits]; omega]
 exact Int.fdiv_eq_ediv_of_nonneg _ (Int.le_of_lt (Int.pow_pos (by omega)))
def QgP (a b c d : Int) : Int := ((a * 256 + b) * 256 + c) * 256 + d
def QgK (x : Int) : Prop := 0 ≤ x ∧ x < 256
def QgL (x : Int) : Prop := 0 ≤ x ∧ x ≤ 4294967295
end Go.Am
namespace Go.Am
open Go
def kc : List Int := [1116352408, 1899447441, 3049323471, 3921009573, 961987163, 1508970993, 2453635748, 2870763221, 3624381080, 310598401, 607225278, 1426881987, 1925078388, 2162078206, 2614888103, 3248222580, 3835390401, 4022224774, 264347078, 604807628, 770255983, 1249150122, 1555081692, 1996064986, 2554220882, 2821834349, 2952996808, 3210313671, 3336571891, 3584528711, 113926993, 338241895, 666307205, 773529912, 1294757372, 1396182291, 1695183700, 1986661051, 2177026350, 2456956037, 2730485921, 2820302411, 3259730800, 3345764771, 3516065817, 3600352804, 4094571909, 275423344, 430227734, 506948616, 659060556, 883997877, 958139571, 1322822218, 1537002063, 1747873779, 1955562222, 2024104815, 2227730452, 2361852424, 2428436474, 2756734187, 3204031479, 3329325298]
theorem Q5X {α : Type} {f : Nat → α} {y : List α} {i : Nat} (hi : i < y.length) : ((List.range i).map f ++ y.drop i).set i (f i) = (List.range (i + 1)).map f ++ y.drop (i + 1) := by
 rw [List.set_append_right _ _ (by simp)]
 simp only [List.length_map, List.length_range, Nat.sub_self]
 rw [List.drop_eq_getElem_cons hi, List.set_cons_zero, List.range_succ, List.map_append]
 simp
theorem Qdt {α : Type} {f : Nat → α} {y : List α} {i : Nat} (d : α) : ((List.range i).map f ++ y.drop i).getD i d = y.getD i d := by
 rw [List.getD_eq_getElem?_getD, List.getElem?_append_right (by simp)]
 simp [List.getD_eq_getElem?_getD]
theorem Q6V {α : Type} {f : Nat → α} {y : List α} {n : Nat} (h : y.length ≤ n) : (List.range n).map f ++ y.drop n = (List.range n).map f := by
 rw [List.drop_eq_nil_of_le h]; simp
def rotr (x n : Int) : Int := Q12 .or .u32 (Q2c .u32 x n) (Q2w .u32 x (32 - n))
theorem Q3b (k : Nat) (x : Int) {n : Int} (h : 0 ≤ n ∧ n ≤ 32) : Q02 k x n = some (rotr x n, ()) := by
 unfold Q02 Q02.c
 rw [i64_in (n := 32 - n) (by omega)]
 dsimp only
 rw [Qy h.1, Qy (by omega)]
 rfl
theorem Qcv (n : Nat) (h : n < 18446744073709551616) : Q12 .and .u64 (n : Int) (31 : Int) = ((n % 32 : Nat) : Int) := by
 show IntKind.u64.wrap (((BitVec.ofInt 64 (n : Int) &&& BitVec.ofInt 64 ((31 : Nat) : Int) : BitVec 64).toNat : Nat) : Int) = _
 rw [BitVec.toNat_and, toNat_ofInt 64 n (by simpa using h), toNat_ofInt 64 31 (by decide)]
 rw [show (31 : Nat) = 2 ^ 5 - 1 from rfl, Nat.and_two_pow_sub_one_eq_mod]
 exact u64_in (by omega)
theorem Q28 (k : Nat) (x : Int) {n : Int} (h : 0 < n ∧ n < 32) : Q13 k x n = some (rotr x n, ()) := by
 unfold Q13 Q13.c QY QY.c
 rw [i64_in (n := 0 - n) (by omega)]
 dsimp only
 have e : IntKind.u64.wrap (0 - n) = (((18446744073709551616 - n).toNat : Nat) : Int) := by rw [QaG]; omega
 rw [e, Qcv _ (by omega)]
 have e2 : (((18446744073709551616 - n).toNat % 32 : Nat) : Int) = 32 - n := by omega
 rw [e2, u64_in (n := 32 - (32 - n)) (by omega), show (32 : Int) - (32 - n) = n by omega]
 rw [Qy (by omega), Qy (by omega)]
 simp only [Option.bind_some]
 rw [QaX]
 rfl
def part (blk : List Int) (i : Nat) : Nat → Int
 | 0 => 0
 | j + 1 => part blk i j * 256 + blk.getD (4 * i + j) 0
def Q29 (lo hi : Int) (l : List Int) : Prop := ∀ x ∈ l, lo ≤ x ∧ x ≤ hi
theorem Q2O {lo hi : Int} {l : List Int} (h : Q29 lo hi l) (h0 : lo ≤ 0 ∧ 0 ≤ hi) (i : Nat) : lo ≤ l.getD i 0 ∧ l.getD i 0 ≤ hi := by
 rw [List.getD_eq_getElem?_getD]
 cases hi' : l[i]? with
 | none => simpa using h0
 | some x => exact h x (List.mem_of_getElem? hi')
theorem Q8Y {blk : List Int} (hb : Q29 0 255 blk) (i : Nat) : ∀ j, 0 ≤ part blk i j ∧ part blk i j < 256 ^ j
 | 0 => by simp [part]
 | j + 1 => by
  have ih := Q8Y hb i j
  have hx := Q2O hb (by omega) (4 * i + j)
  simp only [part, Int.pow_succ]
  have : part blk i j + 1 ≤ 256 ^ j := by omega
  omega
def sig1 (x : Int) : Int := Q12 .xor .u32 (Q12 .xor .u32 (rotr x 17) (rotr x 19)) (Q2c .u32 x 10)
def sig0 (x : Int) : Int := Q12 .xor .u32 (Q12 .xor .u32 (rotr x 7) (rotr x 18)) (Q2c .u32 x 3)
def ext (w : List Int) (t : Nat) : Int :=
 IntKind.u32.wrap (IntKind.u32.wrap (IntKind.u32.wrap (sig1 (w.getD (t - 2) 0) + w.getD (t - 7) 0) + sig0 (w.getD (t - 15) 0)) + w.getD (t - 16) 0)
def wl (blk : List Int) : Nat → List Int
 | 0 => []
 | n + 1 => wl blk n ++ [if n < 16 then part blk n 4 else ext (wl blk n) n]
theorem Q3U (blk : List Int) : ∀ n, (wl blk n).length = n
 | 0 => rfl
 | n + 1 => by simp [wl, Q3U blk n]
def wz (blk : List Int) (n : Nat) : List Int := wl blk n ++ List.replicate (64 - n) 0
theorem QaV (blk : List Int) {n : Nat} (h : n < 64) (v : Int) (hv : v = if n < 16 then part blk n 4 else ext (wl blk n) n) : (wz blk n).set n v = wz blk (n + 1) := by
 unfold wz
 rw [List.set_append_right _ _ (by rw [Q3U]; omega), Q3U, Nat.sub_self, show 64 - n = (64 - (n + 1)) + 1 by omega, List.replicate_succ, List.set_cons_zero, wl, hv]
 simp
theorem Q5E (blk : List Int) {n i : Nat} (h : i < n) : (wz blk n).getD i 0 = (wl blk n).getD i 0 := by
 unfold wz
 rw [List.getD_eq_getElem?_getD, List.getD_eq_getElem?_getD, List.getElem?_append_left (by rw [Q3U]; exact h)]
theorem QfF (blk : List Int) {n : Nat} : (wz blk n).getD n 0 = 0 := by
 unfold wz
 rw [List.getD_eq_getElem?_getD, List.getElem?_append_right (by rw [Q3U]; omega), Q3U, Nat.sub_self]
 cases h : 64 - n <;> simp [List.replicate_succ]
theorem QdD (blk : List Int) {n : Nat} (h : n ≤ 64) : (wz blk n).length = 64 := by
 simp [wz, Q3U]; omega
theorem Qfm {x b : Int} (hx : 0 ≤ x ∧ x < 16777216) (hb : 0 ≤ b ∧ b ≤ 255) : Q12 .or .u32 (Q2w .u32 x 8) (IntKind.u32.wrap b) = x * 256 + b := by
 rw [Q3g (n := b) (by omega), show (8 : Int) = ((8 : Nat) : Int) from rfl, Q8t x (by omega)]
 obtain ⟨X, rfl⟩ := Int.eq_ofNat_of_zero_le hx.1
 obtain ⟨B, rfl⟩ := Int.eq_ofNat_of_zero_le hb.1
 have : ((X : Int) * 2 ^ 8) % 4294967296 = ((X * 2 ^ 8 : Nat) : Int) := by simp; omega
 rw [this, Q56 (by omega) (by omega)]
 omega
theorem Qer (k : Nat) {blk : List Int} (hb : Q29 0 255 blk) (hlen : blk.length = 64) {i : Nat} (hi : i < 16) (z : List Int) {fuel : Nat} (hf : 4 < fuel) :
  QC.l1 k fuel ((i : Int), (i : Int), (4 * i, 4), (4 : Int), (0 : Int), blk, z, wz blk i, ()) = some ((i : Int), blk, z, wz blk (i + 1), ()) := by
 have h0 : (wz blk i).set i 0 = wz blk i := by
  have := QfF blk (n := i)
  apply List.ext_getElem?
  intro j
  rw [List.getElem?_set]
  split
  ·rename_i e
   subst e
   split
   ·rename_i hlt
    rw [List.getD_eq_getElem?_getD, List.getElem?_eq_getElem hlt] at this
    simp only [Option.getD_some] at this
    rw [List.getElem?_eq_getElem hlt, this]
   ·rename_i hlt
    rw [List.getElem?_eq_none (by omega)]
  ·rfl
 have := Q1w (r := QC.l1.r k) (fun j => ((i : Int), (i : Int), (4 * i, 4), (4 : Int), (j : Int), blk, z, (wz blk i).set i (part blk i j), ())) 4 ((i : Int), blk, z, wz blk (i + 1), ()) ?_ ?_ hf
 ·rw [part, h0] at this
  exact this
 ·intro j hj kn ke
  simp only [QC.l1.r]
  rw [Qy (by omega), Qy (by omega), Qy (by omega)]
  rw [Qy (by omega), i64_in (by omega), show (i : Int).toNat = i by omega, show (j : Int).toNat = j by omega]
  have hlt : i < (wz blk i).length := by rw [QdD blk (by omega)]; omega
  have e1 : ((wz blk i).set i (part blk i j)).getD i 0 = part blk i j := by
   rw [List.getD_eq_getElem?_getD, List.getElem?_set_self hlt]; rfl
  have hp := Q8Y hb i j
  have hp3 : (256 : Int) ^ j ≤ 16777216 := by
   have : j = 0 ∨ j = 1 ∨ j = 2 ∨ j = 3 := by omega
   rcases this with rfl | rfl | rfl | rfl <;> decide
  rw [e1, Qfm (by omega) (Q2O hb (by omega) _), List.set_set]
  rfl
 ·intro kn ke
  simp only [QC.l1.r]
  rw [Q0Z (by omega), QaV blk (by omega) _ (by rw [if_pos hi])]
theorem QeB (k : Nat) (hk : 64 < k) {blk : List Int} (hb : Q29 0 255 blk) (hlen : blk.length = 64) (z : List Int) :
  QC.l0 k k ((0 : Int), blk, z, wz blk 0, ()) = some (blk, z, wz blk 16, ()) := by
 refine Q1w (r := QC.l0.r k) (fun i => ((i : Int), blk, z, wz blk i, ())) 16 _ ?_ ?_ (by omega)
 ·intro i hi kn ke
  simp only [QC.l0.r]
  rw [Qy (by omega), i64_in (n := 4 * (i : Int)) (by omega), i64_in (n := (i : Int) + 1) (by omega), i64_in (n := 4 * ((i : Int) + 1)) (by omega), Qy (by omega)]
  rw [show (4 * (i : Int)).toNat = 4 * i by omega, show (4 * ((i : Int) + 1) - 4 * (i : Int)).toNat = 4 by omega]
  have := Qer k hb hlen hi z (fuel := k) (by omega)
  show (QC.l1 k k ((i : Int), (i : Int), (4 * i, 4), (4 : Int), (0 : Int), blk, z, wz blk i, ())).bind _ = _
  rw [this]
  simp only [Option.bind_some]
  rw [i64_in (by omega)]
  rfl
 ·intro kn ke
  simp only [QC.l0.r]
  rw [Q0Z (by omega)]
theorem Qeh (k : Nat) (hk : 64 < k) (blk b z : List Int) :
  QC.l2 k k ((16 : Int), b, z, wz blk 16, ()) = some (b, z, wz blk 64, ()) := by
 refine Q8U (r := QC.l2.r k) (fun i => ((i : Int), b, z, wz blk i, ())) 64 _ 16 ?_ ?_ (by omega) (by omega)
 ·intro i h16 hi kn ke
  simp only [QC.l2.r]
  rw [Qy (by omega), i64_in (n := (i : Int) - 2) (by omega), i64_in (n := (i : Int) - 15) (by omega), i64_in (n := (i : Int) - 7) (by omega), i64_in (n := (i : Int) - 16) (by omega), i64_in (n := (i : Int) + 1) (by omega)]
  rw [Qy (by omega), Qy (by omega)]
  simp only [Q28 k _ (show (0 : Int) < 17 ∧ (17 : Int) < 32 by omega), Q28 k _ (show (0 : Int) < 19 ∧ (19 : Int) < 32 by omega), Q28 k _ (show (0 : Int) < 7 ∧ (7 : Int) < 32 by omega), Q28 k _ (show (0 : Int) < 18 ∧ (18 : Int) < 32 by omega), Option.bind_some]
  rw [Qy (by omega), Qy (by omega), Qy (by omega)]
  rw [show ((i : Int) - 2).toNat = i - 2 by omega, show ((i : Int) - 15).toNat = i - 15 by omega, show ((i : Int) - 7).toNat = i - 7 by omega, show ((i : Int) - 16).toNat = i - 16 by omega, show (i : Int).toNat = i by omega]
  rw [Q5E blk (show i - 2 < i by omega), Q5E blk (show i - 15 < i by omega), Q5E blk (show i - 7 < i by omega), Q5E blk (show i - 16 < i by omega)]
  rw [QaV blk (by omega) _ (by rw [if_neg (by omega)]; rfl)]
  rfl
 ·intro kn ke
  simp only [QC.l2.r]
  rw [Q0Z (by omega)]
theorem wz_0 (blk : List Int) : List.replicate 64 (0 : Int) = wz blk 0 := rfl
theorem QfW (blk : List Int) : wz blk 64 = wl blk 64 := by simp [wz]
theorem QaC {k : Nat} (hk : 64 < k) {blk : List Int} (hb : Q29 0 255 blk) (hlen : blk.length = 64) : QC k blk = some (wl blk 64, blk, ()) := by
 unfold QC QC.c
 rw [wz_0 blk, QeB k hk hb hlen]
 simp only [Option.bind_some]
 show (QC.l2 k k ((16 : Int), blk, wz blk 0, wz blk 16, ())).bind _ = _
 rw [Qeh k hk, QfW]
 rfl
theorem Q7s (k : Nat) : Q0X k = some (kc, ()) := rfl
theorem Q7I (k : Nat) : Q05 k = some (kc, ()) := rfl
def big1 (e : Int) : Int := Q12 .xor .u32 (Q12 .xor .u32 (rotr e 6) (rotr e 11)) (rotr e 25)
def big0 (a : Int) : Int := Q12 .xor .u32 (Q12 .xor .u32 (rotr a 2) (rotr a 13)) (rotr a 22)
def chF (e f g : Int) : Int := Q12 .xor .u32 (Q12 .and .u32 e f) (Q12 .and .u32 (4294967295 - e) g)
def majF (a b c : Int) : Int := Q12 .xor .u32 (Q12 .xor .u32 (Q12 .and .u32 a b) (Q12 .and .u32 a c)) (Q12 .and .u32 b c)
def Q2t (a b : Int) : Int := IntKind.u32.wrap (a + b)
theorem Qbd (a b c : Int) : Q2t (Q2t a b) c = Q2t a (Q2t b c) := by
 unfold Q2t; simp only [Q6K]; omega
theorem Qcm (a b : Int) : Q2t a b = Q2t b a := by
 unfold Q2t; rw [Int.add_comm]
theorem Q88 (a b : Int) : 0 ≤ Q2t a b ∧ Q2t a b ≤ 4294967295 := by unfold Q2t; rw [Q6K]; omega
def rnd (y : List Int) (kt wt : Int) : List Int :=
 let t1 := Q2t (Q2t (Q2t (Q2t (y.getD 7 0) (big1 (y.getD 4 0))) (chF (y.getD 4 0) (y.getD 5 0) (y.getD 6 0))) kt) wt
 [Q2t t1 (Q2t (big0 (y.getD 0 0)) (majF (y.getD 0 0) (y.getD 1 0) (y.getD 2 0))), y.getD 0 0, y.getD 1 0, y.getD 2 0, Q2t (y.getD 3 0) t1, y.getD 4 0, y.getD 5 0, y.getD 6 0]
def rndN (w x : List Int) : Nat → List Int
 | 0 => x
 | t + 1 => rnd (rndN w x t) (kc.getD t 0) (w.getD t 0)
theorem Qgh {y : List Int} (hy : Q29 0 4294967295 y) (kt wt : Int) : Q29 0 4294967295 (rnd y kt wt) := by
 intro v hv
 simp only [rnd, List.mem_cons, List.not_mem_nil, or_false] at hv
 rcases hv with rfl | rfl | rfl | rfl | rfl | rfl | rfl | rfl <;> first | exact Q88 _ _ | exact Q2O hy (by omega) _
theorem QaO {w x : List Int} (hx : Q29 0 4294967295 x) : ∀ t, Q29 0 4294967295 (rndN w x t)
 | 0 => hx
 | t + 1 => Qgh (QaO hx t) _ _
theorem Qfx (k : Nat) (hk : 64 < k) {x0 : List Int} (hx : Q29 0 4294967295 x0) (z w : List Int) :
  Q0c.l0 k k ((0 : Int), x0, z, w, kc, x0, ()) = some (x0, z, rndN w x0 64, ()) := by
 refine Q1w (r := Q0c.l0.r k) (fun i => ((i : Int), x0, z, w, kc, rndN w x0 i, ())) 64 _ ?_ ?_ (by omega)
 ·intro i hi kn ke
  simp only [Q0c.l0.r]
  rw [Qy (by omega)]
  simp only [Q28 k _ (show (0 : Int) < 6 ∧ (6 : Int) < 32 by omega), Q28 k _ (show (0 : Int) < 11 ∧ (11 : Int) < 32 by omega), Q28 k _ (show (0 : Int) < 25 ∧ (25 : Int) < 32 by omega), Q28 k _ (show (0 : Int) < 2 ∧ (2 : Int) < 32 by omega), Q28 k _ (show (0 : Int) < 13 ∧ (13 : Int) < 32 by omega), Q28 k _ (show (0 : Int) < 22 ∧ (22 : Int) < 32 by omega), Option.bind_some]
  rw [Qy (by omega), Qy (by omega), i64_in (n := (i : Int) + 1) (by omega), show (i : Int).toNat = i by omega]
  have hr := QaO (w := w) hx i
  rw [Qfw (Q2O hr (by omega) 4)]
  show kn ((i : Int) + 1, x0, z, w, kc, [Q2t (Q2t _ _) _, _, _, _, _, _, _, _], ()) = _
  rw [Qbd]
  rfl
 ·intro kn ke
  simp only [Q0c.l0.r]
  rw [Q0Z (by omega)]
theorem Qff (k : Nat) (hk : 64 < k) (x z y : List Int) (hy : y.length = 8) :
  Q0c.l1 k k ((0 : Int), x, z, y, ()) = some (z, (List.range 8).map (fun j => Q2t (y.getD j 0) (x.getD j 0)), ()) := by
 have := Q1w (r := Q0c.l1.r k) (fun i => ((i : Int), x, z, (List.range i).map (fun j => Q2t (y.getD j 0) (x.getD j 0)) ++ y.drop i, ())) 8 (z, (List.range 8).map (fun j => Q2t (y.getD j 0) (x.getD j 0)), ()) ?_ ?_ (fuel := k) (by omega)
 ·simp only [List.range_zero, List.map_nil, List.nil_append, List.drop_zero] at this
  exact this
 ·intro i hi kn ke
  simp only [Q0c.l1.r]
  rw [Qy (by omega), Qy (by omega), Qy (by omega), Qy (by omega), i64_in (n := (i : Int) + 1) (by omega), show (i : Int).toNat = i by omega, Qdt]
  show kn ((i : Int) + 1, x, z, List.set _ i (Q2t (y.getD i 0) (x.getD i 0)), ()) = _
  rw [Q5X (f := fun j => Q2t (y.getD j 0) (x.getD j 0)) (by omega)]
  rfl
 ·intro kn ke
  simp only [Q0c.l1.r]
  rw [Q0Z (by omega), Q6V (by omega)]
def Q7X (x blk : List Int) : List Int := (List.range 8).map fun j => Q2t ((rndN (wl blk 64) x 64).getD j 0) (x.getD j 0)
theorem Qc9 {w x : List Int} (hx : x.length = 8) : ∀ t, (rndN w x t).length = 8
 | 0 => hx
 | _ + 1 => rfl
theorem QaN (x blk : List Int) : (Q7X x blk).length = 8 := by simp [Q7X]
theorem Qeu (x blk : List Int) : Q29 0 4294967295 (Q7X x blk) := by
 intro v hv
 simp only [Q7X, List.mem_map] at hv
 obtain ⟨j, _, rfl⟩ := hv
 exact Q88 _ _
theorem Qc7 {k : Nat} (hk : 64 < k) {x blk : List Int} (hx : Q29 0 4294967295 x) (hxl : x.length = 8) (hb : Q29 0 255 blk) (hlen : blk.length = 64) : Q0c k x blk = some (Q7X x blk, ()) := by
 unfold Q0c Q0c.c
 rw [QaC hk hb hlen, Q7s]
 simp only [Option.bind_some]
 rw [Qfx k hk hx]
 simp only [Option.bind_some]
 rw [Qff k hk _ _ _ (Qc9 hxl 64)]
 rfl
theorem Qge (k : Nat) (hk : 64 < k) {blk : List Int} (hb : Q29 0 255 blk) (hlen : blk.length = 64) (s z kk : List Int) :
  Q4.l0 k k ((0 : Int), s, blk, z, kk, wz blk 0, ()) = some (s, z, kk, wl blk 64, ()) := by
 rw [← QfW blk]
 refine Q1w (r := Q4.l0.r k) (fun i => ((i : Int), s, blk, z, kk, wz blk i, ())) 64 _ ?_ ?_ (by omega)
 ·intro i hi kn ke
  simp only [Q4.l0.r]
  rw [Qy (by omega)]
  by_cases h16 : i < 16
  ·rw [Qy (by omega), i64_in (n := 4 * (i : Int)) (by omega), i64_in (n := 4 * (i : Int) + 1) (by omega), i64_in (n := 4 * (i : Int) + 2) (by omega), i64_in (n := 4 * (i : Int) + 3) (by omega), i64_in (n := (i : Int) + 1) (by omega)]
   rw [Qy (by omega), Qy (by omega), Qy (by omega), Qy (by omega), Qy (by omega)]
   rw [show (4 * (i : Int)).toNat = 4 * i by omega, show (4 * (i : Int) + 1).toNat = 4 * i + 1 by omega, show (4 * (i : Int) + 2).toNat = 4 * i + 2 by omega, show (4 * (i : Int) + 3).toNat = 4 * i + 3 by omega, show (i : Int).toNat = i by omega]
   have b0 := Q2O hb (by omega) (4 * i)
   have b1 := Q2O hb (by omega) (4 * i + 1)
   have b2 := Q2O hb (by omega) (4 * i + 2)
   have b3 := Q2O hb (by omega) (4 * i + 3)
   have hp : part blk i 4 = ((blk.getD (4 * i) 0 * 256 + blk.getD (4 * i + 1) 0) * 256 + blk.getD (4 * i + 2) 0) * 256 + blk.getD (4 * i + 3) 0 := by
    simp [part]
   rw [QaV blk (by omega) _ ?_]
   ·rfl
   ·rw [if_pos h16, hp]
    generalize blk.getD (4 * i) 0 = x0 at *
    generalize blk.getD (4 * i + 1) 0 = x1 at *
    generalize blk.getD (4 * i + 2) 0 = x2 at *
    generalize blk.getD (4 * i + 3) 0 = x3 at *
    obtain ⟨X0, rfl⟩ := Int.eq_ofNat_of_zero_le b0.1
    obtain ⟨X1, rfl⟩ := Int.eq_ofNat_of_zero_le b1.1
    obtain ⟨X2, rfl⟩ := Int.eq_ofNat_of_zero_le b2.1
    obtain ⟨X3, rfl⟩ := Int.eq_ofNat_of_zero_le b3.1
    simp only [Q3g (show 0 ≤ ((X0 : Nat) : Int) ∧ ((X0 : Nat) : Int) ≤ 4294967295 by omega), Q3g (show 0 ≤ ((X1 : Nat) : Int) ∧ ((X1 : Nat) : Int) ≤ 4294967295 by omega), Q3g (show 0 ≤ ((X2 : Nat) : Int) ∧ ((X2 : Nat) : Int) ≤ 4294967295 by omega), Q3g (show 0 ≤ ((X3 : Nat) : Int) ∧ ((X3 : Nat) : Int) ≤ 4294967295 by omega)]
    rw [show (24 : Int) = ((24 : Nat) : Int) from rfl, show (16 : Int) = ((16 : Nat) : Int) from rfl, show (8 : Int) = ((8 : Nat) : Int) from rfl, Q8t _ (by omega), Q8t _ (by omega), Q8t _ (by omega)]
    rw [show ((X0 : Int) * 2 ^ 24) % 4294967296 = ((X0 * 2 ^ 24 : Nat) : Int) by simp; omega, show ((X1 : Int) * 2 ^ 16) % 4294967296 = ((X1 * 2 ^ 16 : Nat) : Int) by simp; omega, show ((X2 : Int) * 2 ^ 8) % 4294967296 = ((X2 * 2 ^ 8 : Nat) : Int) by simp; omega]
    rw [Q56 (A := X1 * 2 ^ 16) (B := X0) (j := 24) (by omega) (by omega)]
    rw [show X0 * 2 ^ 24 + X1 * 2 ^ 16 = (X0 * 256 + X1) * 2 ^ 16 by omega, Q56 (A := X2 * 2 ^ 8) (j := 16) (by omega) (by omega)]
    rw [show (X0 * 256 + X1) * 2 ^ 16 + X2 * 2 ^ 8 = ((X0 * 256 + X1) * 256 + X2) * 2 ^ 8 by omega, Q56 (A := X3) (j := 8) (by omega) (by omega)]
    omega
  ·rw [Q0Z (by omega), i64_in (n := (i : Int) - 2) (by omega), i64_in (n := (i : Int) - 15) (by omega), i64_in (n := (i : Int) - 7) (by omega), i64_in (n := (i : Int) - 16) (by omega), i64_in (n := (i : Int) + 1) (by omega)]
   rw [Qy (by omega), Qy (by omega)]
   simp only [Q3b k _ (show (0 : Int) ≤ 17 ∧ (17 : Int) ≤ 32 by omega), Q3b k _ (show (0 : Int) ≤ 19 ∧ (19 : Int) ≤ 32 by omega), Q3b k _ (show (0 : Int) ≤ 7 ∧ (7 : Int) ≤ 32 by omega), Q3b k _ (show (0 : Int) ≤ 18 ∧ (18 : Int) ≤ 32 by omega), Option.bind_some]
   rw [Qy (by omega), Qy (by omega), Qy (by omega)]
   rw [show ((i : Int) - 2).toNat = i - 2 by omega, show ((i : Int) - 15).toNat = i - 15 by omega, show ((i : Int) - 7).toNat = i - 7 by omega, show ((i : Int) - 16).toNat = i - 16 by omega, show (i : Int).toNat = i by omega]
   rw [Q5E blk (show i - 2 < i by omega), Q5E blk (show i - 15 < i by omega), Q5E blk (show i - 7 < i by omega), Q5E blk (show i - 16 < i by omega)]
   rw [QaV blk (by omega) _ (by rw [if_neg (by omega)]; rfl)]
   rfl
 ·intro kn ke
  simp only [Q4.l0.r]
  rw [Q0Z (by omega)]
theorem Qg3 (k : Nat) (hk : 64 < k) {x0 : List Int} (hx : Q29 0 4294967295 x0) (s z w : List Int) :
  Q4.l1 k k ((0 : Int), s, z, kc, w, x0, ()) = some (s, z, rndN w x0 64, ()) := by
 refine Q1w (r := Q4.l1.r k) (fun i => ((i : Int), s, z, kc, w, rndN w x0 i, ())) 64 _ ?_ ?_ (by omega)
 ·intro i hi kn ke
  simp only [Q4.l1.r]
  rw [Qy (by omega)]
  simp only [Q3b k _ (show (0 : Int) ≤ 6 ∧ (6 : Int) ≤ 32 by omega), Q3b k _ (show (0 : Int) ≤ 11 ∧ (11 : Int) ≤ 32 by omega), Q3b k _ (show (0 : Int) ≤ 25 ∧ (25 : Int) ≤ 32 by omega), Q3b k _ (show (0 : Int) ≤ 2 ∧ (2 : Int) ≤ 32 by omega), Q3b k _ (show (0 : Int) ≤ 13 ∧ (13 : Int) ≤ 32 by omega), Q3b k _ (show (0 : Int) ≤ 22 ∧ (22 : Int) ≤ 32 by omega), Option.bind_some]
  rw [Qy (by omega), Qy (by omega), i64_in (n := (i : Int) + 1) (by omega), show (i : Int).toNat = i by omega]
  have hr := Q2O (QaO (w := w) hx i) (by omega) 4
  rw [Q3g (n := 4294967295 - (rndN w x0 i).getD 4 0) (by omega)]
  rfl
 ·intro kn ke
  simp only [Q4.l1.r]
  rw [Q0Z (by omega)]
theorem Qg9 (k : Nat) (hk : 64 < k) (x z y : List Int) (hx : x.length = 8) :
  Q4.l2 k k ((0 : Int), x, z, y, ()) = some ((List.range 8).map (fun j => Q2t (x.getD j 0) (y.getD j 0)), z, ()) := by
 have := Q1w (r := Q4.l2.r k) (fun i => ((i : Int), (List.range i).map (fun j => Q2t (x.getD j 0) (y.getD j 0)) ++ x.drop i, z, y, ())) 8 ((List.range 8).map (fun j => Q2t (x.getD j 0) (y.getD j 0)), z, ()) ?_ ?_ (fuel := k) (by omega)
 ·simp only [List.range_zero, List.map_nil, List.nil_append, List.drop_zero] at this
  exact this
 ·intro i hi kn ke
  simp only [Q4.l2.r]
  rw [Qy (by omega), Qy (by omega), Qy (by omega), Qy (by omega), i64_in (n := (i : Int) + 1) (by omega), show (i : Int).toNat = i by omega, Qdt]
  show kn ((i : Int) + 1, List.set _ i (Q2t (x.getD i 0) (y.getD i 0)), z, y, ()) = _
  rw [Q5X (f := fun j => Q2t (x.getD j 0) (y.getD j 0)) (by omega)]
  rfl
 ·intro kn ke
  simp only [Q4.l2.r]
  rw [Q0Z (by omega), Q6V (by omega)]
theorem Qc0 {k : Nat} (hk : 64 < k) {x blk : List Int} (hx : Q29 0 4294967295 x) (hxl : x.length = 8) (hb : Q29 0 255 blk) (hlen : blk.length = 64) : Q4 k x blk = some (Q7X x blk, ()) := by
 unfold Q4 Q4.c
 rw [Q7I, wz_0 blk]
 simp only [Option.bind_some]
 rw [Qge k hk hb hlen]
 simp only [Option.bind_some]
 rw [Qg3 k hk hx]
 simp only [Option.bind_some]
 rw [Qg9 k hk _ _ _ hxl]
 simp only [Option.bind_some]
 have e : (List.range 8).map (fun j => Q2t (x.getD j 0) ((rndN (wl blk 64) x 64).getD j 0)) = Q7X x blk := List.map_congr_left fun j _ => Qcm _ _
 rw [e]
end Go.Am
namespace Go.Am
open Go
def first : List Int := [1779033703, 3144134277, 1013904242, 2773480762, 1359893119, 2600822924, 528734635, 1541459225]
theorem QfC (k : Nat) : Q1z k = some (first, ()) := rfl
theorem Qay (k : Nat) : Q0B k = some (first, ()) := rfl
theorem Q8K : Q29 0 4294967295 first := by unfold Q29 first; decide
theorem Q5b : first.length = 8 := rfl
def stt (x l : List Int) : Nat → List Int
 | 0 => x
 | n + 1 => Q7X (stt x l n) ((l.drop (64 * n)).take 64)
theorem Qco {x l : List Int} (hx : Q29 0 4294967295 x) : ∀ n, Q29 0 4294967295 (stt x l n)
 | 0 => hx
 | _ + 1 => Qeu _ _
theorem Q6v {x l : List Int} (hx : x.length = 8) : ∀ n, (stt x l n).length = 8
 | 0 => hx
 | _ + 1 => QaN _ _
theorem Q8D (x a b : List Int) : ∀ n, 64 * n ≤ a.length → stt x (a ++ b) n = stt x a n
 | 0, _ => rfl
 | n + 1, h => by
  simp only [stt]
  rw [Q8D x a b n (by omega), List.drop_append_of_le_length (by omega), List.take_append_of_le_length (by simp; omega)]
theorem Qdv (x l : List Int) (q : Nat) : ∀ j, stt x l (q + j) = stt (stt x l q) (l.drop (64 * q)) j
 | 0 => rfl
 | j + 1 => by
  rw [← Nat.add_assoc]
  simp only [stt]
  rw [Qdv x l q j, List.drop_drop, show 64 * q + 64 * j = 64 * (q + j) by omega]
theorem Q6y {lo hi : Int} {l : List Int} (h : Q29 lo hi l) (n : Nat) : Q29 lo hi (l.drop n) := fun x hx => h x (List.mem_of_mem_drop hx)
theorem Q98 {lo hi : Int} {l : List Int} (h : Q29 lo hi l) (n : Nat) : Q29 lo hi (l.take n) := fun x hx => h x (List.mem_of_mem_take hx)
theorem QaT {lo hi : Int} {l r : List Int} (h : Q29 lo hi l) (h2 : Q29 lo hi r) : Q29 lo hi (l ++ r) := fun x hx => by
 rcases List.mem_append.1 hx with hx | hx
 ·exact h x hx
 ·exact h2 x hx
theorem Q51 (s : ByteArray) : Q29 0 255 (Qq s) := fun x hx => by have := Q2I hx; omega
theorem Q9l (k : Nat) (hk : 64 < k) {x left : List Int} (hx : Q29 0 4294967295 x) (hxl : x.length = 8) (hl : Q29 0 255 left) (n : Int) {fuel : Nat} (hf : left.length / 64 < fuel) :
  Qz.l0 k fuel ((x, (), n, ()), left, ()) = some ((stt x left (left.length / 64), (), n, ()), left.drop (64 * (left.length / 64)), ()) := by
 refine Q1w (r := Qz.l0.r k) (fun i => ((stt x left i, (), n, ()), left.drop (64 * i), ())) (left.length / 64) _ ?_ ?_ hf
 ·intro i hi kn ke
  simp only [Qz.l0.r]
  have hlen : (left.drop (64 * i)).length = left.length - 64 * i := by simp
  rw [Qy (by rw [hlen]; omega), Qy (by rw [hlen]; omega), List.drop_zero]
  rw [Qc7 hk (Qco hx i) (Q6v hxl i) (Q98 (Q6y hl _) _) (by simp; omega)]
  simp only [Option.bind_some]
  have e : List.take ((((List.drop (64 * i) left).length : Nat) : Int) - 64).toNat (List.drop 64 (List.drop (64 * i) left)) = left.drop (64 * (i + 1)) := by
   rw [List.take_of_length_le (by rw [List.length_drop, hlen]; omega), List.drop_drop, show 64 * i + 64 = 64 * (i + 1) by omega]
  rw [Qy (by rw [hlen]; omega), e]
  rfl
 ·intro kn ke
  simp only [Qz.l0.r]
  have hlen : (left.drop (64 * (left.length / 64))).length = left.length - 64 * (left.length / 64) := by simp
  rw [Q0Z (by rw [hlen]; omega)]
def padF (n : Int) (j : Nat) : Int := IntKind.u8.wrap (Q2c .u64 (IntKind.u64.wrap (8 * n)) (8 * (7 - (j : Int))))
def padZ (n : Int) : Nat := ((119 - n % 64) % 64).toNat
def padL (n : Int) : List Int := (128 :: List.replicate (padZ n) 0) ++ (List.range 8).map (padF n)
theorem Q3o (n : Int) : (padL n).length = 9 + padZ n := by simp [padL]; omega
theorem Q4X (n : Int) : padZ n < 64 := by unfold padZ; omega
theorem Qd7 (n : Int) : Q29 0 255 (padL n) := by
 intro x hx
 simp only [padL, List.mem_append, List.mem_cons, List.mem_replicate, List.mem_map] at hx
 rcases hx with (rfl | ⟨_, rfl⟩) | ⟨j, _, rfl⟩
 ·omega
 ·omega
 ·unfold padF; rw [Qb3]; omega
theorem QfH {n : Nat} : (n + (padL (n : Int)).length) % 64 = 0 := by
 rw [Q3o]; unfold padZ; omega
theorem QbM {α : Type} (f : Nat → α) (l : List α) (i : Nat) : l ++ (List.range i).map f ++ [f i] = l ++ (List.range (i + 1)).map f := by
 rw [List.range_succ, List.map_append, List.append_assoc]; rfl
theorem shl3 (n : Int) : Q2w .u64 n 3 = IntKind.u64.wrap (8 * n) := by
 unfold Q2w
 rw [show min (3 : Int).toNat IntKind.u64.bits = 3 from rfl, show n * 2 ^ 3 = 8 * n by omega]
theorem QcB {k : Nat} (hk : 64 < k) {n : Int} (hn : 0 ≤ n ∧ n ≤ 18446744073709551615) : Q18 k n = some (bytesOf (padL n), ()) := by
 unfold Q18 Q18.c
 dsimp only
 rw [Int.tmod_eq_emod_of_nonneg hn.1, i64_in (n := n % 64) (by omega), i64_in (n := 119 - n % 64) (by omega), Int.tmod_eq_emod_of_nonneg (by omega), i64_in (n := 1 + (119 - n % 64) % 64) (by omega), i64_in (by omega)]
 have hz : (1 + (119 - n % 64) % 64).toNat = padZ n + 1 := by unfold padZ; omega
 have hb : Nat.ble ((1 + (119 - n % 64) % 64 + 8).toNat * 1) 140737488355328 = true := Q1I (by omega)
 rw [decide_eq_true (show 0 ≤ 1 + (119 - n % 64) % 64 ∧ 1 + (119 - n % 64) % 64 ≤ 1 + (119 - n % 64) % 64 + 8 by omega), hb, Bool.and_self, cond_true, hz, List.length_replicate, Qy (by omega)]
 have e : (List.replicate (padZ n + 1) (0 : Int)).set 0 128 = 128 :: List.replicate (padZ n) 0 := by rw [List.replicate_succ, List.set_cons_zero]
 rw [e]
 have := Q1w (r := Q18.l0.r k) (fun i => (n, (i : Int), (128 :: List.replicate (padZ n) 0) ++ (List.range i).map (padF n), ())) 8 (padL n, ()) ?_ ?_ (fuel := k) (by omega)
 ·simp only [List.range_zero, List.map_nil, List.append_nil] at this
  show (Q18.l0 k k (n, ((0 : Nat) : Int), 128 :: List.replicate (padZ n) 0, ())).bind _ = _
  unfold Q18.l0
  rw [this]
  rfl
 ·intro i hi kn ke
  simp only [Q18.l0.r]
  rw [Qy (by omega), i64_in (n := 7 - (i : Int)) (by omega), i64_in (n := 8 * (7 - (i : Int))) (by omega), Qy (by omega), i64_in (n := (i : Int) + 1) (by omega), shl3]
  have hl : Nat.ble ((((128 :: List.replicate (padZ n) 0) ++ (List.range i).map (padF n)).length + (List.set (List.replicate 1 (0 : Int)) 0 (IntKind.u8.wrap (Q2c .u64 (IntKind.u64.wrap (8 * n)) (8 * (7 - (i : Int)))))).length) * 1) 140737488355328 = true :=
   Q1I (by have := Q4X n; simp; omega)
  rw [QX hl]
  show kn (n, (i : Int) + 1, (128 :: List.replicate (padZ n) 0) ++ (List.range i).map (padF n) ++ [padF n i], ()) = _
  rw [QbM]
  rfl
 ·intro kn ke
  simp only [Q18.l0.r]
  rw [Q0Z (by omega)]
  rfl
theorem QcR {k : Nat} (hk : 80 < k) {n : Int} (hn : 0 ≤ n ∧ n ≤ 18446744073709551615) : Qf k n = some (bytesOf (padL n), ()) := by
 unfold Qf Qf.c
 have h0 := Q1w (r := Qf.l0.r k) (fun i => (n, 128 :: List.replicate i (0 : Int), ())) (padZ n) (n, 128 :: List.replicate (padZ n) 0, ()) ?_ ?_ (fuel := k) (by have := Q4X n; omega)
 ·have e : List.set (List.replicate 1 (0 : Int)) 0 128 = 128 :: List.replicate 0 0 := rfl
  rw [e]
  unfold Qf.l0
  rw [h0]
  simp only [Option.bind_some]
  have := Q1w (r := Qf.l1.r k) (fun i => (IntKind.u64.wrap (8 * n), 7 - (i : Int), (128 :: List.replicate (padZ n) 0) ++ (List.range i).map (padF n), ())) 8 (padL n, ()) ?_ ?_ (fuel := k) (by omega)
  ·simp only [List.range_zero, List.map_nil, List.append_nil] at this
   show (Qf.l1 k k (IntKind.u64.wrap (8 * n), 7 - ((0 : Nat) : Int), 128 :: List.replicate (padZ n) 0, ())).bind _ = _
   unfold Qf.l1
   rw [this]
   rfl
  ·intro i hi kn ke
   simp only [Qf.l1.r]
   rw [Qy (by omega), i64_in (n := 8 * (7 - (i : Int))) (by omega), Qy (by omega), i64_in (n := 7 - (i : Int) - 1) (by omega)]
   have hl : Nat.ble ((((128 :: List.replicate (padZ n) 0) ++ (List.range i).map (padF n)).length + (List.set (List.replicate 1 (0 : Int)) 0 (IntKind.u8.wrap (Q2c .u64 (IntKind.u64.wrap (8 * n)) (8 * (7 - (i : Int)))))).length) * 1) 140737488355328 = true :=
    Q1I (by have := Q4X n; simp; omega)
   rw [QX hl]
   show kn (IntKind.u64.wrap (8 * n), 7 - (i : Int) - 1, (128 :: List.replicate (padZ n) 0) ++ (List.range i).map (padF n) ++ [padF n i], ()) = _
   rw [QbM, show 7 - (i : Int) - 1 = 7 - ((i + 1 : Nat) : Int) by omega]
  ·intro kn ke
   simp only [Qf.l1.r]
   rw [Q0Z (by omega)]
   rfl
 ·intro i hi kn ke
  simp only [Qf.l0.r]
  have hz : padZ n < 64 := Q4X n
  have hzd : (padZ n : Int) = (119 - n % 64) % 64 := by unfold padZ; omega
  simp only [List.length_cons, List.length_replicate]
  rw [u64_in (n := ((i + 1 : Nat) : Int)) (by omega), QaG, Int.tmod_eq_emod_of_nonneg (by omega)]
  have hne : ((n + ((i + 1 : Nat) : Int)) % 18446744073709551616 % 64 != 56) = true := by
   rw [bne_iff_ne]; omega
  rw [QX hne, QX (Q1I (by omega))]
  show kn (n, (128 :: List.replicate i (0 : Int)) ++ [0], ()) = _
  rw [List.cons_append, ← List.replicate_succ']
 ·intro kn ke
  simp only [Qf.l0.r]
  have hz : padZ n < 64 := Q4X n
  have hzd : (padZ n : Int) = (119 - n % 64) % 64 := by unfold padZ; omega
  simp only [List.length_cons, List.length_replicate]
  rw [u64_in (n := ((padZ n + 1 : Nat) : Int)) (by omega), QaG, Int.tmod_eq_emod_of_nonneg (by omega)]
  have hne : ((n + ((padZ n + 1 : Nat) : Int)) % 18446744073709551616 % 64 != 56) = false := by
   rw [bne_eq_false_iff_eq]; omega
  rw [Q1t hne]
def beF (x : List Int) (j : Nat) : Int := IntKind.u8.wrap (Q2c .u32 (x.getD (j / 4) 0) (24 - 8 * ((j % 4 : Nat) : Int)))
def Q4A (x : List Int) : List Int := (List.range 32).map (beF x)
def beZ (x : List Int) (j : Nat) : List Int := (List.range j).map (beF x) ++ (List.replicate 32 (0 : Int)).drop j
theorem Qdi (x : List Int) {j : Nat} (h : j < 32) : (beZ x j).set j (beF x j) = beZ x (j + 1) := Q5X (by simpa using h)
theorem Q9t (x : List Int) : (Q4A x).length = 32 := by simp [Q4A]
theorem Qcr (x : List Int) : Q29 0 255 (Q4A x) := by
 intro v hv
 simp only [Q4A, List.mem_map] at hv
 obtain ⟨j, _, rfl⟩ := hv
 unfold beF; rw [Qb3]; omega
theorem Qg2 (k : Nat) (x : List Int) {i : Nat} (hi : i < 8) (b0 : List Int × Unit × Int × Unit) (b1 z : List Int) {fuel : Nat} (hf : 4 < fuel) :
  Qk.l1 k fuel ((i : Int), x.getD i 0, x, (i : Int), (0 : Int), b0, b1, z, beZ x (4 * i), ()) = some (x, (i : Int), b0, b1, z, beZ x (4 * (i + 1)), ()) := by
 refine Q1w (r := Qk.l1.r k) (fun j => ((i : Int), x.getD i 0, x, (i : Int), (j : Int), b0, b1, z, beZ x (4 * i + j), ())) 4 _ ?_ ?_ hf
 ·intro j hj kn ke
  simp only [Qk.l1.r]
  rw [Qy (by omega), i64_in (n := 4 * (i : Int)) (by omega), i64_in (n := 4 * (i : Int) + (j : Int)) (by omega), i64_in (n := 3 - (j : Int)) (by omega), i64_in (n := 8 * (3 - (j : Int))) (by omega), i64_in (n := (j : Int) + 1) (by omega), Qy (by omega), Qy (by omega)]
  have e : IntKind.u8.wrap (Q2c .u32 (x.getD i 0) (8 * (3 - (j : Int)))) = beF x (4 * i + j) := by
   unfold beF
   rw [show (4 * i + j) / 4 = i by omega, show (4 * i + j) % 4 = j by omega, show 8 * (3 - (j : Int)) = 24 - 8 * (j : Int) by omega]
  rw [e, show (4 * (i : Int) + (j : Int)).toNat = 4 * i + j by omega, Qdi x (by omega)]
  rfl
 ·intro kn ke
  simp only [Qk.l1.r]
  rw [Q0Z (by omega)]
  rfl
theorem Qgj (k : Nat) (hk : 64 < k) (x : List Int) (b0 : List Int × Unit × Int × Unit) (b1 z : List Int) :
  Qk.l0 k k (x, (0 : Int), b0, b1, z, List.replicate 32 0, ()) = some (b0, b1, z, Q4A x, ()) := by
 refine Q1w (r := Qk.l0.r k) (fun i => (x, (i : Int), b0, b1, z, beZ x (4 * i), ())) 8 _ ?_ ?_ (by omega)
 ·intro i hi kn ke
  simp only [Qk.l0.r]
  rw [Qy (by omega), Qy (by omega), show (i : Int).toNat = i by omega]
  have := Qg2 k x hi b0 b1 z (fuel := k) (by omega)
  show (Qk.l1 k k ((i : Int), x.getD i 0, x, (i : Int), (0 : Int), b0, b1, z, beZ x (4 * i), ())).bind _ = _
  rw [this]
  simp only [Option.bind_some]
  rw [i64_in (by omega)]
  rfl
 ·intro kn ke
  simp only [Qk.l0.r]
  rw [Q0Z (by omega)]
  rfl
theorem QaR {k : Nat} (hk : 64 < k) (x : List Int) : Qc k x = some (Q4A x, ()) := by
 unfold Qc Qc.c
 dsimp only
 have l1 : ∀ {i : Nat}, i < 8 → ∀ z : List Int, Qc.l1 k k ((i : Int), (0 : Int), x, z, beZ x (4 * i), ()) = some ((i : Int), x, z, beZ x (4 * (i + 1)), ()) := by
  intro i hi z
  refine Q1w (r := Qc.l1.r k) (fun j => ((i : Int), (j : Int), x, z, beZ x (4 * i + j), ())) 4 _ ?_ ?_ (by omega)
  ·intro j hj kn ke
   simp only [Qc.l1.r]
   rw [Qy (by omega), i64_in (n := 4 * (i : Int)) (by omega), i64_in (n := 4 * (i : Int) + (j : Int)) (by omega), i64_in (n := 8 * (j : Int)) (by omega), i64_in (n := 24 - 8 * (j : Int)) (by omega), i64_in (n := (j : Int) + 1) (by omega), Qy (by omega), Qy (by omega), Qy (by omega)]
   have e : IntKind.u8.wrap (Q2c .u32 (x.getD (i : Int).toNat 0) (24 - 8 * (j : Int))) = beF x (4 * i + j) := by
    unfold beF
    rw [show (4 * i + j) / 4 = i by omega, show (4 * i + j) % 4 = j by omega, show (i : Int).toNat = i by omega]
   rw [e, show (4 * (i : Int) + (j : Int)).toNat = 4 * i + j by omega, Qdi x (by omega)]
   rfl
  ·intro kn ke
   simp only [Qc.l1.r]
   rw [Q0Z (by omega)]
   rfl
 have h0 : Qc.l0 k k ((0 : Int), x, List.replicate 32 0, List.replicate 32 0, ()) = some (List.replicate 32 0, Q4A x, ()) := by
  refine Q1w (r := Qc.l0.r k) (fun i => ((i : Int), x, List.replicate 32 0, beZ x (4 * i), ())) 8 _ ?_ ?_ (by omega)
  ·intro i hi kn ke
   simp only [Qc.l0.r]
   rw [Qy (by omega), l1 hi]
   simp only [Option.bind_some]
   rw [i64_in (by omega)]
   rfl
  ·intro kn ke
   simp only [Qc.l0.r]
   rw [Q0Z (by omega)]
   rfl
 rw [h0]
 rfl
def hx (a : List Int) : List Int := stt first a (a.length / 64)
def hl (a : List Int) : List Int := a.drop (64 * (a.length / 64))
def HS (a : List Int) : List Int × Unit × Int × Unit := (hx a, (), (a.length : Int), ())
theorem Qgu (a : List Int) : Q29 0 4294967295 (hx a) := Qco Q8K _
theorem QdS (a : List Int) : (hx a).length = 8 := Q6v Q5b _
theorem Qar (a : List Int) : (hl a).length < 64 := by simp only [hl, List.length_drop]; omega
theorem Qgx {a : List Int} (h : Q29 0 255 a) : Q29 0 255 (hl a) := Q6y h _
theorem Qe1 (a b : List Int) : stt (hx a) (hl a ++ b) ((hl a ++ b).length / 64) = hx (a ++ b) ∧ (hl a ++ b).drop (64 * ((hl a ++ b).length / 64)) = hl (a ++ b) := by
 have hle : 64 * (a.length / 64) ≤ a.length := by omega
 have e1 : hl a ++ b = (a ++ b).drop (64 * (a.length / 64)) := by rw [List.drop_append_of_le_length hle]; rfl
 have e2 : hx a = stt first (a ++ b) (a.length / 64) := (Q8D _ _ _ _ hle).symm
 have hlen : (hl a ++ b).length = (a ++ b).length - 64 * (a.length / 64) := by rw [e1, List.length_drop]
 have hq : (a ++ b).length / 64 = a.length / 64 + (hl a ++ b).length / 64 := by
  rw [hlen]; simp only [List.length_append]; omega
 refine ⟨?_, ?_⟩
 ·unfold hx at e2 ⊢
  rw [e2, hq, Qdv first (a ++ b), ← e1]
 ·have e3 : hl (a ++ b) = (a ++ b).drop (64 * ((a ++ b).length / 64)) := rfl
  rw [e3, hq, e1, List.drop_drop, ← e1, Nat.mul_add]
theorem Qce (k : Nat) : Q1R k = some (HS [], ()) := rfl
theorem QdV {k : Nat} (hk : 64 < k) {a : List Int} (ha : Q29 0 255 a) {s : ByteArray} (hs : s.size ≤ 140737488354000) (hn : a.length + s.size ≤ 18446744073709551615) (hf : s.size / 64 + 1 < k) :
  Qr k s (HS a) (hl a) = some (HS (a ++ Qq s), hl (a ++ Qq s), ()) := by
 unfold Qr Qr.c
 have h64 := Qar a
 have hsz := Q0b s
 dsimp only
 rw [QX (Q1I (by omega)), u64_in (n := (s.size : Int)) (by omega)]
 have hw := Q9l k hk (Qgu a) (QdS a) (left := hl a ++ Qq s) (QaT (Qgx ha) (Q51 s)) (IntKind.u64.wrap ((a.length : Int) + (s.size : Int))) (fuel := k) (by rw [List.length_append]; omega)
 obtain ⟨e1, e2⟩ := Qe1 a (Qq s)
 rw [e1, e2, u64_in (by omega)] at hw
 have hw2 : Qr.l0 k k ((hx a, (), IntKind.u64.wrap ((a.length : Int) + (s.size : Int)), ()), hl a ++ Qq s, ()) = some ((hx (a ++ Qq s), (), (a.length : Int) + (s.size : Int), ()), hl (a ++ Qq s), ()) := by
  rw [u64_in (by omega)]; exact hw
 show (Qr.l0 k k ((hx a, (), IntKind.u64.wrap ((a.length : Int) + (s.size : Int)), ()), hl a ++ Qq s, ())).bind _ = _
 rw [hw2]
 simp only [Option.bind_some, HS, List.length_append, hsz]
 rw [Int.natCast_add]
theorem QdY {k : Nat} (hk : 64 < k) {s : ByteArray} (hs : s.size ≤ 140737488354000) (hf : s.size / 64 + 1 < k) :
  Qz k s (HS []) = some (HS (Qq s), hl (Qq s), ()) := by
 unfold Qz Qz.c
 have hsz := Q0b s
 dsimp only
 rw [QX (Q1I (by omega)), u64_in (n := (s.size : Int)) (by omega)]
 have hw := Q9l k hk Q8K Q5b (left := Qq s) (Q51 s) (s.size : Int) (fuel := k) (by omega)
 show (Qz.l0 k k ((first, (), IntKind.u64.wrap (((0 : Nat) : Int) + (s.size : Int)), ()), Qq s, ())).bind _ = _
 rw [u64_in (by omega), show (((0 : Nat) : Int) + (s.size : Int)) = (s.size : Int) by omega, hw]
 simp only [Option.bind_some, HS, hx, hl, hsz]
def sumL (a : List Int) : List Int := Q4A (hx (a ++ padL (a.length : Int)))
theorem QeK {k : Nat} (a : List Int) : Q0t k (HS a) (hl a) = some (HS a, hl a, HS a, hl a, ()) := by
 unfold Q0t Q0t.c
 have h64 := Qar a
 dsimp only
 rw [QX (Q1I (by omega))]
theorem QfG {k : Nat} (hk : 128 < k) {a : List Int} (ha : Q29 0 255 a) (hn : a.length ≤ 18446744073709551000) : Qk k (HS a) (hl a) = some (sumL a, HS a, hl a, ()) := by
 unfold Qk Qk.c
 have hp : (bytesOf (padL (a.length : Int))).size ≤ 80 := by rw [Q0d, Q3o]; have := Q4X (a.length : Int); omega
 have hpb : Qq (bytesOf (padL (a.length : Int))) = padL (a.length : Int) := Q1F fun x hx => by have := Qd7 (a.length : Int) x hx; omega
 show (Q0t k (HS a) (hl a)).bind _ = _
 rw [QeK]
 simp only [Option.bind_some]
 show (Q18 k (a.length : Int)).bind _ = _
 rw [QcB (by omega) (by omega)]
 simp only [Option.bind_some]
 show (Qr k (bytesOf (padL (a.length : Int))) (HS a) (hl a)).bind _ = _
 rw [QdV (by omega) ha (by omega) (by omega) (by omega), hpb]
 simp only [Option.bind_some]
 show (Qk.l0 k k (hx (a ++ padL (a.length : Int)), (0 : Int), HS a, hl a, List.replicate 32 0, List.replicate 32 0, ())).bind _ = _
 rw [Qgj k (by omega)]
 rfl
theorem Q9n {k : Nat} (hk : 128 < k) {s : ByteArray} (hs : s.size ≤ 140737488354000) (hf : s.size / 64 + 1 < k) : Q1P k s = some (sumL (Qq s), ()) := by
 unfold Q1P Q1P.c
 rw [Qce]
 simp only [Option.bind_some]
 show (Qz k s (HS [])).bind _ = _
 rw [QdY (by omega) hs hf]
 simp only [Option.bind_some]
 show (Qk k (HS (Qq s)) (hl (Qq s))).bind _ = _
 rw [QfG hk (Q51 s) (by rw [Q0b]; omega)]
 rfl
end Go.Am
namespace Go.Am
open Go
theorem QbI (k : Nat) (n : Int) (b : Nat) (hb : b ≤ 8) : ∀ (d i fuel : Nat), i + d = b → d < fuel →
  Q0N.l0 k fuel (n, (b : Int), (i : Int), lowI n i ++ List.replicate d 0, ()) = some (lowI n b, ())
 | 0, i, fuel + 1, hi, _ => by
  have : i = b := by omega
  subst this
  show Q0N.l0.r k _ (Q15 (Q0N.l0.r k) fuel) some = _
  simp only [Q0N.l0.r]
  rw [decide_eq_false (by omega), cond_false]
  simp
 | d + 1, i, fuel + 1, hi, hf => by
  show Q0N.l0.r k _ (Q15 (Q0N.l0.r k) fuel) some = _
  simp only [Q0N.l0.r]
  rw [decide_eq_true (by omega), cond_true, i64_in (by omega), decide_eq_true (by omega), cond_true]
  have hlen : (lowI n i ++ List.replicate (d + 1) (0 : Int)).length = b := by simp [Q0k]; omega
  rw [hlen, decide_eq_true (by omega), cond_true, i64_in (by omega)]
  have h8 : (8 : Int) * (i : Int) = ((8 * i : Nat) : Int) := by omega
  rw [h8, Qft (by omega), pow8, Qb3, show (i : Int).toNat = i by omega]
  have hset : (lowI n i ++ List.replicate (d + 1) (0 : Int)).set i (n / 256 ^ i % 256) = lowI n (i + 1) ++ List.replicate d 0 := by
   rw [List.set_append]
   simp [Q0k, Q7l, List.replicate_succ]
  rw [hset]
  have ih := QbI k n b hb d (i + 1) fuel (by omega) (by omega)
  rw [show ((i + 1 : Nat) : Int) = (i : Int) + 1 by omega] at ih
  exact ih
theorem Q3k {k : Nat} (hk : 9 ≤ k) (n : Int) (b : Nat) (hb : b ≤ 8) : Q0N k n (b : Int) = some (bytesOf (lowI n b), ()) := by
 unfold Q0N Q0N.c
 rw [decide_eq_true (by omega), show (b : Int).toNat = b by omega]
 have : Nat.ble (b * 1) 140737488355328 = true := Q1I (by omega)
 rw [this]
 simp only [Bool.and_self, cond_true]
 have := QbI k n b hb b 0 k (by omega) (by omega)
 simp only [lowI, List.nil_append] at this
 rw [List.length_replicate]
 show (Q0N.l0 k k (n, (b : Int), ((0 : Nat) : Int), List.replicate b 0, ())).bind _ = _
 rw [this]
 rfl
theorem Qbj (k : Nat) (n : Int) (hn : 0 ≤ n ∧ n ≤ 18446744073709551615) (b : Nat) (hb : b ≤ 8) : ∀ (d i fuel : Nat), i + d = b → d < fuel →
  Qo.l0 k fuel (n / 256 ^ i, (b : Int), bytesOf (lowI n i), (i : Int), ()) = some (bytesOf (lowI n b), ())
 | 0, i, fuel + 1, hi, _ => by
  have : i = b := by omega
  subst this
  show Qo.l0.r k _ (Q15 (Qo.l0.r k) fuel) some = _
  simp only [Qo.l0.r]
  rw [decide_eq_false (by omega), cond_false]
 | d + 1, i, fuel + 1, hi, hf => by
  show Qo.l0.r k _ (Q15 (Qo.l0.r k) fuel) some = _
  simp only [Qo.l0.r]
  rw [decide_eq_true (by omega), cond_true]
  have hq : 0 ≤ n / 256 ^ i := Int.ediv_nonneg hn.1 (Int.le_of_lt (Int.pow_pos (by omega)))
  have hq2 : n / 256 ^ i ≤ n := Int.ediv_le_self _ hn.1
  rw [Int.tmod_eq_emod_of_nonneg hq, Int.tdiv_eq_ediv_of_nonneg hq, Qb3, i64_in (by omega), u64_in (by omega)]
  have h1 : List.set (List.replicate 1 (0 : Int)) 0 (n / 256 ^ i % 256 % 256) = [n / 256 ^ i % 256] := by
   simp
  rw [h1, Q0d, Q0d, Q0k]
  have : Nat.ble (i + [n / 256 ^ i % 256].length) 9223372036854775807 = true := Q1I (by simp; omega)
  rw [this, cond_true, Q11, ← Q7l, Int.ediv_ediv_of_nonneg (Int.le_of_lt (Int.pow_pos (by omega))), ← Int.pow_succ]
  have ih := Qbj k n hn b hb d (i + 1) fuel (by omega) (by omega)
  rw [show ((i + 1 : Nat) : Int) = (i : Int) + 1 by omega] at ih
  exact ih
theorem Q2r {k : Nat} (hk : 9 ≤ k) (n : Int) (hn : 0 ≤ n ∧ n ≤ 18446744073709551615) (b : Nat) (hb : b ≤ 8) : Qo k n (b : Int) = some (bytesOf (lowI n b), ()) := by
 unfold Qo Qo.c
 have := Qbj k n hn b hb b 0 k (by omega) (by omega)
 simp only [Int.pow_zero, Int.ediv_one, lowI] at this
 show (Qo.l0 k k (n, (b : Int), bytesOf [], ((0 : Nat) : Int), ())).bind _ = _
 rw [this]
 rfl
theorem Qad (k : Nat) (s : ByteArray) (hs : s.size ≤ 8) : ∀ (d i fuel : Nat), i + d = s.size → d < fuel →
  Q0L.l0 k fuel (s, leI ((Qq s).take i), (s.size : Int), (i : Int), ()) = some (leI (Qq s), ())
 | 0, i, fuel + 1, hi, _ => by
  have : i = s.size := by omega
  subst this
  show Q0L.l0.r k _ (Q15 (Q0L.l0.r k) fuel) some = _
  simp only [Q0L.l0.r]
  rw [decide_eq_false (by omega), cond_false, ← Q0b, List.take_length]
 | d + 1, i, fuel + 1, hi, hf => by
  show Q0L.l0.r k _ (Q15 (Q0L.l0.r k) fuel) some = _
  simp only [Q0L.l0.r]
  have hr := Q2N s (i : Int).toNat
  rw [decide_eq_true (by omega), cond_true, decide_eq_true (by omega), cond_true, i64_in (by omega), decide_eq_true (by omega), cond_true, i64_in (by omega), u64_in (by omega)]
  have hin : Q1y ((Qq s).take i) := fun x hx => Q2I (List.mem_of_mem_take hx)
  obtain ⟨h0, h1⟩ := Q3S hin
  have hlen : ((Qq s).take i).length = i := by rw [List.length_take, Q0b]; omega
  rw [hlen] at h1
  have hstep : leI ((Qq s).take (i + 1)) = leI ((Qq s).take i) + 256 ^ i * Q1v s i := by
   have hi' : i < (Qq s).length := by rw [Q0b]; omega
   rw [List.take_succ_eq_append_getElem hi', Qcw, hlen, Q39, List.getD_eq_getElem?_getD, List.getElem?_eq_getElem hi']
   simp [leI]
  have hin2 : Q1y ((Qq s).take (i + 1)) := fun x hx => Q2I (List.mem_of_mem_take hx)
  obtain ⟨g0, g1⟩ := Q3S hin2
  have hlen2 : ((Qq s).take (i + 1)).length = i + 1 := by rw [List.length_take, Q0b]; omega
  rw [hlen2] at g1
  have hpow : (256 : Int) ^ (i + 1) ≤ 18446744073709551616 := by
   have : i + 1 ≤ 8 := by omega
   have h2 : ∀ j : Nat, j ≤ 8 → (256 : Int) ^ j ≤ 18446744073709551616 := by
    intro j hj
    match j, hj with
    | 0, _ | 1, _ | 2, _ | 3, _ | 4, _ | 5, _ | 6, _ | 7, _ | 8, _ => decide
   exact h2 _ this
  have hshl : Q2w IntKind.u64 (Q1v s (i : Int).toNat) (8 * (i : Int)) = ((Q1v s i).toNat * 2 ^ (8 * i) : Nat) := by
   unfold Q2w
   rw [show (8 * (i : Int)).toNat = 8 * i by omega, show (i : Int).toNat = i by omega]
   have : min (8 * i) IntKind.u64.bits = 8 * i := by simp [IntKind.bits]; omega
   rw [this]
   have hb := Q2N s i
   have e : Q1v s i * 2 ^ (8 * i) = (((Q1v s i).toNat * 2 ^ (8 * i) : Nat) : Int) := by
    rw [Int.natCast_mul, Int.natCast_pow, show ((Q1v s i).toNat : Int) = Q1v s i by omega]; rfl
   rw [e, u64_in]
   rw [← e, pow8, Int.mul_comm]
   have : 256 ^ i * Q1v s i ≤ leI ((Qq s).take (i + 1)) := by omega
   have : 0 ≤ 256 ^ i * Q1v s i := Int.mul_nonneg (Int.le_of_lt (Int.pow_pos (by omega))) hb.1
   omega
  have hb := Q2N s i
  have hor := Qgc (A := (leI ((Qq s).take i)).toNat) (B := (Q1v s i).toNat) (j := 8 * i) (by
   have e : ((2 ^ (8 * i) : Nat) : Int) = 256 ^ i := by rw [Int.natCast_pow]; exact pow8 i
   omega) (by
   have e : (((Q1v s i).toNat * 2 ^ (8 * i) : Nat) : Int) = 256 ^ i * Q1v s i := by
    rw [Int.natCast_mul, Int.natCast_pow, show ((2 : Nat) : Int) = 2 from rfl, pow8, Int.mul_comm, show ((Q1v s i).toNat : Int) = Q1v s i by omega]
   omega)
  rw [show ((leI ((Qq s).take i)).toNat : Int) = leI ((Qq s).take i) by omega] at hor
  rw [hshl, hor]
  have hfin : (((Q1v s i).toNat * 2 ^ (8 * i) + (leI ((Qq s).take i)).toNat : Nat) : Int) = leI ((Qq s).take (i + 1)) := by
   rw [hstep, Int.natCast_add, Int.natCast_mul, Int.natCast_pow, show ((2 : Nat) : Int) = 2 from rfl, pow8, Int.mul_comm]
   rw [show ((Q1v s i).toNat : Int) = Q1v s i by omega]
   omega
  rw [hfin]
  have ih := Qad k s hs d (i + 1) fuel (by omega) (by omega)
  rw [show ((i + 1 : Nat) : Int) = (i : Int) + 1 by omega] at ih
  exact ih
theorem Q7Y {k : Nat} (hk : 9 ≤ k) (s : ByteArray) (hs : s.size ≤ 8) : Q0L k s = some (leI (Qq s), ()) := by
 unfold Q0L Q0L.c
 have := Qad k s hs s.size 0 k (by omega) (by omega)
 simp only [List.take_zero, leI] at this
 show (Q0L.l0 k k (s, (0 : Int), (s.size : Int), ((0 : Nat) : Int), ())).bind _ = _
 rw [this]
 rfl
theorem Qbn (k : Nat) (s : ByteArray) (hs : s.size ≤ 8) : ∀ (i fuel : Nat), i ≤ s.size → i < fuel →
  Qt.l0 k fuel (s, leI ((Qq s).drop i), (i : Int) - 1, ()) = some (leI (Qq s), ())
 | 0, fuel + 1, hi, _ => by
  have e : Qt.l0 k (fuel + 1) (s, leI ((Qq s).drop 0), ((0 : Nat) : Int) - 1, ()) = Qt.l0.r k (s, leI ((Qq s).drop 0), ((0 : Nat) : Int) - 1, ()) (Q15 (Qt.l0.r k) fuel) some := rfl
  rw [e]
  simp only [Qt.l0.r]
  rw [decide_eq_false (by omega), cond_false, List.drop_zero]
 | i + 1, fuel + 1, hi, hf => by
  show Qt.l0.r k _ (Q15 (Qt.l0.r k) fuel) some = _
  simp only [Qt.l0.r]
  have hr := Q2N s i
  rw [show ((i + 1 : Nat) : Int) - 1 = (i : Int) by omega, show (i : Int).toNat = i by omega]
  have hin : Q1y ((Qq s).drop i) := fun x hx => Q2I (List.mem_of_mem_drop hx)
  obtain ⟨h0, h1⟩ := Q3S hin
  have hlen : ((Qq s).drop i).length = s.size - i := by rw [List.length_drop, Q0b]
  rw [hlen] at h1
  have hpow : (256 : Int) ^ (s.size - i) ≤ 18446744073709551616 := by
   have h2 : ∀ j : Nat, j ≤ 8 → (256 : Int) ^ j ≤ 18446744073709551616 := by
    intro j hj
    match j, hj with
    | 0, _ | 1, _ | 2, _ | 3, _ | 4, _ | 5, _ | 6, _ | 7, _ | 8, _ => decide
   exact h2 _ (by omega)
  have hstep : leI ((Qq s).drop i) = Q1v s i + 256 * leI ((Qq s).drop (i + 1)) := by
   have hi' : i < (Qq s).length := by rw [Q0b]; omega
   rw [List.drop_eq_getElem_cons hi', leI, Q39, List.getD_eq_getElem?_getD, List.getElem?_eq_getElem hi']
   rfl
  have hin2 : Q1y ((Qq s).drop (i + 1)) := fun x hx => Q2I (List.mem_of_mem_drop hx)
  have g0 := (Q3S hin2).1
  rw [decide_eq_true (by omega), cond_true, decide_eq_true (by omega), cond_true, u64_in (n := Q1v s i) (by omega), u64_in (n := _ * 256) (by omega), u64_in (by omega), i64_in (by omega)]
  rw [show leI ((Qq s).drop (i + 1)) * 256 + Q1v s i = leI ((Qq s).drop i) by omega]
  exact Qbn k s hs i fuel (by omega) (by omega)
theorem Q2o {k : Nat} (hk : 9 ≤ k) (s : ByteArray) (hs : s.size ≤ 8) : Qt k s = some (leI (Qq s), ()) := by
 unfold Qt Qt.c
 have := Qbn k s hs s.size k (by omega) (by omega)
 rw [show (Qq s).drop s.size = [] by rw [← Q0b]; simp] at this
 simp only [leI] at this
 rw [i64_in (by omega)]
 show (Qt.l0 k k (s, (0 : Int), (s.size : Int) - 1, ())).bind _ = _
 rw [this]
 rfl
def Q1J (n : Int) : Int := if n < 253 then 1 else if n < 65536 then 3 else if n < 4294967296 then 5 else 9
def Q1q (n : Int) : List Int := if n < 253 then lowI n 1 else if n < 65536 then 253 :: lowI n 2 else if n < 4294967296 then 254 :: lowI n 4 else 255 :: lowI n 8
theorem Q1W (n : Int) : ((Q1q n).length : Int) = Q1J n := by
 unfold Q1q Q1J
 split
 ·simp [Q0k]
 ·split
  ·simp [Q0k]
  ·split <;> simp [Q0k]
theorem Q48 (n : Int) : Q1y (Q1q n) := by
 have cons : ∀ (x : Int) l, 0 ≤ x ∧ x < 256 → Q1y l → Q1y (x :: l) := fun x l h h2 y hy => by
  rcases List.mem_cons.1 hy with rfl | hy
  ·exact h
  ·exact h2 y hy
 unfold Q1q
 split
 ·exact Q3B _ _
 ·split
  ·exact cons _ _ (by omega) (Q3B _ _)
  ·split <;> exact cons _ _ (by omega) (Q3B _ _)
theorem Q2u (k : Nat) (n : Int) : Q0u k n = some (Q1J n, ()) := by
 unfold Q0u Q0u.c Q1J
 by_cases h1 : n < 253
 ·rw [decide_eq_true h1, if_pos h1]; rfl
 ·rw [decide_eq_false h1, if_neg h1, cond_false]
  by_cases h2 : n < 65536
  ·rw [decide_eq_true h2, if_pos h2]; rfl
  ·rw [decide_eq_false h2, if_neg h2, cond_false]
   by_cases h3 : n < 4294967296
   ·rw [decide_eq_true h3, if_pos h3]; rfl
   ·rw [decide_eq_false h3, if_neg h3, cond_false]
theorem lay1 {k : Nat} (hk : 9 ≤ k) (x : Int) (hx : 0 ≤ x ∧ x < 256) : Q0N k x 1 = some (bytesOf [x], ()) := by
 have := Q3k hk x 1 (by omega)
 simp only [lowI, show x % 256 = x by omega] at this
 exact this
theorem QaP {k : Nat} (hk : 9 ≤ k) (n : Int) : Q1x k n = some (bytesOf (Q1q n), ()) := by
 unfold Q1x Q1x.c
 rw [Q2u]
 simp only [Option.bind_some]
 unfold Q1J Q1q
 have l2 := Q3k hk n 2 (by omega)
 have l4 := Q3k hk n 4 (by omega)
 have l8 := Q3k hk n 8 (by omega)
 have hb : ∀ (x : Int) (j : Nat), j ≤ 8 → Nat.ble ((bytesOf [x]).size + (bytesOf (lowI n j)).size) 9223372036854775807 = true := fun x j hj => Q1I (by rw [Q0d, Q0d, Q0k]; simp; omega)
 split
 ·show (bif true then _ else _) = _
  have := Q3k hk n 1 (by omega)
  rw [cond_true]
  show (Q0N k n ((1 : Nat) : Int)).bind _ = _
  rw [this]; rfl
 ·split
  ·show (Q0N k 253 1).bind _ = _
   rw [lay1 hk 253 (by omega)]
   show (Q0N k n ((2 : Nat) : Int)).bind _ = _
   rw [l2]
   simp only [Option.bind_some, hb 253 2 (by omega), cond_true, Q11, List.singleton_append]
  ·split
   ·show (Q0N k 254 1).bind _ = _
    rw [lay1 hk 254 (by omega)]
    show (Q0N k n ((4 : Nat) : Int)).bind _ = _
    rw [l4]
    simp only [Option.bind_some, hb 254 4 (by omega), cond_true, Q11, List.singleton_append]
   ·show (Q0N k 255 1).bind _ = _
    rw [lay1 hk 255 (by omega)]
    show (Q0N k n ((8 : Nat) : Int)).bind _ = _
    rw [l8]
    simp only [Option.bind_some, hb 255 8 (by omega), cond_true, Q11, List.singleton_append]
theorem Q2i (s : ByteArray) : Q1y (Qq s) := fun _ h => Q2I h
theorem QfV {l r : List Int} (h : Q1y l) (hs : ∀ x ∈ r, x ∈ l) : Q1y r := fun x hx => h x (hs x hx)
theorem QfX : (⟨List.toArray []⟩ : ByteArray) = bytesOf [] := rfl
theorem Q3P (n : Int) : (Q1q n).length ≤ 9 := by
 have h := Q1W n
 unfold Q1J at h
 split at h
 ·omega
 ·split at h
  ·omega
  ·split at h <;> omega
abbrev Rd : Type := ByteArray × Int × Int × Unit
def RdOK (r : Rd) : Prop := r.1.size ≤ 140737488351232 ∧ 0 ≤ r.2.1 ∧ r.2.1 ≤ (r.1.size : Int)
def Q1V (r : Rd) (n : Int) : Rd × ByteArray :=
 if r.2.2.1 ≠ 0 then (r, ⟨List.toArray []⟩) else
 if n < 0 then ((r.1, r.2.1, 1, ()), ⟨List.toArray []⟩) else
 if n > (r.1.size : Int) - r.2.1 then ((r.1, r.2.1, 4, ()), ⟨List.toArray []⟩) else
 ((r.1, r.2.1 + n, r.2.2.1, ()), r.1.extract r.2.1.toNat (r.2.1 + n).toNat)
theorem QeC {r : Rd} (h : RdOK r) (n : Int) : RdOK (Q1V r n).1 ∧ (Q1V r n).1.1 = r.1 := by
 obtain ⟨h1, h2, h3⟩ := h
 unfold Q1V
 split
 ·exact ⟨⟨h1, h2, h3⟩, rfl⟩
 ·split
  ·exact ⟨⟨h1, h2, h3⟩, rfl⟩
  ·split
   ·exact ⟨⟨h1, h2, h3⟩, rfl⟩
   ·exact ⟨⟨h1, by dsimp only; omega, by dsimp only; omega⟩, rfl⟩
theorem Q9w {r : Rd} (h : RdOK r) (n : Int) : (Q1V r n).2.size = 0 ∨ (Q1V r n).2.size = n.toNat := by
 obtain ⟨h1, h2, h3⟩ := h
 unfold Q1V
 split
 ·exact .inl rfl
 ·split
  ·exact .inl rfl
  ·split
   ·exact .inl rfl
   ·right
    rw [ByteArray.size_extract]; omega
theorem Qgr {r : Rd} (n : Int) (he : (Q1V r n).1.2.2.1 ≠ 0) : (Q1V r n).2 = ⟨List.toArray []⟩ := by
 unfold Q1V at he ⊢
 split
 ·rfl
 ·split
  ·rfl
  ·split
   ·rfl
   ·rename_i h0 h1 h2
    rw [if_neg h0, if_neg h1, if_neg h2] at he
    exact absurd he h0
theorem Qgk {r : Rd} (h : RdOK r) {n : Int} (he : (Q1V r n).1.2.2.1 = 0) : (Q1V r n).2.size = n.toNat ∧ 0 ≤ n := by
 obtain ⟨h1, h2, h3⟩ := h
 unfold Q1V at he ⊢
 split
 ·rename_i h0
  rw [if_pos h0] at he
  exact absurd he h0
 ·rename_i h0
  rw [if_neg h0] at he
  split
  ·rename_i h1
   rw [if_pos h1] at he; cases he
  ·rename_i h1
   rw [if_neg h1] at he
   split
   ·rename_i h2
    rw [if_pos h2] at he; cases he
   ·exact ⟨by rw [ByteArray.size_extract]; omega, by omega⟩
theorem Q9z (k : Nat) {r : Rd} (h : RdOK r) {n : Int} : Q03 k n r = some ((Q1V r n).2, (Q1V r n).1, ()) := by
 obtain ⟨s, a, e, u⟩ := r
 obtain ⟨h1, h2, h3⟩ := h
 simp only at h1 h2 h3
 unfold Q03 Q03.c Q1V
 rw [show Q0n k (s, a, e, ()) = some (e, (s, a, e, ()), ()) from rfl]
 simp only [Option.bind_some]
 by_cases he : e = 0
 ·subst he
  rw [bne_self_eq_false, cond_false, if_neg (by simp)]
  by_cases hn : n < 0
  ·rw [Qy hn, if_pos hn]
  ·rw [Q0Z hn, if_neg hn, show Q0O k (s, a, (0 : Int), ()) = some (IntKind.i64.wrap ((s.size : Int) - a), (s, a, (0 : Int), ()), ()) from rfl]
   simp only [Option.bind_some]
   rw [i64_in (n := (s.size : Int) - a) (by omega)]
   by_cases hg : n > (s.size : Int) - a
   ·rw [Qy hg, if_pos hg]
   ·rw [Q0Z hg, if_neg hg, i64_in (n := a + n) (by omega), i64_in (by omega), Qy (by omega), show a + n - n = a by omega]
 ·rw [QX (by simpa using he), if_pos he]
theorem Q6z {l : List Int} (h : Q1y l) {m : Nat} (hm : l.length ≤ m) : 0 ≤ leI l ∧ leI l < 256 ^ m := by
 obtain ⟨h1, h2⟩ := Q3S h
 refine ⟨h1, Int.lt_of_lt_of_le h2 ?_⟩
 have : (256 : Nat) ^ l.length ≤ 256 ^ m := Nat.pow_le_pow_right (by omega) hm
 have h3 : (((256 : Nat) ^ l.length : Nat) : Int) ≤ ((256 ^ m : Nat) : Int) := Int.ofNat_le.2 this
 rw [Int.natCast_pow, Int.natCast_pow] at h3
 exact h3
def numS (r : Rd) (n : Int) : Int := leI (Qq (Q1V r n).2)
theorem Qfs {r : Rd} (h : RdOK r) (n : Nat) : 0 ≤ numS r n ∧ numS r n < 256 ^ n := by
 refine Q6z (Q2i _) ?_
 rw [Q0b]
 rcases Q9w h (n : Int) with h | h <;> omega
theorem Q91 {k : Nat} (hk : 9 ≤ k) {r : Rd} (h : RdOK r) (n : Nat) (hn : n ≤ 8) : Q0L k (Q1V r n).2 = some (numS r n, ()) :=
 Q7Y hk _ (by rcases Q9w h (n : Int) with h | h <;> omega)
theorem Q8V {k : Nat} (hk : 9 ≤ k) {r : Rd} (h : RdOK r) : Q0p k r = some (numS r 4, (Q1V r 4).1, ()) := by
 unfold Q0p Q0p.c
 show (Q03 k 4 r).bind _ = _
 rw [Q9z k h]
 simp only [Option.bind_some]
 rw [show (4 : Int) = ((4 : Nat) : Int) from rfl, Q91 hk h 4 (by omega)]
 have := Qfs h 4
 simp only [Option.bind_some]
 rw [Q3g (by omega)]
theorem QeM : ∀ (b : Nat) (n : Int), lowI (n % 256 ^ b) b = lowI n b
 | 0, _ => rfl
 | b + 1, n => by
  simp only [lowI]
  have h1 : n % 256 ^ (b + 1) % 256 = n % 256 := by
   rw [Int.pow_succ, Int.mul_comm]
   exact Int.emod_emod_of_dvd _ (Int.dvd_mul_right _ _)
  have h2 : n % 256 ^ (b + 1) / 256 = n / 256 % 256 ^ b := by
   have e := Int.mul_ediv_add_emod n 256
   have hp : (0 : Int) < 256 ^ b := Int.pow_pos (by decide)
   have e2 := Int.mul_ediv_add_emod (n / 256) (256 ^ b)
   have r1 := Int.emod_nonneg n (show (256 : Int) ≠ 0 by decide)
   have r2 := Int.emod_lt_of_pos n (show (0 : Int) < 256 by decide)
   have r3 := Int.emod_nonneg (n / 256) (Int.ne_of_gt hp)
   have r4 := Int.emod_lt_of_pos (n / 256) hp
   have key : n % 256 ^ (b + 1) = 256 * (n / 256 % 256 ^ b) + n % 256 := by
    rw [Int.pow_succ]
    have hn : n = (256 * (n / 256 % 256 ^ b) + n % 256) + 256 ^ b * 256 * (n / 256 / 256 ^ b) := by
     have e3 : 256 ^ b * 256 * (n / 256 / 256 ^ b) = 256 * (256 ^ b * (n / 256 / 256 ^ b)) := by
      rw [Int.mul_comm (256 ^ b) 256, Int.mul_assoc]
     rw [e3]; omega
    conv => lhs; rw [hn]
    rw [Int.add_mul_emod_self_left]
    exact Int.emod_eq_of_lt (by omega) (by omega)
   rw [key]
   omega
  rw [h1, h2, QeM b]
theorem wb {k : Nat} {s : ByteArray} {u} {b1 : List Int} (h : b1.length + s.size ≤ 140737488355328) : QL k s u b1 = some (u, b1 ++ Qq s, ()) := by
 unfold QL QL.c QE QE.c
 rw [QX (Q1I (by rw [Q0b]; omega))]
 rfl
theorem wrl {k : Nat} {l : List Int} (hl : Q1y l) {u} {b1 : List Int} (h : b1.length + l.length ≤ 140737488355328) : QL k (bytesOf l) u b1 = some (u, b1 ++ l, ()) := by
 rw [wb (by rw [Q0d]; exact h), Q1F hl]
theorem wu64 {k : Nat} (hk : 9 ≤ k) (n : Int) {u} {b1 : List Int} (h : b1.length ≤ 140737488350000) : Q0R k n u b1 = some (u, b1 ++ lowI n 8, ()) := by
 unfold Q0R Q0R.c
 rw [show (8 : Int) = ((8 : Nat) : Int) from rfl, Q3k hk _ 8 (by omega)]
 simp only [Option.bind_some]
 rw [wrl (Q3B _ _) (by rw [Q0k]; omega)]
 rfl
theorem QaD (s : ByteArray) (i : Nat) : Q1v s i = (Qq s).getD i 0 := Q39 s i
theorem Qgb {l : List Int} {i : Nat} (h : i + 64 ≤ l.length) : (List.range 64).map (fun j => l.getD (i + j) 0) = (l.drop i).take 64 := by
 apply List.ext_getElem
 ·simp; omega
 ·intro j h1 h2
  simp only [List.length_map, List.length_range] at h1
  simp only [List.getElem_map, List.getElem_range, List.getElem_take, List.getElem_drop, List.getD_eq_getElem?_getD]
  rw [List.getElem?_eq_getElem (by omega)]
  rfl
theorem Qct (k : Nat) (s : ByteArray) {i : Nat} (hi : i + 64 ≤ s.size) (hs : s.size ≤ 9223372036854775807) (x z : List Int) {fuel : Nat} (hf : 64 < fuel) :
  Qe.l1 k fuel (s, (i : Int), (0 : Int), z, x, List.replicate 64 0, ()) = some (s, (i : Int), z, x, ((Qq s).drop i).take 64, ()) := by
 have hl := Q0b s
 have := Q1w (r := Qe.l1.r k) (fun j => (s, (i : Int), (j : Int), z, x, (List.range j).map (fun j => (Qq s).getD (i + j) 0) ++ (List.replicate 64 (0 : Int)).drop j, ())) 64 (s, (i : Int), z, x, ((Qq s).drop i).take 64, ()) ?_ ?_ hf
 ·exact this
 ·intro j hj kn ke
  simp only [Qe.l1.r]
  rw [Qy (by omega), i64_in (n := (i : Int) + (j : Int)) (by omega), Qy (by omega), Qy (by omega), i64_in (n := (j : Int) + 1) (by omega), show ((i : Int) + (j : Int)).toNat = i + j by omega, show (j : Int).toNat = j by omega, QaD]
  rw [Q5X (f := fun j => (Qq s).getD (i + j) 0) (by simp; omega)]
  rfl
 ·intro kn ke
  simp only [Qe.l1.r]
  rw [Q0Z (by omega), Q6V (by simp), Qgb (by omega)]
theorem Q8B {k : Nat} (hk : 128 < k) {s : ByteArray} (hs : s.size ≤ 140737488354000) (hf : s.size / 64 + 2 < k) : Qe k s = some (sumL (Qq s), ()) := by
 unfold Qe Qe.c
 have hsz := Q0b s
 have hp : (bytesOf (padL (s.size : Int))).size = 9 + padZ (s.size : Int) := by rw [Q0d, Q3o]
 have hz := Q4X (s.size : Int)
 have hpb : Qq (bytesOf (padL (s.size : Int))) = padL (s.size : Int) := Q1F fun x hx => by have := Qd7 (s.size : Int) x hx; omega
 dsimp only
 rw [u64_in (n := (s.size : Int)) (by omega), QcR (by omega) (by omega)]
 simp only [Option.bind_some]
 rw [QX (Q1I (by omega)), Qay]
 simp only [Option.bind_some]
 generalize hv : s ++ bytesOf (padL (s.size : Int)) = v
 have hvl : Qq v = Qq s ++ padL (s.size : Int) := by rw [← hv, Q4n, hpb]
 have hvs : v.size = s.size + (9 + padZ (s.size : Int)) := by rw [← Q0b, hvl, List.length_append, hsz, Q3o]
 have h64 : (s.size + (9 + padZ (s.size : Int))) % 64 = 0 := by have := QfH (n := s.size); rwa [Q3o] at this
 have h0 : Qe.l0 k k (v, (0 : Int), List.replicate 32 0, first, ()) = some (List.replicate 32 0, stt first (Qq v) (v.size / 64), ()) := by
  have := Q1w (r := Qe.l0.r k) (fun i => (v, ((64 * i : Nat) : Int), List.replicate 32 (0 : Int), stt first (Qq v) i, ())) (v.size / 64) (List.replicate 32 0, stt first (Qq v) (v.size / 64), ()) ?_ ?_ (fuel := k) (by omega)
  ·exact this
  ·intro i hi kn ke
   simp only [Qe.l0.r]
   rw [Qy (by omega), Qct k v (by omega) (by omega) _ _ (by omega)]
   simp only [Option.bind_some]
   rw [Qc0 (by omega) (Qco Q8K i) (Q6v Q5b i) (Q98 (Q6y (Q51 v) _) _) (by rw [List.length_take, List.length_drop, Q0b]; omega)]
   simp only [Option.bind_some]
   rw [i64_in (by omega), show ((64 * i : Nat) : Int) + 64 = ((64 * (i + 1) : Nat) : Int) by omega]
   rfl
  ·intro kn ke
   simp only [Qe.l0.r]
   rw [Q0Z (by omega)]
 rw [h0]
 simp only [Option.bind_some]
 rw [QaR (by omega)]
 simp only [Option.bind_some]
 unfold sumL hx
 rw [hvl, hsz, List.length_append, hsz, Q3o, hvs]
theorem Q87 (a : List Int) : (sumL a).length = 32 := Q9t _
theorem QfD (a : List Int) : Q29 0 255 (sumL a) := Qcr _
theorem Qag (a : List Int) : Qq (bytesOf ((((sumL a).drop 0).take 32))) = sumL a := by
 rw [List.drop_zero, List.take_of_length_le (by rw [Q87]; omega)]
 exact Q1F fun x hx => by have := QfD a x hx; omega
theorem Q7h (a : List Int) : (bytesOf ((((sumL a).drop 0).take 32))).size = 32 := by
 rw [Q0d]; simp [Q87]
theorem Q6W {k : Nat} (hk : 128 < k) {s : ByteArray} (hs : s.size ≤ 140737488354000) (hf : s.size / 64 + 1 < k) : Q1l k s = some (sumL (sumL (Qq s)), ()) := by
 unfold Q1l Q1l.c
 rw [Q9n hk hs hf]
 simp only [Option.bind_some]
 rw [Q9n hk (by rw [Q7h]; omega) (by rw [Q7h]; omega), Qag]
 rfl
theorem QaL {k : Nat} (hk : 128 < k) {s : ByteArray} (hs : s.size ≤ 140737488354000) (hf : s.size / 64 + 2 < k) : Q0r k s = some (sumL (sumL (Qq s)), ()) := by
 unfold Q0r Q0r.c
 rw [Q8B hk hs hf]
 simp only [Option.bind_some]
 rw [Q8B hk (by rw [Q7h]; omega) (by rw [Q7h]; omega), Qag]
 rfl
end Go.Am
