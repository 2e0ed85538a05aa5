/- A part of a proof: a machine of abstract values that tells what functions of the program compute, and the plain facts on them. -/
import Derived.Test.YtpcjmcpghhmidaaAm6
import Derived.Test.YtpcjmcpghhmidaaAm5
import Derived.Test.YtpcjmcpghhmidaaAm9
set_option linter.unusedVariables false
set_option linter.unusedSimpArgs false
set_option linter.unnecessarySimpa false
set_option linter.unusedSectionVars false
namespace Go.Am
open Go
theorem Q8q {σ τ : Type} {r : {ρ : Type} → σ → (σ → Option ρ) → (τ → Option ρ) → Option ρ} (S : Nat → σ) (n : Nat) (T : τ) (a : Nat)
  (hstep : ∀ i, a ≤ i → i < n → ∀ (kn : σ → Option τ) (ke : τ → Option τ), r (S i) kn ke = kn (S (i + 1))) (hend : ∀ (kn : σ → Option τ) (ke : τ → Option τ), r (S n) kn ke = ke T) :
  ∀ {fuel : Nat}, a ≤ n → n - a < fuel → Q0Q r fuel (S a) = some T := by
 intro fuel ha hf
 have key : ∀ (d i fuel : Nat), a ≤ i → i + d = n → d < fuel → Q0Q r fuel (S i) = some T := by
  intro d
  induction d with
  | zero =>
   intro i fuel _ hi hf
   cases fuel with
   | zero => omega
   | succ fuel =>
    have : i = n := by omega
    subst this
    exact hend _ _
  | succ d ih =>
   intro i fuel hai hi hf
   cases fuel with
   | zero => omega
   | succ fuel =>
    show r (S i) (Q0Q r fuel) some = _
    rw [hstep i hai (by omega)]
    exact ih (i + 1) fuel (by omega) (by omega) (by omega)
 exact key (n - a) a fuel (Nat.le_refl _) (by omega) hf
theorem Q0V {σ τ : Type} {r : {ρ : Type} → σ → (σ → Option ρ) → (τ → Option ρ) → Option ρ} (S : Nat → σ) (n : Nat) (T : τ)
  (hstep : ∀ i, i < n → ∀ (kn : σ → Option τ) (ke : τ → Option τ), r (S i) kn ke = kn (S (i + 1))) (hend : ∀ (kn : σ → Option τ) (ke : τ → Option τ), r (S n) kn ke = ke T)
  {fuel : Nat} (hf : n < fuel) : Q0Q r fuel (S 0) = some T := Q8q S n T 0 (fun i _ hi => hstep i hi) hend (Nat.zero_le _) (by omega)
theorem QdU {σ τ : Type} {r : {ρ : Type} → σ → (σ → Option ρ) → (τ → Option ρ) → Option ρ} (I : Nat → σ → Prop) (T : τ → Prop)
  (h : ∀ n s, I n s → (∃ s' m, m < n ∧ I m s' ∧ ∀ (kn : σ → Option τ) (ke : τ → Option τ), r s kn ke = kn s') ∨ (∃ t, T t ∧ ∀ (kn : σ → Option τ) (ke : τ → Option τ), r s kn ke = ke t)) :
  ∀ (n fuel : Nat) (s : σ), n < fuel → I n s → ∃ t, T t ∧ Q0Q r fuel s = some t
 | n, fuel + 1, s, hf, hi => by
  rcases h n s hi with ⟨s', m, hm, hI, hr⟩ | ⟨t, ht, hr⟩
  ·obtain ⟨t, ht, h2⟩ := QdU I T h m fuel s' (by omega) hI
   exact ⟨t, ht, (hr (Q0Q r fuel) some).trans h2⟩
  ·exact ⟨t, ht, hr (Q0Q r fuel) some⟩
theorem i64_in {n : Int} (h : -9223372036854775808 ≤ n ∧ n ≤ 9223372036854775807) : IntKind.i64.wrap n = n := IntWalk.i64_in n h
theorem u64_in {n : Int} (h : 0 ≤ n ∧ n ≤ 18446744073709551615) : IntKind.u64.wrap n = n := IntWalk.u64_in n h
theorem u8_in {n : Int} (h : 0 ≤ n ∧ n ≤ 255) : IntKind.u8.wrap n = n := IntWalk.u8_in n h
theorem Q1p {a b : Nat} (h : a ≤ b) : Nat.ble a b = true := by rw [Nat.ble_eq]; exact h
theorem Q9W (n : Int) : IntKind.u8.wrap n = n % 256 := IntKind.wrap_u8 n
theorem Q6p (n : Int) : IntKind.u32.wrap n = n % 4294967296 := IntKind.wrap_u32 n
theorem Qap (n : Int) : IntKind.u64.wrap n = n % 18446744073709551616 := IntKind.wrap_u64 n
theorem Q3N {n : Int} (h : 0 ≤ n ∧ n ≤ 4294967295) : IntKind.u32.wrap n = n := by rw [Q6p]; omega
theorem QR {α : Type} {b : Bool} {x y : α} (h : b = true) : (bif b then x else y) = x := by rw [h]; rfl
theorem Q0v {α : Type} {b : Bool} {x y : α} (h : b = false) : (bif b then x else y) = y := by rw [h]; rfl
theorem Qy {α : Type} {p : Prop} [Decidable p] {x y : α} (h : p) : (bif decide p then x else y) = x := by rw [decide_eq_true h]; rfl
theorem Q0I {α : Type} {p : Prop} [Decidable p] {x y : α} (h : ¬ p) : (bif decide p then x else y) = y := by rw [decide_eq_false h]; rfl
theorem QaG (k : IntKind) (x y : Int) : Q0o .or k x y = Q0o .or k y x := by
 simp only [Q0o, BitVec.or_comm]
theorem QeA (k : IntKind) (x y : Int) : Q0o .xor k x y = Q0o .xor k y x := by
 simp only [Q0o, BitVec.xor_comm]
theorem QeB (k : IntKind) (x y : Int) : Q0o .and k x y = Q0o .and k y x := by
 simp only [Q0o, BitVec.and_comm]
theorem toNat_ofInt (w A : Nat) (h : A < 2 ^ w) : (BitVec.ofInt w (A : Int)).toNat = A := by
 rw [BitVec.toNat_ofInt]
 have : ((A : Int) % ((2 : Nat) ^ w : Nat)).toNat = A % 2 ^ w := by
  rw [← Int.natCast_emod]; rfl
 rw [this]
 exact Nat.mod_eq_of_lt h
theorem Qg6 {A B : Nat} (ha : A < 4294967296) (hb : B < 4294967296) : Q0o .and .u32 (A : Int) (B : Int) = ((A &&& B : Nat) : Int) := by
 show IntKind.u32.wrap (((BitVec.ofInt 32 (A : Int) &&& BitVec.ofInt 32 (B : Int) : BitVec 32).toNat : Nat) : Int) = _
 rw [BitVec.toNat_and, toNat_ofInt 32 A (by simpa using ha), toNat_ofInt 32 B (by simpa using hb)]
 exact Q3N ⟨by omega, by have : A &&& B ≤ A := Nat.and_le_left; omega⟩
theorem QfH {A B : Nat} (ha : A < 4294967296) (hb : B < 4294967296) : Q0o .or .u32 (A : Int) (B : Int) = ((A ||| B : Nat) : Int) := by
 show IntKind.u32.wrap (((BitVec.ofInt 32 (A : Int) ||| BitVec.ofInt 32 (B : Int) : BitVec 32).toNat : Nat) : Int) = _
 rw [BitVec.toNat_or, toNat_ofInt 32 A (by simpa using ha), toNat_ofInt 32 B (by simpa using hb)]
 exact Q3N ⟨by omega, by have : A ||| B < 2 ^ 32 := Nat.or_lt_two_pow (by simpa using ha) (by simpa using hb); simp at this; omega⟩
theorem QeV {A B : Nat} (ha : A < 4294967296) (hb : B < 4294967296) : Q0o .xor .u32 (A : Int) (B : Int) = ((A ^^^ B : Nat) : Int) := by
 show IntKind.u32.wrap (((BitVec.ofInt 32 (A : Int) ^^^ BitVec.ofInt 32 (B : Int) : BitVec 32).toNat : Nat) : Int) = _
 rw [BitVec.toNat_xor, toNat_ofInt 32 A (by simpa using ha), toNat_ofInt 32 B (by simpa using hb)]
 exact Q3N ⟨by omega, by have : A ^^^ B < 2 ^ 32 := Nat.xor_lt_two_pow (by simpa using ha) (by simpa using hb); simp at this; omega⟩
theorem QeD {x : Int} (h : 0 ≤ x ∧ x ≤ 4294967295) : notI .u32 x = 4294967295 - x := by
 obtain ⟨A, rfl⟩ := Int.eq_ofNat_of_zero_le h.1
 show Q0o .xor .u32 (4294967295 : Int) (A : Int) = _
 rw [show (4294967295 : Int) = ((4294967295 : Nat) : Int) from rfl, QeV (by omega) (by omega)]
 have : 4294967295 ^^^ A = 4294967295 - A := by
  have h1 : (BitVec.allOnes 32 ^^^ BitVec.ofNat 32 A).toNat = 4294967295 - A := by
   rw [BitVec.allOnes_xor, BitVec.toNat_not, BitVec.toNat_ofNat, Nat.mod_eq_of_lt (by omega)]
  rw [← h1, BitVec.toNat_xor, BitVec.toNat_allOnes, BitVec.toNat_ofNat, Nat.mod_eq_of_lt (show A < 2 ^ 32 by omega)]
 rw [this]; omega
theorem Qek (op : BinOp) (x y : Int) (h : op = .and ∨ op = .or ∨ op = .xor) : 0 ≤ Q0o op .u32 x y ∧ Q0o op .u32 x y ≤ 4294967295 := by
 rcases h with rfl | rfl | rfl <;> simp only [Q0o] <;> rw [Q6p] <;> omega
theorem QfF {A B j : Nat} (ha : A < 2 ^ j) : A ||| B * 2 ^ j = B * 2 ^ j + A := by
 rw [Nat.or_comm, Nat.mul_comm, ← Nat.two_pow_add_eq_or_of_lt ha]
theorem Q4v {A B j : Nat} (ha : A < 2 ^ j) (hlt : B * 2 ^ j + A < 4294967296) : Q0o .or .u32 ((B * 2 ^ j : Nat) : Int) (A : Int) = ((B * 2 ^ j + A : Nat) : Int) := by
 rw [QfH (by omega) (by omega), Nat.or_comm, QfF ha]
theorem Q7Q (x : Int) {j : Nat} (hj : j ≤ 32) : Q27 .u32 x (j : Int) = (x * 2 ^ j) % 4294967296 := by
 unfold Q27
 rw [show min (j : Int).toNat IntKind.u32.bits = j by simp [IntKind.bits]; omega, Q6p]
theorem Qg7 {x : Int} {j : Nat} (hj : j ≤ 32) : Q1W .u32 x (j : Int) = x / 2 ^ j := by
 unfold Q1W
 rw [show min (j : Int).toNat IntKind.u32.bits = j by simp [IntKind.bits]; omega]
 exact Int.fdiv_eq_ediv_of_nonneg _ (Int.le_of_lt (Int.pow_pos (by omega)))
def Qgc (a b c d : Int) : Int := ((a * 256 + b) * 256 + c) * 256 + d
def Qg9 (x : Int) : Prop := 0 ≤ x ∧ x < 256
def Qgb (x : Int) : Prop := 0 ≤ x ∧ x ≤ 4294967295
end Go.Am
namespace Go.Am
open Go
def kc : List Int := [1116352408, 1899447441, 3049323471, 3921009573, 961987163, 1508970993, 2453635748, 2870763221, 3624381080, 310598401, 607225278, 1426881987, 1925078388, 2162078206, 2614888103, 3248222580, 3835390401, 4022224774, 264347078, 604807628, 770255983, 1249150122, 1555081692, 1996064986, 2554220882, 2821834349, 2952996808, 3210313671, 3336571891, 3584528711, 113926993, 338241895, 666307205, 773529912, 1294757372, 1396182291, 1695183700, 1986661051, 2177026350, 2456956037, 2730485921, 2820302411, 3259730800, 3345764771, 3516065817, 3600352804, 4094571909, 275423344, 430227734, 506948616, 659060556, 883997877, 958139571, 1322822218, 1537002063, 1747873779, 1955562222, 2024104815, 2227730452, 2361852424, 2428436474, 2756734187, 3204031479, 3329325298]
theorem Q6c {α : Type} {f : Nat → α} {y : List α} {i : Nat} (hi : i < y.length) : ((List.range i).map f ++ y.drop i).set i (f i) = (List.range (i + 1)).map f ++ y.drop (i + 1) := by
 rw [List.set_append_right _ _ (by simp)]
 simp only [List.length_map, List.length_range, Nat.sub_self]
 rw [List.drop_eq_getElem_cons hi, List.set_cons_zero, List.range_succ, List.map_append]
 simp
theorem Qd0 {α : Type} {f : Nat → α} {y : List α} {i : Nat} (d : α) : ((List.range i).map f ++ y.drop i).getD i d = y.getD i d := by
 rw [List.getD_eq_getElem?_getD, List.getElem?_append_right (by simp)]
 simp [List.getD_eq_getElem?_getD]
theorem Q6g {α : Type} {f : Nat → α} {y : List α} {n : Nat} (h : y.length ≤ n) : (List.range n).map f ++ y.drop n = (List.range n).map f := by
 rw [List.drop_eq_nil_of_le h]; simp
def rotr (x n : Int) : Int := Q0o .or .u32 (Q1W .u32 x n) (Q27 .u32 x (32 - n))
theorem Q2E (k : Nat) (x : Int) {n : Int} (h : 0 ≤ n ∧ n ≤ 32) : QO k x n = some (rotr x n, ()) := by
 unfold QO QO.c
 rw [i64_in (n := 32 - n) (by omega)]
 dsimp only
 rw [Qy h.1, Qy (by omega)]
 rfl
theorem Qc4 (n : Nat) (h : n < 18446744073709551616) : Q0o .and .u64 (n : Int) (31 : Int) = ((n % 32 : Nat) : Int) := by
 show IntKind.u64.wrap (((BitVec.ofInt 64 (n : Int) &&& BitVec.ofInt 64 ((31 : Nat) : Int) : BitVec 64).toNat : Nat) : Int) = _
 rw [BitVec.toNat_and, toNat_ofInt 64 n (by simpa using h), toNat_ofInt 64 31 (by decide)]
 rw [show (31 : Nat) = 2 ^ 5 - 1 from rfl, Nat.and_two_pow_sub_one_eq_mod]
 exact u64_in (by omega)
theorem Q1y (k : Nat) (x : Int) {n : Int} (h : 0 < n ∧ n < 32) : Q0D k x n = some (rotr x n, ()) := by
 unfold Q0D Q0D.c QL QL.c
 rw [i64_in (n := 0 - n) (by omega)]
 dsimp only
 have e : IntKind.u64.wrap (0 - n) = (((18446744073709551616 - n).toNat : Nat) : Int) := by rw [Qap]; omega
 rw [e, Qc4 _ (by omega)]
 have e2 : (((18446744073709551616 - n).toNat % 32 : Nat) : Int) = 32 - n := by omega
 rw [e2, u64_in (n := 32 - (32 - n)) (by omega), show (32 : Int) - (32 - n) = n by omega]
 rw [Qy (by omega), Qy (by omega)]
 simp only [Option.bind_some]
 rw [QaG]
 rfl
def part (blk : List Int) (i : Nat) : Nat → Int
 | 0 => 0
 | j + 1 => part blk i j * 256 + blk.getD (4 * i + j) 0
def Q1z (lo hi : Int) (l : List Int) : Prop := ∀ x ∈ l, lo ≤ x ∧ x ≤ hi
theorem Q2c {lo hi : Int} {l : List Int} (h : Q1z lo hi l) (h0 : lo ≤ 0 ∧ 0 ≤ hi) (i : Nat) : lo ≤ l.getD i 0 ∧ l.getD i 0 ≤ hi := by
 rw [List.getD_eq_getElem?_getD]
 cases hi' : l[i]? with
 | none => simpa using h0
 | some x => exact h x (List.mem_of_getElem? hi')
theorem Q8I {blk : List Int} (hb : Q1z 0 255 blk) (i : Nat) : ∀ j, 0 ≤ part blk i j ∧ part blk i j < 256 ^ j
 | 0 => by simp [part]
 | j + 1 => by
  have ih := Q8I hb i j
  have hx := Q2c hb (by omega) (4 * i + j)
  simp only [part, Int.pow_succ]
  have : part blk i j + 1 ≤ 256 ^ j := by omega
  omega
def sig1 (x : Int) : Int := Q0o .xor .u32 (Q0o .xor .u32 (rotr x 17) (rotr x 19)) (Q1W .u32 x 10)
def sig0 (x : Int) : Int := Q0o .xor .u32 (Q0o .xor .u32 (rotr x 7) (rotr x 18)) (Q1W .u32 x 3)
def ext (w : List Int) (t : Nat) : Int :=
 IntKind.u32.wrap (IntKind.u32.wrap (IntKind.u32.wrap (sig1 (w.getD (t - 2) 0) + w.getD (t - 7) 0) + sig0 (w.getD (t - 15) 0)) + w.getD (t - 16) 0)
def wl (blk : List Int) : Nat → List Int
 | 0 => []
 | n + 1 => wl blk n ++ [if n < 16 then part blk n 4 else ext (wl blk n) n]
theorem Q3f (blk : List Int) : ∀ n, (wl blk n).length = n
 | 0 => rfl
 | n + 1 => by simp [wl, Q3f blk n]
def wz (blk : List Int) (n : Nat) : List Int := wl blk n ++ List.replicate (64 - n) 0
theorem QaC (blk : List Int) {n : Nat} (h : n < 64) (v : Int) (hv : v = if n < 16 then part blk n 4 else ext (wl blk n) n) : (wz blk n).set n v = wz blk (n + 1) := by
 unfold wz
 rw [List.set_append_right _ _ (by rw [Q3f]; omega), Q3f, Nat.sub_self, show 64 - n = (64 - (n + 1)) + 1 by omega, List.replicate_succ, List.set_cons_zero, wl, hv]
 simp
theorem Q4Z (blk : List Int) {n i : Nat} (h : i < n) : (wz blk n).getD i 0 = (wl blk n).getD i 0 := by
 unfold wz
 rw [List.getD_eq_getElem?_getD, List.getD_eq_getElem?_getD, List.getElem?_append_left (by rw [Q3f]; exact h)]
theorem QeO (blk : List Int) {n : Nat} : (wz blk n).getD n 0 = 0 := by
 unfold wz
 rw [List.getD_eq_getElem?_getD, List.getElem?_append_right (by rw [Q3f]; omega), Q3f, Nat.sub_self]
 cases h : 64 - n <;> simp [List.replicate_succ]
theorem Qdi (blk : List Int) {n : Nat} (h : n ≤ 64) : (wz blk n).length = 64 := by
 simp [wz, Q3f]; omega
theorem Qf0 {x b : Int} (hx : 0 ≤ x ∧ x < 16777216) (hb : 0 ≤ b ∧ b ≤ 255) : Q0o .or .u32 (Q27 .u32 x 8) (IntKind.u32.wrap b) = x * 256 + b := by
 rw [Q3N (n := b) (by omega), show (8 : Int) = ((8 : Nat) : Int) from rfl, Q7Q x (by omega)]
 obtain ⟨X, rfl⟩ := Int.eq_ofNat_of_zero_le hx.1
 obtain ⟨B, rfl⟩ := Int.eq_ofNat_of_zero_le hb.1
 have : ((X : Int) * 2 ^ 8) % 4294967296 = ((X * 2 ^ 8 : Nat) : Int) := by simp; omega
 rw [this, Q4v (by omega) (by omega)]
 omega
theorem Qew (k : Nat) {blk : List Int} (hb : Q1z 0 255 blk) (hlen : blk.length = 64) {i : Nat} (hi : i < 16) (z : List Int) {fuel : Nat} (hf : 4 < fuel) :
  Qw.l1 k fuel ((i : Int), (i : Int), (4 * i, 4), (4 : Int), (0 : Int), blk, z, wz blk i, ()) = some ((i : Int), blk, z, wz blk (i + 1), ()) := by
 have h0 : (wz blk i).set i 0 = wz blk i := by
  have := QeO blk (n := i)
  apply List.ext_getElem?
  intro j
  rw [List.getElem?_set]
  split
  ·rename_i e
   subst e
   split
   ·rename_i hlt
    rw [List.getD_eq_getElem?_getD, List.getElem?_eq_getElem hlt] at this
    simp only [Option.getD_some] at this
    rw [List.getElem?_eq_getElem hlt, this]
   ·rename_i hlt
    rw [List.getElem?_eq_none (by omega)]
  ·rfl
 have := Q0V (r := Qw.l1.r k) (fun j => ((i : Int), (i : Int), (4 * i, 4), (4 : Int), (j : Int), blk, z, (wz blk i).set i (part blk i j), ())) 4 ((i : Int), blk, z, wz blk (i + 1), ()) ?_ ?_ hf
 ·rw [part, h0] at this
  exact this
 ·intro j hj kn ke
  simp only [Qw.l1.r]
  rw [Qy (by omega), Qy (by omega), Qy (by omega)]
  rw [Qy (by omega), i64_in (by omega), show (i : Int).toNat = i by omega, show (j : Int).toNat = j by omega]
  have hlt : i < (wz blk i).length := by rw [Qdi blk (by omega)]; omega
  have e1 : ((wz blk i).set i (part blk i j)).getD i 0 = part blk i j := by
   rw [List.getD_eq_getElem?_getD, List.getElem?_set_self hlt]; rfl
  have hp := Q8I hb i j
  have hp3 : (256 : Int) ^ j ≤ 16777216 := by
   have : j = 0 ∨ j = 1 ∨ j = 2 ∨ j = 3 := by omega
   rcases this with rfl | rfl | rfl | rfl <;> decide
  rw [e1, Qf0 (by omega) (Q2c hb (by omega) _), List.set_set]
  rfl
 ·intro kn ke
  simp only [Qw.l1.r]
  rw [Q0I (by omega), QaC blk (by omega) _ (by rw [if_pos hi])]
theorem Qet (k : Nat) (hk : 64 < k) {blk : List Int} (hb : Q1z 0 255 blk) (hlen : blk.length = 64) (z : List Int) :
  Qw.l0 k k ((0 : Int), blk, z, wz blk 0, ()) = some (blk, z, wz blk 16, ()) := by
 refine Q0V (r := Qw.l0.r k) (fun i => ((i : Int), blk, z, wz blk i, ())) 16 _ ?_ ?_ (by omega)
 ·intro i hi kn ke
  simp only [Qw.l0.r]
  rw [Qy (by omega), i64_in (n := 4 * (i : Int)) (by omega), i64_in (n := (i : Int) + 1) (by omega), i64_in (n := 4 * ((i : Int) + 1)) (by omega), Qy (by omega)]
  rw [show (4 * (i : Int)).toNat = 4 * i by omega, show (4 * ((i : Int) + 1) - 4 * (i : Int)).toNat = 4 by omega]
  have := Qew k hb hlen hi z (fuel := k) (by omega)
  show (Qw.l1 k k ((i : Int), (i : Int), (4 * i, 4), (4 : Int), (0 : Int), blk, z, wz blk i, ())).bind _ = _
  rw [this]
  simp only [Option.bind_some]
  rw [i64_in (by omega)]
  rfl
 ·intro kn ke
  simp only [Qw.l0.r]
  rw [Q0I (by omega)]
theorem Qe7 (k : Nat) (hk : 64 < k) (blk b z : List Int) :
  Qw.l2 k k ((16 : Int), b, z, wz blk 16, ()) = some (b, z, wz blk 64, ()) := by
 refine Q8q (r := Qw.l2.r k) (fun i => ((i : Int), b, z, wz blk i, ())) 64 _ 16 ?_ ?_ (by omega) (by omega)
 ·intro i h16 hi kn ke
  simp only [Qw.l2.r]
  rw [Qy (by omega), i64_in (n := (i : Int) - 2) (by omega), i64_in (n := (i : Int) - 15) (by omega), i64_in (n := (i : Int) - 7) (by omega), i64_in (n := (i : Int) - 16) (by omega), i64_in (n := (i : Int) + 1) (by omega)]
  rw [Qy (by omega), Qy (by omega)]
  simp only [Q1y k _ (show (0 : Int) < 17 ∧ (17 : Int) < 32 by omega), Q1y k _ (show (0 : Int) < 19 ∧ (19 : Int) < 32 by omega), Q1y k _ (show (0 : Int) < 7 ∧ (7 : Int) < 32 by omega), Q1y k _ (show (0 : Int) < 18 ∧ (18 : Int) < 32 by omega), Option.bind_some]
  rw [Qy (by omega), Qy (by omega), Qy (by omega)]
  rw [show ((i : Int) - 2).toNat = i - 2 by omega, show ((i : Int) - 15).toNat = i - 15 by omega, show ((i : Int) - 7).toNat = i - 7 by omega, show ((i : Int) - 16).toNat = i - 16 by omega, show (i : Int).toNat = i by omega]
  rw [Q4Z blk (show i - 2 < i by omega), Q4Z blk (show i - 15 < i by omega), Q4Z blk (show i - 7 < i by omega), Q4Z blk (show i - 16 < i by omega)]
  rw [QaC blk (by omega) _ (by rw [if_neg (by omega)]; rfl)]
  rfl
 ·intro kn ke
  simp only [Qw.l2.r]
  rw [Q0I (by omega)]
theorem wz_0 (blk : List Int) : List.replicate 64 (0 : Int) = wz blk 0 := rfl
theorem Qfd (blk : List Int) : wz blk 64 = wl blk 64 := by simp [wz]
theorem Qam {k : Nat} (hk : 64 < k) {blk : List Int} (hb : Q1z 0 255 blk) (hlen : blk.length = 64) : Qw k blk = some (wl blk 64, blk, ()) := by
 unfold Qw Qw.c
 rw [wz_0 blk, Qet k hk hb hlen]
 simp only [Option.bind_some]
 show (Qw.l2 k k ((16 : Int), blk, wz blk 0, wz blk 16, ())).bind _ = _
 rw [Qe7 k hk, Qfd]
 rfl
theorem Q76 (k : Nat) : Q0w k = some (kc, ()) := rfl
theorem Q73 (k : Nat) : QQ k = some (kc, ()) := rfl
def big1 (e : Int) : Int := Q0o .xor .u32 (Q0o .xor .u32 (rotr e 6) (rotr e 11)) (rotr e 25)
def big0 (a : Int) : Int := Q0o .xor .u32 (Q0o .xor .u32 (rotr a 2) (rotr a 13)) (rotr a 22)
def chF (e f g : Int) : Int := Q0o .xor .u32 (Q0o .and .u32 e f) (Q0o .and .u32 (4294967295 - e) g)
def majF (a b c : Int) : Int := Q0o .xor .u32 (Q0o .xor .u32 (Q0o .and .u32 a b) (Q0o .and .u32 a c)) (Q0o .and .u32 b c)
def Q1R (a b : Int) : Int := IntKind.u32.wrap (a + b)
theorem QbK (a b c : Int) : Q1R (Q1R a b) c = Q1R a (Q1R b c) := by
 unfold Q1R; simp only [Q6p]; omega
theorem Qco (a b : Int) : Q1R a b = Q1R b a := by
 unfold Q1R; rw [Int.add_comm]
theorem Q7v (a b : Int) : 0 ≤ Q1R a b ∧ Q1R a b ≤ 4294967295 := by unfold Q1R; rw [Q6p]; omega
def rnd (y : List Int) (kt wt : Int) : List Int :=
 let t1 := Q1R (Q1R (Q1R (Q1R (y.getD 7 0) (big1 (y.getD 4 0))) (chF (y.getD 4 0) (y.getD 5 0) (y.getD 6 0))) kt) wt
 [Q1R t1 (Q1R (big0 (y.getD 0 0)) (majF (y.getD 0 0) (y.getD 1 0) (y.getD 2 0))), y.getD 0 0, y.getD 1 0, y.getD 2 0, Q1R (y.getD 3 0) t1, y.getD 4 0, y.getD 5 0, y.getD 6 0]
def rndN (w x : List Int) : Nat → List Int
 | 0 => x
 | t + 1 => rnd (rndN w x t) (kc.getD t 0) (w.getD t 0)
theorem QfO {y : List Int} (hy : Q1z 0 4294967295 y) (kt wt : Int) : Q1z 0 4294967295 (rnd y kt wt) := by
 intro v hv
 simp only [rnd, List.mem_cons, List.not_mem_nil, or_false] at hv
 rcases hv with rfl | rfl | rfl | rfl | rfl | rfl | rfl | rfl <;> first | exact Q7v _ _ | exact Q2c hy (by omega) _
theorem Qaw {w x : List Int} (hx : Q1z 0 4294967295 x) : ∀ t, Q1z 0 4294967295 (rndN w x t)
 | 0 => hx
 | t + 1 => QfO (Qaw hx t) _ _
theorem Qf2 (k : Nat) (hk : 64 < k) {x0 : List Int} (hx : Q1z 0 4294967295 x0) (z w : List Int) :
  QX.l0 k k ((0 : Int), x0, z, w, kc, x0, ()) = some (x0, z, rndN w x0 64, ()) := by
 refine Q0V (r := QX.l0.r k) (fun i => ((i : Int), x0, z, w, kc, rndN w x0 i, ())) 64 _ ?_ ?_ (by omega)
 ·intro i hi kn ke
  simp only [QX.l0.r]
  rw [Qy (by omega)]
  simp only [Q1y k _ (show (0 : Int) < 6 ∧ (6 : Int) < 32 by omega), Q1y k _ (show (0 : Int) < 11 ∧ (11 : Int) < 32 by omega), Q1y k _ (show (0 : Int) < 25 ∧ (25 : Int) < 32 by omega), Q1y k _ (show (0 : Int) < 2 ∧ (2 : Int) < 32 by omega), Q1y k _ (show (0 : Int) < 13 ∧ (13 : Int) < 32 by omega), Q1y k _ (show (0 : Int) < 22 ∧ (22 : Int) < 32 by omega), Option.bind_some]
  rw [Qy (by omega), Qy (by omega), i64_in (n := (i : Int) + 1) (by omega), show (i : Int).toNat = i by omega]
  have hr := Qaw (w := w) hx i
  rw [QeD (Q2c hr (by omega) 4)]
  show kn ((i : Int) + 1, x0, z, w, kc, [Q1R (Q1R _ _) _, _, _, _, _, _, _, _], ()) = _
  rw [QbK]
  rfl
 ·intro kn ke
  simp only [QX.l0.r]
  rw [Q0I (by omega)]
theorem QeX (k : Nat) (hk : 64 < k) (x z y : List Int) (hy : y.length = 8) :
  QX.l1 k k ((0 : Int), x, z, y, ()) = some (z, (List.range 8).map (fun j => Q1R (y.getD j 0) (x.getD j 0)), ()) := by
 have := Q0V (r := QX.l1.r k) (fun i => ((i : Int), x, z, (List.range i).map (fun j => Q1R (y.getD j 0) (x.getD j 0)) ++ y.drop i, ())) 8 (z, (List.range 8).map (fun j => Q1R (y.getD j 0) (x.getD j 0)), ()) ?_ ?_ (fuel := k) (by omega)
 ·simp only [List.range_zero, List.map_nil, List.nil_append, List.drop_zero] at this
  exact this
 ·intro i hi kn ke
  simp only [QX.l1.r]
  rw [Qy (by omega), Qy (by omega), Qy (by omega), Qy (by omega), i64_in (n := (i : Int) + 1) (by omega), show (i : Int).toNat = i by omega, Qd0]
  show kn ((i : Int) + 1, x, z, List.set _ i (Q1R (y.getD i 0) (x.getD i 0)), ()) = _
  rw [Q6c (f := fun j => Q1R (y.getD j 0) (x.getD j 0)) (by omega)]
  rfl
 ·intro kn ke
  simp only [QX.l1.r]
  rw [Q0I (by omega), Q6g (by omega)]
def Q7m (x blk : List Int) : List Int := (List.range 8).map fun j => Q1R ((rndN (wl blk 64) x 64).getD j 0) (x.getD j 0)
theorem Qb6 {w x : List Int} (hx : x.length = 8) : ∀ t, (rndN w x t).length = 8
 | 0 => hx
 | _ + 1 => rfl
theorem QaN (x blk : List Int) : (Q7m x blk).length = 8 := by simp [Q7m]
theorem QdZ (x blk : List Int) : Q1z 0 4294967295 (Q7m x blk) := by
 intro v hv
 simp only [Q7m, List.mem_map] at hv
 obtain ⟨j, _, rfl⟩ := hv
 exact Q7v _ _
theorem Qbt {k : Nat} (hk : 64 < k) {x blk : List Int} (hx : Q1z 0 4294967295 x) (hxl : x.length = 8) (hb : Q1z 0 255 blk) (hlen : blk.length = 64) : QX k x blk = some (Q7m x blk, ()) := by
 unfold QX QX.c
 rw [Qam hk hb hlen, Q76]
 simp only [Option.bind_some]
 rw [Qf2 k hk hx]
 simp only [Option.bind_some]
 rw [QeX k hk _ _ _ (Qb6 hxl 64)]
 rfl
theorem Qfx (k : Nat) (hk : 64 < k) {blk : List Int} (hb : Q1z 0 255 blk) (hlen : blk.length = 64) (s z kk : List Int) :
  Q5.l0 k k ((0 : Int), s, blk, z, kk, wz blk 0, ()) = some (s, z, kk, wl blk 64, ()) := by
 rw [← Qfd blk]
 refine Q0V (r := Q5.l0.r k) (fun i => ((i : Int), s, blk, z, kk, wz blk i, ())) 64 _ ?_ ?_ (by omega)
 ·intro i hi kn ke
  simp only [Q5.l0.r]
  rw [Qy (by omega)]
  by_cases h16 : i < 16
  ·rw [Qy (by omega), i64_in (n := 4 * (i : Int)) (by omega), i64_in (n := 4 * (i : Int) + 1) (by omega), i64_in (n := 4 * (i : Int) + 2) (by omega), i64_in (n := 4 * (i : Int) + 3) (by omega), i64_in (n := (i : Int) + 1) (by omega)]
   rw [Qy (by omega), Qy (by omega), Qy (by omega), Qy (by omega), Qy (by omega)]
   rw [show (4 * (i : Int)).toNat = 4 * i by omega, show (4 * (i : Int) + 1).toNat = 4 * i + 1 by omega, show (4 * (i : Int) + 2).toNat = 4 * i + 2 by omega, show (4 * (i : Int) + 3).toNat = 4 * i + 3 by omega, show (i : Int).toNat = i by omega]
   have b0 := Q2c hb (by omega) (4 * i)
   have b1 := Q2c hb (by omega) (4 * i + 1)
   have b2 := Q2c hb (by omega) (4 * i + 2)
   have b3 := Q2c hb (by omega) (4 * i + 3)
   have hp : part blk i 4 = ((blk.getD (4 * i) 0 * 256 + blk.getD (4 * i + 1) 0) * 256 + blk.getD (4 * i + 2) 0) * 256 + blk.getD (4 * i + 3) 0 := by
    simp [part]
   rw [QaC blk (by omega) _ ?_]
   ·rfl
   ·rw [if_pos h16, hp]
    generalize blk.getD (4 * i) 0 = x0 at *
    generalize blk.getD (4 * i + 1) 0 = x1 at *
    generalize blk.getD (4 * i + 2) 0 = x2 at *
    generalize blk.getD (4 * i + 3) 0 = x3 at *
    obtain ⟨X0, rfl⟩ := Int.eq_ofNat_of_zero_le b0.1
    obtain ⟨X1, rfl⟩ := Int.eq_ofNat_of_zero_le b1.1
    obtain ⟨X2, rfl⟩ := Int.eq_ofNat_of_zero_le b2.1
    obtain ⟨X3, rfl⟩ := Int.eq_ofNat_of_zero_le b3.1
    simp only [Q3N (show 0 ≤ ((X0 : Nat) : Int) ∧ ((X0 : Nat) : Int) ≤ 4294967295 by omega), Q3N (show 0 ≤ ((X1 : Nat) : Int) ∧ ((X1 : Nat) : Int) ≤ 4294967295 by omega), Q3N (show 0 ≤ ((X2 : Nat) : Int) ∧ ((X2 : Nat) : Int) ≤ 4294967295 by omega), Q3N (show 0 ≤ ((X3 : Nat) : Int) ∧ ((X3 : Nat) : Int) ≤ 4294967295 by omega)]
    rw [show (24 : Int) = ((24 : Nat) : Int) from rfl, show (16 : Int) = ((16 : Nat) : Int) from rfl, show (8 : Int) = ((8 : Nat) : Int) from rfl, Q7Q _ (by omega), Q7Q _ (by omega), Q7Q _ (by omega)]
    rw [show ((X0 : Int) * 2 ^ 24) % 4294967296 = ((X0 * 2 ^ 24 : Nat) : Int) by simp; omega, show ((X1 : Int) * 2 ^ 16) % 4294967296 = ((X1 * 2 ^ 16 : Nat) : Int) by simp; omega, show ((X2 : Int) * 2 ^ 8) % 4294967296 = ((X2 * 2 ^ 8 : Nat) : Int) by simp; omega]
    rw [Q4v (A := X1 * 2 ^ 16) (B := X0) (j := 24) (by omega) (by omega)]
    rw [show X0 * 2 ^ 24 + X1 * 2 ^ 16 = (X0 * 256 + X1) * 2 ^ 16 by omega, Q4v (A := X2 * 2 ^ 8) (j := 16) (by omega) (by omega)]
    rw [show (X0 * 256 + X1) * 2 ^ 16 + X2 * 2 ^ 8 = ((X0 * 256 + X1) * 256 + X2) * 2 ^ 8 by omega, Q4v (A := X3) (j := 8) (by omega) (by omega)]
    omega
  ·rw [Q0I (by omega), i64_in (n := (i : Int) - 2) (by omega), i64_in (n := (i : Int) - 15) (by omega), i64_in (n := (i : Int) - 7) (by omega), i64_in (n := (i : Int) - 16) (by omega), i64_in (n := (i : Int) + 1) (by omega)]
   rw [Qy (by omega), Qy (by omega)]
   simp only [Q2E k _ (show (0 : Int) ≤ 17 ∧ (17 : Int) ≤ 32 by omega), Q2E k _ (show (0 : Int) ≤ 19 ∧ (19 : Int) ≤ 32 by omega), Q2E k _ (show (0 : Int) ≤ 7 ∧ (7 : Int) ≤ 32 by omega), Q2E k _ (show (0 : Int) ≤ 18 ∧ (18 : Int) ≤ 32 by omega), Option.bind_some]
   rw [Qy (by omega), Qy (by omega), Qy (by omega)]
   rw [show ((i : Int) - 2).toNat = i - 2 by omega, show ((i : Int) - 15).toNat = i - 15 by omega, show ((i : Int) - 7).toNat = i - 7 by omega, show ((i : Int) - 16).toNat = i - 16 by omega, show (i : Int).toNat = i by omega]
   rw [Q4Z blk (show i - 2 < i by omega), Q4Z blk (show i - 15 < i by omega), Q4Z blk (show i - 7 < i by omega), Q4Z blk (show i - 16 < i by omega)]
   rw [QaC blk (by omega) _ (by rw [if_neg (by omega)]; rfl)]
   rfl
 ·intro kn ke
  simp only [Q5.l0.r]
  rw [Q0I (by omega)]
theorem QfS (k : Nat) (hk : 64 < k) {x0 : List Int} (hx : Q1z 0 4294967295 x0) (s z w : List Int) :
  Q5.l1 k k ((0 : Int), s, z, kc, w, x0, ()) = some (s, z, rndN w x0 64, ()) := by
 refine Q0V (r := Q5.l1.r k) (fun i => ((i : Int), s, z, kc, w, rndN w x0 i, ())) 64 _ ?_ ?_ (by omega)
 ·intro i hi kn ke
  simp only [Q5.l1.r]
  rw [Qy (by omega)]
  simp only [Q2E k _ (show (0 : Int) ≤ 6 ∧ (6 : Int) ≤ 32 by omega), Q2E k _ (show (0 : Int) ≤ 11 ∧ (11 : Int) ≤ 32 by omega), Q2E k _ (show (0 : Int) ≤ 25 ∧ (25 : Int) ≤ 32 by omega), Q2E k _ (show (0 : Int) ≤ 2 ∧ (2 : Int) ≤ 32 by omega), Q2E k _ (show (0 : Int) ≤ 13 ∧ (13 : Int) ≤ 32 by omega), Q2E k _ (show (0 : Int) ≤ 22 ∧ (22 : Int) ≤ 32 by omega), Option.bind_some]
  rw [Qy (by omega), Qy (by omega), i64_in (n := (i : Int) + 1) (by omega), show (i : Int).toNat = i by omega]
  have hr := Q2c (Qaw (w := w) hx i) (by omega) 4
  rw [Q3N (n := 4294967295 - (rndN w x0 i).getD 4 0) (by omega)]
  rfl
 ·intro kn ke
  simp only [Q5.l1.r]
  rw [Q0I (by omega)]
theorem Qft (k : Nat) (hk : 64 < k) (x z y : List Int) (hx : x.length = 8) :
  Q5.l2 k k ((0 : Int), x, z, y, ()) = some ((List.range 8).map (fun j => Q1R (x.getD j 0) (y.getD j 0)), z, ()) := by
 have := Q0V (r := Q5.l2.r k) (fun i => ((i : Int), (List.range i).map (fun j => Q1R (x.getD j 0) (y.getD j 0)) ++ x.drop i, z, y, ())) 8 ((List.range 8).map (fun j => Q1R (x.getD j 0) (y.getD j 0)), z, ()) ?_ ?_ (fuel := k) (by omega)
 ·simp only [List.range_zero, List.map_nil, List.nil_append, List.drop_zero] at this
  exact this
 ·intro i hi kn ke
  simp only [Q5.l2.r]
  rw [Qy (by omega), Qy (by omega), Qy (by omega), Qy (by omega), i64_in (n := (i : Int) + 1) (by omega), show (i : Int).toNat = i by omega, Qd0]
  show kn ((i : Int) + 1, List.set _ i (Q1R (x.getD i 0) (y.getD i 0)), z, y, ()) = _
  rw [Q6c (f := fun j => Q1R (x.getD j 0) (y.getD j 0)) (by omega)]
  rfl
 ·intro kn ke
  simp only [Q5.l2.r]
  rw [Q0I (by omega), Q6g (by omega)]
theorem Qbr {k : Nat} (hk : 64 < k) {x blk : List Int} (hx : Q1z 0 4294967295 x) (hxl : x.length = 8) (hb : Q1z 0 255 blk) (hlen : blk.length = 64) : Q5 k x blk = some (Q7m x blk, ()) := by
 unfold Q5 Q5.c
 rw [Q73, wz_0 blk]
 simp only [Option.bind_some]
 rw [Qfx k hk hb hlen]
 simp only [Option.bind_some]
 rw [QfS k hk hx]
 simp only [Option.bind_some]
 rw [Qft k hk _ _ _ hxl]
 simp only [Option.bind_some]
 have e : (List.range 8).map (fun j => Q1R (x.getD j 0) ((rndN (wl blk 64) x 64).getD j 0)) = Q7m x blk := List.map_congr_left fun j _ => Qco _ _
 rw [e]
end Go.Am
namespace Go.Am
open Go
def first : List Int := [1779033703, 3144134277, 1013904242, 2773480762, 1359893119, 2600822924, 528734635, 1541459225]
theorem QeY (k : Nat) : Q0X k = some (first, ()) := rfl
theorem Qao (k : Nat) : Q0d k = some (first, ()) := rfl
theorem Q8y : Q1z 0 4294967295 first := by unfold Q1z first; decide
theorem Q4r : first.length = 8 := rfl
def stt (x l : List Int) : Nat → List Int
 | 0 => x
 | n + 1 => Q7m (stt x l n) ((l.drop (64 * n)).take 64)
theorem QcE {x l : List Int} (hx : Q1z 0 4294967295 x) : ∀ n, Q1z 0 4294967295 (stt x l n)
 | 0 => hx
 | _ + 1 => QdZ _ _
theorem Q62 {x l : List Int} (hx : x.length = 8) : ∀ n, (stt x l n).length = 8
 | 0 => hx
 | _ + 1 => QaN _ _
theorem Q81 (x a b : List Int) : ∀ n, 64 * n ≤ a.length → stt x (a ++ b) n = stt x a n
 | 0, _ => rfl
 | n + 1, h => by
  simp only [stt]
  rw [Q81 x a b n (by omega), List.drop_append_of_le_length (by omega), List.take_append_of_le_length (by simp; omega)]
theorem QcQ (x l : List Int) (q : Nat) : ∀ j, stt x l (q + j) = stt (stt x l q) (l.drop (64 * q)) j
 | 0 => rfl
 | j + 1 => by
  rw [← Nat.add_assoc]
  simp only [stt]
  rw [QcQ x l q j, List.drop_drop, show 64 * q + 64 * j = 64 * (q + j) by omega]
theorem Q61 {lo hi : Int} {l : List Int} (h : Q1z lo hi l) (n : Nat) : Q1z lo hi (l.drop n) := fun x hx => h x (List.mem_of_mem_drop hx)
theorem Q85 {lo hi : Int} {l : List Int} (h : Q1z lo hi l) (n : Nat) : Q1z lo hi (l.take n) := fun x hx => h x (List.mem_of_mem_take hx)
theorem Qak {lo hi : Int} {l r : List Int} (h : Q1z lo hi l) (h2 : Q1z lo hi r) : Q1z lo hi (l ++ r) := fun x hx => by
 rcases List.mem_append.1 hx with hx | hx
 ·exact h x hx
 ·exact h2 x hx
theorem Q4m (s : ByteArray) : Q1z 0 255 (QB s) := fun x hx => by have := Q2x hx; omega
theorem Q8K (k : Nat) (hk : 64 < k) {x left : List Int} (hx : Q1z 0 4294967295 x) (hxl : x.length = 8) (hl : Q1z 0 255 left) (n : Int) {fuel : Nat} (hf : left.length / 64 < fuel) :
  Qr.l0 k fuel ((x, (), n, ()), left, ()) = some ((stt x left (left.length / 64), (), n, ()), left.drop (64 * (left.length / 64)), ()) := by
 refine Q0V (r := Qr.l0.r k) (fun i => ((stt x left i, (), n, ()), left.drop (64 * i), ())) (left.length / 64) _ ?_ ?_ hf
 ·intro i hi kn ke
  simp only [Qr.l0.r]
  have hlen : (left.drop (64 * i)).length = left.length - 64 * i := by simp
  rw [Qy (by rw [hlen]; omega), Qy (by rw [hlen]; omega), List.drop_zero]
  rw [Qbt hk (QcE hx i) (Q62 hxl i) (Q85 (Q61 hl _) _) (by simp; omega)]
  simp only [Option.bind_some]
  have e : List.take ((((List.drop (64 * i) left).length : Nat) : Int) - 64).toNat (List.drop 64 (List.drop (64 * i) left)) = left.drop (64 * (i + 1)) := by
   rw [List.take_of_length_le (by rw [List.length_drop, hlen]; omega), List.drop_drop, show 64 * i + 64 = 64 * (i + 1) by omega]
  rw [Qy (by rw [hlen]; omega), e]
  rfl
 ·intro kn ke
  simp only [Qr.l0.r]
  have hlen : (left.drop (64 * (left.length / 64))).length = left.length - 64 * (left.length / 64) := by simp
  rw [Q0I (by rw [hlen]; omega)]
def padF (n : Int) (j : Nat) : Int := IntKind.u8.wrap (Q1W .u64 (IntKind.u64.wrap (8 * n)) (8 * (7 - (j : Int))))
def padZ (n : Int) : Nat := ((119 - n % 64) % 64).toNat
def padL (n : Int) : List Int := (128 :: List.replicate (padZ n) 0) ++ (List.range 8).map (padF n)
theorem Q2O (n : Int) : (padL n).length = 9 + padZ n := by simp [padL]; omega
theorem Q4C (n : Int) : padZ n < 64 := by unfold padZ; omega
theorem QcN (n : Int) : Q1z 0 255 (padL n) := by
 intro x hx
 simp only [padL, List.mem_append, List.mem_cons, List.mem_replicate, List.mem_map] at hx
 rcases hx with (rfl | ⟨_, rfl⟩) | ⟨j, _, rfl⟩
 ·omega
 ·omega
 ·unfold padF; rw [Q9W]; omega
theorem Qfa {n : Nat} : (n + (padL (n : Int)).length) % 64 = 0 := by
 rw [Q2O]; unfold padZ; omega
theorem Qbl {α : Type} (f : Nat → α) (l : List α) (i : Nat) : l ++ (List.range i).map f ++ [f i] = l ++ (List.range (i + 1)).map f := by
 rw [List.range_succ, List.map_append, List.append_assoc]; rfl
theorem shl3 (n : Int) : Q27 .u64 n 3 = IntKind.u64.wrap (8 * n) := by
 unfold Q27
 rw [show min (3 : Int).toNat IntKind.u64.bits = 3 from rfl, show n * 2 ^ 3 = 8 * n by omega]
theorem Qck {k : Nat} (hk : 64 < k) {n : Int} (hn : 0 ≤ n ∧ n ≤ 18446744073709551615) : Q0E k n = some (bytesOf (padL n), ()) := by
 unfold Q0E Q0E.c
 dsimp only
 rw [Int.tmod_eq_emod_of_nonneg hn.1, i64_in (n := n % 64) (by omega), i64_in (n := 119 - n % 64) (by omega), Int.tmod_eq_emod_of_nonneg (by omega), i64_in (n := 1 + (119 - n % 64) % 64) (by omega), i64_in (by omega)]
 have hz : (1 + (119 - n % 64) % 64).toNat = padZ n + 1 := by unfold padZ; omega
 have hb : Nat.ble ((1 + (119 - n % 64) % 64 + 8).toNat * 1) 140737488355328 = true := Q1p (by omega)
 rw [decide_eq_true (show 0 ≤ 1 + (119 - n % 64) % 64 ∧ 1 + (119 - n % 64) % 64 ≤ 1 + (119 - n % 64) % 64 + 8 by omega), hb, Bool.and_self, cond_true, hz, List.length_replicate, Qy (by omega)]
 have e : (List.replicate (padZ n + 1) (0 : Int)).set 0 128 = 128 :: List.replicate (padZ n) 0 := by rw [List.replicate_succ, List.set_cons_zero]
 rw [e]
 have := Q0V (r := Q0E.l0.r k) (fun i => (n, (i : Int), (128 :: List.replicate (padZ n) 0) ++ (List.range i).map (padF n), ())) 8 (padL n, ()) ?_ ?_ (fuel := k) (by omega)
 ·simp only [List.range_zero, List.map_nil, List.append_nil] at this
  show (Q0E.l0 k k (n, ((0 : Nat) : Int), 128 :: List.replicate (padZ n) 0, ())).bind _ = _
  unfold Q0E.l0
  rw [this]
  rfl
 ·intro i hi kn ke
  simp only [Q0E.l0.r]
  rw [Qy (by omega), i64_in (n := 7 - (i : Int)) (by omega), i64_in (n := 8 * (7 - (i : Int))) (by omega), Qy (by omega), i64_in (n := (i : Int) + 1) (by omega), shl3]
  have hl : Nat.ble ((((128 :: List.replicate (padZ n) 0) ++ (List.range i).map (padF n)).length + (List.set (List.replicate 1 (0 : Int)) 0 (IntKind.u8.wrap (Q1W .u64 (IntKind.u64.wrap (8 * n)) (8 * (7 - (i : Int)))))).length) * 1) 140737488355328 = true :=
   Q1p (by have := Q4C n; simp; omega)
  rw [QR hl]
  show kn (n, (i : Int) + 1, (128 :: List.replicate (padZ n) 0) ++ (List.range i).map (padF n) ++ [padF n i], ()) = _
  rw [Qbl]
  rfl
 ·intro kn ke
  simp only [Q0E.l0.r]
  rw [Q0I (by omega)]
  rfl
theorem Qc0 {k : Nat} (hk : 80 < k) {n : Int} (hn : 0 ≤ n ∧ n ≤ 18446744073709551615) : Qe k n = some (bytesOf (padL n), ()) := by
 unfold Qe Qe.c
 have h0 := Q0V (r := Qe.l0.r k) (fun i => (n, 128 :: List.replicate i (0 : Int), ())) (padZ n) (n, 128 :: List.replicate (padZ n) 0, ()) ?_ ?_ (fuel := k) (by have := Q4C n; omega)
 ·have e : List.set (List.replicate 1 (0 : Int)) 0 128 = 128 :: List.replicate 0 0 := rfl
  rw [e]
  unfold Qe.l0
  rw [h0]
  simp only [Option.bind_some]
  have := Q0V (r := Qe.l1.r k) (fun i => (IntKind.u64.wrap (8 * n), 7 - (i : Int), (128 :: List.replicate (padZ n) 0) ++ (List.range i).map (padF n), ())) 8 (padL n, ()) ?_ ?_ (fuel := k) (by omega)
  ·simp only [List.range_zero, List.map_nil, List.append_nil] at this
   show (Qe.l1 k k (IntKind.u64.wrap (8 * n), 7 - ((0 : Nat) : Int), 128 :: List.replicate (padZ n) 0, ())).bind _ = _
   unfold Qe.l1
   rw [this]
   rfl
  ·intro i hi kn ke
   simp only [Qe.l1.r]
   rw [Qy (by omega), i64_in (n := 8 * (7 - (i : Int))) (by omega), Qy (by omega), i64_in (n := 7 - (i : Int) - 1) (by omega)]
   have hl : Nat.ble ((((128 :: List.replicate (padZ n) 0) ++ (List.range i).map (padF n)).length + (List.set (List.replicate 1 (0 : Int)) 0 (IntKind.u8.wrap (Q1W .u64 (IntKind.u64.wrap (8 * n)) (8 * (7 - (i : Int)))))).length) * 1) 140737488355328 = true :=
    Q1p (by have := Q4C n; simp; omega)
   rw [QR hl]
   show kn (IntKind.u64.wrap (8 * n), 7 - (i : Int) - 1, (128 :: List.replicate (padZ n) 0) ++ (List.range i).map (padF n) ++ [padF n i], ()) = _
   rw [Qbl, show 7 - (i : Int) - 1 = 7 - ((i + 1 : Nat) : Int) by omega]
  ·intro kn ke
   simp only [Qe.l1.r]
   rw [Q0I (by omega)]
   rfl
 ·intro i hi kn ke
  simp only [Qe.l0.r]
  have hz : padZ n < 64 := Q4C n
  have hzd : (padZ n : Int) = (119 - n % 64) % 64 := by unfold padZ; omega
  simp only [List.length_cons, List.length_replicate]
  rw [u64_in (n := ((i + 1 : Nat) : Int)) (by omega), Qap, Int.tmod_eq_emod_of_nonneg (by omega)]
  have hne : ((n + ((i + 1 : Nat) : Int)) % 18446744073709551616 % 64 != 56) = true := by
   rw [bne_iff_ne]; omega
  rw [QR hne, QR (Q1p (by omega))]
  show kn (n, (128 :: List.replicate i (0 : Int)) ++ [0], ()) = _
  rw [List.cons_append, ← List.replicate_succ']
 ·intro kn ke
  simp only [Qe.l0.r]
  have hz : padZ n < 64 := Q4C n
  have hzd : (padZ n : Int) = (119 - n % 64) % 64 := by unfold padZ; omega
  simp only [List.length_cons, List.length_replicate]
  rw [u64_in (n := ((padZ n + 1 : Nat) : Int)) (by omega), Qap, Int.tmod_eq_emod_of_nonneg (by omega)]
  have hne : ((n + ((padZ n + 1 : Nat) : Int)) % 18446744073709551616 % 64 != 56) = false := by
   rw [bne_eq_false_iff_eq]; omega
  rw [Q0v hne]
def beF (x : List Int) (j : Nat) : Int := IntKind.u8.wrap (Q1W .u32 (x.getD (j / 4) 0) (24 - 8 * ((j % 4 : Nat) : Int)))
def Q3X (x : List Int) : List Int := (List.range 32).map (beF x)
def beZ (x : List Int) (j : Nat) : List Int := (List.range j).map (beF x) ++ (List.replicate 32 (0 : Int)).drop j
theorem QcR (x : List Int) {j : Nat} (h : j < 32) : (beZ x j).set j (beF x j) = beZ x (j + 1) := Q6c (by simpa using h)
theorem Q90 (x : List Int) : (Q3X x).length = 32 := by simp [Q3X]
theorem Qc1 (x : List Int) : Q1z 0 255 (Q3X x) := by
 intro v hv
 simp only [Q3X, List.mem_map] at hv
 obtain ⟨j, _, rfl⟩ := hv
 unfold beF; rw [Q9W]; omega
theorem Qfu (k : Nat) (x : List Int) {i : Nat} (hi : i < 8) (b0 : List Int × Unit × Int × Unit) (b1 z : List Int) {fuel : Nat} (hf : 4 < fuel) :
  Qi.l1 k fuel ((i : Int), x.getD i 0, x, (i : Int), (0 : Int), b0, b1, z, beZ x (4 * i), ()) = some (x, (i : Int), b0, b1, z, beZ x (4 * (i + 1)), ()) := by
 refine Q0V (r := Qi.l1.r k) (fun j => ((i : Int), x.getD i 0, x, (i : Int), (j : Int), b0, b1, z, beZ x (4 * i + j), ())) 4 _ ?_ ?_ hf
 ·intro j hj kn ke
  simp only [Qi.l1.r]
  rw [Qy (by omega), i64_in (n := 4 * (i : Int)) (by omega), i64_in (n := 4 * (i : Int) + (j : Int)) (by omega), i64_in (n := 3 - (j : Int)) (by omega), i64_in (n := 8 * (3 - (j : Int))) (by omega), i64_in (n := (j : Int) + 1) (by omega), Qy (by omega), Qy (by omega)]
  have e : IntKind.u8.wrap (Q1W .u32 (x.getD i 0) (8 * (3 - (j : Int)))) = beF x (4 * i + j) := by
   unfold beF
   rw [show (4 * i + j) / 4 = i by omega, show (4 * i + j) % 4 = j by omega, show 8 * (3 - (j : Int)) = 24 - 8 * (j : Int) by omega]
  rw [e, show (4 * (i : Int) + (j : Int)).toNat = 4 * i + j by omega, QcR x (by omega)]
  rfl
 ·intro kn ke
  simp only [Qi.l1.r]
  rw [Q0I (by omega)]
  rfl
theorem QfG (k : Nat) (hk : 64 < k) (x : List Int) (b0 : List Int × Unit × Int × Unit) (b1 z : List Int) :
  Qi.l0 k k (x, (0 : Int), b0, b1, z, List.replicate 32 0, ()) = some (b0, b1, z, Q3X x, ()) := by
 refine Q0V (r := Qi.l0.r k) (fun i => (x, (i : Int), b0, b1, z, beZ x (4 * i), ())) 8 _ ?_ ?_ (by omega)
 ·intro i hi kn ke
  simp only [Qi.l0.r]
  rw [Qy (by omega), Qy (by omega), show (i : Int).toNat = i by omega]
  have := Qfu k x hi b0 b1 z (fuel := k) (by omega)
  show (Qi.l1 k k ((i : Int), x.getD i 0, x, (i : Int), (0 : Int), b0, b1, z, beZ x (4 * i), ())).bind _ = _
  rw [this]
  simp only [Option.bind_some]
  rw [i64_in (by omega)]
  rfl
 ·intro kn ke
  simp only [Qi.l0.r]
  rw [Q0I (by omega)]
  rfl
theorem Qa3 {k : Nat} (hk : 64 < k) (x : List Int) : Qb k x = some (Q3X x, ()) := by
 unfold Qb Qb.c
 dsimp only
 have l1 : ∀ {i : Nat}, i < 8 → ∀ z : List Int, Qb.l1 k k ((i : Int), (0 : Int), x, z, beZ x (4 * i), ()) = some ((i : Int), x, z, beZ x (4 * (i + 1)), ()) := by
  intro i hi z
  refine Q0V (r := Qb.l1.r k) (fun j => ((i : Int), (j : Int), x, z, beZ x (4 * i + j), ())) 4 _ ?_ ?_ (by omega)
  ·intro j hj kn ke
   simp only [Qb.l1.r]
   rw [Qy (by omega), i64_in (n := 4 * (i : Int)) (by omega), i64_in (n := 4 * (i : Int) + (j : Int)) (by omega), i64_in (n := 8 * (j : Int)) (by omega), i64_in (n := 24 - 8 * (j : Int)) (by omega), i64_in (n := (j : Int) + 1) (by omega), Qy (by omega), Qy (by omega), Qy (by omega)]
   have e : IntKind.u8.wrap (Q1W .u32 (x.getD (i : Int).toNat 0) (24 - 8 * (j : Int))) = beF x (4 * i + j) := by
    unfold beF
    rw [show (4 * i + j) / 4 = i by omega, show (4 * i + j) % 4 = j by omega, show (i : Int).toNat = i by omega]
   rw [e, show (4 * (i : Int) + (j : Int)).toNat = 4 * i + j by omega, QcR x (by omega)]
   rfl
  ·intro kn ke
   simp only [Qb.l1.r]
   rw [Q0I (by omega)]
   rfl
 have h0 : Qb.l0 k k ((0 : Int), x, List.replicate 32 0, List.replicate 32 0, ()) = some (List.replicate 32 0, Q3X x, ()) := by
  refine Q0V (r := Qb.l0.r k) (fun i => ((i : Int), x, List.replicate 32 0, beZ x (4 * i), ())) 8 _ ?_ ?_ (by omega)
  ·intro i hi kn ke
   simp only [Qb.l0.r]
   rw [Qy (by omega), l1 hi]
   simp only [Option.bind_some]
   rw [i64_in (by omega)]
   rfl
  ·intro kn ke
   simp only [Qb.l0.r]
   rw [Q0I (by omega)]
   rfl
 rw [h0]
 rfl
def hx (a : List Int) : List Int := stt first a (a.length / 64)
def hl (a : List Int) : List Int := a.drop (64 * (a.length / 64))
def HS (a : List Int) : List Int × Unit × Int × Unit := (hx a, (), (a.length : Int), ())
theorem Qg4 (a : List Int) : Q1z 0 4294967295 (hx a) := QcE Q8y _
theorem Qdn (a : List Int) : (hx a).length = 8 := Q62 Q4r _
theorem Q9T (a : List Int) : (hl a).length < 64 := by simp only [hl, List.length_drop]; omega
theorem QfZ {a : List Int} (h : Q1z 0 255 a) : Q1z 0 255 (hl a) := Q61 h _
theorem Qdf (a b : List Int) : stt (hx a) (hl a ++ b) ((hl a ++ b).length / 64) = hx (a ++ b) ∧ (hl a ++ b).drop (64 * ((hl a ++ b).length / 64)) = hl (a ++ b) := by
 have hle : 64 * (a.length / 64) ≤ a.length := by omega
 have e1 : hl a ++ b = (a ++ b).drop (64 * (a.length / 64)) := by rw [List.drop_append_of_le_length hle]; rfl
 have e2 : hx a = stt first (a ++ b) (a.length / 64) := (Q81 _ _ _ _ hle).symm
 have hlen : (hl a ++ b).length = (a ++ b).length - 64 * (a.length / 64) := by rw [e1, List.length_drop]
 have hq : (a ++ b).length / 64 = a.length / 64 + (hl a ++ b).length / 64 := by
  rw [hlen]; simp only [List.length_append]; omega
 refine ⟨?_, ?_⟩
 ·unfold hx at e2 ⊢
  rw [e2, hq, QcQ first (a ++ b), ← e1]
 ·have e3 : hl (a ++ b) = (a ++ b).drop (64 * ((a ++ b).length / 64)) := rfl
  rw [e3, hq, e1, List.drop_drop, ← e1, Nat.mul_add]
theorem Qct (k : Nat) : Q1f k = some (HS [], ()) := rfl
theorem QdA {k : Nat} (hk : 64 < k) {a : List Int} (ha : Q1z 0 255 a) {s : ByteArray} (hs : s.size ≤ 140737488354000) (hn : a.length + s.size ≤ 18446744073709551615) (hf : s.size / 64 + 1 < k) :
  Qm k s (HS a) (hl a) = some (HS (a ++ QB s), hl (a ++ QB s), ()) := by
 unfold Qm Qm.c
 have h64 := Q9T a
 have hsz := Q0i s
 dsimp only
 rw [QR (Q1p (by omega)), u64_in (n := (s.size : Int)) (by omega)]
 have hw := Q8K k hk (Qg4 a) (Qdn a) (left := hl a ++ QB s) (Qak (QfZ ha) (Q4m s)) (IntKind.u64.wrap ((a.length : Int) + (s.size : Int))) (fuel := k) (by rw [List.length_append]; omega)
 obtain ⟨e1, e2⟩ := Qdf a (QB s)
 rw [e1, e2, u64_in (by omega)] at hw
 have hw2 : Qm.l0 k k ((hx a, (), IntKind.u64.wrap ((a.length : Int) + (s.size : Int)), ()), hl a ++ QB s, ()) = some ((hx (a ++ QB s), (), (a.length : Int) + (s.size : Int), ()), hl (a ++ QB s), ()) := by
  rw [u64_in (by omega)]; exact hw
 show (Qm.l0 k k ((hx a, (), IntKind.u64.wrap ((a.length : Int) + (s.size : Int)), ()), hl a ++ QB s, ())).bind _ = _
 rw [hw2]
 simp only [Option.bind_some, HS, List.length_append, hsz]
 rw [Int.natCast_add]
theorem Qdm {k : Nat} (hk : 64 < k) {s : ByteArray} (hs : s.size ≤ 140737488354000) (hf : s.size / 64 + 1 < k) :
  Qr k s (HS []) = some (HS (QB s), hl (QB s), ()) := by
 unfold Qr Qr.c
 have hsz := Q0i s
 dsimp only
 rw [QR (Q1p (by omega)), u64_in (n := (s.size : Int)) (by omega)]
 have hw := Q8K k hk Q8y Q4r (left := QB s) (Q4m s) (s.size : Int) (fuel := k) (by omega)
 show (Qr.l0 k k ((first, (), IntKind.u64.wrap (((0 : Nat) : Int) + (s.size : Int)), ()), QB s, ())).bind _ = _
 rw [u64_in (by omega), show (((0 : Nat) : Int) + (s.size : Int)) = (s.size : Int) by omega, hw]
 simp only [Option.bind_some, HS, hx, hl, hsz]
def sumL (a : List Int) : List Int := Q3X (hx (a ++ padL (a.length : Int)))
theorem QdT {k : Nat} (a : List Int) : Q09 k (HS a) (hl a) = some (HS a, hl a, HS a, hl a, ()) := by
 unfold Q09 Q09.c
 have h64 := Q9T a
 dsimp only
 rw [QR (Q1p (by omega))]
theorem Qf3 {k : Nat} (hk : 128 < k) {a : List Int} (ha : Q1z 0 255 a) (hn : a.length ≤ 18446744073709551000) : Qi k (HS a) (hl a) = some (sumL a, HS a, hl a, ()) := by
 unfold Qi Qi.c
 have hp : (bytesOf (padL (a.length : Int))).size ≤ 80 := by rw [Q0A, Q2O]; have := Q4C (a.length : Int); omega
 have hpb : QB (bytesOf (padL (a.length : Int))) = padL (a.length : Int) := Q1D fun x hx => by have := QcN (a.length : Int) x hx; omega
 show (Q09 k (HS a) (hl a)).bind _ = _
 rw [QdT]
 simp only [Option.bind_some]
 show (Q0E k (a.length : Int)).bind _ = _
 rw [Qck (by omega) (by omega)]
 simp only [Option.bind_some]
 show (Qm k (bytesOf (padL (a.length : Int))) (HS a) (hl a)).bind _ = _
 rw [QdA (by omega) ha (by omega) (by omega) (by omega), hpb]
 simp only [Option.bind_some]
 show (Qi.l0 k k (hx (a ++ padL (a.length : Int)), (0 : Int), HS a, hl a, List.replicate 32 0, List.replicate 32 0, ())).bind _ = _
 rw [QfG k (by omega)]
 rfl
theorem Q86 {k : Nat} (hk : 128 < k) {s : ByteArray} (hs : s.size ≤ 140737488354000) (hf : s.size / 64 + 1 < k) : Q18 k s = some (sumL (QB s), ()) := by
 unfold Q18 Q18.c
 rw [Qct]
 simp only [Option.bind_some]
 show (Qr k s (HS [])).bind _ = _
 rw [Qdm (by omega) hs hf]
 simp only [Option.bind_some]
 show (Qi k (HS (QB s)) (hl (QB s))).bind _ = _
 rw [Qf3 hk (Q4m s) (by rw [Q0i]; omega)]
 rfl
end Go.Am
namespace Go.Am
open Go
theorem QbJ (k : Nat) (n : Int) (b : Nat) (hb : b ≤ 8) : ∀ (d i fuel : Nat), i + d = b → d < fuel →
  Q0r.l0 k fuel (n, (b : Int), (i : Int), lowI n i ++ List.replicate d 0, ()) = some (lowI n b, ())
 | 0, i, fuel + 1, hi, _ => by
  have : i = b := by omega
  subst this
  show Q0r.l0.r k _ (Q0Q (Q0r.l0.r k) fuel) some = _
  simp only [Q0r.l0.r]
  rw [decide_eq_false (by omega), cond_false]
  simp
 | d + 1, i, fuel + 1, hi, hf => by
  show Q0r.l0.r k _ (Q0Q (Q0r.l0.r k) fuel) some = _
  simp only [Q0r.l0.r]
  rw [decide_eq_true (by omega), cond_true, i64_in (by omega), decide_eq_true (by omega), cond_true]
  have hlen : (lowI n i ++ List.replicate (d + 1) (0 : Int)).length = b := by simp [Q0B]; omega
  rw [hlen, decide_eq_true (by omega), cond_true, i64_in (by omega)]
  have h8 : (8 : Int) * (i : Int) = ((8 * i : Nat) : Int) := by omega
  rw [h8, QeR (by omega), pow8, Q9W, show (i : Int).toNat = i by omega]
  have hset : (lowI n i ++ List.replicate (d + 1) (0 : Int)).set i (n / 256 ^ i % 256) = lowI n (i + 1) ++ List.replicate d 0 := by
   rw [List.set_append]
   simp [Q0B, Q79, List.replicate_succ]
  rw [hset]
  have ih := QbJ k n b hb d (i + 1) fuel (by omega) (by omega)
  rw [show ((i + 1 : Nat) : Int) = (i : Int) + 1 by omega] at ih
  exact ih
theorem Q2M {k : Nat} (hk : 9 ≤ k) (n : Int) (b : Nat) (hb : b ≤ 8) : Q0r k n (b : Int) = some (bytesOf (lowI n b), ()) := by
 unfold Q0r Q0r.c
 rw [decide_eq_true (by omega), show (b : Int).toNat = b by omega]
 have : Nat.ble (b * 1) 140737488355328 = true := Q1p (by omega)
 rw [this]
 simp only [Bool.and_self, cond_true]
 have := QbJ k n b hb b 0 k (by omega) (by omega)
 simp only [lowI, List.nil_append] at this
 rw [List.length_replicate]
 show (Q0r.l0 k k (n, (b : Int), ((0 : Nat) : Int), List.replicate b 0, ())).bind _ = _
 rw [this]
 rfl
theorem Qb5 (k : Nat) (n : Int) (hn : 0 ≤ n ∧ n ≤ 18446744073709551615) (b : Nat) (hb : b ≤ 8) : ∀ (d i fuel : Nat), i + d = b → d < fuel →
  Qp.l0 k fuel (n / 256 ^ i, (b : Int), bytesOf (lowI n i), (i : Int), ()) = some (bytesOf (lowI n b), ())
 | 0, i, fuel + 1, hi, _ => by
  have : i = b := by omega
  subst this
  show Qp.l0.r k _ (Q0Q (Qp.l0.r k) fuel) some = _
  simp only [Qp.l0.r]
  rw [decide_eq_false (by omega), cond_false]
 | d + 1, i, fuel + 1, hi, hf => by
  show Qp.l0.r k _ (Q0Q (Qp.l0.r k) fuel) some = _
  simp only [Qp.l0.r]
  rw [decide_eq_true (by omega), cond_true]
  have hq : 0 ≤ n / 256 ^ i := Int.ediv_nonneg hn.1 (Int.le_of_lt (Int.pow_pos (by omega)))
  have hq2 : n / 256 ^ i ≤ n := Int.ediv_le_self _ hn.1
  rw [Int.tmod_eq_emod_of_nonneg hq, Int.tdiv_eq_ediv_of_nonneg hq, Q9W, i64_in (by omega), u64_in (by omega)]
  have h1 : List.set (List.replicate 1 (0 : Int)) 0 (n / 256 ^ i % 256 % 256) = [n / 256 ^ i % 256] := by
   simp
  rw [h1, Q0A, Q0A, Q0B]
  have : Nat.ble (i + [n / 256 ^ i % 256].length) 9223372036854775807 = true := Q1p (by simp; omega)
  rw [this, cond_true, Q0W, ← Q79, Int.ediv_ediv_of_nonneg (Int.le_of_lt (Int.pow_pos (by omega))), ← Int.pow_succ]
  have ih := Qb5 k n hn b hb d (i + 1) fuel (by omega) (by omega)
  rw [show ((i + 1 : Nat) : Int) = (i : Int) + 1 by omega] at ih
  exact ih
theorem QbL {k : Nat} (hk : 9 ≤ k) (n : Int) (hn : 0 ≤ n ∧ n ≤ 18446744073709551615) (b : Nat) (hb : b ≤ 8) : Qp k n (b : Int) = some (bytesOf (lowI n b), ()) := by
 unfold Qp Qp.c
 have := Qb5 k n hn b hb b 0 k (by omega) (by omega)
 simp only [Int.pow_zero, Int.ediv_one, lowI] at this
 show (Qp.l0 k k (n, (b : Int), bytesOf [], ((0 : Nat) : Int), ())).bind _ = _
 rw [this]
 rfl
theorem Q9I (k : Nat) (s : ByteArray) (hs : s.size ≤ 8) : ∀ (d i fuel : Nat), i + d = s.size → d < fuel →
  Q0l.l0 k fuel (s, leI ((QB s).take i), (s.size : Int), (i : Int), ()) = some (leI (QB s), ())
 | 0, i, fuel + 1, hi, _ => by
  have : i = s.size := by omega
  subst this
  show Q0l.l0.r k _ (Q0Q (Q0l.l0.r k) fuel) some = _
  simp only [Q0l.l0.r]
  rw [decide_eq_false (by omega), cond_false, ← Q0i, List.take_length]
 | d + 1, i, fuel + 1, hi, hf => by
  show Q0l.l0.r k _ (Q0Q (Q0l.l0.r k) fuel) some = _
  simp only [Q0l.l0.r]
  have hr := Q2y s (i : Int).toNat
  rw [decide_eq_true (by omega), cond_true, decide_eq_true (by omega), cond_true, i64_in (by omega), decide_eq_true (by omega), cond_true, i64_in (by omega), u64_in (by omega)]
  have hin : Q1j ((QB s).take i) := fun x hx => Q2x (List.mem_of_mem_take hx)
  obtain ⟨h0, h1⟩ := Q3A hin
  have hlen : ((QB s).take i).length = i := by rw [List.length_take, Q0i]; omega
  rw [hlen] at h1
  have hstep : leI ((QB s).take (i + 1)) = leI ((QB s).take i) + 256 ^ i * Q1e s i := by
   have hi' : i < (QB s).length := by rw [Q0i]; omega
   rw [List.take_succ_eq_append_getElem hi', QcD, hlen, Q3e, List.getD_eq_getElem?_getD, List.getElem?_eq_getElem hi']
   simp [leI]
  have hin2 : Q1j ((QB s).take (i + 1)) := fun x hx => Q2x (List.mem_of_mem_take hx)
  obtain ⟨g0, g1⟩ := Q3A hin2
  have hlen2 : ((QB s).take (i + 1)).length = i + 1 := by rw [List.length_take, Q0i]; omega
  rw [hlen2] at g1
  have hpow : (256 : Int) ^ (i + 1) ≤ 18446744073709551616 := by
   have : i + 1 ≤ 8 := by omega
   have h2 : ∀ j : Nat, j ≤ 8 → (256 : Int) ^ j ≤ 18446744073709551616 := by
    intro j hj
    match j, hj with
    | 0, _ | 1, _ | 2, _ | 3, _ | 4, _ | 5, _ | 6, _ | 7, _ | 8, _ => decide
   exact h2 _ this
  have hshl : Q27 IntKind.u64 (Q1e s (i : Int).toNat) (8 * (i : Int)) = ((Q1e s i).toNat * 2 ^ (8 * i) : Nat) := by
   unfold Q27
   rw [show (8 * (i : Int)).toNat = 8 * i by omega, show (i : Int).toNat = i by omega]
   have : min (8 * i) IntKind.u64.bits = 8 * i := by simp [IntKind.bits]; omega
   rw [this]
   have hb := Q2y s i
   have e : Q1e s i * 2 ^ (8 * i) = (((Q1e s i).toNat * 2 ^ (8 * i) : Nat) : Int) := by
    rw [Int.natCast_mul, Int.natCast_pow, show ((Q1e s i).toNat : Int) = Q1e s i by omega]; rfl
   rw [e, u64_in]
   rw [← e, pow8, Int.mul_comm]
   have : 256 ^ i * Q1e s i ≤ leI ((QB s).take (i + 1)) := by omega
   have : 0 ≤ 256 ^ i * Q1e s i := Int.mul_nonneg (Int.le_of_lt (Int.pow_pos (by omega))) hb.1
   omega
  have hb := Q2y s i
  have hor := QfB (A := (leI ((QB s).take i)).toNat) (B := (Q1e s i).toNat) (j := 8 * i) (by
   have e : ((2 ^ (8 * i) : Nat) : Int) = 256 ^ i := by rw [Int.natCast_pow]; exact pow8 i
   omega) (by
   have e : (((Q1e s i).toNat * 2 ^ (8 * i) : Nat) : Int) = 256 ^ i * Q1e s i := by
    rw [Int.natCast_mul, Int.natCast_pow, show ((2 : Nat) : Int) = 2 from rfl, pow8, Int.mul_comm, show ((Q1e s i).toNat : Int) = Q1e s i by omega]
   omega)
  rw [show ((leI ((QB s).take i)).toNat : Int) = leI ((QB s).take i) by omega] at hor
  rw [hshl, hor]
  have hfin : (((Q1e s i).toNat * 2 ^ (8 * i) + (leI ((QB s).take i)).toNat : Nat) : Int) = leI ((QB s).take (i + 1)) := by
   rw [hstep, Int.natCast_add, Int.natCast_mul, Int.natCast_pow, show ((2 : Nat) : Int) = 2 from rfl, pow8, Int.mul_comm]
   rw [show ((Q1e s i).toNat : Int) = Q1e s i by omega]
   omega
  rw [hfin]
  have ih := Q9I k s hs d (i + 1) fuel (by omega) (by omega)
  rw [show ((i + 1 : Nat) : Int) = (i : Int) + 1 by omega] at ih
  exact ih
theorem Q7p {k : Nat} (hk : 9 ≤ k) (s : ByteArray) (hs : s.size ≤ 8) : Q0l k s = some (leI (QB s), ()) := by
 unfold Q0l Q0l.c
 have := Q9I k s hs s.size 0 k (by omega) (by omega)
 simp only [List.take_zero, leI] at this
 show (Q0l.l0 k k (s, (0 : Int), (s.size : Int), ((0 : Nat) : Int), ())).bind _ = _
 rw [this]
 rfl
theorem Qbk (k : Nat) (s : ByteArray) (hs : s.size ≤ 8) : ∀ (i fuel : Nat), i ≤ s.size → i < fuel →
  Ql.l0 k fuel (s, leI ((QB s).drop i), (i : Int) - 1, ()) = some (leI (QB s), ())
 | 0, fuel + 1, hi, _ => by
  have e : Ql.l0 k (fuel + 1) (s, leI ((QB s).drop 0), ((0 : Nat) : Int) - 1, ()) = Ql.l0.r k (s, leI ((QB s).drop 0), ((0 : Nat) : Int) - 1, ()) (Q0Q (Ql.l0.r k) fuel) some := rfl
  rw [e]
  simp only [Ql.l0.r]
  rw [decide_eq_false (by omega), cond_false, List.drop_zero]
 | i + 1, fuel + 1, hi, hf => by
  show Ql.l0.r k _ (Q0Q (Ql.l0.r k) fuel) some = _
  simp only [Ql.l0.r]
  have hr := Q2y s i
  rw [show ((i + 1 : Nat) : Int) - 1 = (i : Int) by omega, show (i : Int).toNat = i by omega]
  have hin : Q1j ((QB s).drop i) := fun x hx => Q2x (List.mem_of_mem_drop hx)
  obtain ⟨h0, h1⟩ := Q3A hin
  have hlen : ((QB s).drop i).length = s.size - i := by rw [List.length_drop, Q0i]
  rw [hlen] at h1
  have hpow : (256 : Int) ^ (s.size - i) ≤ 18446744073709551616 := by
   have h2 : ∀ j : Nat, j ≤ 8 → (256 : Int) ^ j ≤ 18446744073709551616 := by
    intro j hj
    match j, hj with
    | 0, _ | 1, _ | 2, _ | 3, _ | 4, _ | 5, _ | 6, _ | 7, _ | 8, _ => decide
   exact h2 _ (by omega)
  have hstep : leI ((QB s).drop i) = Q1e s i + 256 * leI ((QB s).drop (i + 1)) := by
   have hi' : i < (QB s).length := by rw [Q0i]; omega
   rw [List.drop_eq_getElem_cons hi', leI, Q3e, List.getD_eq_getElem?_getD, List.getElem?_eq_getElem hi']
   rfl
  have hin2 : Q1j ((QB s).drop (i + 1)) := fun x hx => Q2x (List.mem_of_mem_drop hx)
  have g0 := (Q3A hin2).1
  rw [decide_eq_true (by omega), cond_true, decide_eq_true (by omega), cond_true, u64_in (n := Q1e s i) (by omega), u64_in (n := _ * 256) (by omega), u64_in (by omega), i64_in (by omega)]
  rw [show leI ((QB s).drop (i + 1)) * 256 + Q1e s i = leI ((QB s).drop i) by omega]
  exact Qbk k s hs i fuel (by omega) (by omega)
theorem QbM {k : Nat} (hk : 9 ≤ k) (s : ByteArray) (hs : s.size ≤ 8) : Ql k s = some (leI (QB s), ()) := by
 unfold Ql Ql.c
 have := Qbk k s hs s.size k (by omega) (by omega)
 rw [show (QB s).drop s.size = [] by rw [← Q0i]; simp] at this
 simp only [leI] at this
 rw [i64_in (by omega)]
 show (Ql.l0 k k (s, (0 : Int), (s.size : Int) - 1, ())).bind _ = _
 rw [this]
 rfl
theorem Q2a (s : ByteArray) : Q1j (QB s) := fun _ h => Q2x h
theorem Qfe {l r : List Int} (h : Q1j l) (hs : ∀ x ∈ r, x ∈ l) : Q1j r := fun x hx => h x (hs x hx)
theorem Qfc : (⟨List.toArray []⟩ : ByteArray) = bytesOf [] := rfl
abbrev Rd : Type := ByteArray × Int × Int × Unit
def RdOK (r : Rd) : Prop := r.1.size ≤ 140737488351232 ∧ 0 ≤ r.2.1 ∧ r.2.1 ≤ (r.1.size : Int)
def Q2T (r : Rd) (n : Int) : Rd × ByteArray :=
 if r.2.2.1 ≠ 0 then (r, ⟨List.toArray []⟩) else
 if n < 0 then ((r.1, r.2.1, 1, ()), ⟨List.toArray []⟩) else
 if n > (r.1.size : Int) - r.2.1 then ((r.1, r.2.1, 4, ()), ⟨List.toArray []⟩) else
 ((r.1, r.2.1 + n, r.2.2.1, ()), r.1.extract r.2.1.toNat (r.2.1 + n).toNat)
theorem Qg2 {r : Rd} (h : RdOK r) (n : Int) : RdOK (Q2T r n).1 ∧ (Q2T r n).1.1 = r.1 := by
 obtain ⟨h1, h2, h3⟩ := h
 unfold Q2T
 split
 ·exact ⟨⟨h1, h2, h3⟩, rfl⟩
 ·split
  ·exact ⟨⟨h1, h2, h3⟩, rfl⟩
  ·split
   ·exact ⟨⟨h1, h2, h3⟩, rfl⟩
   ·exact ⟨⟨h1, by dsimp only; omega, by dsimp only; omega⟩, rfl⟩
theorem Q8r {r : Rd} (h : RdOK r) (n : Int) : (Q2T r n).2.size = 0 ∨ (Q2T r n).2.size = n.toNat := by
 obtain ⟨h1, h2, h3⟩ := h
 unfold Q2T
 split
 ·exact .inl rfl
 ·split
  ·exact .inl rfl
  ·split
   ·exact .inl rfl
   ·right
    rw [ByteArray.size_extract]; omega
theorem QfV {r : Rd} (n : Int) (he : (Q2T r n).1.2.2.1 ≠ 0) : (Q2T r n).2 = ⟨List.toArray []⟩ := by
 unfold Q2T at he ⊢
 split
 ·rfl
 ·split
  ·rfl
  ·split
   ·rfl
   ·rename_i h0 h1 h2
    rw [if_neg h0, if_neg h1, if_neg h2] at he
    exact absurd he h0
theorem QfC {r : Rd} (h : RdOK r) {n : Int} (he : (Q2T r n).1.2.2.1 = 0) : (Q2T r n).2.size = n.toNat ∧ 0 ≤ n := by
 obtain ⟨h1, h2, h3⟩ := h
 unfold Q2T at he ⊢
 split
 ·rename_i h0
  rw [if_pos h0] at he
  exact absurd he h0
 ·rename_i h0
  rw [if_neg h0] at he
  split
  ·rename_i h1
   rw [if_pos h1] at he; cases he
  ·rename_i h1
   rw [if_neg h1] at he
   split
   ·rename_i h2
    rw [if_pos h2] at he; cases he
   ·exact ⟨by rw [ByteArray.size_extract]; omega, by omega⟩
theorem QaT (k : Nat) {r : Rd} (h : RdOK r) {n : Int} : QV k n r = some ((Q2T r n).2, (Q2T r n).1, ()) := by
 obtain ⟨s, a, e, u⟩ := r
 obtain ⟨h1, h2, h3⟩ := h
 simp only at h1 h2 h3
 unfold QV QV.c Q2T
 rw [show Q0m k (s, a, e, ()) = some (e, (s, a, e, ()), ()) from rfl]
 simp only [Option.bind_some]
 by_cases he : e = 0
 ·subst he
  rw [bne_self_eq_false, cond_false, if_neg (by simp)]
  by_cases hn : n < 0
  ·rw [Qy hn, if_pos hn]
  ·rw [Q0I hn, if_neg hn, show Q0p k (s, a, (0 : Int), ()) = some (IntKind.i64.wrap ((s.size : Int) - a), (s, a, (0 : Int), ()), ()) from rfl]
   simp only [Option.bind_some]
   rw [i64_in (n := (s.size : Int) - a) (by omega)]
   by_cases hg : n > (s.size : Int) - a
   ·rw [Qy hg, if_pos hg]
   ·rw [Q0I hg, if_neg hg, i64_in (n := a + n) (by omega), i64_in (by omega), Qy (by omega), show a + n - n = a by omega]
 ·rw [QR (by simpa using he), if_pos he]
theorem QaA {l : List Int} (h : Q1j l) {m : Nat} (hm : l.length ≤ m) : 0 ≤ leI l ∧ leI l < 256 ^ m := by
 obtain ⟨h1, h2⟩ := Q3A h
 refine ⟨h1, Int.lt_of_lt_of_le h2 ?_⟩
 have : (256 : Nat) ^ l.length ≤ 256 ^ m := Nat.pow_le_pow_right (by omega) hm
 have h3 : (((256 : Nat) ^ l.length : Nat) : Int) ≤ ((256 ^ m : Nat) : Int) := Int.ofNat_le.2 this
 rw [Int.natCast_pow, Int.natCast_pow] at h3
 exact h3
def numS (r : Rd) (n : Int) : Int := leI (QB (Q2T r n).2)
theorem QeG {r : Rd} (h : RdOK r) (n : Nat) : 0 ≤ numS r n ∧ numS r n < 256 ^ n := by
 refine QaA (Q2a _) ?_
 rw [Q0i]
 rcases Q8r h (n : Int) with h | h <;> omega
theorem Q8d {k : Nat} (hk : 9 ≤ k) {r : Rd} (h : RdOK r) (n : Nat) (hn : n ≤ 8) : Q0l k (Q2T r n).2 = some (numS r n, ()) :=
 Q7p hk _ (by rcases Q8r h (n : Int) with h | h <;> omega)
theorem Qfr {k : Nat} (hk : 9 ≤ k) {r : Rd} (h : RdOK r) : Q03 k r = some (numS r 8, (Q2T r 8).1, ()) := by
 unfold Q03 Q03.c
 show (QV k 8 r).bind _ = _
 rw [QaT k h]
 simp only [Option.bind_some]
 rw [show (8 : Int) = ((8 : Nat) : Int) from rfl, Q8d hk h 8 (by omega)]
 rfl
theorem Qea : ∀ (b : Nat) (n : Int), lowI (n % 256 ^ b) b = lowI n b
 | 0, _ => rfl
 | b + 1, n => by
  simp only [lowI]
  have h1 : n % 256 ^ (b + 1) % 256 = n % 256 := by
   rw [Int.pow_succ, Int.mul_comm]
   exact Int.emod_emod_of_dvd _ (Int.dvd_mul_right _ _)
  have h2 : n % 256 ^ (b + 1) / 256 = n / 256 % 256 ^ b := by
   have e := Int.mul_ediv_add_emod n 256
   have hp : (0 : Int) < 256 ^ b := Int.pow_pos (by decide)
   have e2 := Int.mul_ediv_add_emod (n / 256) (256 ^ b)
   have r1 := Int.emod_nonneg n (show (256 : Int) ≠ 0 by decide)
   have r2 := Int.emod_lt_of_pos n (show (0 : Int) < 256 by decide)
   have r3 := Int.emod_nonneg (n / 256) (Int.ne_of_gt hp)
   have r4 := Int.emod_lt_of_pos (n / 256) hp
   have key : n % 256 ^ (b + 1) = 256 * (n / 256 % 256 ^ b) + n % 256 := by
    rw [Int.pow_succ]
    have hn : n = (256 * (n / 256 % 256 ^ b) + n % 256) + 256 ^ b * 256 * (n / 256 / 256 ^ b) := by
     have e3 : 256 ^ b * 256 * (n / 256 / 256 ^ b) = 256 * (256 ^ b * (n / 256 / 256 ^ b)) := by
      rw [Int.mul_comm (256 ^ b) 256, Int.mul_assoc]
     rw [e3]; omega
    conv => lhs; rw [hn]
    rw [Int.add_mul_emod_self_left]
    exact Int.emod_eq_of_lt (by omega) (by omega)
   rw [key]
   omega
  rw [h1, h2, Qea b]
theorem wb {k : Nat} {s : ByteArray} {u} {b1 : List Int} (h : b1.length + s.size ≤ 140737488355328) : QD k s u b1 = some (u, b1 ++ QB s, ()) := by
 unfold QD QD.c Qz Qz.c
 rw [QR (Q1p (by rw [Q0i]; omega))]
 rfl
theorem wrl {k : Nat} {l : List Int} (hl : Q1j l) {u} {b1 : List Int} (h : b1.length + l.length ≤ 140737488355328) : QD k (bytesOf l) u b1 = some (u, b1 ++ l, ()) := by
 rw [wb (by rw [Q0A]; exact h), Q1D hl]
theorem wu64 {k : Nat} (hk : 9 ≤ k) (n : Int) {u} {b1 : List Int} (h : b1.length ≤ 140737488350000) : Q0c k n u b1 = some (u, b1 ++ lowI n 8, ()) := by
 unfold Q0c Q0c.c
 rw [show (8 : Int) = ((8 : Nat) : Int) from rfl, Q2M hk _ 8 (by omega)]
 simp only [Option.bind_some]
 rw [wrl (Q3j _ _) (by rw [Q0B]; omega)]
 rfl
theorem Qai (s : ByteArray) (i : Nat) : Q1e s i = (QB s).getD i 0 := Q3e s i
theorem QfL {l : List Int} {i : Nat} (h : i + 64 ≤ l.length) : (List.range 64).map (fun j => l.getD (i + j) 0) = (l.drop i).take 64 := by
 apply List.ext_getElem
 ·simp; omega
 ·intro j h1 h2
  simp only [List.length_map, List.length_range] at h1
  simp only [List.getElem_map, List.getElem_range, List.getElem_take, List.getElem_drop, List.getD_eq_getElem?_getD]
  rw [List.getElem?_eq_getElem (by omega)]
  rfl
theorem Qc3 (k : Nat) (s : ByteArray) {i : Nat} (hi : i + 64 ≤ s.size) (hs : s.size ≤ 9223372036854775807) (x z : List Int) {fuel : Nat} (hf : 64 < fuel) :
  Qd.l1 k fuel (s, (i : Int), (0 : Int), z, x, List.replicate 64 0, ()) = some (s, (i : Int), z, x, ((QB s).drop i).take 64, ()) := by
 have hl := Q0i s
 have := Q0V (r := Qd.l1.r k) (fun j => (s, (i : Int), (j : Int), z, x, (List.range j).map (fun j => (QB s).getD (i + j) 0) ++ (List.replicate 64 (0 : Int)).drop j, ())) 64 (s, (i : Int), z, x, ((QB s).drop i).take 64, ()) ?_ ?_ hf
 ·exact this
 ·intro j hj kn ke
  simp only [Qd.l1.r]
  rw [Qy (by omega), i64_in (n := (i : Int) + (j : Int)) (by omega), Qy (by omega), Qy (by omega), i64_in (n := (j : Int) + 1) (by omega), show ((i : Int) + (j : Int)).toNat = i + j by omega, show (j : Int).toNat = j by omega, Qai]
  rw [Q6c (f := fun j => (QB s).getD (i + j) 0) (by simp; omega)]
  rfl
 ·intro kn ke
  simp only [Qd.l1.r]
  rw [Q0I (by omega), Q6g (by simp), QfL (by omega)]
theorem Q8M {k : Nat} (hk : 128 < k) {s : ByteArray} (hs : s.size ≤ 140737488354000) (hf : s.size / 64 + 2 < k) : Qd k s = some (sumL (QB s), ()) := by
 unfold Qd Qd.c
 have hsz := Q0i s
 have hp : (bytesOf (padL (s.size : Int))).size = 9 + padZ (s.size : Int) := by rw [Q0A, Q2O]
 have hz := Q4C (s.size : Int)
 have hpb : QB (bytesOf (padL (s.size : Int))) = padL (s.size : Int) := Q1D fun x hx => by have := QcN (s.size : Int) x hx; omega
 dsimp only
 rw [u64_in (n := (s.size : Int)) (by omega), Qc0 (by omega) (by omega)]
 simp only [Option.bind_some]
 rw [QR (Q1p (by omega)), Qao]
 simp only [Option.bind_some]
 generalize hv : s ++ bytesOf (padL (s.size : Int)) = v
 have hvl : QB v = QB s ++ padL (s.size : Int) := by rw [← hv, Q3F, hpb]
 have hvs : v.size = s.size + (9 + padZ (s.size : Int)) := by rw [← Q0i, hvl, List.length_append, hsz, Q2O]
 have h64 : (s.size + (9 + padZ (s.size : Int))) % 64 = 0 := by have := Qfa (n := s.size); rwa [Q2O] at this
 have h0 : Qd.l0 k k (v, (0 : Int), List.replicate 32 0, first, ()) = some (List.replicate 32 0, stt first (QB v) (v.size / 64), ()) := by
  have := Q0V (r := Qd.l0.r k) (fun i => (v, ((64 * i : Nat) : Int), List.replicate 32 (0 : Int), stt first (QB v) i, ())) (v.size / 64) (List.replicate 32 0, stt first (QB v) (v.size / 64), ()) ?_ ?_ (fuel := k) (by omega)
  ·exact this
  ·intro i hi kn ke
   simp only [Qd.l0.r]
   rw [Qy (by omega), Qc3 k v (by omega) (by omega) _ _ (by omega)]
   simp only [Option.bind_some]
   rw [Qbr (by omega) (QcE Q8y i) (Q62 Q4r i) (Q85 (Q61 (Q4m v) _) _) (by rw [List.length_take, List.length_drop, Q0i]; omega)]
   simp only [Option.bind_some]
   rw [i64_in (by omega), show ((64 * i : Nat) : Int) + 64 = ((64 * (i + 1) : Nat) : Int) by omega]
   rfl
  ·intro kn ke
   simp only [Qd.l0.r]
   rw [Q0I (by omega)]
 rw [h0]
 simp only [Option.bind_some]
 rw [Qa3 (by omega)]
 simp only [Option.bind_some]
 unfold sumL hx
 rw [hvl, hsz, List.length_append, hsz, Q2O, hvs]
end Go.Am
