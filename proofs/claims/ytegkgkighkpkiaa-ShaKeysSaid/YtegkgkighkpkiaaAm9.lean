/- A part of a proof: a machine of abstract values that tells what functions of the program compute, and the plain facts on them. -/
import Derived.Test.YtegkgkighkpkiaaAm8
import Derived.KernelRfl
import Derived.Test.YtegkgkighkpkiaaAm5
import Derived.Test.YtegkgkighkpkiaaAm7
set_option linter.unusedVariables false
set_option linter.unusedSimpArgs false
set_option linter.unnecessarySimpa false
set_option linter.unusedSectionVars false
/- SHA-256, one step: what both texts compute. -/
namespace Go.Am
open Go

def kc : List Int := [1116352408, 1899447441, 3049323471, 3921009573, 961987163, 1508970993, 2453635748, 2870763221, 3624381080, 310598401, 607225278, 1426881987, 1925078388, 2162078206, 2614888103, 3248222580, 3835390401, 4022224774, 264347078, 604807628, 770255983, 1249150122, 1555081692, 1996064986, 2554220882, 2821834349, 2952996808, 3210313671, 3336571891, 3584528711, 113926993, 338241895, 666307205, 773529912, 1294757372, 1396182291, 1695183700, 1986661051, 2177026350, 2456956037, 2730485921, 2820302411, 3259730800, 3345764771, 3516065817, 3600352804, 4094571909, 275423344, 430227734, 506948616, 659060556, 883997877, 958139571, 1322822218, 1537002063, 1747873779, 1955562222, 2024104815, 2227730452, 2361852424, 2428436474, 2756734187, 3204031479, 3329325298]

theorem set_map {α : Type} {f : Nat → α} {y : List α} {i : Nat} (hi : i < y.length) : ((List.range i).map f ++ y.drop i).set i (f i) = (List.range (i + 1)).map f ++ y.drop (i + 1) := by
  rw [List.set_append_right _ _ (by simp)]
  simp only [List.length_map, List.length_range, Nat.sub_self]
  rw [List.drop_eq_getElem_cons hi, List.set_cons_zero, List.range_succ, List.map_append]
  simp

theorem get_map {α : Type} {f : Nat → α} {y : List α} {i : Nat} (d : α) : ((List.range i).map f ++ y.drop i).getD i d = y.getD i d := by
  rw [List.getD_eq_getElem?_getD, List.getElem?_append_right (by simp)]
  simp [List.getD_eq_getElem?_getD]

theorem map_full {α : Type} {f : Nat → α} {y : List α} {n : Nat} (h : y.length ≤ n) : (List.range n).map f ++ y.drop n = (List.range n).map f := by
  rw [List.drop_eq_nil_of_le h]; simp

/-! turning -/
def rotr (x n : Int) : Int := bitsOp .or .u32 (shrOp .u32 x n) (shlOp .u32 x (32 - n))

theorem ref_turn (k : Nat) (x : Int) {n : Int} (h : 0 ≤ n ∧ n ≤ 32) : bedrockref02_turn k x n = some (rotr x n, ()) := by
  unfold bedrockref02_turn bedrockref02_turn.c
  rw [i64_in (n := 32 - n) (by omega)]
  dsimp only
  rw [bif_yes h.1, bif_yes (by omega)]
  rfl

theorem and_u64_31 (n : Nat) (h : n < 18446744073709551616) : bitsOp .and .u64 (n : Int) (31 : Int) = ((n % 32 : Nat) : Int) := by
  show IntKind.u64.wrap (((BitVec.ofInt 64 (n : Int) &&& BitVec.ofInt 64 ((31 : Nat) : Int) : BitVec 64).toNat : Nat) : Int) = _
  rw [BitVec.toNat_and, toNat_ofInt 64 n (by simpa using h), toNat_ofInt 64 31 (by decide)]
  rw [show (31 : Nat) = 2 ^ 5 - 1 from rfl, Nat.and_two_pow_sub_one_eq_mod]
  exact u64_in (by omega)

theorem sha_turned_eq (k : Nat) (x : Int) {n : Int} (h : 0 < n ∧ n < 32) : sha_turned k x n = some (rotr x n, ()) := by
  unfold sha_turned sha_turned.c math_bits_RotateLeft32 math_bits_RotateLeft32.c
  rw [i64_in (n := 0 - n) (by omega)]
  dsimp only
  have e : IntKind.u64.wrap (0 - n) = (((18446744073709551616 - n).toNat : Nat) : Int) := by rw [u64_mod]; omega
  rw [e, and_u64_31 _ (by omega)]
  have e2 : (((18446744073709551616 - n).toNat % 32 : Nat) : Int) = 32 - n := by omega
  rw [e2, u64_in (n := 32 - (32 - n)) (by omega), show (32 : Int) - (32 - n) = n by omega]
  rw [bif_yes (by omega), bif_yes (by omega)]
  simp only [Option.bind_some]
  rw [or_comm_bits]
  rfl

/-! the words of a block -/
def part (blk : List Int) (i : Nat) : Nat → Int
  | 0 => 0
  | j + 1 => part blk i j * 256 + blk.getD (4 * i + j) 0

def allIn (lo hi : Int) (l : List Int) : Prop := ∀ x ∈ l, lo ≤ x ∧ x ≤ hi
theorem allIn_getD {lo hi : Int} {l : List Int} (h : allIn lo hi l) (h0 : lo ≤ 0 ∧ 0 ≤ hi) (i : Nat) : lo ≤ l.getD i 0 ∧ l.getD i 0 ≤ hi := by
  rw [List.getD_eq_getElem?_getD]
  cases hi' : l[i]? with
  | none => simpa using h0
  | some x => exact h x (List.mem_of_getElem? hi')

theorem part_range {blk : List Int} (hb : allIn 0 255 blk) (i : Nat) : ∀ j, 0 ≤ part blk i j ∧ part blk i j < 256 ^ j
  | 0 => by simp [part]
  | j + 1 => by
    have ih := part_range hb i j
    have hx := allIn_getD hb (by omega) (4 * i + j)
    simp only [part, Int.pow_succ]
    have : part blk i j + 1 ≤ 256 ^ j := by omega
    omega

def sig1 (x : Int) : Int := bitsOp .xor .u32 (bitsOp .xor .u32 (rotr x 17) (rotr x 19)) (shrOp .u32 x 10)
def sig0 (x : Int) : Int := bitsOp .xor .u32 (bitsOp .xor .u32 (rotr x 7) (rotr x 18)) (shrOp .u32 x 3)
def ext (w : List Int) (t : Nat) : Int :=
  IntKind.u32.wrap (IntKind.u32.wrap (IntKind.u32.wrap (sig1 (w.getD (t - 2) 0) + w.getD (t - 7) 0) + sig0 (w.getD (t - 15) 0)) + w.getD (t - 16) 0)
def wl (blk : List Int) : Nat → List Int
  | 0 => []
  | n + 1 => wl blk n ++ [if n < 16 then part blk n 4 else ext (wl blk n) n]
theorem wl_length (blk : List Int) : ∀ n, (wl blk n).length = n
  | 0 => rfl
  | n + 1 => by simp [wl, wl_length blk n]
/-- The words so far, zeros behind. -/
def wz (blk : List Int) (n : Nat) : List Int := wl blk n ++ List.replicate (64 - n) 0
theorem wz_set (blk : List Int) {n : Nat} (h : n < 64) (v : Int) (hv : v = if n < 16 then part blk n 4 else ext (wl blk n) n) : (wz blk n).set n v = wz blk (n + 1) := by
  unfold wz
  rw [List.set_append_right _ _ (by rw [wl_length]; omega), wl_length, Nat.sub_self, show 64 - n = (64 - (n + 1)) + 1 by omega, List.replicate_succ, List.set_cons_zero, wl, hv]
  simp
theorem wz_get (blk : List Int) {n i : Nat} (h : i < n) : (wz blk n).getD i 0 = (wl blk n).getD i 0 := by
  unfold wz
  rw [List.getD_eq_getElem?_getD, List.getD_eq_getElem?_getD, List.getElem?_append_left (by rw [wl_length]; exact h)]
theorem wz_zero (blk : List Int) {n : Nat} : (wz blk n).getD n 0 = 0 := by
  unfold wz
  rw [List.getD_eq_getElem?_getD, List.getElem?_append_right (by rw [wl_length]; omega), wl_length, Nat.sub_self]
  cases h : 64 - n <;> simp [List.replicate_succ]
theorem wz_length (blk : List Int) {n : Nat} (h : n ≤ 64) : (wz blk n).length = 64 := by
  simp [wz, wl_length]; omega

theorem shl8_or {x b : Int} (hx : 0 ≤ x ∧ x < 16777216) (hb : 0 ≤ b ∧ b ≤ 255) : bitsOp .or .u32 (shlOp .u32 x 8) (IntKind.u32.wrap b) = x * 256 + b := by
  rw [u32_in (n := b) (by omega), show (8 : Int) = ((8 : Nat) : Int) from rfl, shl_u32 x (by omega)]
  obtain ⟨X, rfl⟩ := Int.eq_ofNat_of_zero_le hx.1
  obtain ⟨B, rfl⟩ := Int.eq_ofNat_of_zero_le hb.1
  have : ((X : Int) * 2 ^ 8) % 4294967296 = ((X * 2 ^ 8 : Nat) : Int) := by simp; omega
  rw [this, or_u32_add (by omega) (by omega)]
  omega

theorem words_l1 (k : Nat) {blk : List Int} (hb : allIn 0 255 blk) (hlen : blk.length = 64) {i : Nat} (hi : i < 16) (z : List Int) {fuel : Nat} (hf : 4 < fuel) :
    sha_words.l1 k fuel ((i : Int), (i : Int), (4 * i, 4), (4 : Int), (0 : Int), blk, z, wz blk i, ()) = some ((i : Int), blk, z, wz blk (i + 1), ()) := by
  have h0 : (wz blk i).set i 0 = wz blk i := by
    have := wz_zero blk (n := i)
    apply List.ext_getElem?
    intro j
    rw [List.getElem?_set]
    split
    · rename_i e
      subst e
      split
      · rename_i hlt
        rw [List.getD_eq_getElem?_getD, List.getElem?_eq_getElem hlt] at this
        simp only [Option.getD_some] at this
        rw [List.getElem?_eq_getElem hlt, this]
      · rename_i hlt
        rw [List.getElem?_eq_none (by omega)]
    · rfl
  have := loop_from0 (r := sha_words.l1.r k) (fun j => ((i : Int), (i : Int), (4 * i, 4), (4 : Int), (j : Int), blk, z, (wz blk i).set i (part blk i j), ())) 4 ((i : Int), blk, z, wz blk (i + 1), ()) ?_ ?_ hf
  · rw [part, h0] at this
    exact this
  · intro j hj kn ke
    simp only [sha_words.l1.r]
    rw [bif_yes (by omega), bif_yes (by omega), bif_yes (by omega)]
    rw [bif_yes (by omega), i64_in (by omega), show (i : Int).toNat = i by omega, show (j : Int).toNat = j by omega]
    have hlt : i < (wz blk i).length := by rw [wz_length blk (by omega)]; omega
    have e1 : ((wz blk i).set i (part blk i j)).getD i 0 = part blk i j := by
      rw [List.getD_eq_getElem?_getD, List.getElem?_set_self hlt]; rfl
    have hp := part_range hb i j
    have hp3 : (256 : Int) ^ j ≤ 16777216 := by
      have : j = 0 ∨ j = 1 ∨ j = 2 ∨ j = 3 := by omega
      rcases this with rfl | rfl | rfl | rfl <;> decide
    rw [e1, shl8_or (by omega) (allIn_getD hb (by omega) _), List.set_set]
    rfl
  · intro kn ke
    simp only [sha_words.l1.r]
    rw [bif_no (by omega), wz_set blk (by omega) _ (by rw [if_pos hi])]

theorem words_l0 (k : Nat) (hk : 64 < k) {blk : List Int} (hb : allIn 0 255 blk) (hlen : blk.length = 64) (z : List Int) :
    sha_words.l0 k k ((0 : Int), blk, z, wz blk 0, ()) = some (blk, z, wz blk 16, ()) := by
  refine loop_from0 (r := sha_words.l0.r k) (fun i => ((i : Int), blk, z, wz blk i, ())) 16 _ ?_ ?_ (by omega)
  · intro i hi kn ke
    simp only [sha_words.l0.r]
    rw [bif_yes (by omega), i64_in (n := 4 * (i : Int)) (by omega), i64_in (n := (i : Int) + 1) (by omega), i64_in (n := 4 * ((i : Int) + 1)) (by omega), bif_yes (by omega)]
    rw [show (4 * (i : Int)).toNat = 4 * i by omega, show (4 * ((i : Int) + 1) - 4 * (i : Int)).toNat = 4 by omega]
    have := words_l1 k hb hlen hi z (fuel := k) (by omega)
    show (sha_words.l1 k k ((i : Int), (i : Int), (4 * i, 4), (4 : Int), (0 : Int), blk, z, wz blk i, ())).bind _ = _
    rw [this]
    simp only [Option.bind_some]
    rw [i64_in (by omega)]
    rfl
  · intro kn ke
    simp only [sha_words.l0.r]
    rw [bif_no (by omega)]

theorem words_l2 (k : Nat) (hk : 64 < k) (blk b z : List Int) :
    sha_words.l2 k k ((16 : Int), b, z, wz blk 16, ()) = some (b, z, wz blk 64, ()) := by
  refine loop_range (r := sha_words.l2.r k) (fun i => ((i : Int), b, z, wz blk i, ())) 64 _ 16 ?_ ?_ (by omega) (by omega)
  · intro i h16 hi kn ke
    simp only [sha_words.l2.r]
    rw [bif_yes (by omega), i64_in (n := (i : Int) - 2) (by omega), i64_in (n := (i : Int) - 15) (by omega), i64_in (n := (i : Int) - 7) (by omega), i64_in (n := (i : Int) - 16) (by omega), i64_in (n := (i : Int) + 1) (by omega)]
    rw [bif_yes (by omega), bif_yes (by omega)]
    simp only [sha_turned_eq k _ (show (0 : Int) < 17 ∧ (17 : Int) < 32 by omega), sha_turned_eq k _ (show (0 : Int) < 19 ∧ (19 : Int) < 32 by omega), sha_turned_eq k _ (show (0 : Int) < 7 ∧ (7 : Int) < 32 by omega), sha_turned_eq k _ (show (0 : Int) < 18 ∧ (18 : Int) < 32 by omega), Option.bind_some]
    rw [bif_yes (by omega), bif_yes (by omega), bif_yes (by omega)]
    rw [show ((i : Int) - 2).toNat = i - 2 by omega, show ((i : Int) - 15).toNat = i - 15 by omega, show ((i : Int) - 7).toNat = i - 7 by omega, show ((i : Int) - 16).toNat = i - 16 by omega, show (i : Int).toNat = i by omega]
    rw [wz_get blk (show i - 2 < i by omega), wz_get blk (show i - 15 < i by omega), wz_get blk (show i - 7 < i by omega), wz_get blk (show i - 16 < i by omega)]
    rw [wz_set blk (by omega) _ (by rw [if_neg (by omega)]; rfl)]
    rfl
  · intro kn ke
    simp only [sha_words.l2.r]
    rw [bif_no (by omega)]

theorem wz_0 (blk : List Int) : List.replicate 64 (0 : Int) = wz blk 0 := rfl
theorem wz_64 (blk : List Int) : wz blk 64 = wl blk 64 := by simp [wz]

theorem sha_words_eq {k : Nat} (hk : 64 < k) {blk : List Int} (hb : allIn 0 255 blk) (hlen : blk.length = 64) : sha_words k blk = some (wl blk 64, blk, ()) := by
  unfold sha_words sha_words.c
  rw [wz_0 blk, words_l0 k hk hb hlen]
  simp only [Option.bind_some]
  show (sha_words.l2 k k ((16 : Int), blk, wz blk 0, wz blk 16, ())).bind _ = _
  rw [words_l2 k hk, wz_64]
  rfl

theorem sha_constants_eq (k : Nat) : sha_constants k = some (kc, ()) := rfl
theorem ref_constants_eq (k : Nat) : bedrockref02_constants k = some (kc, ()) := rfl

/-! the rounds -/
def big1 (e : Int) : Int := bitsOp .xor .u32 (bitsOp .xor .u32 (rotr e 6) (rotr e 11)) (rotr e 25)
def big0 (a : Int) : Int := bitsOp .xor .u32 (bitsOp .xor .u32 (rotr a 2) (rotr a 13)) (rotr a 22)
def chF (e f g : Int) : Int := bitsOp .xor .u32 (bitsOp .and .u32 e f) (bitsOp .and .u32 (4294967295 - e) g)
def majF (a b c : Int) : Int := bitsOp .xor .u32 (bitsOp .xor .u32 (bitsOp .and .u32 a b) (bitsOp .and .u32 a c)) (bitsOp .and .u32 b c)
def add32 (a b : Int) : Int := IntKind.u32.wrap (a + b)
theorem add32_assoc (a b c : Int) : add32 (add32 a b) c = add32 a (add32 b c) := by
  unfold add32; simp only [u32_mod]; omega
theorem add32_comm (a b : Int) : add32 a b = add32 b a := by
  unfold add32; rw [Int.add_comm]
theorem add32_range (a b : Int) : 0 ≤ add32 a b ∧ add32 a b ≤ 4294967295 := by unfold add32; rw [u32_mod]; omega

def rnd (y : List Int) (kt wt : Int) : List Int :=
  let t1 := add32 (add32 (add32 (add32 (y.getD 7 0) (big1 (y.getD 4 0))) (chF (y.getD 4 0) (y.getD 5 0) (y.getD 6 0))) kt) wt
  [add32 t1 (add32 (big0 (y.getD 0 0)) (majF (y.getD 0 0) (y.getD 1 0) (y.getD 2 0))), y.getD 0 0, y.getD 1 0, y.getD 2 0, add32 (y.getD 3 0) t1, y.getD 4 0, y.getD 5 0, y.getD 6 0]
def rndN (w x : List Int) : Nat → List Int
  | 0 => x
  | t + 1 => rnd (rndN w x t) (kc.getD t 0) (w.getD t 0)
theorem rnd_in {y : List Int} (hy : allIn 0 4294967295 y) (kt wt : Int) : allIn 0 4294967295 (rnd y kt wt) := by
  intro v hv
  simp only [rnd, List.mem_cons, List.not_mem_nil, or_false] at hv
  rcases hv with rfl | rfl | rfl | rfl | rfl | rfl | rfl | rfl <;> first | exact add32_range _ _ | exact allIn_getD hy (by omega) _
theorem rndN_in {w x : List Int} (hx : allIn 0 4294967295 x) : ∀ t, allIn 0 4294967295 (rndN w x t)
  | 0 => hx
  | t + 1 => rnd_in (rndN_in hx t) _ _

theorem step_l0 (k : Nat) (hk : 64 < k) {x0 : List Int} (hx : allIn 0 4294967295 x0) (z w : List Int) :
    sha_Step.l0 k k ((0 : Int), x0, z, w, kc, x0, ()) = some (x0, z, rndN w x0 64, ()) := by
  refine loop_from0 (r := sha_Step.l0.r k) (fun i => ((i : Int), x0, z, w, kc, rndN w x0 i, ())) 64 _ ?_ ?_ (by omega)
  · intro i hi kn ke
    simp only [sha_Step.l0.r]
    rw [bif_yes (by omega)]
    simp only [sha_turned_eq k _ (show (0 : Int) < 6 ∧ (6 : Int) < 32 by omega), sha_turned_eq k _ (show (0 : Int) < 11 ∧ (11 : Int) < 32 by omega), sha_turned_eq k _ (show (0 : Int) < 25 ∧ (25 : Int) < 32 by omega), sha_turned_eq k _ (show (0 : Int) < 2 ∧ (2 : Int) < 32 by omega), sha_turned_eq k _ (show (0 : Int) < 13 ∧ (13 : Int) < 32 by omega), sha_turned_eq k _ (show (0 : Int) < 22 ∧ (22 : Int) < 32 by omega), Option.bind_some]
    rw [bif_yes (by omega), bif_yes (by omega), i64_in (n := (i : Int) + 1) (by omega), show (i : Int).toNat = i by omega]
    have hr := rndN_in (w := w) hx i
    rw [not_u32 (allIn_getD hr (by omega) 4)]
    show kn ((i : Int) + 1, x0, z, w, kc, [add32 (add32 _ _) _, _, _, _, _, _, _, _], ()) = _
    rw [add32_assoc]
    rfl
  · intro kn ke
    simp only [sha_Step.l0.r]
    rw [bif_no (by omega)]

theorem step_l1 (k : Nat) (hk : 64 < k) (x z y : List Int) (hy : y.length = 8) :
    sha_Step.l1 k k ((0 : Int), x, z, y, ()) = some (z, (List.range 8).map (fun j => add32 (y.getD j 0) (x.getD j 0)), ()) := by
  have := loop_from0 (r := sha_Step.l1.r k) (fun i => ((i : Int), x, z, (List.range i).map (fun j => add32 (y.getD j 0) (x.getD j 0)) ++ y.drop i, ())) 8 (z, (List.range 8).map (fun j => add32 (y.getD j 0) (x.getD j 0)), ()) ?_ ?_ (fuel := k) (by omega)
  · simp only [List.range_zero, List.map_nil, List.nil_append, List.drop_zero] at this
    exact this
  · intro i hi kn ke
    simp only [sha_Step.l1.r]
    rw [bif_yes (by omega), bif_yes (by omega), bif_yes (by omega), bif_yes (by omega), i64_in (n := (i : Int) + 1) (by omega), show (i : Int).toNat = i by omega, get_map]
    show kn ((i : Int) + 1, x, z, List.set _ i (add32 (y.getD i 0) (x.getD i 0)), ()) = _
    rw [set_map (f := fun j => add32 (y.getD j 0) (x.getD j 0)) (by omega)]
    rfl
  · intro kn ke
    simp only [sha_Step.l1.r]
    rw [bif_no (by omega), map_full (by omega)]

/-- One step of the state, by a block. -/
def stepS (x blk : List Int) : List Int := (List.range 8).map fun j => add32 ((rndN (wl blk 64) x 64).getD j 0) (x.getD j 0)

theorem rndN_length {w x : List Int} (hx : x.length = 8) : ∀ t, (rndN w x t).length = 8
  | 0 => hx
  | _ + 1 => rfl
theorem stepS_length (x blk : List Int) : (stepS x blk).length = 8 := by simp [stepS]
theorem stepS_in (x blk : List Int) : allIn 0 4294967295 (stepS x blk) := by
  intro v hv
  simp only [stepS, List.mem_map] at hv
  obtain ⟨j, _, rfl⟩ := hv
  exact add32_range _ _

theorem sha_Step_eq {k : Nat} (hk : 64 < k) {x blk : List Int} (hx : allIn 0 4294967295 x) (hxl : x.length = 8) (hb : allIn 0 255 blk) (hlen : blk.length = 64) : sha_Step k x blk = some (stepS x blk, ()) := by
  unfold sha_Step sha_Step.c
  rw [sha_words_eq hk hb hlen, sha_constants_eq]
  simp only [Option.bind_some]
  rw [step_l0 k hk hx]
  simp only [Option.bind_some]
  rw [step_l1 k hk _ _ _ (rndN_length hxl 64)]
  rfl

/-! the document's -/
theorem ref_l0 (k : Nat) (hk : 64 < k) {blk : List Int} (hb : allIn 0 255 blk) (hlen : blk.length = 64) (s z kk : List Int) :
    bedrockref02_Step.l0 k k ((0 : Int), s, blk, z, kk, wz blk 0, ()) = some (s, z, kk, wl blk 64, ()) := by
  rw [← wz_64 blk]
  refine loop_from0 (r := bedrockref02_Step.l0.r k) (fun i => ((i : Int), s, blk, z, kk, wz blk i, ())) 64 _ ?_ ?_ (by omega)
  · intro i hi kn ke
    simp only [bedrockref02_Step.l0.r]
    rw [bif_yes (by omega)]
    by_cases h16 : i < 16
    · rw [bif_yes (by omega), i64_in (n := 4 * (i : Int)) (by omega), i64_in (n := 4 * (i : Int) + 1) (by omega), i64_in (n := 4 * (i : Int) + 2) (by omega), i64_in (n := 4 * (i : Int) + 3) (by omega), i64_in (n := (i : Int) + 1) (by omega)]
      rw [bif_yes (by omega), bif_yes (by omega), bif_yes (by omega), bif_yes (by omega), bif_yes (by omega)]
      rw [show (4 * (i : Int)).toNat = 4 * i by omega, show (4 * (i : Int) + 1).toNat = 4 * i + 1 by omega, show (4 * (i : Int) + 2).toNat = 4 * i + 2 by omega, show (4 * (i : Int) + 3).toNat = 4 * i + 3 by omega, show (i : Int).toNat = i by omega]
      have b0 := allIn_getD hb (by omega) (4 * i)
      have b1 := allIn_getD hb (by omega) (4 * i + 1)
      have b2 := allIn_getD hb (by omega) (4 * i + 2)
      have b3 := allIn_getD hb (by omega) (4 * i + 3)
      have hp : part blk i 4 = ((blk.getD (4 * i) 0 * 256 + blk.getD (4 * i + 1) 0) * 256 + blk.getD (4 * i + 2) 0) * 256 + blk.getD (4 * i + 3) 0 := by
        simp [part]
      rw [wz_set blk (by omega) _ ?_]
      · rfl
      · rw [if_pos h16, hp]
        generalize blk.getD (4 * i) 0 = x0 at *
        generalize blk.getD (4 * i + 1) 0 = x1 at *
        generalize blk.getD (4 * i + 2) 0 = x2 at *
        generalize blk.getD (4 * i + 3) 0 = x3 at *
        obtain ⟨X0, rfl⟩ := Int.eq_ofNat_of_zero_le b0.1
        obtain ⟨X1, rfl⟩ := Int.eq_ofNat_of_zero_le b1.1
        obtain ⟨X2, rfl⟩ := Int.eq_ofNat_of_zero_le b2.1
        obtain ⟨X3, rfl⟩ := Int.eq_ofNat_of_zero_le b3.1
        simp only [u32_in (show 0 ≤ ((X0 : Nat) : Int) ∧ ((X0 : Nat) : Int) ≤ 4294967295 by omega), u32_in (show 0 ≤ ((X1 : Nat) : Int) ∧ ((X1 : Nat) : Int) ≤ 4294967295 by omega), u32_in (show 0 ≤ ((X2 : Nat) : Int) ∧ ((X2 : Nat) : Int) ≤ 4294967295 by omega), u32_in (show 0 ≤ ((X3 : Nat) : Int) ∧ ((X3 : Nat) : Int) ≤ 4294967295 by omega)]
        rw [show (24 : Int) = ((24 : Nat) : Int) from rfl, show (16 : Int) = ((16 : Nat) : Int) from rfl, show (8 : Int) = ((8 : Nat) : Int) from rfl, shl_u32 _ (by omega), shl_u32 _ (by omega), shl_u32 _ (by omega)]
        rw [show ((X0 : Int) * 2 ^ 24) % 4294967296 = ((X0 * 2 ^ 24 : Nat) : Int) by simp; omega, show ((X1 : Int) * 2 ^ 16) % 4294967296 = ((X1 * 2 ^ 16 : Nat) : Int) by simp; omega, show ((X2 : Int) * 2 ^ 8) % 4294967296 = ((X2 * 2 ^ 8 : Nat) : Int) by simp; omega]
        rw [or_u32_add (A := X1 * 2 ^ 16) (B := X0) (j := 24) (by omega) (by omega)]
        rw [show X0 * 2 ^ 24 + X1 * 2 ^ 16 = (X0 * 256 + X1) * 2 ^ 16 by omega, or_u32_add (A := X2 * 2 ^ 8) (j := 16) (by omega) (by omega)]
        rw [show (X0 * 256 + X1) * 2 ^ 16 + X2 * 2 ^ 8 = ((X0 * 256 + X1) * 256 + X2) * 2 ^ 8 by omega, or_u32_add (A := X3) (j := 8) (by omega) (by omega)]
        omega
    · rw [bif_no (by omega), i64_in (n := (i : Int) - 2) (by omega), i64_in (n := (i : Int) - 15) (by omega), i64_in (n := (i : Int) - 7) (by omega), i64_in (n := (i : Int) - 16) (by omega), i64_in (n := (i : Int) + 1) (by omega)]
      rw [bif_yes (by omega), bif_yes (by omega)]
      simp only [ref_turn k _ (show (0 : Int) ≤ 17 ∧ (17 : Int) ≤ 32 by omega), ref_turn k _ (show (0 : Int) ≤ 19 ∧ (19 : Int) ≤ 32 by omega), ref_turn k _ (show (0 : Int) ≤ 7 ∧ (7 : Int) ≤ 32 by omega), ref_turn k _ (show (0 : Int) ≤ 18 ∧ (18 : Int) ≤ 32 by omega), Option.bind_some]
      rw [bif_yes (by omega), bif_yes (by omega), bif_yes (by omega)]
      rw [show ((i : Int) - 2).toNat = i - 2 by omega, show ((i : Int) - 15).toNat = i - 15 by omega, show ((i : Int) - 7).toNat = i - 7 by omega, show ((i : Int) - 16).toNat = i - 16 by omega, show (i : Int).toNat = i by omega]
      rw [wz_get blk (show i - 2 < i by omega), wz_get blk (show i - 15 < i by omega), wz_get blk (show i - 7 < i by omega), wz_get blk (show i - 16 < i by omega)]
      rw [wz_set blk (by omega) _ (by rw [if_neg (by omega)]; rfl)]
      rfl
  · intro kn ke
    simp only [bedrockref02_Step.l0.r]
    rw [bif_no (by omega)]

theorem ref_l1 (k : Nat) (hk : 64 < k) {x0 : List Int} (hx : allIn 0 4294967295 x0) (s z w : List Int) :
    bedrockref02_Step.l1 k k ((0 : Int), s, z, kc, w, x0, ()) = some (s, z, rndN w x0 64, ()) := by
  refine loop_from0 (r := bedrockref02_Step.l1.r k) (fun i => ((i : Int), s, z, kc, w, rndN w x0 i, ())) 64 _ ?_ ?_ (by omega)
  · intro i hi kn ke
    simp only [bedrockref02_Step.l1.r]
    rw [bif_yes (by omega)]
    simp only [ref_turn k _ (show (0 : Int) ≤ 6 ∧ (6 : Int) ≤ 32 by omega), ref_turn k _ (show (0 : Int) ≤ 11 ∧ (11 : Int) ≤ 32 by omega), ref_turn k _ (show (0 : Int) ≤ 25 ∧ (25 : Int) ≤ 32 by omega), ref_turn k _ (show (0 : Int) ≤ 2 ∧ (2 : Int) ≤ 32 by omega), ref_turn k _ (show (0 : Int) ≤ 13 ∧ (13 : Int) ≤ 32 by omega), ref_turn k _ (show (0 : Int) ≤ 22 ∧ (22 : Int) ≤ 32 by omega), Option.bind_some]
    rw [bif_yes (by omega), bif_yes (by omega), i64_in (n := (i : Int) + 1) (by omega), show (i : Int).toNat = i by omega]
    have hr := allIn_getD (rndN_in (w := w) hx i) (by omega) 4
    rw [u32_in (n := 4294967295 - (rndN w x0 i).getD 4 0) (by omega)]
    rfl
  · intro kn ke
    simp only [bedrockref02_Step.l1.r]
    rw [bif_no (by omega)]

theorem ref_l2 (k : Nat) (hk : 64 < k) (x z y : List Int) (hx : x.length = 8) :
    bedrockref02_Step.l2 k k ((0 : Int), x, z, y, ()) = some ((List.range 8).map (fun j => add32 (x.getD j 0) (y.getD j 0)), z, ()) := by
  have := loop_from0 (r := bedrockref02_Step.l2.r k) (fun i => ((i : Int), (List.range i).map (fun j => add32 (x.getD j 0) (y.getD j 0)) ++ x.drop i, z, y, ())) 8 ((List.range 8).map (fun j => add32 (x.getD j 0) (y.getD j 0)), z, ()) ?_ ?_ (fuel := k) (by omega)
  · simp only [List.range_zero, List.map_nil, List.nil_append, List.drop_zero] at this
    exact this
  · intro i hi kn ke
    simp only [bedrockref02_Step.l2.r]
    rw [bif_yes (by omega), bif_yes (by omega), bif_yes (by omega), bif_yes (by omega), i64_in (n := (i : Int) + 1) (by omega), show (i : Int).toNat = i by omega, get_map]
    show kn ((i : Int) + 1, List.set _ i (add32 (x.getD i 0) (y.getD i 0)), z, y, ()) = _
    rw [set_map (f := fun j => add32 (x.getD j 0) (y.getD j 0)) (by omega)]
    rfl
  · intro kn ke
    simp only [bedrockref02_Step.l2.r]
    rw [bif_no (by omega), map_full (by omega)]

theorem ref_Step_eq {k : Nat} (hk : 64 < k) {x blk : List Int} (hx : allIn 0 4294967295 x) (hxl : x.length = 8) (hb : allIn 0 255 blk) (hlen : blk.length = 64) : bedrockref02_Step k x blk = some (stepS x blk, ()) := by
  unfold bedrockref02_Step bedrockref02_Step.c
  rw [ref_constants_eq, wz_0 blk]
  simp only [Option.bind_some]
  rw [ref_l0 k hk hb hlen]
  simp only [Option.bind_some]
  rw [ref_l1 k hk hx]
  simp only [Option.bind_some]
  rw [ref_l2 k hk _ _ _ hxl]
  simp only [Option.bind_some]
  have e : (List.range 8).map (fun j => add32 (x.getD j 0) ((rndN (wl blk 64) x 64).getD j 0)) = stepS x blk := List.map_congr_left fun j _ => add32_comm _ _
  rw [e]
end Go.Am
/- SHA-256 of a text: what the hasher holds, and its sum. -/
namespace Go.Am
open Go

def first : List Int := [1779033703, 3144134277, 1013904242, 2773480762, 1359893119, 2600822924, 528734635, 1541459225]
theorem sha_First_eq (k : Nat) : sha_First k = some (first, ()) := rfl
theorem ref_First_eq (k : Nat) : bedrockref02_First k = some (first, ()) := rfl
theorem first_in : allIn 0 4294967295 first := by unfold allIn first; decide
theorem first_length : first.length = 8 := rfl

/-- The state behind n blocks. -/
def stt (x l : List Int) : Nat → List Int
  | 0 => x
  | n + 1 => stepS (stt x l n) ((l.drop (64 * n)).take 64)

theorem stt_in {x l : List Int} (hx : allIn 0 4294967295 x) : ∀ n, allIn 0 4294967295 (stt x l n)
  | 0 => hx
  | _ + 1 => stepS_in _ _
theorem stt_length {x l : List Int} (hx : x.length = 8) : ∀ n, (stt x l n).length = 8
  | 0 => hx
  | _ + 1 => stepS_length _ _

theorem stt_prefix (x a b : List Int) : ∀ n, 64 * n ≤ a.length → stt x (a ++ b) n = stt x a n
  | 0, _ => rfl
  | n + 1, h => by
    simp only [stt]
    rw [stt_prefix x a b n (by omega), List.drop_append_of_le_length (by omega), List.take_append_of_le_length (by simp; omega)]

theorem stt_add (x l : List Int) (q : Nat) : ∀ j, stt x l (q + j) = stt (stt x l q) (l.drop (64 * q)) j
  | 0 => rfl
  | j + 1 => by
    rw [← Nat.add_assoc]
    simp only [stt]
    rw [stt_add x l q j, List.drop_drop, show 64 * q + 64 * j = 64 * (q + j) by omega]

theorem allIn_drop {lo hi : Int} {l : List Int} (h : allIn lo hi l) (n : Nat) : allIn lo hi (l.drop n) := fun x hx => h x (List.mem_of_mem_drop hx)
theorem allIn_take {lo hi : Int} {l : List Int} (h : allIn lo hi l) (n : Nat) : allIn lo hi (l.take n) := fun x hx => h x (List.mem_of_mem_take hx)
theorem allIn_append {lo hi : Int} {l r : List Int} (h : allIn lo hi l) (h2 : allIn lo hi r) : allIn lo hi (l ++ r) := fun x hx => by
  rcases List.mem_append.1 hx with hx | hx
  · exact h x hx
  · exact h2 x hx
theorem ofBytes_in (s : ByteArray) : allIn 0 255 (ofBytes s) := fun x hx => by have := ofBytes_mem hx; omega

theorem write_loop (k : Nat) (hk : 64 < k) {x left : List Int} (hx : allIn 0 4294967295 x) (hxl : x.length = 8) (hl : allIn 0 255 left) (n : Int) {fuel : Nat} (hf : left.length / 64 < fuel) :
    sha_Hasher_Write.l0 k fuel ((x, (), n, ()), left, ()) = some ((stt x left (left.length / 64), (), n, ()), left.drop (64 * (left.length / 64)), ()) := by
  refine loop_from0 (r := sha_Hasher_Write.l0.r k) (fun i => ((stt x left i, (), n, ()), left.drop (64 * i), ())) (left.length / 64) _ ?_ ?_ hf
  · intro i hi kn ke
    simp only [sha_Hasher_Write.l0.r]
    have hlen : (left.drop (64 * i)).length = left.length - 64 * i := by simp
    rw [bif_yes (by rw [hlen]; omega), bif_yes (by rw [hlen]; omega), List.drop_zero]
    rw [sha_Step_eq hk (stt_in hx i) (stt_length hxl i) (allIn_take (allIn_drop hl _) _) (by simp; omega)]
    simp only [Option.bind_some]
    have e : List.take ((((List.drop (64 * i) left).length : Nat) : Int) - 64).toNat (List.drop 64 (List.drop (64 * i) left)) = left.drop (64 * (i + 1)) := by
      rw [List.take_of_length_le (by rw [List.length_drop, hlen]; omega), List.drop_drop, show 64 * i + 64 = 64 * (i + 1) by omega]
    rw [bif_yes (by rw [hlen]; omega), e]
    rfl
  · intro kn ke
    simp only [sha_Hasher_Write.l0.r]
    have hlen : (left.drop (64 * (left.length / 64))).length = left.length - 64 * (left.length / 64) := by simp
    rw [bif_no (by rw [hlen]; omega)]

/-! the bytes behind a text -/
def padF (n : Int) (j : Nat) : Int := IntKind.u8.wrap (shrOp .u64 (IntKind.u64.wrap (8 * n)) (8 * (7 - (j : Int))))
def padZ (n : Int) : Nat := ((119 - n % 64) % 64).toNat
def padL (n : Int) : List Int := (128 :: List.replicate (padZ n) 0) ++ (List.range 8).map (padF n)
theorem padL_length (n : Int) : (padL n).length = 9 + padZ n := by simp [padL]; omega
theorem padZ_lt (n : Int) : padZ n < 64 := by unfold padZ; omega
theorem padL_in (n : Int) : allIn 0 255 (padL n) := by
  intro x hx
  simp only [padL, List.mem_append, List.mem_cons, List.mem_replicate, List.mem_map] at hx
  rcases hx with (rfl | ⟨_, rfl⟩) | ⟨j, _, rfl⟩
  · omega
  · omega
  · unfold padF; rw [u8_mod]; omega
theorem padL_64 {n : Nat} : (n + (padL (n : Int)).length) % 64 = 0 := by
  rw [padL_length]; unfold padZ; omega

theorem snoc_map {α : Type} (f : Nat → α) (l : List α) (i : Nat) : l ++ (List.range i).map f ++ [f i] = l ++ (List.range (i + 1)).map f := by
  rw [List.range_succ, List.map_append, List.append_assoc]; rfl

theorem shl3 (n : Int) : shlOp .u64 n 3 = IntKind.u64.wrap (8 * n) := by
  unfold shlOp
  rw [show min (3 : Int).toNat IntKind.u64.bits = 3 from rfl, show n * 2 ^ 3 = 8 * n by omega]

theorem sha_Pad_eq {k : Nat} (hk : 64 < k) {n : Int} (hn : 0 ≤ n ∧ n ≤ 18446744073709551615) : sha_Pad k n = some (bytesOf (padL n), ()) := by
  unfold sha_Pad sha_Pad.c
  dsimp only
  rw [Int.tmod_eq_emod_of_nonneg hn.1, i64_in (n := n % 64) (by omega), i64_in (n := 119 - n % 64) (by omega), Int.tmod_eq_emod_of_nonneg (by omega), i64_in (n := 1 + (119 - n % 64) % 64) (by omega), i64_in (by omega)]
  have hz : (1 + (119 - n % 64) % 64).toNat = padZ n + 1 := by unfold padZ; omega
  have hb : Nat.ble ((1 + (119 - n % 64) % 64 + 8).toNat * 1) 140737488355328 = true := ble_of (by omega)
  rw [decide_eq_true (show 0 ≤ 1 + (119 - n % 64) % 64 ∧ 1 + (119 - n % 64) % 64 ≤ 1 + (119 - n % 64) % 64 + 8 by omega), hb, Bool.and_self, cond_true, hz, List.length_replicate, bif_yes (by omega)]
  have e : (List.replicate (padZ n + 1) (0 : Int)).set 0 128 = 128 :: List.replicate (padZ n) 0 := by rw [List.replicate_succ, List.set_cons_zero]
  rw [e]
  have := loop_from0 (r := sha_Pad.l0.r k) (fun i => (n, (i : Int), (128 :: List.replicate (padZ n) 0) ++ (List.range i).map (padF n), ())) 8 (padL n, ()) ?_ ?_ (fuel := k) (by omega)
  · simp only [List.range_zero, List.map_nil, List.append_nil] at this
    show (sha_Pad.l0 k k (n, ((0 : Nat) : Int), 128 :: List.replicate (padZ n) 0, ())).bind _ = _
    unfold sha_Pad.l0
    rw [this]
    rfl
  · intro i hi kn ke
    simp only [sha_Pad.l0.r]
    rw [bif_yes (by omega), i64_in (n := 7 - (i : Int)) (by omega), i64_in (n := 8 * (7 - (i : Int))) (by omega), bif_yes (by omega), i64_in (n := (i : Int) + 1) (by omega), shl3]
    have hl : Nat.ble ((((128 :: List.replicate (padZ n) 0) ++ (List.range i).map (padF n)).length + (List.set (List.replicate 1 (0 : Int)) 0 (IntKind.u8.wrap (shrOp .u64 (IntKind.u64.wrap (8 * n)) (8 * (7 - (i : Int)))))).length) * 1) 140737488355328 = true :=
      ble_of (by have := padZ_lt n; simp; omega)
    rw [cond_true' hl]
    show kn (n, (i : Int) + 1, (128 :: List.replicate (padZ n) 0) ++ (List.range i).map (padF n) ++ [padF n i], ()) = _
    rw [snoc_map]
    rfl
  · intro kn ke
    simp only [sha_Pad.l0.r]
    rw [bif_no (by omega)]
    rfl

theorem ref_Pad_eq {k : Nat} (hk : 80 < k) {n : Int} (hn : 0 ≤ n ∧ n ≤ 18446744073709551615) : bedrockref02_Pad k n = some (bytesOf (padL n), ()) := by
  unfold bedrockref02_Pad bedrockref02_Pad.c
  have h0 := loop_from0 (r := bedrockref02_Pad.l0.r k) (fun i => (n, 128 :: List.replicate i (0 : Int), ())) (padZ n) (n, 128 :: List.replicate (padZ n) 0, ()) ?_ ?_ (fuel := k) (by have := padZ_lt n; omega)
  · have e : List.set (List.replicate 1 (0 : Int)) 0 128 = 128 :: List.replicate 0 0 := rfl
    rw [e]
    unfold bedrockref02_Pad.l0
    rw [h0]
    simp only [Option.bind_some]
    have := loop_from0 (r := bedrockref02_Pad.l1.r k) (fun i => (IntKind.u64.wrap (8 * n), 7 - (i : Int), (128 :: List.replicate (padZ n) 0) ++ (List.range i).map (padF n), ())) 8 (padL n, ()) ?_ ?_ (fuel := k) (by omega)
    · simp only [List.range_zero, List.map_nil, List.append_nil] at this
      show (bedrockref02_Pad.l1 k k (IntKind.u64.wrap (8 * n), 7 - ((0 : Nat) : Int), 128 :: List.replicate (padZ n) 0, ())).bind _ = _
      unfold bedrockref02_Pad.l1
      rw [this]
      rfl
    · intro i hi kn ke
      simp only [bedrockref02_Pad.l1.r]
      rw [bif_yes (by omega), i64_in (n := 8 * (7 - (i : Int))) (by omega), bif_yes (by omega), i64_in (n := 7 - (i : Int) - 1) (by omega)]
      have hl : Nat.ble ((((128 :: List.replicate (padZ n) 0) ++ (List.range i).map (padF n)).length + (List.set (List.replicate 1 (0 : Int)) 0 (IntKind.u8.wrap (shrOp .u64 (IntKind.u64.wrap (8 * n)) (8 * (7 - (i : Int)))))).length) * 1) 140737488355328 = true :=
        ble_of (by have := padZ_lt n; simp; omega)
      rw [cond_true' hl]
      show kn (IntKind.u64.wrap (8 * n), 7 - (i : Int) - 1, (128 :: List.replicate (padZ n) 0) ++ (List.range i).map (padF n) ++ [padF n i], ()) = _
      rw [snoc_map, show 7 - (i : Int) - 1 = 7 - ((i + 1 : Nat) : Int) by omega]
    · intro kn ke
      simp only [bedrockref02_Pad.l1.r]
      rw [bif_no (by omega)]
      rfl
  · intro i hi kn ke
    simp only [bedrockref02_Pad.l0.r]
    have hz : padZ n < 64 := padZ_lt n
    have hzd : (padZ n : Int) = (119 - n % 64) % 64 := by unfold padZ; omega
    simp only [List.length_cons, List.length_replicate]
    rw [u64_in (n := ((i + 1 : Nat) : Int)) (by omega), u64_mod, Int.tmod_eq_emod_of_nonneg (by omega)]
    have hne : ((n + ((i + 1 : Nat) : Int)) % 18446744073709551616 % 64 != 56) = true := by
      rw [bne_iff_ne]; omega
    rw [cond_true' hne, cond_true' (ble_of (by omega))]
    show kn (n, (128 :: List.replicate i (0 : Int)) ++ [0], ()) = _
    rw [List.cons_append, ← List.replicate_succ']
  · intro kn ke
    simp only [bedrockref02_Pad.l0.r]
    have hz : padZ n < 64 := padZ_lt n
    have hzd : (padZ n : Int) = (119 - n % 64) % 64 := by unfold padZ; omega
    simp only [List.length_cons, List.length_replicate]
    rw [u64_in (n := ((padZ n + 1 : Nat) : Int)) (by omega), u64_mod, Int.tmod_eq_emod_of_nonneg (by omega)]
    have hne : ((n + ((padZ n + 1 : Nat) : Int)) % 18446744073709551616 % 64 != 56) = false := by
      rw [bne_eq_false_iff_eq]; omega
    rw [cond_false' hne]

/-! the bytes of a state -/
def beF (x : List Int) (j : Nat) : Int := IntKind.u8.wrap (shrOp .u32 (x.getD (j / 4) 0) (24 - 8 * ((j % 4 : Nat) : Int)))
def bytesBE (x : List Int) : List Int := (List.range 32).map (beF x)
def beZ (x : List Int) (j : Nat) : List Int := (List.range j).map (beF x) ++ (List.replicate 32 (0 : Int)).drop j
theorem beZ_set (x : List Int) {j : Nat} (h : j < 32) : (beZ x j).set j (beF x j) = beZ x (j + 1) := set_map (by simpa using h)
theorem bytesBE_length (x : List Int) : (bytesBE x).length = 32 := by simp [bytesBE]
theorem bytesBE_in (x : List Int) : allIn 0 255 (bytesBE x) := by
  intro v hv
  simp only [bytesBE, List.mem_map] at hv
  obtain ⟨j, _, rfl⟩ := hv
  unfold beF; rw [u8_mod]; omega

theorem sum_l1 (k : Nat) (x : List Int) {i : Nat} (hi : i < 8) (b0 : List Int × Unit × Int × Unit) (b1 z : List Int) {fuel : Nat} (hf : 4 < fuel) :
    sha_Hasher_Sum.l1 k fuel ((i : Int), x.getD i 0, x, (i : Int), (0 : Int), b0, b1, z, beZ x (4 * i), ()) = some (x, (i : Int), b0, b1, z, beZ x (4 * (i + 1)), ()) := by
  refine loop_from0 (r := sha_Hasher_Sum.l1.r k) (fun j => ((i : Int), x.getD i 0, x, (i : Int), (j : Int), b0, b1, z, beZ x (4 * i + j), ())) 4 _ ?_ ?_ hf
  · intro j hj kn ke
    simp only [sha_Hasher_Sum.l1.r]
    rw [bif_yes (by omega), i64_in (n := 4 * (i : Int)) (by omega), i64_in (n := 4 * (i : Int) + (j : Int)) (by omega), i64_in (n := 3 - (j : Int)) (by omega), i64_in (n := 8 * (3 - (j : Int))) (by omega), i64_in (n := (j : Int) + 1) (by omega), bif_yes (by omega), bif_yes (by omega)]
    have e : IntKind.u8.wrap (shrOp .u32 (x.getD i 0) (8 * (3 - (j : Int)))) = beF x (4 * i + j) := by
      unfold beF
      rw [show (4 * i + j) / 4 = i by omega, show (4 * i + j) % 4 = j by omega, show 8 * (3 - (j : Int)) = 24 - 8 * (j : Int) by omega]
    rw [e, show (4 * (i : Int) + (j : Int)).toNat = 4 * i + j by omega, beZ_set x (by omega)]
    rfl
  · intro kn ke
    simp only [sha_Hasher_Sum.l1.r]
    rw [bif_no (by omega)]
    rfl

theorem sum_l0 (k : Nat) (hk : 64 < k) (x : List Int) (b0 : List Int × Unit × Int × Unit) (b1 z : List Int) :
    sha_Hasher_Sum.l0 k k (x, (0 : Int), b0, b1, z, List.replicate 32 0, ()) = some (b0, b1, z, bytesBE x, ()) := by
  refine loop_from0 (r := sha_Hasher_Sum.l0.r k) (fun i => (x, (i : Int), b0, b1, z, beZ x (4 * i), ())) 8 _ ?_ ?_ (by omega)
  · intro i hi kn ke
    simp only [sha_Hasher_Sum.l0.r]
    rw [bif_yes (by omega), bif_yes (by omega), show (i : Int).toNat = i by omega]
    have := sum_l1 k x hi b0 b1 z (fuel := k) (by omega)
    show (sha_Hasher_Sum.l1 k k ((i : Int), x.getD i 0, x, (i : Int), (0 : Int), b0, b1, z, beZ x (4 * i), ())).bind _ = _
    rw [this]
    simp only [Option.bind_some]
    rw [i64_in (by omega)]
    rfl
  · intro kn ke
    simp only [sha_Hasher_Sum.l0.r]
    rw [bif_no (by omega)]
    rfl

theorem ref_Bytes_eq {k : Nat} (hk : 64 < k) (x : List Int) : bedrockref02_Bytes k x = some (bytesBE x, ()) := by
  unfold bedrockref02_Bytes bedrockref02_Bytes.c
  dsimp only
  have l1 : ∀ {i : Nat}, i < 8 → ∀ z : List Int, bedrockref02_Bytes.l1 k k ((i : Int), (0 : Int), x, z, beZ x (4 * i), ()) = some ((i : Int), x, z, beZ x (4 * (i + 1)), ()) := by
    intro i hi z
    refine loop_from0 (r := bedrockref02_Bytes.l1.r k) (fun j => ((i : Int), (j : Int), x, z, beZ x (4 * i + j), ())) 4 _ ?_ ?_ (by omega)
    · intro j hj kn ke
      simp only [bedrockref02_Bytes.l1.r]
      rw [bif_yes (by omega), i64_in (n := 4 * (i : Int)) (by omega), i64_in (n := 4 * (i : Int) + (j : Int)) (by omega), i64_in (n := 8 * (j : Int)) (by omega), i64_in (n := 24 - 8 * (j : Int)) (by omega), i64_in (n := (j : Int) + 1) (by omega), bif_yes (by omega), bif_yes (by omega), bif_yes (by omega)]
      have e : IntKind.u8.wrap (shrOp .u32 (x.getD (i : Int).toNat 0) (24 - 8 * (j : Int))) = beF x (4 * i + j) := by
        unfold beF
        rw [show (4 * i + j) / 4 = i by omega, show (4 * i + j) % 4 = j by omega, show (i : Int).toNat = i by omega]
      rw [e, show (4 * (i : Int) + (j : Int)).toNat = 4 * i + j by omega, beZ_set x (by omega)]
      rfl
    · intro kn ke
      simp only [bedrockref02_Bytes.l1.r]
      rw [bif_no (by omega)]
      rfl
  have h0 : bedrockref02_Bytes.l0 k k ((0 : Int), x, List.replicate 32 0, List.replicate 32 0, ()) = some (List.replicate 32 0, bytesBE x, ()) := by
    refine loop_from0 (r := bedrockref02_Bytes.l0.r k) (fun i => ((i : Int), x, List.replicate 32 0, beZ x (4 * i), ())) 8 _ ?_ ?_ (by omega)
    · intro i hi kn ke
      simp only [bedrockref02_Bytes.l0.r]
      rw [bif_yes (by omega), l1 hi]
      simp only [Option.bind_some]
      rw [i64_in (by omega)]
      rfl
    · intro kn ke
      simp only [bedrockref02_Bytes.l0.r]
      rw [bif_no (by omega)]
      rfl
  rw [h0]
  rfl

/-! the hasher behind a text -/
def hx (a : List Int) : List Int := stt first a (a.length / 64)
def hl (a : List Int) : List Int := a.drop (64 * (a.length / 64))
def HS (a : List Int) : List Int × Unit × Int × Unit := (hx a, (), (a.length : Int), ())
theorem hx_in (a : List Int) : allIn 0 4294967295 (hx a) := stt_in first_in _
theorem hx_length (a : List Int) : (hx a).length = 8 := stt_length first_length _
theorem hl_length (a : List Int) : (hl a).length < 64 := by simp only [hl, List.length_drop]; omega
theorem hl_in {a : List Int} (h : allIn 0 255 a) : allIn 0 255 (hl a) := allIn_drop h _

theorem hx_append (a b : List Int) : stt (hx a) (hl a ++ b) ((hl a ++ b).length / 64) = hx (a ++ b) ∧ (hl a ++ b).drop (64 * ((hl a ++ b).length / 64)) = hl (a ++ b) := by
  have hle : 64 * (a.length / 64) ≤ a.length := by omega
  have e1 : hl a ++ b = (a ++ b).drop (64 * (a.length / 64)) := by rw [List.drop_append_of_le_length hle]; rfl
  have e2 : hx a = stt first (a ++ b) (a.length / 64) := (stt_prefix _ _ _ _ hle).symm
  have hlen : (hl a ++ b).length = (a ++ b).length - 64 * (a.length / 64) := by rw [e1, List.length_drop]
  have hq : (a ++ b).length / 64 = a.length / 64 + (hl a ++ b).length / 64 := by
    rw [hlen]; simp only [List.length_append]; omega
  refine ⟨?_, ?_⟩
  · unfold hx at e2 ⊢
    rw [e2, hq, stt_add first (a ++ b), ← e1]
  · have e3 : hl (a ++ b) = (a ++ b).drop (64 * ((a ++ b).length / 64)) := rfl
    rw [e3, hq, e1, List.drop_drop, ← e1, Nat.mul_add]

theorem sha_New_eq (k : Nat) : sha_New k = some (HS [], ()) := rfl

/-- What a hasher that holds the text a holds behind s. -/
theorem write2_eq {k : Nat} (hk : 64 < k) {a : List Int} (ha : allIn 0 255 a) {s : ByteArray} (hs : s.size ≤ 140737488354000) (hn : a.length + s.size ≤ 18446744073709551615) (hf : s.size / 64 + 1 < k) :
    sha_Hasher_Write_2 k s (HS a) (hl a) = some (HS (a ++ ofBytes s), hl (a ++ ofBytes s), ()) := by
  unfold sha_Hasher_Write_2 sha_Hasher_Write_2.c
  have h64 := hl_length a
  have hsz := ofBytes_length s
  dsimp only
  rw [cond_true' (ble_of (by omega)), u64_in (n := (s.size : Int)) (by omega)]
  have hw := write_loop k hk (hx_in a) (hx_length a) (left := hl a ++ ofBytes s) (allIn_append (hl_in ha) (ofBytes_in s)) (IntKind.u64.wrap ((a.length : Int) + (s.size : Int))) (fuel := k) (by rw [List.length_append]; omega)
  obtain ⟨e1, e2⟩ := hx_append a (ofBytes s)
  rw [e1, e2, u64_in (by omega)] at hw
  have hw2 : sha_Hasher_Write_2.l0 k k ((hx a, (), IntKind.u64.wrap ((a.length : Int) + (s.size : Int)), ()), hl a ++ ofBytes s, ()) = some ((hx (a ++ ofBytes s), (), (a.length : Int) + (s.size : Int), ()), hl (a ++ ofBytes s), ()) := by
    rw [u64_in (by omega)]; exact hw
  show (sha_Hasher_Write_2.l0 k k ((hx a, (), IntKind.u64.wrap ((a.length : Int) + (s.size : Int)), ()), hl a ++ ofBytes s, ())).bind _ = _
  rw [hw2]
  simp only [Option.bind_some, HS, List.length_append, hsz]
  rw [Int.natCast_add]

theorem write1_eq {k : Nat} (hk : 64 < k) {s : ByteArray} (hs : s.size ≤ 140737488354000) (hf : s.size / 64 + 1 < k) :
    sha_Hasher_Write k s (HS []) = some (HS (ofBytes s), hl (ofBytes s), ()) := by
  unfold sha_Hasher_Write sha_Hasher_Write.c
  have hsz := ofBytes_length s
  dsimp only
  rw [cond_true' (ble_of (by omega)), u64_in (n := (s.size : Int)) (by omega)]
  have hw := write_loop k hk first_in first_length (left := ofBytes s) (ofBytes_in s) (s.size : Int) (fuel := k) (by omega)
  show (sha_Hasher_Write.l0 k k ((first, (), IntKind.u64.wrap (((0 : Nat) : Int) + (s.size : Int)), ()), ofBytes s, ())).bind _ = _
  rw [u64_in (by omega), show (((0 : Nat) : Int) + (s.size : Int)) = (s.size : Int) by omega, hw]
  simp only [Option.bind_some, HS, hx, hl, hsz]

def sumL (a : List Int) : List Int := bytesBE (hx (a ++ padL (a.length : Int)))

theorem clone_eq {k : Nat} (a : List Int) : sha_Hasher_Clone k (HS a) (hl a) = some (HS a, hl a, HS a, hl a, ()) := by
  unfold sha_Hasher_Clone sha_Hasher_Clone.c
  have h64 := hl_length a
  dsimp only
  rw [cond_true' (ble_of (by omega))]

theorem hsum_eq {k : Nat} (hk : 128 < k) {a : List Int} (ha : allIn 0 255 a) (hn : a.length ≤ 18446744073709551000) : sha_Hasher_Sum k (HS a) (hl a) = some (sumL a, HS a, hl a, ()) := by
  unfold sha_Hasher_Sum sha_Hasher_Sum.c
  have hp : (bytesOf (padL (a.length : Int))).size ≤ 80 := by rw [bytesOf_size, padL_length]; have := padZ_lt (a.length : Int); omega
  have hpb : ofBytes (bytesOf (padL (a.length : Int))) = padL (a.length : Int) := ofBytes_bytesOf fun x hx => by have := padL_in (a.length : Int) x hx; omega
  show (sha_Hasher_Clone k (HS a) (hl a)).bind _ = _
  rw [clone_eq]
  simp only [Option.bind_some]
  show (sha_Pad k (a.length : Int)).bind _ = _
  rw [sha_Pad_eq (by omega) (by omega)]
  simp only [Option.bind_some]
  show (sha_Hasher_Write_2 k (bytesOf (padL (a.length : Int))) (HS a) (hl a)).bind _ = _
  rw [write2_eq (by omega) ha (by omega) (by omega) (by omega), hpb]
  simp only [Option.bind_some]
  show (sha_Hasher_Sum.l0 k k (hx (a ++ padL (a.length : Int)), (0 : Int), HS a, hl a, List.replicate 32 0, List.replicate 32 0, ())).bind _ = _
  rw [sum_l0 k (by omega)]
  rfl

theorem sha_Sum_eq {k : Nat} (hk : 128 < k) {s : ByteArray} (hs : s.size ≤ 140737488354000) (hf : s.size / 64 + 1 < k) : sha_Sum k s = some (sumL (ofBytes s), ()) := by
  unfold sha_Sum sha_Sum.c
  rw [sha_New_eq]
  simp only [Option.bind_some]
  show (sha_Hasher_Write k s (HS [])).bind _ = _
  rw [write1_eq (by omega) hs hf]
  simp only [Option.bind_some]
  show (sha_Hasher_Sum k (HS (ofBytes s)) (hl (ofBytes s))).bind _ = _
  rw [hsum_eq hk (ofBytes_in s) (by rw [ofBytes_length]; omega)]
  rfl
end Go.Am
namespace Go.Am
open Go Go.Proofs
set_option maxRecDepth 100000
/-! 6 bedrock/bedrocklaw02.ShaChains -/
abbrev bedrocklaw02_ShaChains.p0.σ : Type := ByteArray × ByteArray × Unit
abbrev bedrocklaw02_ShaChains.p0.τ : Type := (Bool × Unit) ⊕ (ByteArray × ByteArray × Unit)
def bedrocklaw02_ShaChains.p0.r (k : Nat) {ρ : Type} (x : bedrocklaw02_ShaChains.p0.σ) (K : bedrocklaw02_ShaChains.p0.τ → Option ρ) : Option ρ :=
  let v3 : Int := (((ByteArray.size x.2.1) : Nat) : Int)
  bif ((Int.tmod v3 (64 : Int)) != (0 : Int)) then (K (.inl (false, ()))) else (let v4 : Int := (((ByteArray.size x.2.1) : Nat) : Int)
  let v5 : Int := (((ByteArray.size x.1) : Nat) : Int)
  let v6 : Int := (IntKind.wrap IntKind.i64 (v4 - v5))
  bif (decide (v6 < (9 : Int))) then (K (.inl (false, ()))) else (let v7 : Int := (((ByteArray.size x.2.1) : Nat) : Int)
  let v8 : Int := (((ByteArray.size x.1) : Nat) : Int)
  let v9 : Int := (IntKind.wrap IntKind.i64 (v7 - v8))
  bif (decide (v9 > (72 : Int))) then (K (.inl (false, ()))) else (K (.inr (x.1, (x.2.1, ()))))))
def bedrocklaw02_ShaChains.p0 (k : Nat) (x : bedrocklaw02_ShaChains.p0.σ) : Option bedrocklaw02_ShaChains.p0.τ := bedrocklaw02_ShaChains.p0.r k x some
def bedrocklaw02_ShaChains.p0.T : StT := ⟨.dat .str :: us 2 ++ .dat .str :: us 96, []⟩
def bedrocklaw02_ShaChains.p0.os : List Out := [⟨.ret, [.mask [2], .auto 0], ⟨us 2 ++ .dat .bool :: us 97, []⟩⟩, ⟨.normal, [.mask [0, 3], .auto 0], ⟨.dat .str :: us 2 ++ .dat .str :: us 96, []⟩⟩]
abbrev bedrocklaw02_ShaChains.l1.σ : Type := ByteArray × ByteArray × Int × (List Int) × Unit
abbrev bedrocklaw02_ShaChains.l1.τ : Type := (ByteArray × (List Int) × Unit)
def bedrocklaw02_ShaChains.l1.r (k : Nat) {ρ : Type} (x : bedrocklaw02_ShaChains.l1.σ) (kn : bedrocklaw02_ShaChains.l1.σ → Option ρ) (ke : bedrocklaw02_ShaChains.l1.τ → Option ρ) : Option ρ :=
  let v14 : Int := (IntKind.wrap IntKind.i64 (x.2.2.1 + (64 : Int)))
  let v15 : Int := (((ByteArray.size x.2.1) : Nat) : Int)
  bif (decide (v14 ≤ v15)) then (let v16 : List Int := x.2.2.2.1
  let v17 : Int := (IntKind.wrap IntKind.i64 (x.2.2.1 + (64 : Int)))
  bif (decide (((0 : Int) ≤ x.2.2.1) ∧ ((x.2.2.1 ≤ v17) ∧ (v17 ≤ (((ByteArray.size x.2.1) : Nat) : Int))))) then (let v18 : ByteArray := (ByteArray.extract x.2.1 (Int.toNat x.2.2.1) (Int.toNat v17))
  bif (decide (64 ≤ (List.length (ofBytes v18)))) then (let v19 : List Int := (List.take 64 (List.drop 0 (ofBytes v18)))
  (sha_Step k v16 v19).bind fun t20 => let v21 : Int := (IntKind.wrap IntKind.i64 (x.2.2.1 + (64 : Int)))
  kn (x.1, (x.2.1, (v21, (t20.1, ()))))) else (none)) else (none)) else (ke (x.1, (x.2.2.2.1, ())))
def bedrocklaw02_ShaChains.l1 (k : Nat) : Nat → bedrocklaw02_ShaChains.l1.σ → Option bedrocklaw02_ShaChains.l1.τ := loopJ (bedrocklaw02_ShaChains.l1.r k)
def bedrocklaw02_ShaChains.l1.T : StT := ⟨.dat .str :: us 2 ++ .dat .str :: .ptr 0 [] :: .dat (.int .i64) :: us 94, [.dat (.arr 8 (.int .u32))]⟩
def bedrocklaw02_ShaChains.l1.os : List Out := [⟨(.exit 0), [.mask [0, 4], .auto 0], ⟨.dat .str :: us 3 ++ .ptr 0 [] :: us 95, [.dat (.arr 8 (.int .u32))]⟩⟩]
abbrev bedrocklaw02_ShaChains.l2.σ : Type := ByteArray × (List Int) × Int × (List Int) × Unit
abbrev bedrocklaw02_ShaChains.l2.τ : Type := (Bool × Unit) ⊕ (ByteArray × (List Int) × Unit)
def bedrocklaw02_ShaChains.l2.r (k : Nat) {ρ : Type} (x : bedrocklaw02_ShaChains.l2.σ) (kn : bedrocklaw02_ShaChains.l2.σ → Option ρ) (ke : bedrocklaw02_ShaChains.l2.τ → Option ρ) : Option ρ :=
  bif (decide (x.2.2.1 < (8 : Int))) then (bif (decide (((0 : Int) ≤ x.2.2.1) ∧ (x.2.2.1 < ((8 : Nat) : Int)))) then (let v25 : Int := (List.getD x.2.1 (Int.toNat x.2.2.1) (0 : Int))
  let v26 : Int := (IntKind.wrap IntKind.i64 ((4 : Int) * x.2.2.1))
  bif (decide (((0 : Int) ≤ v26) ∧ (v26 < ((32 : Nat) : Int)))) then (let v27 : Int := (List.getD x.2.2.2.1 (Int.toNat v26) (0 : Int))
  let v28 : Int := (shlOp IntKind.u32 (IntKind.wrap IntKind.u32 v27) (24 : Int))
  let v29 : Int := (IntKind.wrap IntKind.i64 ((4 : Int) * x.2.2.1))
  let v30 : Int := (IntKind.wrap IntKind.i64 (v29 + (1 : Int)))
  bif (decide (((0 : Int) ≤ v30) ∧ (v30 < ((32 : Nat) : Int)))) then (let v31 : Int := (List.getD x.2.2.2.1 (Int.toNat v30) (0 : Int))
  let v32 : Int := (shlOp IntKind.u32 (IntKind.wrap IntKind.u32 v31) (16 : Int))
  let v33 : Int := (IntKind.wrap IntKind.i64 ((4 : Int) * x.2.2.1))
  let v34 : Int := (IntKind.wrap IntKind.i64 (v33 + (2 : Int)))
  bif (decide (((0 : Int) ≤ v34) ∧ (v34 < ((32 : Nat) : Int)))) then (let v35 : Int := (List.getD x.2.2.2.1 (Int.toNat v34) (0 : Int))
  let v36 : Int := (shlOp IntKind.u32 (IntKind.wrap IntKind.u32 v35) (8 : Int))
  let v37 : Int := (bitsOp BinOp.or IntKind.u32 (bitsOp BinOp.or IntKind.u32 v28 v32) v36)
  let v38 : Int := (IntKind.wrap IntKind.i64 ((4 : Int) * x.2.2.1))
  let v39 : Int := (IntKind.wrap IntKind.i64 (v38 + (3 : Int)))
  bif (decide (((0 : Int) ≤ v39) ∧ (v39 < ((32 : Nat) : Int)))) then (let v40 : Int := (List.getD x.2.2.2.1 (Int.toNat v39) (0 : Int))
  bif ((bitsOp BinOp.or IntKind.u32 v37 (IntKind.wrap IntKind.u32 v40)) != v25) then (ke (.inl (false, ()))) else (let v41 : Int := (IntKind.wrap IntKind.i64 (x.2.2.1 + (1 : Int)))
  kn (x.1, (x.2.1, (v41, (x.2.2.2.1, ())))))) else (none)) else (none)) else (none)) else (none)) else (none)) else (ke (.inr (x.1, (x.2.2.2.1, ()))))
def bedrocklaw02_ShaChains.l2 (k : Nat) : Nat → bedrocklaw02_ShaChains.l2.σ → Option bedrocklaw02_ShaChains.l2.τ := loopJ (bedrocklaw02_ShaChains.l2.r k)
def bedrocklaw02_ShaChains.l2.T : StT := ⟨.dat .str :: us 5 ++ .ptr 0 [] :: us 50 ++ .dat (.arr 8 (.int .u32)) :: .dat (.int .i64) :: us 41, [.dat (.arr 32 (.int .u8))]⟩
def bedrocklaw02_ShaChains.l2.os : List Out := [⟨.ret, [.mask [2], .auto 0], ⟨us 2 ++ .dat .bool :: us 97, []⟩⟩, ⟨(.exit 2), [.mask [0, 6], .auto 0], ⟨.dat .str :: us 5 ++ .ptr 0 [] :: us 93, [.dat (.arr 32 (.int .u8))]⟩⟩]
def bedrocklaw02_ShaChains.c (k : Nat) {ρ : Type} (s : ByteArray) (K : Bool × Unit → Option ρ) : Option ρ :=
  (bedrocklaw02_awake k ).bind fun t0 => bif (!t0.1) then (K (false, ())) else ((sha_Pad k (IntKind.wrap IntKind.u64 (((ByteArray.size s) : Nat) : Int))).bind fun t1 => bif (Nat.ble ((ByteArray.size s) + (ByteArray.size t1.1)) 9223372036854775807) then (let v2 : ByteArray := (s ++ t1.1)
  (bedrocklaw02_ShaChains.p0 k (s, (v2, ()))).bind fun t10 => (match t10 with | .inl t11 => (K (t11.1, ())) | .inr (t12) => ((sha_First k ).bind fun t13 => (bedrocklaw02_ShaChains.l1 k k (t12.1, (t12.2.1, ((0 : Int), (t13.1, ()))))).bind fun t22 => (sha_Sum k t22.1).bind fun t23 => let v24 : List Int := t22.2.1
  (bedrocklaw02_ShaChains.l2 k k (t22.1, (v24, ((0 : Int), (t23.1, ()))))).bind fun t42 => (match t42 with | .inl t43 => (K (t43.1, ())) | .inr (t44) => ((sha_Twice k t44.1).bind fun t45 => let v46 : ByteArray := (bytesOf (List.take 32 (List.drop 0 t44.2.1)))
  (sha_Sum k v46).bind fun t47 => K ((decide (t45.1 = t47.1)), ())))))) else (none))
def bedrocklaw02_ShaChains (k : Nat) (s : ByteArray) : Option (Bool × Unit) := bedrocklaw02_ShaChains.c k s some
def bedrocklaw02_ShaChains.tin : List Ty := [.str]
def bedrocklaw02_ShaChains.tout : List Ty := [.bool]
def bedrocklaw02_ShaChains.sem (k : Nat) : CallSem := callPure bedrocklaw02_ShaChains.tin bedrocklaw02_ShaChains.tout fun x => bedrocklaw02_ShaChains k x.1
noncomputable def bedrocklaw02_ShaChains.ctx (k : Nat) : Ctx := ⟨Try.prog, gam [(21, (bedrocklaw02_awake.sem k)), (28, (sha_Pad.sem k)), (30, (sha_First.sem k)), (22, (sha_Step.sem k)), (24, (sha_Sum.sem k)), (26, (sha_Twice.sem k))]⟩
theorem bedrocklaw02_ShaChains.gok (k : Nat) : ∀ f, SemOK Try.prog f ((bedrocklaw02_ShaChains.ctx k).Γ f) := (gam_cons (bedrocklaw02_awake.sem_ok k) (gam_cons (sha_Pad.sem_ok k) (gam_cons (sha_First.sem_ok k) (gam_cons (sha_Step.sem_ok k) (gam_cons (sha_Sum.sem_ok k) (gam_cons (sha_Twice.sem_ok k) gam_nil))))))
theorem bedrocklaw02_ShaChains.p0.is (k : Nat) : PieceIs (bedrocklaw02_ShaChains.ctx k) (codeAt (Func.code Try.f6) [1, 1, 1, 0]) (.nil) bedrocklaw02_ShaChains.p0.T bedrocklaw02_ShaChains.p0.os (bedrocklaw02_ShaChains.p0.r k) := by
  intro ρ x K; kernel_rfl
theorem bedrocklaw02_ShaChains.p0.ok (k : Nat) : StOK 0 Try.prog (codeAt (Func.code Try.f6) [1, 1, 1, 0]) (pieceSem bedrocklaw02_ShaChains.p0.T bedrocklaw02_ShaChains.p0.os (bedrocklaw02_ShaChains.p0 k)) :=
  piece_ok (C := bedrocklaw02_ShaChains.ctx k) (T := bedrocklaw02_ShaChains.p0.T) (os := bedrocklaw02_ShaChains.p0.os) (bedrocklaw02_ShaChains.gok k) Try.mix (fun x K => bedrocklaw02_ShaChains.p0.r k x K) AnnOK.nil (by kernel_rfl) (by kernel_rfl) (bedrocklaw02_ShaChains.p0.is k)
theorem bedrocklaw02_ShaChains.l1.round (k : Nat) : RoundIs (bedrocklaw02_ShaChains.ctx k) (codeAt (Func.code Try.f6) [1, 1, 1, 1, 1, 0, 1, 0, 0]) (.nil) bedrocklaw02_ShaChains.l1.T [.mask [0, 3, 4, 5], .auto 0] bedrocklaw02_ShaChains.l1.os (bedrocklaw02_ShaChains.l1.r k) := by
  intro ρ x kn ke; kernel_rfl
theorem bedrocklaw02_ShaChains.l1.ok (k : Nat) : StOK 0 Try.prog (.loop (codeAt (Func.code Try.f6) [1, 1, 1, 1, 1, 0, 1, 0, 0])) (pieceSem bedrocklaw02_ShaChains.l1.T bedrocklaw02_ShaChains.l1.os (bedrocklaw02_ShaChains.l1 k k)) :=
  loop_ok (C := bedrocklaw02_ShaChains.ctx k) (bedrocklaw02_ShaChains.gok k) Try.mix AnnOK.nil (by kernel_rfl) (by kernel_rfl) (by kernel_rfl) (bedrocklaw02_ShaChains.l1.round k) k
theorem bedrocklaw02_ShaChains.l2.round (k : Nat) : RoundIs (bedrocklaw02_ShaChains.ctx k) (codeAt (Func.code Try.f6) [1, 1, 1, 1, 1, 1, 1, 0, 1, 0, 0]) (.nil) bedrocklaw02_ShaChains.l2.T [.mask [0, 6, 57, 58], .auto 0] bedrocklaw02_ShaChains.l2.os (bedrocklaw02_ShaChains.l2.r k) := by
  intro ρ x kn ke; kernel_rfl
theorem bedrocklaw02_ShaChains.l2.ok (k : Nat) : StOK 0 Try.prog (.loop (codeAt (Func.code Try.f6) [1, 1, 1, 1, 1, 1, 1, 0, 1, 0, 0])) (pieceSem bedrocklaw02_ShaChains.l2.T bedrocklaw02_ShaChains.l2.os (bedrocklaw02_ShaChains.l2 k k)) :=
  loop_ok (C := bedrocklaw02_ShaChains.ctx k) (bedrocklaw02_ShaChains.gok k) Try.mix AnnOK.nil (by kernel_rfl) (by kernel_rfl) (by kernel_rfl) (bedrocklaw02_ShaChains.l2.round k) k
def bedrocklaw02_ShaChains.ann (k : Nat) : Ann := .node [] none (.nil) (.node [] none (.nil) (.node [] none (.nil) (.node [] none (.node [] (some (pieceSem bedrocklaw02_ShaChains.p0.T bedrocklaw02_ShaChains.p0.os (bedrocklaw02_ShaChains.p0 k))) .nil .nil) (.node [] none (.nil) (.node [] none (.node [] none (.nil) (.node [] none (.node [.mask [0, 3, 4, 5], .auto 0] (some (pieceSem bedrocklaw02_ShaChains.l1.T bedrocklaw02_ShaChains.l1.os (bedrocklaw02_ShaChains.l1 k k))) .nil .nil) (.nil))) (.node [] none (.nil) (.node [] none (.node [] none (.nil) (.node [] none (.node [.mask [0, 6, 57, 58], .auto 0] (some (pieceSem bedrocklaw02_ShaChains.l2.T bedrocklaw02_ShaChains.l2.os (bedrocklaw02_ShaChains.l2 k k))) .nil .nil) (.nil))) (.nil))))))))
theorem bedrocklaw02_ShaChains.body (k : Nat) : BodyIs (bedrocklaw02_ShaChains.ctx k) Try.f6 (Func.code Try.f6) (bedrocklaw02_ShaChains.ann k) bedrocklaw02_ShaChains.tin bedrocklaw02_ShaChains.tout (fun x K => bedrocklaw02_ShaChains.c k x.1 K) := by
  intro ρ x K; kernel_rfl
theorem bedrocklaw02_ShaChains.sem_ok (k : Nat) : SemOK Try.prog 6 (bedrocklaw02_ShaChains.sem k) :=
  callPure_ok (C := bedrocklaw02_ShaChains.ctx k) (bedrocklaw02_ShaChains.gok k) Try.mix (c := Func.code Try.f6) (ann := bedrocklaw02_ShaChains.ann k) (tin := bedrocklaw02_ShaChains.tin) (tout := bedrocklaw02_ShaChains.tout) (fun x K => bedrocklaw02_ShaChains.c k x.1 K) Try.func6 (by kernel_rfl) (by kernel_rfl) (AnnOK.seq AnnOK.nil (AnnOK.seq AnnOK.nil (AnnOK.seq AnnOK.nil (AnnOK.seq (AnnOK.loop (by kernel_rfl) (bedrocklaw02_ShaChains.p0.ok k)) (AnnOK.seq AnnOK.nil (AnnOK.seq (AnnOK.seq AnnOK.nil (AnnOK.block (AnnOK.loop (by kernel_rfl) (bedrocklaw02_ShaChains.l1.ok k)))) (AnnOK.seq AnnOK.nil (AnnOK.seq (AnnOK.seq AnnOK.nil (AnnOK.block (AnnOK.loop (by kernel_rfl) (bedrocklaw02_ShaChains.l2.ok k)))) AnnOK.nil)))))))) (bedrocklaw02_ShaChains.body k)

end Go.Am
namespace Go.Am
open Go Go.Proofs
set_option maxRecDepth 100000
/-! 35 (*bedrock/sha.Hasher).Write · with blocks -/
abbrev sha_Hasher_Write_3.τ : Type := (Unit)
def sha_Hasher_Write_3.c (k : Nat) {ρ : Type} (s : ByteArray) (K : sha_Hasher_Write_3.τ → Option ρ) : Option ρ :=
  K ()
def sha_Hasher_Write_3 (k : Nat) (s : ByteArray) : Option sha_Hasher_Write_3.τ := sha_Hasher_Write_3.c k s some
def sha_Hasher_Write_3.T : CallT := ⟨[.nilp, .dat .str], [], 0⟩
def sha_Hasher_Write_3.os : List Out := [⟨.ret, [.auto 0], ⟨[], []⟩⟩]
def sha_Hasher_Write_3.sem (k : Nat) : CallSem := callH sha_Hasher_Write_3.T sha_Hasher_Write_3.os fun x => sha_Hasher_Write_3 k x.1
noncomputable def sha_Hasher_Write_3.ctx (k : Nat) : Ctx := ⟨Try.prog, gam []⟩
theorem sha_Hasher_Write_3.gok (k : Nat) : ∀ f, SemOK Try.prog f ((sha_Hasher_Write_3.ctx k).Γ f) := gam_nil
def sha_Hasher_Write_3.ann (k : Nat) : Ann := .nil
theorem sha_Hasher_Write_3.body (k : Nat) : BodyH (sha_Hasher_Write_3.ctx k) Try.f35 (Func.code Try.f35) (sha_Hasher_Write_3.ann k) sha_Hasher_Write_3.T sha_Hasher_Write_3.os (fun x K => sha_Hasher_Write_3.c k x.1 K) := by
  intro ρ x K; kernel_rfl
theorem sha_Hasher_Write_3.sem_ok (k : Nat) : SemOK Try.prog 35 (sha_Hasher_Write_3.sem k) :=
  callH_ok (C := sha_Hasher_Write_3.ctx k) (sha_Hasher_Write_3.gok k) Try.mix (c := Func.code Try.f35) (ann := sha_Hasher_Write_3.ann k) (T := sha_Hasher_Write_3.T) (os := sha_Hasher_Write_3.os) (fun x K => sha_Hasher_Write_3.c k x.1 K) Try.func35 (by kernel_rfl) (by kernel_rfl) AnnOK.nil (sha_Hasher_Write_3.body k) (by kernel_rfl) (by kernel_rfl) (by kernel_rfl)

/-! 36 (*bedrock/sha.Hasher).State · with blocks -/
abbrev sha_Hasher_State.τ : Type := ((List Int) × ByteArray × Unit)
def sha_Hasher_State.c (k : Nat) {ρ : Type}  (K : sha_Hasher_State.τ → Option ρ) : Option ρ :=
  (sha_First k ).bind fun t0 => K (t0.1, ((⟨(List.toArray [])⟩ : ByteArray), ()))
def sha_Hasher_State (k : Nat)  : Option sha_Hasher_State.τ := sha_Hasher_State.c k  some
def sha_Hasher_State.T : CallT := ⟨[.nilp], [], 0⟩
def sha_Hasher_State.os : List Out := [⟨.ret, [.freeze (.slot 0), .freeze (.slot 1), .auto 0], ⟨[.dat (.arr 8 (.int .u32)), .dat .str], []⟩⟩]
def sha_Hasher_State.sem (k : Nat) : CallSem := callH sha_Hasher_State.T sha_Hasher_State.os fun x => sha_Hasher_State k 
noncomputable def sha_Hasher_State.ctx (k : Nat) : Ctx := ⟨Try.prog, gam [(30, (sha_First.sem k))]⟩
theorem sha_Hasher_State.gok (k : Nat) : ∀ f, SemOK Try.prog f ((sha_Hasher_State.ctx k).Γ f) := (gam_cons (sha_First.sem_ok k) gam_nil)
def sha_Hasher_State.ann (k : Nat) : Ann := .nil
theorem sha_Hasher_State.body (k : Nat) : BodyH (sha_Hasher_State.ctx k) Try.f36 (Func.code Try.f36) (sha_Hasher_State.ann k) sha_Hasher_State.T sha_Hasher_State.os (fun x K => sha_Hasher_State.c k  K) := by
  intro ρ x K; kernel_rfl
theorem sha_Hasher_State.sem_ok (k : Nat) : SemOK Try.prog 36 (sha_Hasher_State.sem k) :=
  callH_ok (C := sha_Hasher_State.ctx k) (sha_Hasher_State.gok k) Try.mix (c := Func.code Try.f36) (ann := sha_Hasher_State.ann k) (T := sha_Hasher_State.T) (os := sha_Hasher_State.os) (fun x K => sha_Hasher_State.c k  K) Try.func36 (by kernel_rfl) (by kernel_rfl) AnnOK.nil (sha_Hasher_State.body k) (by kernel_rfl) (by kernel_rfl) (by kernel_rfl)

/-! 37 (*bedrock/sha.Hasher).Len · with blocks -/
abbrev sha_Hasher_Len.τ : Type := (Int × Unit)
def sha_Hasher_Len.c (k : Nat) {ρ : Type}  (K : sha_Hasher_Len.τ → Option ρ) : Option ρ :=
  K ((0 : Int), ())
def sha_Hasher_Len (k : Nat)  : Option sha_Hasher_Len.τ := sha_Hasher_Len.c k  some
def sha_Hasher_Len.T : CallT := ⟨[.nilp], [], 0⟩
def sha_Hasher_Len.os : List Out := [⟨.ret, [.freeze (.slot 0), .auto 0], ⟨[.dat (.int .u64)], []⟩⟩]
def sha_Hasher_Len.sem (k : Nat) : CallSem := callH sha_Hasher_Len.T sha_Hasher_Len.os fun x => sha_Hasher_Len k 
noncomputable def sha_Hasher_Len.ctx (k : Nat) : Ctx := ⟨Try.prog, gam []⟩
theorem sha_Hasher_Len.gok (k : Nat) : ∀ f, SemOK Try.prog f ((sha_Hasher_Len.ctx k).Γ f) := gam_nil
def sha_Hasher_Len.ann (k : Nat) : Ann := .nil
theorem sha_Hasher_Len.body (k : Nat) : BodyH (sha_Hasher_Len.ctx k) Try.f37 (Func.code Try.f37) (sha_Hasher_Len.ann k) sha_Hasher_Len.T sha_Hasher_Len.os (fun x K => sha_Hasher_Len.c k  K) := by
  intro ρ x K; kernel_rfl
theorem sha_Hasher_Len.sem_ok (k : Nat) : SemOK Try.prog 37 (sha_Hasher_Len.sem k) :=
  callH_ok (C := sha_Hasher_Len.ctx k) (sha_Hasher_Len.gok k) Try.mix (c := Func.code Try.f37) (ann := sha_Hasher_Len.ann k) (T := sha_Hasher_Len.T) (os := sha_Hasher_Len.os) (fun x K => sha_Hasher_Len.c k  K) Try.func37 (by kernel_rfl) (by kernel_rfl) AnnOK.nil (sha_Hasher_Len.body k) (by kernel_rfl) (by kernel_rfl) (by kernel_rfl)

/-! 33 (*bedrock/sha.Hasher).Clone · with blocks -/
abbrev sha_Hasher_Clone_2.τ : Type := (((List Int) × (Unit × (Int × Unit))) × ((List Int) × (Unit × (Int × Unit))) × (List Int) × Unit)
def sha_Hasher_Clone_2.c (k : Nat) {ρ : Type} (b0 : ((List Int) × (Unit × (Int × Unit)))) (K : sha_Hasher_Clone_2.τ → Option ρ) : Option ρ :=
  let v0 : List Int := b0.1
  let v1 : Int := b0.2.2.1
  K ((b0.1, ((), (b0.2.2.1, ()))), ((v0, ((), (v1, ()))), ([], ())))
def sha_Hasher_Clone_2 (k : Nat) (b0 : ((List Int) × (Unit × (Int × Unit)))) : Option sha_Hasher_Clone_2.τ := sha_Hasher_Clone_2.c k b0 some
def sha_Hasher_Clone_2.T : CallT := ⟨[.ptr 0 []], [.pair (.dat (.arr 8 (.int .u32))) (.pair (.nils) (.dat (.pair (.int .u64) .unit)))], 1⟩
def sha_Hasher_Clone_2.os : List Out := [⟨.ret, [.auto 1], ⟨[.ptr 1 []], [.pair (.dat (.arr 8 (.int .u32))) (.pair (.nils) (.dat (.pair (.int .u64) .unit))), .pair (.dat (.arr 8 (.int .u32))) (.pair (.vsl 2) (.dat (.pair (.int .u64) .unit))), .vec (.int .u8)]⟩⟩]
def sha_Hasher_Clone_2.sem (k : Nat) : CallSem := callH sha_Hasher_Clone_2.T sha_Hasher_Clone_2.os fun x => sha_Hasher_Clone_2 k x.1
noncomputable def sha_Hasher_Clone_2.ctx (k : Nat) : Ctx := ⟨Try.prog, gam []⟩
theorem sha_Hasher_Clone_2.gok (k : Nat) : ∀ f, SemOK Try.prog f ((sha_Hasher_Clone_2.ctx k).Γ f) := gam_nil
def sha_Hasher_Clone_2.ann (k : Nat) : Ann := .nil
theorem sha_Hasher_Clone_2.body (k : Nat) : BodyH (sha_Hasher_Clone_2.ctx k) Try.f33 (Func.code Try.f33) (sha_Hasher_Clone_2.ann k) sha_Hasher_Clone_2.T sha_Hasher_Clone_2.os (fun x K => sha_Hasher_Clone_2.c k x.1 K) := by
  intro ρ x K; kernel_rfl
theorem sha_Hasher_Clone_2.sem_ok (k : Nat) : SemOK Try.prog 33 (sha_Hasher_Clone_2.sem k) :=
  callH_ok (C := sha_Hasher_Clone_2.ctx k) (sha_Hasher_Clone_2.gok k) Try.mix (c := Func.code Try.f33) (ann := sha_Hasher_Clone_2.ann k) (T := sha_Hasher_Clone_2.T) (os := sha_Hasher_Clone_2.os) (fun x K => sha_Hasher_Clone_2.c k x.1 K) Try.func33 (by kernel_rfl) (by kernel_rfl) AnnOK.nil (sha_Hasher_Clone_2.body k) (by kernel_rfl) (by kernel_rfl) (by kernel_rfl)

/-! 34 (*bedrock/sha.Hasher).Sum · with blocks -/
abbrev sha_Hasher_Sum_3.l1.σ : Type := Int × Int × (List Int) × Int × Int × ((List Int) × (Unit × (Int × Unit))) × (List Int) × (List Int) × Unit
abbrev sha_Hasher_Sum_3.l1.τ : Type := ((List Int) × Int × ((List Int) × (Unit × (Int × Unit))) × (List Int) × (List Int) × Unit)
def sha_Hasher_Sum_3.l1.r (k : Nat) {ρ : Type} (x : sha_Hasher_Sum_3.l1.σ) (kn : sha_Hasher_Sum_3.l1.σ → Option ρ) (ke : sha_Hasher_Sum_3.l1.τ → Option ρ) : Option ρ :=
  bif (decide (x.2.2.2.2.1 < (4 : Int))) then (let v6 : Int := (IntKind.wrap IntKind.i64 ((4 : Int) * x.1))
  let v7 : Int := (IntKind.wrap IntKind.i64 (v6 + x.2.2.2.2.1))
  let v8 : Int := (IntKind.wrap IntKind.i64 ((3 : Int) - x.2.2.2.2.1))
  let v9 : Int := (IntKind.wrap IntKind.i64 ((8 : Int) * v8))
  bif (decide ((0 : Int) ≤ v9)) then (let v10 : Int := (shrOp IntKind.u32 x.2.1 v9)
  bif (decide (((0 : Int) ≤ v7) ∧ (v7 < ((32 : Nat) : Int)))) then (let v11 : Int := (IntKind.wrap IntKind.i64 (x.2.2.2.2.1 + (1 : Int)))
  kn (x.1, (x.2.1, (x.2.2.1, (x.2.2.2.1, (v11, ((x.2.2.2.2.2.1.1, ((), (x.2.2.2.2.2.1.2.2.1, ()))), (x.2.2.2.2.2.2.1, ((List.set x.2.2.2.2.2.2.2.1 (Int.toNat v7) (IntKind.wrap IntKind.u8 v10)), ()))))))))) else (none)) else (none)) else (ke (x.2.2.1, (x.2.2.2.1, ((x.2.2.2.2.2.1.1, ((), (x.2.2.2.2.2.1.2.2.1, ()))), (x.2.2.2.2.2.2.1, (x.2.2.2.2.2.2.2.1, ()))))))
def sha_Hasher_Sum_3.l1 (k : Nat) : Nat → sha_Hasher_Sum_3.l1.σ → Option sha_Hasher_Sum_3.l1.τ := loopJ (sha_Hasher_Sum_3.l1.r k)
def sha_Hasher_Sum_3.l1.T : StT := ⟨us 2 ++ .ptr 1 [] :: us 1 ++ .ptr 2 [] :: .dat (.int .i64) :: .dat (.int .u32) :: us 17 ++ .dat (.arr 8 (.int .u32)) :: .dat (.int .i64) :: us 3 ++ .dat (.int .i64) :: us 16, [.pair (.dat (.arr 8 (.int .u32))) (.pair (.nils) (.dat (.pair (.int .u64) .unit))), .dat (.arr 32 (.int .u8)), .dat (.arr 32 (.int .u8))]⟩
def sha_Hasher_Sum_3.l1.os : List Out := [⟨(.exit 2), [.mask [2, 4, 24, 25], .auto 1], ⟨us 2 ++ .ptr 1 [] :: us 1 ++ .ptr 2 [] :: us 19 ++ .dat (.arr 8 (.int .u32)) :: .dat (.int .i64) :: us 20, [.pair (.dat (.arr 8 (.int .u32))) (.pair (.nils) (.dat (.pair (.int .u64) .unit))), .dat (.arr 32 (.int .u8)), .dat (.arr 32 (.int .u8))]⟩⟩]
abbrev sha_Hasher_Sum_3.l0.σ : Type := (List Int) × Int × ((List Int) × (Unit × (Int × Unit))) × (List Int) × (List Int) × Unit
abbrev sha_Hasher_Sum_3.l0.τ : Type := (((List Int) × (Unit × (Int × Unit))) × (List Int) × (List Int) × Unit)
def sha_Hasher_Sum_3.l0.r (k : Nat) {ρ : Type} (x : sha_Hasher_Sum_3.l0.σ) (kn : sha_Hasher_Sum_3.l0.σ → Option ρ) (ke : sha_Hasher_Sum_3.l0.τ → Option ρ) : Option ρ :=
  bif (decide (x.2.1 < (8 : Int))) then (bif (decide (((0 : Int) ≤ x.2.1) ∧ (x.2.1 < ((8 : Nat) : Int)))) then (let v5 : Int := (List.getD x.1 (Int.toNat x.2.1) (0 : Int))
  (sha_Hasher_Sum_3.l1 k k (x.2.1, (v5, (x.1, (x.2.1, ((0 : Int), ((x.2.2.1.1, ((), (x.2.2.1.2.2.1, ()))), (x.2.2.2.1, (x.2.2.2.2.1, ()))))))))).bind fun t12 => let v13 : Int := (IntKind.wrap IntKind.i64 (t12.2.1 + (1 : Int)))
  kn (t12.1, (v13, ((t12.2.2.1.1, ((), (t12.2.2.1.2.2.1, ()))), (t12.2.2.2.1, (t12.2.2.2.2.1, ())))))) else (none)) else (ke ((x.2.2.1.1, ((), (x.2.2.1.2.2.1, ()))), (x.2.2.2.1, (x.2.2.2.2.1, ()))))
def sha_Hasher_Sum_3.l0 (k : Nat) : Nat → sha_Hasher_Sum_3.l0.σ → Option sha_Hasher_Sum_3.l0.τ := loopJ (sha_Hasher_Sum_3.l0.r k)
def sha_Hasher_Sum_3.l0.T : StT := ⟨us 2 ++ .ptr 1 [] :: us 1 ++ .ptr 2 [] :: us 19 ++ .dat (.arr 8 (.int .u32)) :: .dat (.int .i64) :: us 20, [.pair (.dat (.arr 8 (.int .u32))) (.pair (.nils) (.dat (.pair (.int .u64) .unit))), .dat (.arr 32 (.int .u8)), .dat (.arr 32 (.int .u8))]⟩
def sha_Hasher_Sum_3.l0.os : List Out := [⟨(.exit 0), [.mask [2, 4], .auto 1], ⟨us 2 ++ .ptr 1 [] :: us 1 ++ .ptr 2 [] :: us 41, [.pair (.dat (.arr 8 (.int .u32))) (.pair (.nils) (.dat (.pair (.int .u64) .unit))), .dat (.arr 32 (.int .u8)), .dat (.arr 32 (.int .u8))]⟩⟩]
abbrev sha_Hasher_Sum_3.τ : Type := ((List Int) × ((List Int) × (Unit × (Int × Unit))) × Unit)
def sha_Hasher_Sum_3.c (k : Nat) {ρ : Type} (b0 : ((List Int) × (Unit × (Int × Unit)))) (K : sha_Hasher_Sum_3.τ → Option ρ) : Option ρ :=
  (sha_Hasher_Clone_2 k (b0.1, ((), (b0.2.2.1, ())))).bind fun t0 => let v1 : Int := t0.1.2.2.1
  (sha_Pad k v1).bind fun t2 => (sha_Hasher_Write_2 k t2.1 (t0.2.1.1, ((), (t0.2.1.2.2.1, ()))) t0.2.2.1).bind fun t3 => let v4 : List Int := t3.1.1
  (sha_Hasher_Sum_3.l0 k k (v4, ((0 : Int), ((t0.1.1, ((), (t0.1.2.2.1, ()))), ((List.replicate 32 (0 : Int)), ((List.replicate 32 (0 : Int)), ())))))).bind fun t14 => let v15 : List Int := t14.2.2.1
  K (v15, ((t14.1.1, ((), (t14.1.2.2.1, ()))), ()))
def sha_Hasher_Sum_3 (k : Nat) (b0 : ((List Int) × (Unit × (Int × Unit)))) : Option sha_Hasher_Sum_3.τ := sha_Hasher_Sum_3.c k b0 some
def sha_Hasher_Sum_3.T : CallT := ⟨[.ptr 0 []], [.pair (.dat (.arr 8 (.int .u32))) (.pair (.nils) (.dat (.pair (.int .u64) .unit)))], 1⟩
def sha_Hasher_Sum_3.os : List Out := [⟨.ret, [.freeze (.slot 0), .auto 1], ⟨[.dat (.arr 32 (.int .u8))], [.pair (.dat (.arr 8 (.int .u32))) (.pair (.nils) (.dat (.pair (.int .u64) .unit)))]⟩⟩]
def sha_Hasher_Sum_3.sem (k : Nat) : CallSem := callH sha_Hasher_Sum_3.T sha_Hasher_Sum_3.os fun x => sha_Hasher_Sum_3 k x.1
noncomputable def sha_Hasher_Sum_3.ctx (k : Nat) : Ctx := ⟨Try.prog, gam [(33, (sha_Hasher_Clone_2.sem k)), (28, (sha_Pad.sem k)), (35, (sha_Hasher_Write_2.sem k))]⟩
theorem sha_Hasher_Sum_3.gok (k : Nat) : ∀ f, SemOK Try.prog f ((sha_Hasher_Sum_3.ctx k).Γ f) := (gam_cons (sha_Hasher_Clone_2.sem_ok k) (gam_cons (sha_Pad.sem_ok k) (gam_cons (sha_Hasher_Write_2.sem_ok k) gam_nil)))
theorem sha_Hasher_Sum_3.l1.round (k : Nat) : RoundIs (sha_Hasher_Sum_3.ctx k) (codeAt (Func.code Try.f34) [1, 1, 1, 1, 1, 0, 1, 0, 0, 1, 1, 0, 0, 1, 1, 0, 0]) (.nil) sha_Hasher_Sum_3.l1.T [.mask [2, 4, 5, 6, 24, 25, 29], .auto 1] sha_Hasher_Sum_3.l1.os (sha_Hasher_Sum_3.l1.r k) := by
  intro ρ x kn ke; kernel_rfl
theorem sha_Hasher_Sum_3.l1.ok (k : Nat) : StOK 1 Try.prog (.loop (codeAt (Func.code Try.f34) [1, 1, 1, 1, 1, 0, 1, 0, 0, 1, 1, 0, 0, 1, 1, 0, 0])) (pieceSem sha_Hasher_Sum_3.l1.T sha_Hasher_Sum_3.l1.os (sha_Hasher_Sum_3.l1 k k)) :=
  loop_ok (C := sha_Hasher_Sum_3.ctx k) (sha_Hasher_Sum_3.gok k) Try.mix AnnOK.nil (by kernel_rfl) (by kernel_rfl) (by kernel_rfl) (sha_Hasher_Sum_3.l1.round k) k
theorem sha_Hasher_Sum_3.l0.round (k : Nat) : RoundIs (sha_Hasher_Sum_3.ctx k) (codeAt (Func.code Try.f34) [1, 1, 1, 1, 1, 0, 1, 0, 0]) (.node [] none (.nil) (.node [] none (.nil) (.node [] none (.node [] none (.node [] none (.nil) (.node [] none (.nil) (.node [] none (.node [.mask [2, 4, 5, 6, 24, 25, 29], .auto 1] (some (pieceSem sha_Hasher_Sum_3.l1.T sha_Hasher_Sum_3.l1.os (sha_Hasher_Sum_3.l1 k k))) .nil .nil) (.nil)))) (.nil)) (.nil)))) sha_Hasher_Sum_3.l0.T [.mask [2, 4, 24, 25], .auto 1] sha_Hasher_Sum_3.l0.os (sha_Hasher_Sum_3.l0.r k) := by
  intro ρ x kn ke; kernel_rfl
theorem sha_Hasher_Sum_3.l0.ok (k : Nat) : StOK 1 Try.prog (.loop (codeAt (Func.code Try.f34) [1, 1, 1, 1, 1, 0, 1, 0, 0])) (pieceSem sha_Hasher_Sum_3.l0.T sha_Hasher_Sum_3.l0.os (sha_Hasher_Sum_3.l0 k k)) :=
  loop_ok (C := sha_Hasher_Sum_3.ctx k) (sha_Hasher_Sum_3.gok k) Try.mix (AnnOK.seq AnnOK.nil (AnnOK.seq AnnOK.nil (AnnOK.seq (AnnOK.block (AnnOK.seq AnnOK.nil (AnnOK.seq AnnOK.nil (AnnOK.block (AnnOK.loop (by kernel_rfl) (sha_Hasher_Sum_3.l1.ok k)))))) AnnOK.nil))) (by kernel_rfl) (by kernel_rfl) (by kernel_rfl) (sha_Hasher_Sum_3.l0.round k) k
def sha_Hasher_Sum_3.ann (k : Nat) : Ann := .node [] none (.nil) (.node [] none (.nil) (.node [] none (.nil) (.node [] none (.nil) (.node [] none (.nil) (.node [] none (.node [] none (.nil) (.node [] none (.node [.mask [2, 4, 24, 25], .auto 1] (some (pieceSem sha_Hasher_Sum_3.l0.T sha_Hasher_Sum_3.l0.os (sha_Hasher_Sum_3.l0 k k))) .nil .nil) (.nil))) (.nil))))))
theorem sha_Hasher_Sum_3.body (k : Nat) : BodyH (sha_Hasher_Sum_3.ctx k) Try.f34 (Func.code Try.f34) (sha_Hasher_Sum_3.ann k) sha_Hasher_Sum_3.T sha_Hasher_Sum_3.os (fun x K => sha_Hasher_Sum_3.c k x.1 K) := by
  intro ρ x K; kernel_rfl
theorem sha_Hasher_Sum_3.sem_ok (k : Nat) : SemOK Try.prog 34 (sha_Hasher_Sum_3.sem k) :=
  callH_ok (C := sha_Hasher_Sum_3.ctx k) (sha_Hasher_Sum_3.gok k) Try.mix (c := Func.code Try.f34) (ann := sha_Hasher_Sum_3.ann k) (T := sha_Hasher_Sum_3.T) (os := sha_Hasher_Sum_3.os) (fun x K => sha_Hasher_Sum_3.c k x.1 K) Try.func34 (by kernel_rfl) (by kernel_rfl) (AnnOK.seq AnnOK.nil (AnnOK.seq AnnOK.nil (AnnOK.seq AnnOK.nil (AnnOK.seq AnnOK.nil (AnnOK.seq AnnOK.nil (AnnOK.seq (AnnOK.seq AnnOK.nil (AnnOK.block (AnnOK.loop (by kernel_rfl) (sha_Hasher_Sum_3.l0.ok k)))) AnnOK.nil)))))) (sha_Hasher_Sum_3.body k) (by kernel_rfl) (by kernel_rfl) (by kernel_rfl)

/-! 34 (*bedrock/sha.Hasher).Sum · with blocks -/
abbrev sha_Hasher_Sum_2.τ : Type := ((List Int) × Unit)
def sha_Hasher_Sum_2.c (k : Nat) {ρ : Type}  (K : sha_Hasher_Sum_2.τ → Option ρ) : Option ρ :=
  (sha_New k ).bind fun t0 => (sha_Hasher_Sum_3 k (t0.1.1, ((), (t0.1.2.2.1, ())))).bind fun t1 => K (t1.1, ())
def sha_Hasher_Sum_2 (k : Nat)  : Option sha_Hasher_Sum_2.τ := sha_Hasher_Sum_2.c k  some
def sha_Hasher_Sum_2.T : CallT := ⟨[.nilp], [], 0⟩
def sha_Hasher_Sum_2.os : List Out := [⟨.ret, [.freeze (.slot 0), .auto 0], ⟨[.dat (.arr 32 (.int .u8))], []⟩⟩]
def sha_Hasher_Sum_2.sem (k : Nat) : CallSem := callH sha_Hasher_Sum_2.T sha_Hasher_Sum_2.os fun x => sha_Hasher_Sum_2 k 
noncomputable def sha_Hasher_Sum_2.ctx (k : Nat) : Ctx := ⟨Try.prog, gam [(32, (sha_New.sem k)), (34, (sha_Hasher_Sum_3.sem k))]⟩
theorem sha_Hasher_Sum_2.gok (k : Nat) : ∀ f, SemOK Try.prog f ((sha_Hasher_Sum_2.ctx k).Γ f) := (gam_cons (sha_New.sem_ok k) (gam_cons (sha_Hasher_Sum_3.sem_ok k) gam_nil))
def sha_Hasher_Sum_2.ann (k : Nat) : Ann := .nil
theorem sha_Hasher_Sum_2.body (k : Nat) : BodyH (sha_Hasher_Sum_2.ctx k) Try.f34 (Func.code Try.f34) (sha_Hasher_Sum_2.ann k) sha_Hasher_Sum_2.T sha_Hasher_Sum_2.os (fun x K => sha_Hasher_Sum_2.c k  K) := by
  intro ρ x K; kernel_rfl
theorem sha_Hasher_Sum_2.sem_ok (k : Nat) : SemOK Try.prog 34 (sha_Hasher_Sum_2.sem k) :=
  callH_ok (C := sha_Hasher_Sum_2.ctx k) (sha_Hasher_Sum_2.gok k) Try.mix (c := Func.code Try.f34) (ann := sha_Hasher_Sum_2.ann k) (T := sha_Hasher_Sum_2.T) (os := sha_Hasher_Sum_2.os) (fun x K => sha_Hasher_Sum_2.c k  K) Try.func34 (by kernel_rfl) (by kernel_rfl) AnnOK.nil (sha_Hasher_Sum_2.body k) (by kernel_rfl) (by kernel_rfl) (by kernel_rfl)

/-! 33 (*bedrock/sha.Hasher).Clone · with blocks -/
abbrev sha_Hasher_Clone_3.τ : Type := (Unit)
def sha_Hasher_Clone_3.c (k : Nat) {ρ : Type}  (K : sha_Hasher_Clone_3.τ → Option ρ) : Option ρ :=
  K ()
def sha_Hasher_Clone_3 (k : Nat)  : Option sha_Hasher_Clone_3.τ := sha_Hasher_Clone_3.c k  some
def sha_Hasher_Clone_3.T : CallT := ⟨[.nilp], [], 0⟩
def sha_Hasher_Clone_3.os : List Out := [⟨.ret, [.auto 0], ⟨[.nilp], []⟩⟩]
def sha_Hasher_Clone_3.sem (k : Nat) : CallSem := callH sha_Hasher_Clone_3.T sha_Hasher_Clone_3.os fun x => sha_Hasher_Clone_3 k 
noncomputable def sha_Hasher_Clone_3.ctx (k : Nat) : Ctx := ⟨Try.prog, gam []⟩
theorem sha_Hasher_Clone_3.gok (k : Nat) : ∀ f, SemOK Try.prog f ((sha_Hasher_Clone_3.ctx k).Γ f) := gam_nil
def sha_Hasher_Clone_3.ann (k : Nat) : Ann := .nil
theorem sha_Hasher_Clone_3.body (k : Nat) : BodyH (sha_Hasher_Clone_3.ctx k) Try.f33 (Func.code Try.f33) (sha_Hasher_Clone_3.ann k) sha_Hasher_Clone_3.T sha_Hasher_Clone_3.os (fun x K => sha_Hasher_Clone_3.c k  K) := by
  intro ρ x K; kernel_rfl
theorem sha_Hasher_Clone_3.sem_ok (k : Nat) : SemOK Try.prog 33 (sha_Hasher_Clone_3.sem k) :=
  callH_ok (C := sha_Hasher_Clone_3.ctx k) (sha_Hasher_Clone_3.gok k) Try.mix (c := Func.code Try.f33) (ann := sha_Hasher_Clone_3.ann k) (T := sha_Hasher_Clone_3.T) (os := sha_Hasher_Clone_3.os) (fun x K => sha_Hasher_Clone_3.c k  K) Try.func33 (by kernel_rfl) (by kernel_rfl) AnnOK.nil (sha_Hasher_Clone_3.body k) (by kernel_rfl) (by kernel_rfl) (by kernel_rfl)

/-! 8 bedrock/bedrocklaw02.ShaNil -/
def bedrocklaw02_ShaNil.c (k : Nat) {ρ : Type} (s : ByteArray) (K : Bool × Unit → Option ρ) : Option ρ :=
  (sha_Hasher_Write_3 k s).bind fun t0 => (sha_Hasher_State k ).bind fun t1 => let v2 : List Int := t1.1
  let v3 : ByteArray := t1.2.1
  (bedrocklaw02_awake k ).bind fun t4 => bif t4.1 then ((sha_Hasher_Len k ).bind fun t5 => bif (t5.1 == (0 : Int)) then ((sha_Hasher_Sum_2 k ).bind fun t6 => (bedrockref02_Sum k (⟨(List.toArray [])⟩ : ByteArray)).bind fun t7 => bif (decide (t6.1 = t7.1)) then ((bedrockref02_First k ).bind fun t8 => bif (decide (v2 = t8.1)) then (bif (strEq v3 (⟨(List.toArray [])⟩ : ByteArray)) then ((sha_Hasher_Clone_3 k ).bind fun t9 => K (true, ())) else (K (false, ()))) else (K (false, ()))) else (K (false, ()))) else (K (false, ()))) else (K (false, ()))
def bedrocklaw02_ShaNil (k : Nat) (s : ByteArray) : Option (Bool × Unit) := bedrocklaw02_ShaNil.c k s some
def bedrocklaw02_ShaNil.tin : List Ty := [.str]
def bedrocklaw02_ShaNil.tout : List Ty := [.bool]
def bedrocklaw02_ShaNil.sem (k : Nat) : CallSem := callPure bedrocklaw02_ShaNil.tin bedrocklaw02_ShaNil.tout fun x => bedrocklaw02_ShaNil k x.1
noncomputable def bedrocklaw02_ShaNil.ctx (k : Nat) : Ctx := ⟨Try.prog, gam [(35, (sha_Hasher_Write_3.sem k)), (36, (sha_Hasher_State.sem k)), (21, (bedrocklaw02_awake.sem k)), (37, (sha_Hasher_Len.sem k)), (34, (sha_Hasher_Sum_2.sem k)), (25, (bedrockref02_Sum.sem k)), (31, (bedrockref02_First.sem k)), (33, (sha_Hasher_Clone_3.sem k))]⟩
theorem bedrocklaw02_ShaNil.gok (k : Nat) : ∀ f, SemOK Try.prog f ((bedrocklaw02_ShaNil.ctx k).Γ f) := (gam_cons (sha_Hasher_Write_3.sem_ok k) (gam_cons (sha_Hasher_State.sem_ok k) (gam_cons (bedrocklaw02_awake.sem_ok k) (gam_cons (sha_Hasher_Len.sem_ok k) (gam_cons (sha_Hasher_Sum_2.sem_ok k) (gam_cons (bedrockref02_Sum.sem_ok k) (gam_cons (bedrockref02_First.sem_ok k) (gam_cons (sha_Hasher_Clone_3.sem_ok k) gam_nil))))))))
def bedrocklaw02_ShaNil.ann (k : Nat) : Ann := .nil
theorem bedrocklaw02_ShaNil.body (k : Nat) : BodyIs (bedrocklaw02_ShaNil.ctx k) Try.f8 (Func.code Try.f8) (bedrocklaw02_ShaNil.ann k) bedrocklaw02_ShaNil.tin bedrocklaw02_ShaNil.tout (fun x K => bedrocklaw02_ShaNil.c k x.1 K) := by
  intro ρ x K; kernel_rfl
theorem bedrocklaw02_ShaNil.sem_ok (k : Nat) : SemOK Try.prog 8 (bedrocklaw02_ShaNil.sem k) :=
  callPure_ok (C := bedrocklaw02_ShaNil.ctx k) (bedrocklaw02_ShaNil.gok k) Try.mix (c := Func.code Try.f8) (ann := bedrocklaw02_ShaNil.ann k) (tin := bedrocklaw02_ShaNil.tin) (tout := bedrocklaw02_ShaNil.tout) (fun x K => bedrocklaw02_ShaNil.c k x.1 K) Try.func8 (by kernel_rfl) (by kernel_rfl) AnnOK.nil (bedrocklaw02_ShaNil.body k)

end Go.Am
/- SHA-256: the sum of three letters; the document's sum; the laws. -/
namespace Go.Am
open Go

set_option maxRecDepth 100000 in
theorem abc0 : (sumL [97, 98, 99]).getD 0 0 = 186 := by kernel_rfl
set_option maxRecDepth 100000 in
theorem abc31 : (sumL [97, 98, 99]).getD 31 0 = 173 := by kernel_rfl

theorem abcBytes : ofBytes (⟨(List.toArray [97, 98, 99])⟩ : ByteArray) = [97, 98, 99] := rfl

theorem awake02 {k : Nat} (hk : 128 < k) : bedrocklaw02_awake k = some (true, ()) := by
  unfold bedrocklaw02_awake bedrocklaw02_awake.c
  rw [sha_Sum_eq hk (by decide) (by have : (⟨(List.toArray [97, 98, 99])⟩ : ByteArray).size = 3 := rfl; omega), abcBytes]
  simp only [Option.bind_some]
  rw [abc0, abc31]
  rfl

/-! the document's sum -/
theorem ofBytes_getD (s : ByteArray) (i : Nat) : byteAt s i = (ofBytes s).getD i 0 := byteAt_eq s i

theorem copy64 {l : List Int} {i : Nat} (h : i + 64 ≤ l.length) : (List.range 64).map (fun j => l.getD (i + j) 0) = (l.drop i).take 64 := by
  apply List.ext_getElem
  · simp; omega
  · intro j h1 h2
    simp only [List.length_map, List.length_range] at h1
    simp only [List.getElem_map, List.getElem_range, List.getElem_take, List.getElem_drop, List.getD_eq_getElem?_getD]
    rw [List.getElem?_eq_getElem (by omega)]
    rfl

theorem ref_sum_l1 (k : Nat) (s : ByteArray) {i : Nat} (hi : i + 64 ≤ s.size) (hs : s.size ≤ 9223372036854775807) (x z : List Int) {fuel : Nat} (hf : 64 < fuel) :
    bedrockref02_Sum.l1 k fuel (s, (i : Int), (0 : Int), z, x, List.replicate 64 0, ()) = some (s, (i : Int), z, x, ((ofBytes s).drop i).take 64, ()) := by
  have hl := ofBytes_length s
  have := loop_from0 (r := bedrockref02_Sum.l1.r k) (fun j => (s, (i : Int), (j : Int), z, x, (List.range j).map (fun j => (ofBytes s).getD (i + j) 0) ++ (List.replicate 64 (0 : Int)).drop j, ())) 64 (s, (i : Int), z, x, ((ofBytes s).drop i).take 64, ()) ?_ ?_ hf
  · exact this
  · intro j hj kn ke
    simp only [bedrockref02_Sum.l1.r]
    rw [bif_yes (by omega), i64_in (n := (i : Int) + (j : Int)) (by omega), bif_yes (by omega), bif_yes (by omega), i64_in (n := (j : Int) + 1) (by omega), show ((i : Int) + (j : Int)).toNat = i + j by omega, show (j : Int).toNat = j by omega, ofBytes_getD]
    rw [set_map (f := fun j => (ofBytes s).getD (i + j) 0) (by simp; omega)]
    rfl
  · intro kn ke
    simp only [bedrockref02_Sum.l1.r]
    rw [bif_no (by omega), map_full (by simp), copy64 (by omega)]

theorem ref_Sum_eq {k : Nat} (hk : 128 < k) {s : ByteArray} (hs : s.size ≤ 140737488354000) (hf : s.size / 64 + 2 < k) : bedrockref02_Sum k s = some (sumL (ofBytes s), ()) := by
  unfold bedrockref02_Sum bedrockref02_Sum.c
  have hsz := ofBytes_length s
  have hp : (bytesOf (padL (s.size : Int))).size = 9 + padZ (s.size : Int) := by rw [bytesOf_size, padL_length]
  have hz := padZ_lt (s.size : Int)
  have hpb : ofBytes (bytesOf (padL (s.size : Int))) = padL (s.size : Int) := ofBytes_bytesOf fun x hx => by have := padL_in (s.size : Int) x hx; omega
  dsimp only
  rw [u64_in (n := (s.size : Int)) (by omega), ref_Pad_eq (by omega) (by omega)]
  simp only [Option.bind_some]
  rw [cond_true' (ble_of (by omega)), ref_First_eq]
  simp only [Option.bind_some]
  generalize hv : s ++ bytesOf (padL (s.size : Int)) = v
  have hvl : ofBytes v = ofBytes s ++ padL (s.size : Int) := by rw [← hv, ofBytes_append, hpb]
  have hvs : v.size = s.size + (9 + padZ (s.size : Int)) := by rw [← ofBytes_length, hvl, List.length_append, hsz, padL_length]
  have h64 : (s.size + (9 + padZ (s.size : Int))) % 64 = 0 := by have := padL_64 (n := s.size); rwa [padL_length] at this
  have h0 : bedrockref02_Sum.l0 k k (v, (0 : Int), List.replicate 32 0, first, ()) = some (List.replicate 32 0, stt first (ofBytes v) (v.size / 64), ()) := by
    have := loop_from0 (r := bedrockref02_Sum.l0.r k) (fun i => (v, ((64 * i : Nat) : Int), List.replicate 32 (0 : Int), stt first (ofBytes v) i, ())) (v.size / 64) (List.replicate 32 0, stt first (ofBytes v) (v.size / 64), ()) ?_ ?_ (fuel := k) (by omega)
    · exact this
    · intro i hi kn ke
      simp only [bedrockref02_Sum.l0.r]
      rw [bif_yes (by omega), ref_sum_l1 k v (by omega) (by omega) _ _ (by omega)]
      simp only [Option.bind_some]
      rw [ref_Step_eq (by omega) (stt_in first_in i) (stt_length first_length i) (allIn_take (allIn_drop (ofBytes_in v) _) _) (by rw [List.length_take, List.length_drop, ofBytes_length]; omega)]
      simp only [Option.bind_some]
      rw [i64_in (by omega), show ((64 * i : Nat) : Int) + 64 = ((64 * (i + 1) : Nat) : Int) by omega]
      rfl
    · intro kn ke
      simp only [bedrockref02_Sum.l0.r]
      rw [bif_no (by omega)]
  rw [h0]
  simp only [Option.bind_some]
  rw [ref_Bytes_eq (by omega)]
  simp only [Option.bind_some]
  unfold sumL hx
  rw [hvl, hsz, List.length_append, hsz, padL_length, hvs]

theorem sumL_length (a : List Int) : (sumL a).length = 32 := bytesBE_length _
theorem sumL_in (a : List Int) : allIn 0 255 (sumL a) := bytesBE_in _
theorem sum_bytes (a : List Int) : ofBytes (bytesOf ((((sumL a).drop 0).take 32))) = sumL a := by
  rw [List.drop_zero, List.take_of_length_le (by rw [sumL_length]; omega)]
  exact ofBytes_bytesOf fun x hx => by have := sumL_in a x hx; omega
theorem sum_size (a : List Int) : (bytesOf ((((sumL a).drop 0).take 32))).size = 32 := by
  rw [bytesOf_size]; simp [sumL_length]

theorem sha_Twice_eq {k : Nat} (hk : 128 < k) {s : ByteArray} (hs : s.size ≤ 140737488354000) (hf : s.size / 64 + 1 < k) : sha_Twice k s = some (sumL (sumL (ofBytes s)), ()) := by
  unfold sha_Twice sha_Twice.c
  rw [sha_Sum_eq hk hs hf]
  simp only [Option.bind_some]
  rw [sha_Sum_eq hk (by rw [sum_size]; omega) (by rw [sum_size]; omega), sum_bytes]
  rfl
theorem ref_Twice_eq {k : Nat} (hk : 128 < k) {s : ByteArray} (hs : s.size ≤ 140737488354000) (hf : s.size / 64 + 2 < k) : bedrockref02_Twice k s = some (sumL (sumL (ofBytes s)), ()) := by
  unfold bedrockref02_Twice bedrockref02_Twice.c
  rw [ref_Sum_eq hk hs hf]
  simp only [Option.bind_some]
  rw [ref_Sum_eq hk (by rw [sum_size]; omega) (by rw [sum_size]; omega), sum_bytes]
  rfl

/-! the laws -/
theorem shaSteps_true {x blk : List Int} (hx : allIn 0 4294967295 x) (hxl : x.length = 8) (hb : allIn 0 255 blk) (hlen : blk.length = 64) : bedrocklaw02_ShaSteps 200 x blk = some (true, ()) := by
  unfold bedrocklaw02_ShaSteps bedrocklaw02_ShaSteps.c
  rw [awake02 (by omega), sha_Step_eq (by omega) hx hxl hb hlen, ref_Step_eq (by omega) hx hxl hb hlen]
  simp only [Option.bind_some, cond_true, decide_true]

theorem bits_u64_range (op : BinOp) (x y : Int) (h : op = .and ∨ op = .or ∨ op = .xor) : 0 ≤ bitsOp op .u64 x y ∧ bitsOp op .u64 x y ≤ 18446744073709551615 := by
  rcases h with rfl | rfl | rfl <;> simp only [bitsOp] <;> rw [u64_mod] <;> omega

theorem shaSums_true {s : ByteArray} (hs : s.size ≤ 140737488351232) (n : Int) : bedrocklaw02_ShaSums (s.size + 200) s n = some (true, ()) := by
  unfold bedrocklaw02_ShaSums bedrocklaw02_ShaSums.c
  have hr := bits_u64_range .and n 2305843009213693951 (.inl rfl)
  dsimp only
  rw [awake02 (by omega), sha_Sum_eq (by omega) (by omega) (by omega), ref_Sum_eq (by omega) (by omega) (by omega), sha_Twice_eq (by omega) (by omega) (by omega), ref_Twice_eq (by omega) (by omega) (by omega), sha_Pad_eq (by omega) hr, ref_Pad_eq (by omega) hr, sha_First_eq, ref_First_eq]
  simp only [Option.bind_some, cond_true, decide_true, strEq_self]

/-! a nil hasher -/
theorem sum3_eq {k : Nat} (hk : 128 < k) : sha_Hasher_Sum_3 k (HS []) = some (sumL [], HS [], ()) := by
  unfold sha_Hasher_Sum_3 sha_Hasher_Sum_3.c
  have hpb : ofBytes (bytesOf (padL 0)) = padL 0 := ofBytes_bytesOf fun x hx => by have := padL_in 0 x hx; omega
  show (sha_Hasher_Clone_2 k (HS [])).bind _ = _
  rw [show sha_Hasher_Clone_2 k (HS []) = some (HS [], HS [], [], ()) from rfl]
  simp only [Option.bind_some]
  show (sha_Pad k 0).bind _ = _
  rw [sha_Pad_eq (by omega) (by omega)]
  simp only [Option.bind_some]
  show (sha_Hasher_Write_2 k (bytesOf (padL 0)) (HS []) (hl [])).bind _ = _
  have hp : (bytesOf (padL 0)).size ≤ 80 := by rw [bytesOf_size, padL_length]; have := padZ_lt 0; omega
  rw [write2_eq (by omega) (a := []) (by intro x hx; cases hx) (by omega) (by simp only [List.length_nil]; omega) (by omega), hpb]
  simp only [Option.bind_some]
  have l1 : ∀ (x : List Int) (b0 : List Int × Unit × Int × Unit) (z : List Int) {i : Nat}, i < 8 →
      sha_Hasher_Sum_3.l1 k k ((i : Int), x.getD i 0, x, (i : Int), (0 : Int), b0, z, beZ x (4 * i), ()) = some (x, (i : Int), b0, z, beZ x (4 * (i + 1)), ()) := by
    intro x b0 z i hi
    refine loop_from0 (r := sha_Hasher_Sum_3.l1.r k) (fun j => ((i : Int), x.getD i 0, x, (i : Int), (j : Int), b0, z, beZ x (4 * i + j), ())) 4 _ ?_ ?_ (by omega)
    · intro j hj kn ke
      simp only [sha_Hasher_Sum_3.l1.r]
      rw [bif_yes (by omega), i64_in (n := 4 * (i : Int)) (by omega), i64_in (n := 4 * (i : Int) + (j : Int)) (by omega), i64_in (n := 3 - (j : Int)) (by omega), i64_in (n := 8 * (3 - (j : Int))) (by omega), i64_in (n := (j : Int) + 1) (by omega), bif_yes (by omega), bif_yes (by omega)]
      have e : IntKind.u8.wrap (shrOp .u32 (x.getD i 0) (8 * (3 - (j : Int)))) = beF x (4 * i + j) := by
        unfold beF
        rw [show (4 * i + j) / 4 = i by omega, show (4 * i + j) % 4 = j by omega, show 8 * (3 - (j : Int)) = 24 - 8 * (j : Int) by omega]
      rw [e, show (4 * (i : Int) + (j : Int)).toNat = 4 * i + j by omega, beZ_set x (by omega)]
      rfl
    · intro kn ke
      simp only [sha_Hasher_Sum_3.l1.r]
      rw [bif_no (by omega)]
      rfl
  have l0 : ∀ (x : List Int) (b0 : List Int × Unit × Int × Unit) (z : List Int), sha_Hasher_Sum_3.l0 k k (x, (0 : Int), b0, z, List.replicate 32 0, ()) = some (b0, z, bytesBE x, ()) := by
    intro x b0 z
    refine loop_from0 (r := sha_Hasher_Sum_3.l0.r k) (fun i => (x, (i : Int), b0, z, beZ x (4 * i), ())) 8 _ ?_ ?_ (by omega)
    · intro i hi kn ke
      simp only [sha_Hasher_Sum_3.l0.r]
      rw [bif_yes (by omega), bif_yes (by omega), show (i : Int).toNat = i by omega]
      show (sha_Hasher_Sum_3.l1 k k ((i : Int), x.getD i 0, x, (i : Int), (0 : Int), b0, z, beZ x (4 * i), ())).bind _ = _
      rw [l1 x b0 z hi]
      simp only [Option.bind_some]
      rw [i64_in (by omega)]
      rfl
    · intro kn ke
      simp only [sha_Hasher_Sum_3.l0.r]
      rw [bif_no (by omega)]
      rfl
  show (sha_Hasher_Sum_3.l0 k k (hx ([] ++ padL 0), (0 : Int), HS [], List.replicate 32 0, List.replicate 32 0, ())).bind _ = _
  rw [l0]
  rfl

theorem shaNil_true (s : ByteArray) : bedrocklaw02_ShaNil 200 s = some (true, ()) := by
  unfold bedrocklaw02_ShaNil bedrocklaw02_ShaNil.c
  have e0 : (⟨(List.toArray [])⟩ : ByteArray).size = 0 := rfl
  have e1 : ofBytes (⟨(List.toArray [])⟩ : ByteArray) = [] := rfl
  have h6 : sha_Hasher_Sum_2 200 = some (sumL [], ()) := by
    unfold sha_Hasher_Sum_2 sha_Hasher_Sum_2.c
    rw [sha_New_eq]
    simp only [Option.bind_some]
    show (sha_Hasher_Sum_3 200 (HS [])).bind _ = _
    rw [sum3_eq (by omega)]
    rfl
  rw [show sha_Hasher_Write_3 200 s = some () from rfl, show sha_Hasher_State 200 = some (first, ⟨(List.toArray [])⟩, ()) from rfl, awake02 (by omega), show sha_Hasher_Len 200 = some (0, ()) from rfl, h6, ref_Sum_eq (by omega) (by rw [e0]; omega) (by rw [e0]; omega), e1, ref_First_eq, show sha_Hasher_Clone_3 200 = some () from rfl]
  simp only [Option.bind_some, cond_true, decide_true, strEq_self, beq_self_eq_true]
end Go.Am
/- The program of the seat: strings.Builder and strings.Repeat, laid. -/
namespace Go.Am
open Go Go.Proofs Go.Shelf
set_option maxRecDepth 100000
def Bld.fs : List (Nat × Nat) := [(240, 120), (276, 125), (169, 109), (105, 110), (99, 117), (165, 118), (166, 115), (170, 108), (206, 123), (212, 116), (241, 124), (263, 121), (264, 122), (277, 126)]
def Bld.ts : List (Nat × Nat) := [(72, 130), (70, 128), (164, 153), (37, 46), (127, 145), (20, 20), (46, 47), (51, 32), (53, 22), (75, 142), (76, 143), (109, 146), (146, 149), (148, 151), (80, 90)]
def Bld.look : List (Nat × Nat) → Nat → Nat
  | [], n => n
  | (a, b) :: l, n => if n = a then b else Bld.look l n
def Bld.ren : Ren := ⟨Bld.look Bld.fs, Bld.look Bld.ts, fun n => n⟩
theorem Bld.lays240 : Lays.n240 Try.prog Bld.ren := by
  constructor <;> first | kernel_rfl | (intro w; kernel_rfl)
theorem Bld.lays169 : Lays.n169 Try.prog Bld.ren := by
  constructor <;> first | kernel_rfl | (intro w; kernel_rfl)
theorem Bld.lays105 : Lays.n105 Try.prog Bld.ren := by
  constructor <;> first | kernel_rfl | (intro w; kernel_rfl)
theorem Bld.x72 : Builder.X72 Try.prog Bld.ren where
  sizeBuilder := by kernel_rfl
  liesBuilder := by kernel_rfl
theorem Bld.extra : Builder.Extra Try.prog Bld.ren where
  sizeBuilder := by kernel_rfl
  liesBuilder := by kernel_rfl
  t5 := by kernel_rfl
  a5 := fun w => by kernel_rfl
  z5 := fun w => by kernel_rfl
  v5 := fun w => by kernel_rfl
  infoByte := by kernel_rfl
  cellsByte := by kernel_rfl
  sizeByte := by kernel_rfl
  neB5 := by decide
theorem Bld.copyCheck : SemOK Try.prog 120 (ccSem 132 2) := copyCheck_ok Bld.lays240 Bld.x72 (by kernel_rfl) (by constructor <;> kernel_rfl)
theorem Bld.string : SemOK Try.prog 109 strSem := string_ok Bld.lays169 Bld.extra rfl (by constructor <;> kernel_rfl)
def strings_Repeat (k : Nat) (s : ByteArray) (c : Int) : Option (ByteArray × Unit) := repJ s c
def strings_Repeat.tin : List Ty := [.str, (.int .i64)]
def strings_Repeat.tout : List Ty := [.str]
def strings_Repeat.sem (k : Nat) : CallSem := callPure strings_Repeat.tin strings_Repeat.tout fun x => strings_Repeat k x.1 x.2.1
theorem strings_Repeat.sem_ok (k : Nat) : SemOK Try.prog 110 (strings_Repeat.sem k) :=
  repeat_ok Bld.lays105 Bld.extra (by constructor <;> kernel_rfl)
end Go.Am
namespace Go.Am
open Go Go.Proofs
set_option maxRecDepth 100000
/-! 111 bedrock/sha.Key$1 · with blocks -/
abbrev sha_Key_1.l0.σ : Type := Int × Int × Int × ByteArray × (List Int) × Unit
abbrev sha_Key_1.l0.τ : Type := (ByteArray × (List Int) × Unit)
def sha_Key_1.l0.r (k : Nat) {ρ : Type} (x : sha_Key_1.l0.σ) (kn : sha_Key_1.l0.σ → Option ρ) (ke : sha_Key_1.l0.τ → Option ρ) : Option ρ :=
  bif (decide (x.2.2.1 < x.2.1)) then (bif (decide (((0 : Int) ≤ x.2.2.1) ∧ (x.2.2.1 < (((List.length x.2.2.2.2.1) : Nat) : Int)))) then (let v1 : Int := (List.getD x.2.2.2.2.1 (Int.toNat x.2.2.1) (0 : Int))
  let v2 : Int := (bitsOp BinOp.xor IntKind.u8 v1 x.1)
  bif (decide (((0 : Int) ≤ x.2.2.1) ∧ (x.2.2.1 < (((List.length x.2.2.2.2.1) : Nat) : Int)))) then (let v3 : Int := (IntKind.wrap IntKind.i64 (x.2.2.1 + (1 : Int)))
  kn (x.1, (x.2.1, (v3, (x.2.2.2.1, ((List.set x.2.2.2.2.1 (Int.toNat x.2.2.1) v2), ())))))) else (none)) else (none)) else (ke (x.2.2.2.1, (x.2.2.2.2.1, ())))
def sha_Key_1.l0 (k : Nat) : Nat → sha_Key_1.l0.σ → Option sha_Key_1.l0.τ := loopJ (sha_Key_1.l0.r k)
def sha_Key_1.l0.T : StT := ⟨.dat (.int .u8) :: us 3 ++ .vsl 1 :: us 4 ++ .dat (.int .i64) :: .dat (.int .i64) :: us 12, [.dat .str, .vec (.int .u8)]⟩
def sha_Key_1.l0.os : List Out := [⟨(.exit 0), [.mask [4], .auto 1], ⟨us 4 ++ .vsl 1 :: us 18, [.dat .str, .vec (.int .u8)]⟩⟩]
abbrev sha_Key_1.τ : Type := (ByteArray × ByteArray × Unit)
def sha_Key_1.c (k : Nat) {ρ : Type} (b : Int) (b0 : ByteArray) (K : sha_Key_1.τ → Option ρ) : Option ρ :=
  let v0 : Int := (((List.length (ofBytes b0)) : Nat) : Int)
  (sha_Key_1.l0 k k (b, (v0, ((0 : Int), (b0, ((ofBytes b0), ())))))).bind fun t4 => let v5 : ByteArray := (bytesOf t4.2.1)
  K (v5, (t4.1, ()))
def sha_Key_1 (k : Nat) (b : Int) (b0 : ByteArray) : Option sha_Key_1.τ := sha_Key_1.c k b b0 some
def sha_Key_1.T : CallT := ⟨[.dat (.int .u8), .ptr 0 []], [.dat .str], 1⟩
def sha_Key_1.os : List Out := [⟨.ret, [.freeze (.slot 0), .auto 1], ⟨[.dat .str], [.dat .str]⟩⟩]
def sha_Key_1.sem (k : Nat) : CallSem := callH sha_Key_1.T sha_Key_1.os fun x => sha_Key_1 k x.1 x.2.1
noncomputable def sha_Key_1.ctx (k : Nat) : Ctx := ⟨Try.prog, gam []⟩
theorem sha_Key_1.gok (k : Nat) : ∀ f, SemOK Try.prog f ((sha_Key_1.ctx k).Γ f) := gam_nil
theorem sha_Key_1.l0.round (k : Nat) : RoundIs (sha_Key_1.ctx k) (codeAt (Func.code Try.f111) [1, 1, 0, 1, 0, 0]) (.nil) sha_Key_1.l0.T [.mask [0, 4, 9, 10], .auto 1] sha_Key_1.l0.os (sha_Key_1.l0.r k) := by
  intro ρ x kn ke; kernel_rfl
theorem sha_Key_1.l0.ok (k : Nat) : StOK 1 Try.prog (.loop (codeAt (Func.code Try.f111) [1, 1, 0, 1, 0, 0])) (pieceSem sha_Key_1.l0.T sha_Key_1.l0.os (sha_Key_1.l0 k k)) :=
  loop_ok (C := sha_Key_1.ctx k) (sha_Key_1.gok k) Try.mix AnnOK.nil (by kernel_rfl) (by kernel_rfl) (by kernel_rfl) (sha_Key_1.l0.round k) k
def sha_Key_1.ann (k : Nat) : Ann := .node [] none (.nil) (.node [] none (.nil) (.node [] none (.node [] none (.nil) (.node [] none (.node [.mask [0, 4, 9, 10], .auto 1] (some (pieceSem sha_Key_1.l0.T sha_Key_1.l0.os (sha_Key_1.l0 k k))) .nil .nil) (.nil))) (.nil)))
theorem sha_Key_1.body (k : Nat) : BodyH (sha_Key_1.ctx k) Try.f111 (Func.code Try.f111) (sha_Key_1.ann k) sha_Key_1.T sha_Key_1.os (fun x K => sha_Key_1.c k x.1 x.2.1 K) := by
  intro ρ x K; kernel_rfl
theorem sha_Key_1.sem_ok (k : Nat) : SemOK Try.prog 111 (sha_Key_1.sem k) :=
  callH_ok (C := sha_Key_1.ctx k) (sha_Key_1.gok k) Try.mix (c := Func.code Try.f111) (ann := sha_Key_1.ann k) (T := sha_Key_1.T) (os := sha_Key_1.os) (fun x K => sha_Key_1.c k x.1 x.2.1 K) Try.func111 (by kernel_rfl) (by kernel_rfl) (AnnOK.seq AnnOK.nil (AnnOK.seq AnnOK.nil (AnnOK.seq (AnnOK.seq AnnOK.nil (AnnOK.block (AnnOK.loop (by kernel_rfl) (sha_Key_1.l0.ok k)))) AnnOK.nil))) (sha_Key_1.body k) (by kernel_rfl) (by kernel_rfl) (by kernel_rfl)

/-! 76 bedrock/sha.Key -/
abbrev sha_Key.p0.σ : Type := ByteArray × ByteArray × (List Int) × Unit
abbrev sha_Key.p0.τ : Type := (ByteArray × ByteArray × (List Int) × Unit)
def sha_Key.p0.r (k : Nat) {ρ : Type} (x : sha_Key.p0.σ) (K : sha_Key.p0.τ → Option ρ) : Option ρ :=
  let v0 : ByteArray := x.2.1
  bif (decide ((((ByteArray.size v0) : Nat) : Int) > (64 : Int))) then (let v1 : ByteArray := x.2.1
  (sha_Sum k v1).bind fun t2 => let v3 : ByteArray := (bytesOf (List.take 32 (List.drop 0 t2.1)))
  K (x.1, (v3, (x.2.2.1, ())))) else (K (x.1, (x.2.1, (x.2.2.1, ()))))
def sha_Key.p0 (k : Nat) (x : sha_Key.p0.σ) : Option sha_Key.p0.τ := sha_Key.p0.r k x some
def sha_Key.p0.T : StT := ⟨us 1 ++ .dat .str :: .ptr 0 [] :: us 1 ++ .ptr 1 [] :: us 28, [.dat .str, .dat (.arr 32 (.int .u8))]⟩
def sha_Key.p0.os : List Out := [⟨.normal, [.mask [1, 2, 4], .auto 0], ⟨us 1 ++ .dat .str :: .ptr 0 [] :: us 1 ++ .ptr 1 [] :: us 28, [.dat .str, .dat (.arr 32 (.int .u8))]⟩⟩]
def sha_Key.c (k : Nat) {ρ : Type} (key : ByteArray) (s : ByteArray) (K : (List Int) × Unit → Option ρ) : Option ρ :=
  (sha_Key.p0 k (s, (key, ((List.replicate 32 (0 : Int)), ())))).bind fun t4 => let v5 : ByteArray := t4.2.1
  let v6 : ByteArray := t4.2.1
  let v7 : Int := (IntKind.wrap IntKind.i64 ((64 : Int) - (((ByteArray.size v6) : Nat) : Int)))
  (strings_Repeat k (⟨(List.toArray [0])⟩ : ByteArray) v7).bind fun t8 => bif (Nat.ble ((ByteArray.size v5) + (ByteArray.size t8.1)) 9223372036854775807) then (let v9 : ByteArray := (v5 ++ t8.1)
  (sha_Key_1 k (54 : Int) v9).bind fun t10 => bif (Nat.ble ((ByteArray.size t10.1) + (ByteArray.size t4.1)) 9223372036854775807) then (let v11 : ByteArray := (t10.1 ++ t4.1)
  (sha_Sum k v11).bind fun t12 => (sha_Key_1 k (92 : Int) t10.2.1).bind fun t13 => let v14 : ByteArray := (bytesOf (List.take 32 (List.drop 0 t12.1)))
  bif (Nat.ble ((ByteArray.size t13.1) + (ByteArray.size v14)) 9223372036854775807) then (let v15 : ByteArray := (t13.1 ++ v14)
  (sha_Sum k v15).bind fun t16 => K (t16.1, ())) else (none)) else (none)) else (none)
def sha_Key (k : Nat) (key : ByteArray) (s : ByteArray) : Option ((List Int) × Unit) := sha_Key.c k key s some
def sha_Key.tin : List Ty := [.str, .str]
def sha_Key.tout : List Ty := [(.arr 32 (.int .u8))]
def sha_Key.sem (k : Nat) : CallSem := callPure sha_Key.tin sha_Key.tout fun x => sha_Key k x.1 x.2.1
noncomputable def sha_Key.ctx (k : Nat) : Ctx := ⟨Try.prog, gam [(24, (sha_Sum.sem k)), (110, (strings_Repeat.sem k)), (111, (sha_Key_1.sem k))]⟩
theorem sha_Key.gok (k : Nat) : ∀ f, SemOK Try.prog f ((sha_Key.ctx k).Γ f) := (gam_cons (sha_Sum.sem_ok k) (gam_cons (strings_Repeat.sem_ok k) (gam_cons (sha_Key_1.sem_ok k) gam_nil)))
theorem sha_Key.p0.is (k : Nat) : PieceIs (sha_Key.ctx k) (codeAt (Func.code Try.f76) [1, 0]) (.nil) sha_Key.p0.T sha_Key.p0.os (sha_Key.p0.r k) := by
  intro ρ x K; kernel_rfl
theorem sha_Key.p0.ok (k : Nat) : StOK 0 Try.prog (codeAt (Func.code Try.f76) [1, 0]) (pieceSem sha_Key.p0.T sha_Key.p0.os (sha_Key.p0 k)) :=
  piece_ok (C := sha_Key.ctx k) (T := sha_Key.p0.T) (os := sha_Key.p0.os) (sha_Key.gok k) Try.mix (fun x K => sha_Key.p0.r k x K) AnnOK.nil (by kernel_rfl) (by kernel_rfl) (sha_Key.p0.is k)
def sha_Key.ann (k : Nat) : Ann := .node [] none (.nil) (.node [] none (.node [.mask [1, 2, 4], .auto 0] (some (pieceSem sha_Key.p0.T sha_Key.p0.os (sha_Key.p0 k))) .nil .nil) (.nil))
theorem sha_Key.body (k : Nat) : BodyIs (sha_Key.ctx k) Try.f76 (Func.code Try.f76) (sha_Key.ann k) sha_Key.tin sha_Key.tout (fun x K => sha_Key.c k x.1 x.2.1 K) := by
  intro ρ x K; kernel_rfl
theorem sha_Key.sem_ok (k : Nat) : SemOK Try.prog 76 (sha_Key.sem k) :=
  callPure_ok (C := sha_Key.ctx k) (sha_Key.gok k) Try.mix (c := Func.code Try.f76) (ann := sha_Key.ann k) (tin := sha_Key.tin) (tout := sha_Key.tout) (fun x K => sha_Key.c k x.1 x.2.1 K) Try.func76 (by kernel_rfl) (by kernel_rfl) (AnnOK.seq AnnOK.nil (AnnOK.seq (AnnOK.loop (by kernel_rfl) (sha_Key.p0.ok k)) AnnOK.nil)) (sha_Key.body k)

/-! 77 bedrock/bedrockref02.Key -/
abbrev bedrockref02_Key.p0.σ : Type := ByteArray × ByteArray × (List Int) × Unit
abbrev bedrockref02_Key.p0.τ : Type := (ByteArray × ByteArray × (List Int) × Unit)
def bedrockref02_Key.p0.r (k : Nat) {ρ : Type} (x : bedrockref02_Key.p0.σ) (K : bedrockref02_Key.p0.τ → Option ρ) : Option ρ :=
  let v0 : Int := (((ByteArray.size x.1) : Nat) : Int)
  bif (decide (v0 > (64 : Int))) then ((bedrockref02_Sum k x.1).bind fun t1 => let v2 : ByteArray := (bytesOf (List.take 32 (List.drop 0 t1.1)))
  K (v2, (x.2.1, (x.2.2.1, ())))) else (K (x.1, (x.2.1, (x.2.2.1, ()))))
def bedrockref02_Key.p0 (k : Nat) (x : bedrockref02_Key.p0.σ) : Option bedrockref02_Key.p0.τ := bedrockref02_Key.p0.r k x some
def bedrockref02_Key.p0.T : StT := ⟨.dat .str :: .dat .str :: us 2 ++ .ptr 0 [] :: us 47, [.dat (.arr 32 (.int .u8))]⟩
def bedrockref02_Key.p0.os : List Out := [⟨.normal, [.mask [0, 1, 4], .auto 0], ⟨.dat .str :: .dat .str :: us 2 ++ .ptr 0 [] :: us 47, [.dat (.arr 32 (.int .u8))]⟩⟩]
abbrev bedrockref02_Key.p2.σ : Type := ByteArray × ByteArray × Int × Int × (List Int) × (List Int) × (List Int) × Unit
abbrev bedrockref02_Key.p2.τ : Type := (ByteArray × ByteArray × Int × Int × (List Int) × (List Int) × (List Int) × Unit)
def bedrockref02_Key.p2.r (k : Nat) {ρ : Type} (x : bedrockref02_Key.p2.σ) (K : bedrockref02_Key.p2.τ → Option ρ) : Option ρ :=
  let v4 : Int := (((ByteArray.size x.1) : Nat) : Int)
  bif (decide (x.2.2.1 < v4)) then (bif (decide (((0 : Int) ≤ x.2.2.1) ∧ (x.2.2.1 < (((ByteArray.size x.1) : Nat) : Int)))) then (let v5 : Int := (byteAt x.1 (Int.toNat x.2.2.1))
  K (x.1, (x.2.1, (x.2.2.1, (v5, (x.2.2.2.2.1, (x.2.2.2.2.2.1, (x.2.2.2.2.2.2.1, ())))))))) else (none)) else (K (x.1, (x.2.1, (x.2.2.1, (x.2.2.2.1, (x.2.2.2.2.1, (x.2.2.2.2.2.1, (x.2.2.2.2.2.2.1, ()))))))))
def bedrockref02_Key.p2 (k : Nat) (x : bedrockref02_Key.p2.σ) : Option bedrockref02_Key.p2.τ := bedrockref02_Key.p2.r k x some
def bedrockref02_Key.p2.T : StT := ⟨.dat .str :: .dat .str :: us 2 ++ .ptr 0 [] :: us 1 ++ .vsl 1 :: .vsl 2 :: .dat (.int .i64) :: .dat (.int .u8) :: us 42, [.dat (.arr 32 (.int .u8)), .vec (.int .u8), .vec (.int .u8)]⟩
def bedrockref02_Key.p2.os : List Out := [⟨.normal, [.mask [0, 1, 4, 6, 7, 8, 9], .auto 0], ⟨.dat .str :: .dat .str :: us 2 ++ .ptr 0 [] :: us 1 ++ .vsl 1 :: .vsl 2 :: .dat (.int .i64) :: .dat (.int .u8) :: us 42, [.dat (.arr 32 (.int .u8)), .vec (.int .u8), .vec (.int .u8)]⟩⟩]
abbrev bedrockref02_Key.l1.σ : Type := ByteArray × ByteArray × Int × (List Int) × (List Int) × (List Int) × Unit
abbrev bedrockref02_Key.l1.τ : Type := (ByteArray × (List Int) × (List Int) × (List Int) × Unit)
def bedrockref02_Key.l1.r (k : Nat) {ρ : Type} (x : bedrockref02_Key.l1.σ) (kn : bedrockref02_Key.l1.σ → Option ρ) (ke : bedrockref02_Key.l1.τ → Option ρ) : Option ρ :=
  bif (decide (x.2.2.1 < (64 : Int))) then ((bedrockref02_Key.p2 k (x.1, (x.2.1, (x.2.2.1, ((0 : Int), (x.2.2.2.1, (x.2.2.2.2.1, (x.2.2.2.2.2.1, ())))))))).bind fun t6 => let v7 : Int := (bitsOp BinOp.xor IntKind.u8 t6.2.2.2.1 (54 : Int))
  bif (Nat.ble (((List.length t6.2.2.2.2.2.1) + (List.length (List.set (List.replicate 1 (0 : Int)) 0 v7))) * 1) 140737488355328) then (let v8 : Int := (bitsOp BinOp.xor IntKind.u8 t6.2.2.2.1 (92 : Int))
  bif (Nat.ble (((List.length t6.2.2.2.2.2.2.1) + (List.length (List.set (List.replicate 1 (0 : Int)) 0 v8))) * 1) 140737488355328) then (let v9 : Int := (IntKind.wrap IntKind.i64 (t6.2.2.1 + (1 : Int)))
  kn (t6.1, (t6.2.1, (v9, (t6.2.2.2.2.1, ((t6.2.2.2.2.2.1 ++ (List.set (List.replicate 1 (0 : Int)) 0 v7)), ((t6.2.2.2.2.2.2.1 ++ (List.set (List.replicate 1 (0 : Int)) 0 v8)), ()))))))) else (none)) else (none)) else (ke (x.2.1, (x.2.2.2.1, (x.2.2.2.2.1, (x.2.2.2.2.2.1, ())))))
def bedrockref02_Key.l1 (k : Nat) : Nat → bedrockref02_Key.l1.σ → Option bedrockref02_Key.l1.τ := loopJ (bedrockref02_Key.l1.r k)
def bedrockref02_Key.l1.T : StT := ⟨.dat .str :: .dat .str :: us 2 ++ .ptr 0 [] :: us 1 ++ .vsl 1 :: .vsl 2 :: .dat (.int .i64) :: us 43, [.dat (.arr 32 (.int .u8)), .vec (.int .u8), .vec (.int .u8)]⟩
def bedrockref02_Key.l1.os : List Out := [⟨(.exit 0), [.mask [1, 4, 6, 7], .auto 0], ⟨us 1 ++ .dat .str :: us 2 ++ .ptr 0 [] :: us 1 ++ .vsl 1 :: .vsl 2 :: us 44, [.dat (.arr 32 (.int .u8)), .vec (.int .u8), .vec (.int .u8)]⟩⟩]
def bedrockref02_Key.c (k : Nat) {ρ : Type} (key : ByteArray) (s : ByteArray) (K : (List Int) × Unit → Option ρ) : Option ρ :=
  (bedrockref02_Key.p0 k (key, (s, ((List.replicate 32 (0 : Int)), ())))).bind fun t3 => (bedrockref02_Key.l1 k k (t3.1, (t3.2.1, ((0 : Int), (t3.2.2.1, ((List.replicate 0 (0 : Int)), ((List.replicate 0 (0 : Int)), ()))))))).bind fun t10 => let v11 : ByteArray := (bytesOf t10.2.2.1)
  bif (Nat.ble ((ByteArray.size v11) + (ByteArray.size t10.1)) 9223372036854775807) then (let v12 : ByteArray := (v11 ++ t10.1)
  (bedrockref02_Sum k v12).bind fun t13 => let v14 : ByteArray := (bytesOf t10.2.2.2.1)
  let v15 : ByteArray := (bytesOf (List.take 32 (List.drop 0 t13.1)))
  bif (Nat.ble ((ByteArray.size v14) + (ByteArray.size v15)) 9223372036854775807) then (let v16 : ByteArray := (v14 ++ v15)
  (bedrockref02_Sum k v16).bind fun t17 => K (t17.1, ())) else (none)) else (none)
def bedrockref02_Key (k : Nat) (key : ByteArray) (s : ByteArray) : Option ((List Int) × Unit) := bedrockref02_Key.c k key s some
def bedrockref02_Key.tin : List Ty := [.str, .str]
def bedrockref02_Key.tout : List Ty := [(.arr 32 (.int .u8))]
def bedrockref02_Key.sem (k : Nat) : CallSem := callPure bedrockref02_Key.tin bedrockref02_Key.tout fun x => bedrockref02_Key k x.1 x.2.1
noncomputable def bedrockref02_Key.ctx (k : Nat) : Ctx := ⟨Try.prog, gam [(25, (bedrockref02_Sum.sem k))]⟩
theorem bedrockref02_Key.gok (k : Nat) : ∀ f, SemOK Try.prog f ((bedrockref02_Key.ctx k).Γ f) := (gam_cons (bedrockref02_Sum.sem_ok k) gam_nil)
theorem bedrockref02_Key.p0.is (k : Nat) : PieceIs (bedrockref02_Key.ctx k) (codeAt (Func.code Try.f77) [1, 0]) (.nil) bedrockref02_Key.p0.T bedrockref02_Key.p0.os (bedrockref02_Key.p0.r k) := by
  intro ρ x K; kernel_rfl
theorem bedrockref02_Key.p0.ok (k : Nat) : StOK 0 Try.prog (codeAt (Func.code Try.f77) [1, 0]) (pieceSem bedrockref02_Key.p0.T bedrockref02_Key.p0.os (bedrockref02_Key.p0 k)) :=
  piece_ok (C := bedrockref02_Key.ctx k) (T := bedrockref02_Key.p0.T) (os := bedrockref02_Key.p0.os) (bedrockref02_Key.gok k) Try.mix (fun x K => bedrockref02_Key.p0.r k x K) AnnOK.nil (by kernel_rfl) (by kernel_rfl) (bedrockref02_Key.p0.is k)
theorem bedrockref02_Key.p2.is (k : Nat) : PieceIs (bedrockref02_Key.ctx k) (codeAt (Func.code Try.f77) [1, 1, 1, 0, 1, 0, 0, 1, 0, 0, 1, 0]) (.nil) bedrockref02_Key.p2.T bedrockref02_Key.p2.os (bedrockref02_Key.p2.r k) := by
  intro ρ x K; kernel_rfl
theorem bedrockref02_Key.p2.ok (k : Nat) : StOK 0 Try.prog (codeAt (Func.code Try.f77) [1, 1, 1, 0, 1, 0, 0, 1, 0, 0, 1, 0]) (pieceSem bedrockref02_Key.p2.T bedrockref02_Key.p2.os (bedrockref02_Key.p2 k)) :=
  piece_ok (C := bedrockref02_Key.ctx k) (T := bedrockref02_Key.p2.T) (os := bedrockref02_Key.p2.os) (bedrockref02_Key.gok k) Try.mix (fun x K => bedrockref02_Key.p2.r k x K) AnnOK.nil (by kernel_rfl) (by kernel_rfl) (bedrockref02_Key.p2.is k)
theorem bedrockref02_Key.l1.round (k : Nat) : RoundIs (bedrockref02_Key.ctx k) (codeAt (Func.code Try.f77) [1, 1, 1, 0, 1, 0, 0]) (.node [] none (.nil) (.node [] none (.node [] none (.node [] none (.nil) (.node [] none (.node [.mask [0, 1, 4, 6, 7, 8, 9], .auto 0] (some (pieceSem bedrockref02_Key.p2.T bedrockref02_Key.p2.os (bedrockref02_Key.p2 k))) .nil .nil) (.nil))) (.nil)) (.nil))) bedrockref02_Key.l1.T [.mask [0, 1, 4, 6, 7, 8], .auto 0] bedrockref02_Key.l1.os (bedrockref02_Key.l1.r k) := by
  intro ρ x kn ke; kernel_rfl
theorem bedrockref02_Key.l1.ok (k : Nat) : StOK 0 Try.prog (.loop (codeAt (Func.code Try.f77) [1, 1, 1, 0, 1, 0, 0])) (pieceSem bedrockref02_Key.l1.T bedrockref02_Key.l1.os (bedrockref02_Key.l1 k k)) :=
  loop_ok (C := bedrockref02_Key.ctx k) (bedrockref02_Key.gok k) Try.mix (AnnOK.seq AnnOK.nil (AnnOK.seq (AnnOK.block (AnnOK.seq AnnOK.nil (AnnOK.seq (AnnOK.loop (by kernel_rfl) (bedrockref02_Key.p2.ok k)) AnnOK.nil))) AnnOK.nil)) (by kernel_rfl) (by kernel_rfl) (by kernel_rfl) (bedrockref02_Key.l1.round k) k
def bedrockref02_Key.ann (k : Nat) : Ann := .node [] none (.nil) (.node [] none (.node [.mask [0, 1, 4], .auto 0] (some (pieceSem bedrockref02_Key.p0.T bedrockref02_Key.p0.os (bedrockref02_Key.p0 k))) .nil .nil) (.node [] none (.nil) (.node [] none (.node [] none (.nil) (.node [] none (.node [.mask [0, 1, 4, 6, 7, 8], .auto 0] (some (pieceSem bedrockref02_Key.l1.T bedrockref02_Key.l1.os (bedrockref02_Key.l1 k k))) .nil .nil) (.nil))) (.nil))))
theorem bedrockref02_Key.body (k : Nat) : BodyIs (bedrockref02_Key.ctx k) Try.f77 (Func.code Try.f77) (bedrockref02_Key.ann k) bedrockref02_Key.tin bedrockref02_Key.tout (fun x K => bedrockref02_Key.c k x.1 x.2.1 K) := by
  intro ρ x K; kernel_rfl
theorem bedrockref02_Key.sem_ok (k : Nat) : SemOK Try.prog 77 (bedrockref02_Key.sem k) :=
  callPure_ok (C := bedrockref02_Key.ctx k) (bedrockref02_Key.gok k) Try.mix (c := Func.code Try.f77) (ann := bedrockref02_Key.ann k) (tin := bedrockref02_Key.tin) (tout := bedrockref02_Key.tout) (fun x K => bedrockref02_Key.c k x.1 x.2.1 K) Try.func77 (by kernel_rfl) (by kernel_rfl) (AnnOK.seq AnnOK.nil (AnnOK.seq (AnnOK.loop (by kernel_rfl) (bedrockref02_Key.p0.ok k)) (AnnOK.seq AnnOK.nil (AnnOK.seq (AnnOK.seq AnnOK.nil (AnnOK.block (AnnOK.loop (by kernel_rfl) (bedrockref02_Key.l1.ok k)))) AnnOK.nil)))) (bedrockref02_Key.body k)

/-! 14 bedrock/bedrocklaw02.ShaKeys -/
def bedrocklaw02_ShaKeys.c (k : Nat) {ρ : Type} (key : ByteArray) (s : ByteArray) (K : Bool × Unit → Option ρ) : Option ρ :=
  (bedrocklaw02_awake k ).bind fun t0 => bif t0.1 then ((sha_Key k key s).bind fun t1 => (bedrockref02_Key k key s).bind fun t2 => K ((decide (t1.1 = t2.1)), ())) else (K (false, ()))
def bedrocklaw02_ShaKeys (k : Nat) (key : ByteArray) (s : ByteArray) : Option (Bool × Unit) := bedrocklaw02_ShaKeys.c k key s some
def bedrocklaw02_ShaKeys.tin : List Ty := [.str, .str]
def bedrocklaw02_ShaKeys.tout : List Ty := [.bool]
def bedrocklaw02_ShaKeys.sem (k : Nat) : CallSem := callPure bedrocklaw02_ShaKeys.tin bedrocklaw02_ShaKeys.tout fun x => bedrocklaw02_ShaKeys k x.1 x.2.1
noncomputable def bedrocklaw02_ShaKeys.ctx (k : Nat) : Ctx := ⟨Try.prog, gam [(21, (bedrocklaw02_awake.sem k)), (76, (sha_Key.sem k)), (77, (bedrockref02_Key.sem k))]⟩
theorem bedrocklaw02_ShaKeys.gok (k : Nat) : ∀ f, SemOK Try.prog f ((bedrocklaw02_ShaKeys.ctx k).Γ f) := (gam_cons (bedrocklaw02_awake.sem_ok k) (gam_cons (sha_Key.sem_ok k) (gam_cons (bedrockref02_Key.sem_ok k) gam_nil)))
def bedrocklaw02_ShaKeys.ann (k : Nat) : Ann := .nil
theorem bedrocklaw02_ShaKeys.body (k : Nat) : BodyIs (bedrocklaw02_ShaKeys.ctx k) Try.f14 (Func.code Try.f14) (bedrocklaw02_ShaKeys.ann k) bedrocklaw02_ShaKeys.tin bedrocklaw02_ShaKeys.tout (fun x K => bedrocklaw02_ShaKeys.c k x.1 x.2.1 K) := by
  intro ρ x K; kernel_rfl
theorem bedrocklaw02_ShaKeys.sem_ok (k : Nat) : SemOK Try.prog 14 (bedrocklaw02_ShaKeys.sem k) :=
  callPure_ok (C := bedrocklaw02_ShaKeys.ctx k) (bedrocklaw02_ShaKeys.gok k) Try.mix (c := Func.code Try.f14) (ann := bedrocklaw02_ShaKeys.ann k) (tin := bedrocklaw02_ShaKeys.tin) (tout := bedrocklaw02_ShaKeys.tout) (fun x K => bedrocklaw02_ShaKeys.c k x.1 x.2.1 K) Try.func14 (by kernel_rfl) (by kernel_rfl) AnnOK.nil (bedrocklaw02_ShaKeys.body k)

end Go.Am
