/- A part of a proof: a machine of abstract values that tells what functions of the program compute, and the plain facts on them. -/
import Derived.Test.YtpcjmcpghhmidaaAm11
set_option linter.unusedVariables false
set_option linter.unusedSimpArgs false
set_option linter.unnecessarySimpa false
set_option linter.unusedSectionVars false
namespace Go.Am
open Go
def kc : List Int := [1116352408, 1899447441, 3049323471, 3921009573, 961987163, 1508970993, 2453635748, 2870763221, 3624381080, 310598401, 607225278, 1426881987, 1925078388, 2162078206, 2614888103, 3248222580, 3835390401, 4022224774, 264347078, 604807628, 770255983, 1249150122, 1555081692, 1996064986, 2554220882, 2821834349, 2952996808, 3210313671, 3336571891, 3584528711, 113926993, 338241895, 666307205, 773529912, 1294757372, 1396182291, 1695183700, 1986661051, 2177026350, 2456956037, 2730485921, 2820302411, 3259730800, 3345764771, 3516065817, 3600352804, 4094571909, 275423344, 430227734, 506948616, 659060556, 883997877, 958139571, 1322822218, 1537002063, 1747873779, 1955562222, 2024104815, 2227730452, 2361852424, 2428436474, 2756734187, 3204031479, 3329325298]
theorem Q7m {α : Type} {f : Nat → α} {y : List α} {i : Nat} (hi : i < y.length) : ((List.range i).map f ++ y.drop i).set i (f i) = (List.range (i + 1)).map f ++ y.drop (i + 1) := by
 rw [List.set_append_right _ _ (by simp)]
 simp only [List.length_map, List.length_range, Nat.sub_self]
 rw [List.drop_eq_getElem_cons hi, List.set_cons_zero, List.range_succ, List.map_append]
 simp
theorem Qcs {α : Type} {f : Nat → α} {y : List α} {i : Nat} (d : α) : ((List.range i).map f ++ y.drop i).getD i d = y.getD i d := by
 rw [List.getD_eq_getElem?_getD, List.getElem?_append_right (by simp)]
 simp [List.getD_eq_getElem?_getD]
theorem Q7B {α : Type} {f : Nat → α} {y : List α} {n : Nat} (h : y.length ≤ n) : (List.range n).map f ++ y.drop n = (List.range n).map f := by
 rw [List.drop_eq_nil_of_le h]; simp
def rotr (x n : Int) : Int := Qw .or .u32 (Q10 .u32 x n) (Q1H .u32 x (32 - n))
theorem Q1J (k : Nat) (x : Int) {n : Int} (h : 0 ≤ n ∧ n ≤ 32) : Qq k x n = some (rotr x n, ()) := by
 unfold Qq Qq.c
 rw [i64_in (n := 32 - n) (by omega)]
 dsimp only
 rw [QF h.1, QF (by omega)]
 rfl
theorem QbA (n : Nat) (h : n < 18446744073709551616) : Qw .and .u64 (n : Int) (31 : Int) = ((n % 32 : Nat) : Int) := by
 show IntKind.u64.wrap (((BitVec.ofInt 64 (n : Int) &&& BitVec.ofInt 64 ((31 : Nat) : Int) : BitVec 64).toNat : Nat) : Int) = _
 rw [BitVec.toNat_and, toNat_ofInt 64 n (by simpa using h), toNat_ofInt 64 31 (by decide)]
 rw [show (31 : Nat) = 2 ^ 5 - 1 from rfl, Nat.and_two_pow_sub_one_eq_mod]
 exact u64_in (by omega)
theorem Q0G (k : Nat) (x : Int) {n : Int} (h : 0 < n ∧ n < 32) : QU k x n = some (rotr x n, ()) := by
 unfold QU QU.c Qo Qo.c
 rw [i64_in (n := 0 - n) (by omega)]
 dsimp only
 have e : IntKind.u64.wrap (0 - n) = (((18446744073709551616 - n).toNat : Nat) : Int) := by rw [Q3e]; omega
 rw [e, QbA _ (by omega)]
 have e2 : (((18446744073709551616 - n).toNat % 32 : Nat) : Int) = 32 - n := by omega
 rw [e2, u64_in (n := 32 - (32 - n)) (by omega), show (32 : Int) - (32 - n) = n by omega]
 rw [QF (by omega), QF (by omega)]
 simp only [Option.bind_some]
 rw [Q5M]
 rfl
def part (blk : List Int) (i : Nat) : Nat → Int
 | 0 => 0
 | j + 1 => part blk i j * 256 + blk.getD (4 * i + j) 0
def Q0L (lo hi : Int) (l : List Int) : Prop := ∀ x ∈ l, lo ≤ x ∧ x ≤ hi
theorem Q1l {lo hi : Int} {l : List Int} (h : Q0L lo hi l) (h0 : lo ≤ 0 ∧ 0 ≤ hi) (i : Nat) : lo ≤ l.getD i 0 ∧ l.getD i 0 ≤ hi := by
 rw [List.getD_eq_getElem?_getD]
 cases hi' : l[i]? with
 | none => simpa using h0
 | some x => exact h x (List.mem_of_getElem? hi')
theorem Q8a {blk : List Int} (hb : Q0L 0 255 blk) (i : Nat) : ∀ j, 0 ≤ part blk i j ∧ part blk i j < 256 ^ j
 | 0 => by simp [part]
 | j + 1 => by
  have ih := Q8a hb i j
  have hx := Q1l hb (by omega) (4 * i + j)
  simp only [part, Int.pow_succ]
  have : part blk i j + 1 ≤ 256 ^ j := by omega
  omega
def sig1 (x : Int) : Int := Qw .xor .u32 (Qw .xor .u32 (rotr x 17) (rotr x 19)) (Q10 .u32 x 10)
def sig0 (x : Int) : Int := Qw .xor .u32 (Qw .xor .u32 (rotr x 7) (rotr x 18)) (Q10 .u32 x 3)
def ext (w : List Int) (t : Nat) : Int :=
 IntKind.u32.wrap (IntKind.u32.wrap (IntKind.u32.wrap (sig1 (w.getD (t - 2) 0) + w.getD (t - 7) 0) + sig0 (w.getD (t - 15) 0)) + w.getD (t - 16) 0)
def wl (blk : List Int) : Nat → List Int
 | 0 => []
 | n + 1 => wl blk n ++ [if n < 16 then part blk n 4 else ext (wl blk n) n]
theorem Q2d (blk : List Int) : ∀ n, (wl blk n).length = n
 | 0 => rfl
 | n + 1 => by simp [wl, Q2d blk n]
def wz (blk : List Int) (n : Nat) : List Int := wl blk n ++ List.replicate (64 - n) 0
theorem Q9U (blk : List Int) {n : Nat} (h : n < 64) (v : Int) (hv : v = if n < 16 then part blk n 4 else ext (wl blk n) n) : (wz blk n).set n v = wz blk (n + 1) := by
 unfold wz
 rw [List.set_append_right _ _ (by rw [Q2d]; omega), Q2d, Nat.sub_self, show 64 - n = (64 - (n + 1)) + 1 by omega, List.replicate_succ, List.set_cons_zero, wl, hv]
 simp
theorem Q4u (blk : List Int) {n i : Nat} (h : i < n) : (wz blk n).getD i 0 = (wl blk n).getD i 0 := by
 unfold wz
 rw [List.getD_eq_getElem?_getD, List.getD_eq_getElem?_getD, List.getElem?_append_left (by rw [Q2d]; exact h)]
theorem Qez (blk : List Int) {n : Nat} : (wz blk n).getD n 0 = 0 := by
 unfold wz
 rw [List.getD_eq_getElem?_getD, List.getElem?_append_right (by rw [Q2d]; omega), Q2d, Nat.sub_self]
 cases h : 64 - n <;> simp [List.replicate_succ]
theorem QcT (blk : List Int) {n : Nat} (h : n ≤ 64) : (wz blk n).length = 64 := by
 simp [wz, Q2d]; omega
theorem Qex {x b : Int} (hx : 0 ≤ x ∧ x < 16777216) (hb : 0 ≤ b ∧ b ≤ 255) : Qw .or .u32 (Q1H .u32 x 8) (IntKind.u32.wrap b) = x * 256 + b := by
 rw [Q3M (n := b) (by omega), show (8 : Int) = ((8 : Nat) : Int) from rfl, Q7q x (by omega)]
 obtain ⟨X, rfl⟩ := Int.eq_ofNat_of_zero_le hx.1
 obtain ⟨B, rfl⟩ := Int.eq_ofNat_of_zero_le hb.1
 have : ((X : Int) * 2 ^ 8) % 4294967296 = ((X * 2 ^ 8 : Nat) : Int) := by simp; omega
 rw [this, Q3V (by omega) (by omega)]
 omega
theorem Qde (k : Nat) {blk : List Int} (hb : Q0L 0 255 blk) (hlen : blk.length = 64) {i : Nat} (hi : i < 16) (z : List Int) {fuel : Nat} (hf : 4 < fuel) :
  Qf.l1 k fuel ((i : Int), (i : Int), (4 * i, 4), (4 : Int), (0 : Int), blk, z, wz blk i, ()) = some ((i : Int), blk, z, wz blk (i + 1), ()) := by
 have h0 : (wz blk i).set i 0 = wz blk i := by
  have := Qez blk (n := i)
  apply List.ext_getElem?
  intro j
  rw [List.getElem?_set]
  split
  ·rename_i e
   subst e
   split
   ·rename_i hlt
    rw [List.getD_eq_getElem?_getD, List.getElem?_eq_getElem hlt] at this
    simp only [Option.getD_some] at this
    rw [List.getElem?_eq_getElem hlt, this]
   ·rename_i hlt
    rw [List.getElem?_eq_none (by omega)]
  ·rfl
 have := Q0f (r := Qf.l1.r k) (fun j => ((i : Int), (i : Int), (4 * i, 4), (4 : Int), (j : Int), blk, z, (wz blk i).set i (part blk i j), ())) 4 ((i : Int), blk, z, wz blk (i + 1), ()) ?_ ?_ hf
 ·rw [part, h0] at this
  exact this
 ·intro j hj kn ke
  simp only [Qf.l1.r]
  rw [QF (by omega), QF (by omega), QF (by omega)]
  rw [QF (by omega), i64_in (by omega), show (i : Int).toNat = i by omega, show (j : Int).toNat = j by omega]
  have hlt : i < (wz blk i).length := by rw [QcT blk (by omega)]; omega
  have e1 : ((wz blk i).set i (part blk i j)).getD i 0 = part blk i j := by
   rw [List.getD_eq_getElem?_getD, List.getElem?_set_self hlt]; rfl
  have hp := Q8a hb i j
  have hp3 : (256 : Int) ^ j ≤ 16777216 := by
   have : j = 0 ∨ j = 1 ∨ j = 2 ∨ j = 3 := by omega
   rcases this with rfl | rfl | rfl | rfl <;> decide
  rw [e1, Qex (by omega) (Q1l hb (by omega) _), List.set_set]
  rfl
 ·intro kn ke
  simp only [Qf.l1.r]
  rw [Q0z (by omega), Q9U blk (by omega) _ (by rw [if_pos hi])]
theorem QdT (k : Nat) (hk : 64 < k) {blk : List Int} (hb : Q0L 0 255 blk) (hlen : blk.length = 64) (z : List Int) :
  Qf.l0 k k ((0 : Int), blk, z, wz blk 0, ()) = some (blk, z, wz blk 16, ()) := by
 refine Q0f (r := Qf.l0.r k) (fun i => ((i : Int), blk, z, wz blk i, ())) 16 _ ?_ ?_ (by omega)
 ·intro i hi kn ke
  simp only [Qf.l0.r]
  rw [QF (by omega), i64_in (n := 4 * (i : Int)) (by omega), i64_in (n := (i : Int) + 1) (by omega), i64_in (n := 4 * ((i : Int) + 1)) (by omega), QF (by omega)]
  rw [show (4 * (i : Int)).toNat = 4 * i by omega, show (4 * ((i : Int) + 1) - 4 * (i : Int)).toNat = 4 by omega]
  have := Qde k hb hlen hi z (fuel := k) (by omega)
  show (Qf.l1 k k ((i : Int), (i : Int), (4 * i, 4), (4 : Int), (0 : Int), blk, z, wz blk i, ())).bind _ = _
  rw [this]
  simp only [Option.bind_some]
  rw [i64_in (by omega)]
  rfl
 ·intro kn ke
  simp only [Qf.l0.r]
  rw [Q0z (by omega)]
theorem Qdb (k : Nat) (hk : 64 < k) (blk b z : List Int) :
  Qf.l2 k k ((16 : Int), b, z, wz blk 16, ()) = some (b, z, wz blk 64, ()) := by
 refine Q7R (r := Qf.l2.r k) (fun i => ((i : Int), b, z, wz blk i, ())) 64 _ 16 ?_ ?_ (by omega) (by omega)
 ·intro i h16 hi kn ke
  simp only [Qf.l2.r]
  rw [QF (by omega), i64_in (n := (i : Int) - 2) (by omega), i64_in (n := (i : Int) - 15) (by omega), i64_in (n := (i : Int) - 7) (by omega), i64_in (n := (i : Int) - 16) (by omega), i64_in (n := (i : Int) + 1) (by omega)]
  rw [QF (by omega), QF (by omega)]
  simp only [Q0G k _ (show (0 : Int) < 17 ∧ (17 : Int) < 32 by omega), Q0G k _ (show (0 : Int) < 19 ∧ (19 : Int) < 32 by omega), Q0G k _ (show (0 : Int) < 7 ∧ (7 : Int) < 32 by omega), Q0G k _ (show (0 : Int) < 18 ∧ (18 : Int) < 32 by omega), Option.bind_some]
  rw [QF (by omega), QF (by omega), QF (by omega)]
  rw [show ((i : Int) - 2).toNat = i - 2 by omega, show ((i : Int) - 15).toNat = i - 15 by omega, show ((i : Int) - 7).toNat = i - 7 by omega, show ((i : Int) - 16).toNat = i - 16 by omega, show (i : Int).toNat = i by omega]
  rw [Q4u blk (show i - 2 < i by omega), Q4u blk (show i - 15 < i by omega), Q4u blk (show i - 7 < i by omega), Q4u blk (show i - 16 < i by omega)]
  rw [Q9U blk (by omega) _ (by rw [if_neg (by omega)]; rfl)]
  rfl
 ·intro kn ke
  simp only [Qf.l2.r]
  rw [Q0z (by omega)]
theorem wz_0 (blk : List Int) : List.replicate 64 (0 : Int) = wz blk 0 := rfl
theorem QeS (blk : List Int) : wz blk 64 = wl blk 64 := by simp [wz]
theorem Q9H {k : Nat} (hk : 64 < k) {blk : List Int} (hb : Q0L 0 255 blk) (hlen : blk.length = 64) : Qf k blk = some (wl blk 64, blk, ()) := by
 unfold Qf Qf.c
 rw [wz_0 blk, QdT k hk hb hlen]
 simp only [Option.bind_some]
 show (Qf.l2 k k ((16 : Int), blk, wz blk 0, wz blk 16, ())).bind _ = _
 rw [Qdb k hk, QeS]
 rfl
theorem Q6x (k : Nat) : QP k = some (kc, ()) := rfl
theorem Q6u (k : Nat) : Qr k = some (kc, ()) := rfl
def big1 (e : Int) : Int := Qw .xor .u32 (Qw .xor .u32 (rotr e 6) (rotr e 11)) (rotr e 25)
def big0 (a : Int) : Int := Qw .xor .u32 (Qw .xor .u32 (rotr a 2) (rotr a 13)) (rotr a 22)
def chF (e f g : Int) : Int := Qw .xor .u32 (Qw .and .u32 e f) (Qw .and .u32 (4294967295 - e) g)
def majF (a b c : Int) : Int := Qw .xor .u32 (Qw .xor .u32 (Qw .and .u32 a b) (Qw .and .u32 a c)) (Qw .and .u32 b c)
def Q0X (a b : Int) : Int := IntKind.u32.wrap (a + b)
theorem QaN (a b c : Int) : Q0X (Q0X a b) c = Q0X a (Q0X b c) := by
 unfold Q0X; simp only [Q5B]; omega
theorem QbS (a b : Int) : Q0X a b = Q0X b a := by
 unfold Q0X; rw [Int.add_comm]
theorem Q72 (a b : Int) : 0 ≤ Q0X a b ∧ Q0X a b ≤ 4294967295 := by unfold Q0X; rw [Q5B]; omega
def rnd (y : List Int) (kt wt : Int) : List Int :=
 let t1 := Q0X (Q0X (Q0X (Q0X (y.getD 7 0) (big1 (y.getD 4 0))) (chF (y.getD 4 0) (y.getD 5 0) (y.getD 6 0))) kt) wt
 [Q0X t1 (Q0X (big0 (y.getD 0 0)) (majF (y.getD 0 0) (y.getD 1 0) (y.getD 2 0))), y.getD 0 0, y.getD 1 0, y.getD 2 0, Q0X (y.getD 3 0) t1, y.getD 4 0, y.getD 5 0, y.getD 6 0]
def rndN (w x : List Int) : Nat → List Int
 | 0 => x
 | t + 1 => rnd (rndN w x t) (kc.getD t 0) (w.getD t 0)
theorem Qf5 {y : List Int} (hy : Q0L 0 4294967295 y) (kt wt : Int) : Q0L 0 4294967295 (rnd y kt wt) := by
 intro v hv
 simp only [rnd, List.mem_cons, List.not_mem_nil, or_false] at hv
 rcases hv with rfl | rfl | rfl | rfl | rfl | rfl | rfl | rfl <;> first | exact Q72 _ _ | exact Q1l hy (by omega) _
theorem Q9m {w x : List Int} (hx : Q0L 0 4294967295 x) : ∀ t, Q0L 0 4294967295 (rndN w x t)
 | 0 => hx
 | t + 1 => Qf5 (Q9m hx t) _ _
theorem QeE (k : Nat) (hk : 64 < k) {x0 : List Int} (hx : Q0L 0 4294967295 x0) (z w : List Int) :
  Qs.l0 k k ((0 : Int), x0, z, w, kc, x0, ()) = some (x0, z, rndN w x0 64, ()) := by
 refine Q0f (r := Qs.l0.r k) (fun i => ((i : Int), x0, z, w, kc, rndN w x0 i, ())) 64 _ ?_ ?_ (by omega)
 ·intro i hi kn ke
  simp only [Qs.l0.r]
  rw [QF (by omega)]
  simp only [Q0G k _ (show (0 : Int) < 6 ∧ (6 : Int) < 32 by omega), Q0G k _ (show (0 : Int) < 11 ∧ (11 : Int) < 32 by omega), Q0G k _ (show (0 : Int) < 25 ∧ (25 : Int) < 32 by omega), Q0G k _ (show (0 : Int) < 2 ∧ (2 : Int) < 32 by omega), Q0G k _ (show (0 : Int) < 13 ∧ (13 : Int) < 32 by omega), Q0G k _ (show (0 : Int) < 22 ∧ (22 : Int) < 32 by omega), Option.bind_some]
  rw [QF (by omega), QF (by omega), i64_in (n := (i : Int) + 1) (by omega), show (i : Int).toNat = i by omega]
  have hr := Q9m (w := w) hx i
  rw [Qes (Q1l hr (by omega) 4)]
  show kn ((i : Int) + 1, x0, z, w, kc, [Q0X (Q0X _ _) _, _, _, _, _, _, _, _], ()) = _
  rw [QaN]
  rfl
 ·intro kn ke
  simp only [Qs.l0.r]
  rw [Q0z (by omega)]
theorem QeC (k : Nat) (hk : 64 < k) (x z y : List Int) (hy : y.length = 8) :
  Qs.l1 k k ((0 : Int), x, z, y, ()) = some (z, (List.range 8).map (fun j => Q0X (y.getD j 0) (x.getD j 0)), ()) := by
 have := Q0f (r := Qs.l1.r k) (fun i => ((i : Int), x, z, (List.range i).map (fun j => Q0X (y.getD j 0) (x.getD j 0)) ++ y.drop i, ())) 8 (z, (List.range 8).map (fun j => Q0X (y.getD j 0) (x.getD j 0)), ()) ?_ ?_ (fuel := k) (by omega)
 ·simp only [List.range_zero, List.map_nil, List.nil_append, List.drop_zero] at this
  exact this
 ·intro i hi kn ke
  simp only [Qs.l1.r]
  rw [QF (by omega), QF (by omega), QF (by omega), QF (by omega), i64_in (n := (i : Int) + 1) (by omega), show (i : Int).toNat = i by omega, Qcs]
  show kn ((i : Int) + 1, x, z, List.set _ i (Q0X (y.getD i 0) (x.getD i 0)), ()) = _
  rw [Q7m (f := fun j => Q0X (y.getD j 0) (x.getD j 0)) (by omega)]
  rfl
 ·intro kn ke
  simp only [Qs.l1.r]
  rw [Q0z (by omega), Q7B (by omega)]
def Q6Y (x blk : List Int) : List Int := (List.range 8).map fun j => Q0X ((rndN (wl blk 64) x 64).getD j 0) (x.getD j 0)
theorem QaX {w x : List Int} (hx : x.length = 8) : ∀ t, (rndN w x t).length = 8
 | 0 => hx
 | _ + 1 => rfl
theorem Q9Z (x blk : List Int) : (Q6Y x blk).length = 8 := by simp [Q6Y]
theorem QdY (x blk : List Int) : Q0L 0 4294967295 (Q6Y x blk) := by
 intro v hv
 simp only [Q6Y, List.mem_map] at hv
 obtain ⟨j, _, rfl⟩ := hv
 exact Q72 _ _
theorem QaS {k : Nat} (hk : 64 < k) {x blk : List Int} (hx : Q0L 0 4294967295 x) (hxl : x.length = 8) (hb : Q0L 0 255 blk) (hlen : blk.length = 64) : Qs k x blk = some (Q6Y x blk, ()) := by
 unfold Qs Qs.c
 rw [Q9H hk hb hlen, Q6x]
 simp only [Option.bind_some]
 rw [QeE k hk hx]
 simp only [Option.bind_some]
 rw [QeC k hk _ _ _ (QaX hxl 64)]
 rfl
theorem Qfj (k : Nat) (hk : 64 < k) {blk : List Int} (hb : Q0L 0 255 blk) (hlen : blk.length = 64) (s z kk : List Int) :
  Q2.l0 k k ((0 : Int), s, blk, z, kk, wz blk 0, ()) = some (s, z, kk, wl blk 64, ()) := by
 rw [← QeS blk]
 refine Q0f (r := Q2.l0.r k) (fun i => ((i : Int), s, blk, z, kk, wz blk i, ())) 64 _ ?_ ?_ (by omega)
 ·intro i hi kn ke
  simp only [Q2.l0.r]
  rw [QF (by omega)]
  by_cases h16 : i < 16
  ·rw [QF (by omega), i64_in (n := 4 * (i : Int)) (by omega), i64_in (n := 4 * (i : Int) + 1) (by omega), i64_in (n := 4 * (i : Int) + 2) (by omega), i64_in (n := 4 * (i : Int) + 3) (by omega), i64_in (n := (i : Int) + 1) (by omega)]
   rw [QF (by omega), QF (by omega), QF (by omega), QF (by omega), QF (by omega)]
   rw [show (4 * (i : Int)).toNat = 4 * i by omega, show (4 * (i : Int) + 1).toNat = 4 * i + 1 by omega, show (4 * (i : Int) + 2).toNat = 4 * i + 2 by omega, show (4 * (i : Int) + 3).toNat = 4 * i + 3 by omega, show (i : Int).toNat = i by omega]
   have b0 := Q1l hb (by omega) (4 * i)
   have b1 := Q1l hb (by omega) (4 * i + 1)
   have b2 := Q1l hb (by omega) (4 * i + 2)
   have b3 := Q1l hb (by omega) (4 * i + 3)
   have hp : part blk i 4 = ((blk.getD (4 * i) 0 * 256 + blk.getD (4 * i + 1) 0) * 256 + blk.getD (4 * i + 2) 0) * 256 + blk.getD (4 * i + 3) 0 := by
    simp [part]
   rw [Q9U blk (by omega) _ ?_]
   ·rfl
   ·rw [if_pos h16, hp]
    generalize blk.getD (4 * i) 0 = x0 at *
    generalize blk.getD (4 * i + 1) 0 = x1 at *
    generalize blk.getD (4 * i + 2) 0 = x2 at *
    generalize blk.getD (4 * i + 3) 0 = x3 at *
    obtain ⟨X0, rfl⟩ := Int.eq_ofNat_of_zero_le b0.1
    obtain ⟨X1, rfl⟩ := Int.eq_ofNat_of_zero_le b1.1
    obtain ⟨X2, rfl⟩ := Int.eq_ofNat_of_zero_le b2.1
    obtain ⟨X3, rfl⟩ := Int.eq_ofNat_of_zero_le b3.1
    simp only [Q3M (show 0 ≤ ((X0 : Nat) : Int) ∧ ((X0 : Nat) : Int) ≤ 4294967295 by omega), Q3M (show 0 ≤ ((X1 : Nat) : Int) ∧ ((X1 : Nat) : Int) ≤ 4294967295 by omega), Q3M (show 0 ≤ ((X2 : Nat) : Int) ∧ ((X2 : Nat) : Int) ≤ 4294967295 by omega), Q3M (show 0 ≤ ((X3 : Nat) : Int) ∧ ((X3 : Nat) : Int) ≤ 4294967295 by omega)]
    rw [show (24 : Int) = ((24 : Nat) : Int) from rfl, show (16 : Int) = ((16 : Nat) : Int) from rfl, show (8 : Int) = ((8 : Nat) : Int) from rfl, Q7q _ (by omega), Q7q _ (by omega), Q7q _ (by omega)]
    rw [show ((X0 : Int) * 2 ^ 24) % 4294967296 = ((X0 * 2 ^ 24 : Nat) : Int) by simp; omega, show ((X1 : Int) * 2 ^ 16) % 4294967296 = ((X1 * 2 ^ 16 : Nat) : Int) by simp; omega, show ((X2 : Int) * 2 ^ 8) % 4294967296 = ((X2 * 2 ^ 8 : Nat) : Int) by simp; omega]
    rw [Q3V (A := X1 * 2 ^ 16) (B := X0) (j := 24) (by omega) (by omega)]
    rw [show X0 * 2 ^ 24 + X1 * 2 ^ 16 = (X0 * 256 + X1) * 2 ^ 16 by omega, Q3V (A := X2 * 2 ^ 8) (j := 16) (by omega) (by omega)]
    rw [show (X0 * 256 + X1) * 2 ^ 16 + X2 * 2 ^ 8 = ((X0 * 256 + X1) * 256 + X2) * 2 ^ 8 by omega, Q3V (A := X3) (j := 8) (by omega) (by omega)]
    omega
  ·rw [Q0z (by omega), i64_in (n := (i : Int) - 2) (by omega), i64_in (n := (i : Int) - 15) (by omega), i64_in (n := (i : Int) - 7) (by omega), i64_in (n := (i : Int) - 16) (by omega), i64_in (n := (i : Int) + 1) (by omega)]
   rw [QF (by omega), QF (by omega)]
   simp only [Q1J k _ (show (0 : Int) ≤ 17 ∧ (17 : Int) ≤ 32 by omega), Q1J k _ (show (0 : Int) ≤ 19 ∧ (19 : Int) ≤ 32 by omega), Q1J k _ (show (0 : Int) ≤ 7 ∧ (7 : Int) ≤ 32 by omega), Q1J k _ (show (0 : Int) ≤ 18 ∧ (18 : Int) ≤ 32 by omega), Option.bind_some]
   rw [QF (by omega), QF (by omega), QF (by omega)]
   rw [show ((i : Int) - 2).toNat = i - 2 by omega, show ((i : Int) - 15).toNat = i - 15 by omega, show ((i : Int) - 7).toNat = i - 7 by omega, show ((i : Int) - 16).toNat = i - 16 by omega, show (i : Int).toNat = i by omega]
   rw [Q4u blk (show i - 2 < i by omega), Q4u blk (show i - 15 < i by omega), Q4u blk (show i - 7 < i by omega), Q4u blk (show i - 16 < i by omega)]
   rw [Q9U blk (by omega) _ (by rw [if_neg (by omega)]; rfl)]
   rfl
 ·intro kn ke
  simp only [Q2.l0.r]
  rw [Q0z (by omega)]
theorem Qf7 (k : Nat) (hk : 64 < k) {x0 : List Int} (hx : Q0L 0 4294967295 x0) (s z w : List Int) :
  Q2.l1 k k ((0 : Int), s, z, kc, w, x0, ()) = some (s, z, rndN w x0 64, ()) := by
 refine Q0f (r := Q2.l1.r k) (fun i => ((i : Int), s, z, kc, w, rndN w x0 i, ())) 64 _ ?_ ?_ (by omega)
 ·intro i hi kn ke
  simp only [Q2.l1.r]
  rw [QF (by omega)]
  simp only [Q1J k _ (show (0 : Int) ≤ 6 ∧ (6 : Int) ≤ 32 by omega), Q1J k _ (show (0 : Int) ≤ 11 ∧ (11 : Int) ≤ 32 by omega), Q1J k _ (show (0 : Int) ≤ 25 ∧ (25 : Int) ≤ 32 by omega), Q1J k _ (show (0 : Int) ≤ 2 ∧ (2 : Int) ≤ 32 by omega), Q1J k _ (show (0 : Int) ≤ 13 ∧ (13 : Int) ≤ 32 by omega), Q1J k _ (show (0 : Int) ≤ 22 ∧ (22 : Int) ≤ 32 by omega), Option.bind_some]
  rw [QF (by omega), QF (by omega), i64_in (n := (i : Int) + 1) (by omega), show (i : Int).toNat = i by omega]
  have hr := Q1l (Q9m (w := w) hx i) (by omega) 4
  rw [Q3M (n := 4294967295 - (rndN w x0 i).getD 4 0) (by omega)]
  rfl
 ·intro kn ke
  simp only [Q2.l1.r]
  rw [Q0z (by omega)]
theorem Qff (k : Nat) (hk : 64 < k) (x z y : List Int) (hx : x.length = 8) :
  Q2.l2 k k ((0 : Int), x, z, y, ()) = some ((List.range 8).map (fun j => Q0X (x.getD j 0) (y.getD j 0)), z, ()) := by
 have := Q0f (r := Q2.l2.r k) (fun i => ((i : Int), (List.range i).map (fun j => Q0X (x.getD j 0) (y.getD j 0)) ++ x.drop i, z, y, ())) 8 ((List.range 8).map (fun j => Q0X (x.getD j 0) (y.getD j 0)), z, ()) ?_ ?_ (fuel := k) (by omega)
 ·simp only [List.range_zero, List.map_nil, List.nil_append, List.drop_zero] at this
  exact this
 ·intro i hi kn ke
  simp only [Q2.l2.r]
  rw [QF (by omega), QF (by omega), QF (by omega), QF (by omega), i64_in (n := (i : Int) + 1) (by omega), show (i : Int).toNat = i by omega, Qcs]
  show kn ((i : Int) + 1, List.set _ i (Q0X (x.getD i 0) (y.getD i 0)), z, y, ()) = _
  rw [Q7m (f := fun j => Q0X (x.getD j 0) (y.getD j 0)) (by omega)]
  rfl
 ·intro kn ke
  simp only [Q2.l2.r]
  rw [Q0z (by omega), Q7B (by omega)]
theorem Qaf {k : Nat} (hk : 64 < k) {x blk : List Int} (hx : Q0L 0 4294967295 x) (hxl : x.length = 8) (hb : Q0L 0 255 blk) (hlen : blk.length = 64) : Q2 k x blk = some (Q6Y x blk, ()) := by
 unfold Q2 Q2.c
 rw [Q6u, wz_0 blk]
 simp only [Option.bind_some]
 rw [Qfj k hk hb hlen]
 simp only [Option.bind_some]
 rw [Qf7 k hk hx]
 simp only [Option.bind_some]
 rw [Qff k hk _ _ _ hxl]
 simp only [Option.bind_some]
 have e : (List.range 8).map (fun j => Q0X (x.getD j 0) ((rndN (wl blk 64) x 64).getD j 0)) = Q6Y x blk := List.map_congr_left fun j _ => QbS _ _
 rw [e]
end Go.Am
namespace Go.Am
open Go
def first : List Int := [1779033703, 3144134277, 1013904242, 2773480762, 1359893119, 2600822924, 528734635, 1541459225]
theorem QeD (k : Nat) : Q0c k = some (first, ()) := rfl
theorem Q9t (k : Nat) : QB k = some (first, ()) := rfl
theorem Q8m : Q0L 0 4294967295 first := by unfold Q0L first; decide
theorem Q3A : first.length = 8 := rfl
def stt (x l : List Int) : Nat → List Int
 | 0 => x
 | n + 1 => Q6Y (stt x l n) ((l.drop (64 * n)).take 64)
theorem QbB {x l : List Int} (hx : Q0L 0 4294967295 x) : ∀ n, Q0L 0 4294967295 (stt x l n)
 | 0 => hx
 | _ + 1 => QdY _ _
theorem Q5g {x l : List Int} (hx : x.length = 8) : ∀ n, (stt x l n).length = 8
 | 0 => hx
 | _ + 1 => Q9Z _ _
theorem Q7V (x a b : List Int) : ∀ n, 64 * n ≤ a.length → stt x (a ++ b) n = stt x a n
 | 0, _ => rfl
 | n + 1, h => by
  simp only [stt]
  rw [Q7V x a b n (by omega), List.drop_append_of_le_length (by omega), List.take_append_of_le_length (by simp; omega)]
theorem Qcc (x l : List Int) (q : Nat) : ∀ j, stt x l (q + j) = stt (stt x l q) (l.drop (64 * q)) j
 | 0 => rfl
 | j + 1 => by
  rw [← Nat.add_assoc]
  simp only [stt]
  rw [Qcc x l q j, List.drop_drop, show 64 * q + 64 * j = 64 * (q + j) by omega]
theorem Q5e {lo hi : Int} {l : List Int} (h : Q0L lo hi l) (n : Nat) : Q0L lo hi (l.drop n) := fun x hx => h x (List.mem_of_mem_drop hx)
theorem Q7w {lo hi : Int} {l : List Int} (h : Q0L lo hi l) (n : Nat) : Q0L lo hi (l.take n) := fun x hx => h x (List.mem_of_mem_take hx)
theorem Q9g {lo hi : Int} {l r : List Int} (h : Q0L lo hi l) (h2 : Q0L lo hi r) : Q0L lo hi (l ++ r) := fun x hx => by
 rcases List.mem_append.1 hx with hx | hx
 ·exact h x hx
 ·exact h2 x hx
theorem Q3C (s : ByteArray) : Q0L 0 255 (Qj s) := fun x hx => by have := Q1v hx; omega
theorem Q8e (k : Nat) (hk : 64 < k) {x left : List Int} (hx : Q0L 0 4294967295 x) (hxl : x.length = 8) (hl : Q0L 0 255 left) (n : Int) {fuel : Nat} (hf : left.length / 64 < fuel) :
  Qe.l0 k fuel ((x, (), n, ()), left, ()) = some ((stt x left (left.length / 64), (), n, ()), left.drop (64 * (left.length / 64)), ()) := by
 refine Q0f (r := Qe.l0.r k) (fun i => ((stt x left i, (), n, ()), left.drop (64 * i), ())) (left.length / 64) _ ?_ ?_ hf
 ·intro i hi kn ke
  simp only [Qe.l0.r]
  have hlen : (left.drop (64 * i)).length = left.length - 64 * i := by simp
  rw [QF (by rw [hlen]; omega), QF (by rw [hlen]; omega), List.drop_zero]
  rw [QaS hk (QbB hx i) (Q5g hxl i) (Q7w (Q5e hl _) _) (by simp; omega)]
  simp only [Option.bind_some]
  have e : List.take ((((List.drop (64 * i) left).length : Nat) : Int) - 64).toNat (List.drop 64 (List.drop (64 * i) left)) = left.drop (64 * (i + 1)) := by
   rw [List.take_of_length_le (by rw [List.length_drop, hlen]; omega), List.drop_drop, show 64 * i + 64 = 64 * (i + 1) by omega]
  rw [QF (by rw [hlen]; omega), e]
  rfl
 ·intro kn ke
  simp only [Qe.l0.r]
  have hlen : (left.drop (64 * (left.length / 64))).length = left.length - 64 * (left.length / 64) := by simp
  rw [Q0z (by rw [hlen]; omega)]
def padF (n : Int) (j : Nat) : Int := IntKind.u8.wrap (Q10 .u64 (IntKind.u64.wrap (8 * n)) (8 * (7 - (j : Int))))
def padZ (n : Int) : Nat := ((119 - n % 64) % 64).toNat
def padL (n : Int) : List Int := (128 :: List.replicate (padZ n) 0) ++ (List.range 8).map (padF n)
theorem Q1T (n : Int) : (padL n).length = 9 + padZ n := by simp [padL]; omega
theorem Q3H (n : Int) : padZ n < 64 := by unfold padZ; omega
theorem Qc6 (n : Int) : Q0L 0 255 (padL n) := by
 intro x hx
 simp only [padL, List.mem_append, List.mem_cons, List.mem_replicate, List.mem_map] at hx
 rcases hx with (rfl | ⟨_, rfl⟩) | ⟨j, _, rfl⟩
 ·omega
 ·omega
 ·unfold padF; rw [Q6F]; omega
theorem Qew {n : Nat} : (n + (padL (n : Int)).length) % 64 = 0 := by
 rw [Q1T]; unfold padZ; omega
theorem Qaj {α : Type} (f : Nat → α) (l : List α) (i : Nat) : l ++ (List.range i).map f ++ [f i] = l ++ (List.range (i + 1)).map f := by
 rw [List.range_succ, List.map_append, List.append_assoc]; rfl
theorem shl3 (n : Int) : Q1H .u64 n 3 = IntKind.u64.wrap (8 * n) := by
 unfold Q1H
 rw [show min (3 : Int).toNat IntKind.u64.bits = 3 from rfl, show n * 2 ^ 3 = 8 * n by omega]
theorem Qbp {k : Nat} (hk : 64 < k) {n : Int} (hn : 0 ≤ n ∧ n ≤ 18446744073709551615) : QW k n = some (bytesOf (padL n), ()) := by
 unfold QW QW.c
 dsimp only
 rw [Int.tmod_eq_emod_of_nonneg hn.1, i64_in (n := n % 64) (by omega), i64_in (n := 119 - n % 64) (by omega), Int.tmod_eq_emod_of_nonneg (by omega), i64_in (n := 1 + (119 - n % 64) % 64) (by omega), i64_in (by omega)]
 have hz : (1 + (119 - n % 64) % 64).toNat = padZ n + 1 := by unfold padZ; omega
 have hb : Nat.ble ((1 + (119 - n % 64) % 64 + 8).toNat * 1) 140737488355328 = true := Q16 (by omega)
 rw [decide_eq_true (show 0 ≤ 1 + (119 - n % 64) % 64 ∧ 1 + (119 - n % 64) % 64 ≤ 1 + (119 - n % 64) % 64 + 8 by omega), hb, Bool.and_self, cond_true, hz, List.length_replicate, QF (by omega)]
 have e : (List.replicate (padZ n + 1) (0 : Int)).set 0 128 = 128 :: List.replicate (padZ n) 0 := by rw [List.replicate_succ, List.set_cons_zero]
 rw [e]
 have := Q0f (r := QW.l0.r k) (fun i => (n, (i : Int), (128 :: List.replicate (padZ n) 0) ++ (List.range i).map (padF n), ())) 8 (padL n, ()) ?_ ?_ (fuel := k) (by omega)
 ·simp only [List.range_zero, List.map_nil, List.append_nil] at this
  show (QW.l0 k k (n, ((0 : Nat) : Int), 128 :: List.replicate (padZ n) 0, ())).bind _ = _
  unfold QW.l0
  rw [this]
  rfl
 ·intro i hi kn ke
  simp only [QW.l0.r]
  rw [QF (by omega), i64_in (n := 7 - (i : Int)) (by omega), i64_in (n := 8 * (7 - (i : Int))) (by omega), QF (by omega), i64_in (n := (i : Int) + 1) (by omega), shl3]
  have hl : Nat.ble ((((128 :: List.replicate (padZ n) 0) ++ (List.range i).map (padF n)).length + (List.set (List.replicate 1 (0 : Int)) 0 (IntKind.u8.wrap (Q10 .u64 (IntKind.u64.wrap (8 * n)) (8 * (7 - (i : Int)))))).length) * 1) 140737488355328 = true :=
   Q16 (by have := Q3H n; simp; omega)
  rw [Q0l hl]
  show kn (n, (i : Int) + 1, (128 :: List.replicate (padZ n) 0) ++ (List.range i).map (padF n) ++ [padF n i], ()) = _
  rw [Qaj]
  rfl
 ·intro kn ke
  simp only [QW.l0.r]
  rw [Q0z (by omega)]
  rfl
theorem Qbc {k : Nat} (hk : 80 < k) {n : Int} (hn : 0 ≤ n ∧ n ≤ 18446744073709551615) : Q6 k n = some (bytesOf (padL n), ()) := by
 unfold Q6 Q6.c
 have h0 := Q0f (r := Q6.l0.r k) (fun i => (n, 128 :: List.replicate i (0 : Int), ())) (padZ n) (n, 128 :: List.replicate (padZ n) 0, ()) ?_ ?_ (fuel := k) (by have := Q3H n; omega)
 ·have e : List.set (List.replicate 1 (0 : Int)) 0 128 = 128 :: List.replicate 0 0 := rfl
  rw [e]
  unfold Q6.l0
  rw [h0]
  simp only [Option.bind_some]
  have := Q0f (r := Q6.l1.r k) (fun i => (IntKind.u64.wrap (8 * n), 7 - (i : Int), (128 :: List.replicate (padZ n) 0) ++ (List.range i).map (padF n), ())) 8 (padL n, ()) ?_ ?_ (fuel := k) (by omega)
  ·simp only [List.range_zero, List.map_nil, List.append_nil] at this
   show (Q6.l1 k k (IntKind.u64.wrap (8 * n), 7 - ((0 : Nat) : Int), 128 :: List.replicate (padZ n) 0, ())).bind _ = _
   unfold Q6.l1
   rw [this]
   rfl
  ·intro i hi kn ke
   simp only [Q6.l1.r]
   rw [QF (by omega), i64_in (n := 8 * (7 - (i : Int))) (by omega), QF (by omega), i64_in (n := 7 - (i : Int) - 1) (by omega)]
   have hl : Nat.ble ((((128 :: List.replicate (padZ n) 0) ++ (List.range i).map (padF n)).length + (List.set (List.replicate 1 (0 : Int)) 0 (IntKind.u8.wrap (Q10 .u64 (IntKind.u64.wrap (8 * n)) (8 * (7 - (i : Int)))))).length) * 1) 140737488355328 = true :=
    Q16 (by have := Q3H n; simp; omega)
   rw [Q0l hl]
   show kn (IntKind.u64.wrap (8 * n), 7 - (i : Int) - 1, (128 :: List.replicate (padZ n) 0) ++ (List.range i).map (padF n) ++ [padF n i], ()) = _
   rw [Qaj, show 7 - (i : Int) - 1 = 7 - ((i + 1 : Nat) : Int) by omega]
  ·intro kn ke
   simp only [Q6.l1.r]
   rw [Q0z (by omega)]
   rfl
 ·intro i hi kn ke
  simp only [Q6.l0.r]
  have hz : padZ n < 64 := Q3H n
  have hzd : (padZ n : Int) = (119 - n % 64) % 64 := by unfold padZ; omega
  simp only [List.length_cons, List.length_replicate]
  rw [u64_in (n := ((i + 1 : Nat) : Int)) (by omega), Q3e, Int.tmod_eq_emod_of_nonneg (by omega)]
  have hne : ((n + ((i + 1 : Nat) : Int)) % 18446744073709551616 % 64 != 56) = true := by
   rw [bne_iff_ne]; omega
  rw [Q0l hne, Q0l (Q16 (by omega))]
  show kn (n, (128 :: List.replicate i (0 : Int)) ++ [0], ()) = _
  rw [List.cons_append, ← List.replicate_succ']
 ·intro kn ke
  simp only [Q6.l0.r]
  have hz : padZ n < 64 := Q3H n
  have hzd : (padZ n : Int) = (119 - n % 64) % 64 := by unfold padZ; omega
  simp only [List.length_cons, List.length_replicate]
  rw [u64_in (n := ((padZ n + 1 : Nat) : Int)) (by omega), Q3e, Int.tmod_eq_emod_of_nonneg (by omega)]
  have hne : ((n + ((padZ n + 1 : Nat) : Int)) % 18446744073709551616 % 64 != 56) = false := by
   rw [bne_eq_false_iff_eq]; omega
  rw [Q6S hne]
def beF (x : List Int) (j : Nat) : Int := IntKind.u8.wrap (Q10 .u32 (x.getD (j / 4) 0) (24 - 8 * ((j % 4 : Nat) : Int)))
def Q35 (x : List Int) : List Int := (List.range 32).map (beF x)
def beZ (x : List Int) (j : Nat) : List Int := (List.range j).map (beF x) ++ (List.replicate 32 (0 : Int)).drop j
theorem Qct (x : List Int) {j : Nat} (h : j < 32) : (beZ x j).set j (beF x j) = beZ x (j + 1) := Q7m (by simpa using h)
theorem Q8g (x : List Int) : (Q35 x).length = 32 := by simp [Q35]
theorem Qbb (x : List Int) : Q0L 0 255 (Q35 x) := by
 intro v hv
 simp only [Q35, List.mem_map] at hv
 obtain ⟨j, _, rfl⟩ := hv
 unfold beF; rw [Q6F]; omega
theorem Qfo (k : Nat) (x : List Int) {i : Nat} (hi : i < 8) (b0 : List Int × Unit × Int × Unit) (b1 z : List Int) {fuel : Nat} (hf : 4 < fuel) :
  Q9.l1 k fuel ((i : Int), x.getD i 0, x, (i : Int), (0 : Int), b0, b1, z, beZ x (4 * i), ()) = some (x, (i : Int), b0, b1, z, beZ x (4 * (i + 1)), ()) := by
 refine Q0f (r := Q9.l1.r k) (fun j => ((i : Int), x.getD i 0, x, (i : Int), (j : Int), b0, b1, z, beZ x (4 * i + j), ())) 4 _ ?_ ?_ hf
 ·intro j hj kn ke
  simp only [Q9.l1.r]
  rw [QF (by omega), i64_in (n := 4 * (i : Int)) (by omega), i64_in (n := 4 * (i : Int) + (j : Int)) (by omega), i64_in (n := 3 - (j : Int)) (by omega), i64_in (n := 8 * (3 - (j : Int))) (by omega), i64_in (n := (j : Int) + 1) (by omega), QF (by omega), QF (by omega)]
  have e : IntKind.u8.wrap (Q10 .u32 (x.getD i 0) (8 * (3 - (j : Int)))) = beF x (4 * i + j) := by
   unfold beF
   rw [show (4 * i + j) / 4 = i by omega, show (4 * i + j) % 4 = j by omega, show 8 * (3 - (j : Int)) = 24 - 8 * (j : Int) by omega]
  rw [e, show (4 * (i : Int) + (j : Int)).toNat = 4 * i + j by omega, Qct x (by omega)]
  rfl
 ·intro kn ke
  simp only [Q9.l1.r]
  rw [Q0z (by omega)]
  rfl
theorem Qf8 (k : Nat) (hk : 64 < k) (x : List Int) (b0 : List Int × Unit × Int × Unit) (b1 z : List Int) :
  Q9.l0 k k (x, (0 : Int), b0, b1, z, List.replicate 32 0, ()) = some (b0, b1, z, Q35 x, ()) := by
 refine Q0f (r := Q9.l0.r k) (fun i => (x, (i : Int), b0, b1, z, beZ x (4 * i), ())) 8 _ ?_ ?_ (by omega)
 ·intro i hi kn ke
  simp only [Q9.l0.r]
  rw [QF (by omega), QF (by omega), show (i : Int).toNat = i by omega]
  have := Qfo k x hi b0 b1 z (fuel := k) (by omega)
  show (Q9.l1 k k ((i : Int), x.getD i 0, x, (i : Int), (0 : Int), b0, b1, z, beZ x (4 * i), ())).bind _ = _
  rw [this]
  simp only [Option.bind_some]
  rw [i64_in (by omega)]
  rfl
 ·intro kn ke
  simp only [Q9.l0.r]
  rw [Q0z (by omega)]
  rfl
theorem Q9x {k : Nat} (hk : 64 < k) (x : List Int) : Q4 k x = some (Q35 x, ()) := by
 unfold Q4 Q4.c
 dsimp only
 have l1 : ∀ {i : Nat}, i < 8 → ∀ z : List Int, Q4.l1 k k ((i : Int), (0 : Int), x, z, beZ x (4 * i), ()) = some ((i : Int), x, z, beZ x (4 * (i + 1)), ()) := by
  intro i hi z
  refine Q0f (r := Q4.l1.r k) (fun j => ((i : Int), (j : Int), x, z, beZ x (4 * i + j), ())) 4 _ ?_ ?_ (by omega)
  ·intro j hj kn ke
   simp only [Q4.l1.r]
   rw [QF (by omega), i64_in (n := 4 * (i : Int)) (by omega), i64_in (n := 4 * (i : Int) + (j : Int)) (by omega), i64_in (n := 8 * (j : Int)) (by omega), i64_in (n := 24 - 8 * (j : Int)) (by omega), i64_in (n := (j : Int) + 1) (by omega), QF (by omega), QF (by omega), QF (by omega)]
   have e : IntKind.u8.wrap (Q10 .u32 (x.getD (i : Int).toNat 0) (24 - 8 * (j : Int))) = beF x (4 * i + j) := by
    unfold beF
    rw [show (4 * i + j) / 4 = i by omega, show (4 * i + j) % 4 = j by omega, show (i : Int).toNat = i by omega]
   rw [e, show (4 * (i : Int) + (j : Int)).toNat = 4 * i + j by omega, Qct x (by omega)]
   rfl
  ·intro kn ke
   simp only [Q4.l1.r]
   rw [Q0z (by omega)]
   rfl
 have h0 : Q4.l0 k k ((0 : Int), x, List.replicate 32 0, List.replicate 32 0, ()) = some (List.replicate 32 0, Q35 x, ()) := by
  refine Q0f (r := Q4.l0.r k) (fun i => ((i : Int), x, List.replicate 32 0, beZ x (4 * i), ())) 8 _ ?_ ?_ (by omega)
  ·intro i hi kn ke
   simp only [Q4.l0.r]
   rw [QF (by omega), l1 hi]
   simp only [Option.bind_some]
   rw [i64_in (by omega)]
   rfl
  ·intro kn ke
   simp only [Q4.l0.r]
   rw [Q0z (by omega)]
   rfl
 rw [h0]
 rfl
def hx (a : List Int) : List Int := stt first a (a.length / 64)
def hl (a : List Int) : List Int := a.drop (64 * (a.length / 64))
def HS (a : List Int) : List Int × Unit × Int × Unit := (hx a, (), (a.length : Int), ())
theorem Qfv (a : List Int) : Q0L 0 4294967295 (hx a) := QbB Q8m _
theorem Qd6 (a : List Int) : (hx a).length = 8 := Q5g Q3A _
theorem Q90 (a : List Int) : (hl a).length < 64 := by simp only [hl, List.length_drop]; omega
theorem Qfw {a : List Int} (h : Q0L 0 255 a) : Q0L 0 255 (hl a) := Q5e h _
theorem QcR (a b : List Int) : stt (hx a) (hl a ++ b) ((hl a ++ b).length / 64) = hx (a ++ b) ∧ (hl a ++ b).drop (64 * ((hl a ++ b).length / 64)) = hl (a ++ b) := by
 have hle : 64 * (a.length / 64) ≤ a.length := by omega
 have e1 : hl a ++ b = (a ++ b).drop (64 * (a.length / 64)) := by rw [List.drop_append_of_le_length hle]; rfl
 have e2 : hx a = stt first (a ++ b) (a.length / 64) := (Q7V _ _ _ _ hle).symm
 have hlen : (hl a ++ b).length = (a ++ b).length - 64 * (a.length / 64) := by rw [e1, List.length_drop]
 have hq : (a ++ b).length / 64 = a.length / 64 + (hl a ++ b).length / 64 := by
  rw [hlen]; simp only [List.length_append]; omega
 refine ⟨?_, ?_⟩
 ·unfold hx at e2 ⊢
  rw [e2, hq, Qcc first (a ++ b), ← e1]
 ·have e3 : hl (a ++ b) = (a ++ b).drop (64 * ((a ++ b).length / 64)) := rfl
  rw [e3, hq, e1, List.drop_drop, ← e1, Nat.mul_add]
theorem Qb5 (k : Nat) : Q0m k = some (HS [], ()) := rfl
theorem Qd0 {k : Nat} (hk : 64 < k) {a : List Int} (ha : Q0L 0 255 a) {s : ByteArray} (hs : s.size ≤ 140737488354000) (hn : a.length + s.size ≤ 18446744073709551615) (hf : s.size / 64 + 1 < k) :
  Qc k s (HS a) (hl a) = some (HS (a ++ Qj s), hl (a ++ Qj s), ()) := by
 unfold Qc Qc.c
 have h64 := Q90 a
 have hsz := Q04 s
 dsimp only
 rw [Q0l (Q16 (by omega)), u64_in (n := (s.size : Int)) (by omega)]
 have hw := Q8e k hk (Qfv a) (Qd6 a) (left := hl a ++ Qj s) (Q9g (Qfw ha) (Q3C s)) (IntKind.u64.wrap ((a.length : Int) + (s.size : Int))) (fuel := k) (by rw [List.length_append]; omega)
 obtain ⟨e1, e2⟩ := QcR a (Qj s)
 rw [e1, e2, u64_in (by omega)] at hw
 have hw2 : Qc.l0 k k ((hx a, (), IntKind.u64.wrap ((a.length : Int) + (s.size : Int)), ()), hl a ++ Qj s, ()) = some ((hx (a ++ Qj s), (), (a.length : Int) + (s.size : Int), ()), hl (a ++ Qj s), ()) := by
  rw [u64_in (by omega)]; exact hw
 show (Qc.l0 k k ((hx a, (), IntKind.u64.wrap ((a.length : Int) + (s.size : Int)), ()), hl a ++ Qj s, ())).bind _ = _
 rw [hw2]
 simp only [Option.bind_some, HS, List.length_append, hsz]
 rw [Int.natCast_add]
theorem QcA {k : Nat} (hk : 64 < k) {s : ByteArray} (hs : s.size ≤ 140737488354000) (hf : s.size / 64 + 1 < k) :
  Qe k s (HS []) = some (HS (Qj s), hl (Qj s), ()) := by
 unfold Qe Qe.c
 have hsz := Q04 s
 dsimp only
 rw [Q0l (Q16 (by omega)), u64_in (n := (s.size : Int)) (by omega)]
 have hw := Q8e k hk Q8m Q3A (left := Qj s) (Q3C s) (s.size : Int) (fuel := k) (by omega)
 show (Qe.l0 k k ((first, (), IntKind.u64.wrap (((0 : Nat) : Int) + (s.size : Int)), ()), Qj s, ())).bind _ = _
 rw [u64_in (by omega), show (((0 : Nat) : Int) + (s.size : Int)) = (s.size : Int) by omega, hw]
 simp only [Option.bind_some, HS, hx, hl, hsz]
def sumL (a : List Int) : List Int := Q35 (hx (a ++ padL (a.length : Int)))
theorem Qe3 {k : Nat} (a : List Int) : Qy k (HS a) (hl a) = some (HS a, hl a, HS a, hl a, ()) := by
 unfold Qy Qy.c
 have h64 := Q90 a
 dsimp only
 rw [Q0l (Q16 (by omega))]
theorem Qeb {k : Nat} (hk : 128 < k) {a : List Int} (ha : Q0L 0 255 a) (hn : a.length ≤ 18446744073709551000) : Q9 k (HS a) (hl a) = some (sumL a, HS a, hl a, ()) := by
 unfold Q9 Q9.c
 have hp : (bytesOf (padL (a.length : Int))).size ≤ 80 := by rw [QQ, Q1T]; have := Q3H (a.length : Int); omega
 have hpb : Qj (bytesOf (padL (a.length : Int))) = padL (a.length : Int) := Q09 fun x hx => by have := Qc6 (a.length : Int) x hx; omega
 show (Qy k (HS a) (hl a)).bind _ = _
 rw [Qe3]
 simp only [Option.bind_some]
 show (QW k (a.length : Int)).bind _ = _
 rw [Qbp (by omega) (by omega)]
 simp only [Option.bind_some]
 show (Qc k (bytesOf (padL (a.length : Int))) (HS a) (hl a)).bind _ = _
 rw [Qd0 (by omega) ha (by omega) (by omega) (by omega), hpb]
 simp only [Option.bind_some]
 show (Q9.l0 k k (hx (a ++ padL (a.length : Int)), (0 : Int), HS a, hl a, List.replicate 32 0, List.replicate 32 0, ())).bind _ = _
 rw [Qf8 k (by omega)]
 rfl
theorem Qbi {k : Nat} (hk : 128 < k) {s : ByteArray} (hs : s.size ≤ 140737488354000) (hf : s.size / 64 + 1 < k) : Q0q k s = some (sumL (Qj s), ()) := by
 unfold Q0q Q0q.c
 rw [Qb5]
 simp only [Option.bind_some]
 show (Qe k s (HS [])).bind _ = _
 rw [QcA (by omega) hs hf]
 simp only [Option.bind_some]
 show (Q9 k (HS (Qj s)) (hl (Qj s))).bind _ = _
 rw [Qeb hk (Q3C s) (by rw [Q04]; omega)]
 rfl
end Go.Am
namespace Go.Am
open Go
theorem Qa7 (k : Nat) (n : Int) (b : Nat) (hb : b ≤ 8) : ∀ (d i fuel : Nat), i + d = b → d < fuel →
  QV.l0 k fuel (n, (b : Int), (i : Int), lowI n i ++ List.replicate d 0, ()) = some (lowI n b, ())
 | 0, i, fuel + 1, hi, _ => by
  have : i = b := by omega
  subst this
  show QV.l0.r k _ (Q0o (QV.l0.r k) fuel) some = _
  simp only [QV.l0.r]
  rw [decide_eq_false (by omega), cond_false]
  simp
 | d + 1, i, fuel + 1, hi, hf => by
  show QV.l0.r k _ (Q0o (QV.l0.r k) fuel) some = _
  simp only [QV.l0.r]
  rw [decide_eq_true (by omega), cond_true, i64_in (by omega), decide_eq_true (by omega), cond_true]
  have hlen : (lowI n i ++ List.replicate (d + 1) (0 : Int)).length = b := by simp [Q0W]; omega
  rw [hlen, decide_eq_true (by omega), cond_true, i64_in (by omega)]
  have h8 : (8 : Int) * (i : Int) = ((8 * i : Nat) : Int) := by omega
  rw [h8, Q9o (by omega), pow8, Q6F, show (i : Int).toNat = i by omega]
  have hset : (lowI n i ++ List.replicate (d + 1) (0 : Int)).set i (n / 256 ^ i % 256) = lowI n (i + 1) ++ List.replicate d 0 := by
   rw [List.set_append]
   simp [Q0W, Q94, List.replicate_succ]
  rw [hset]
  have ih := Qa7 k n b hb d (i + 1) fuel (by omega) (by omega)
  rw [show ((i + 1 : Nat) : Int) = (i : Int) + 1 by omega] at ih
  exact ih
theorem Qb8 {k : Nat} (hk : 9 ≤ k) (n : Int) (b : Nat) (hb : b ≤ 8) : QV k n (b : Int) = some (bytesOf (lowI n b), ()) := by
 unfold QV QV.c
 rw [decide_eq_true (by omega), show (b : Int).toNat = b by omega]
 have : Nat.ble (b * 1) 140737488355328 = true := Q16 (by omega)
 rw [this]
 simp only [Bool.and_self, cond_true]
 have := Qa7 k n b hb b 0 k (by omega) (by omega)
 simp only [lowI, List.nil_append] at this
 rw [List.length_replicate]
 show (QV.l0 k k (n, (b : Int), ((0 : Nat) : Int), List.replicate b 0, ())).bind _ = _
 rw [this]
 rfl
theorem Qa8 (k : Nat) (n : Int) (hn : 0 ≤ n ∧ n ≤ 18446744073709551615) (b : Nat) (hb : b ≤ 8) : ∀ (d i fuel : Nat), i + d = b → d < fuel →
  Qd.l0 k fuel (n / 256 ^ i, (b : Int), bytesOf (lowI n i), (i : Int), ()) = some (bytesOf (lowI n b), ())
 | 0, i, fuel + 1, hi, _ => by
  have : i = b := by omega
  subst this
  show Qd.l0.r k _ (Q0o (Qd.l0.r k) fuel) some = _
  simp only [Qd.l0.r]
  rw [decide_eq_false (by omega), cond_false]
 | d + 1, i, fuel + 1, hi, hf => by
  show Qd.l0.r k _ (Q0o (Qd.l0.r k) fuel) some = _
  simp only [Qd.l0.r]
  rw [decide_eq_true (by omega), cond_true]
  have hq : 0 ≤ n / 256 ^ i := Int.ediv_nonneg hn.1 (Int.le_of_lt (Int.pow_pos (by omega)))
  have hq2 : n / 256 ^ i ≤ n := Int.ediv_le_self _ hn.1
  rw [Int.tmod_eq_emod_of_nonneg hq, Int.tdiv_eq_ediv_of_nonneg hq, Q6F, i64_in (by omega), u64_in (by omega)]
  have h1 : List.set (List.replicate 1 (0 : Int)) 0 (n / 256 ^ i % 256 % 256) = [n / 256 ^ i % 256] := by
   simp
  rw [h1, QQ, QQ, Q0W]
  have : Nat.ble (i + [n / 256 ^ i % 256].length) 9223372036854775807 = true := Q16 (by simp; omega)
  rw [this, cond_true, Q11, ← Q94, Int.ediv_ediv_of_nonneg (Int.le_of_lt (Int.pow_pos (by omega))), ← Int.pow_succ]
  have ih := Qa8 k n hn b hb d (i + 1) fuel (by omega) (by omega)
  rw [show ((i + 1 : Nat) : Int) = (i : Int) + 1 by omega] at ih
  exact ih
theorem Q2w {k : Nat} (hk : 9 ≤ k) (n : Int) (hn : 0 ≤ n ∧ n ≤ 18446744073709551615) (b : Nat) (hb : b ≤ 8) : Qd k n (b : Int) = some (bytesOf (lowI n b), ()) := by
 unfold Qd Qd.c
 have := Qa8 k n hn b hb b 0 k (by omega) (by omega)
 simp only [Int.pow_zero, Int.ediv_one, lowI] at this
 show (Qd.l0 k k (n, (b : Int), bytesOf [], ((0 : Nat) : Int), ())).bind _ = _
 rw [this]
 rfl
theorem Q9a (k : Nat) (s : ByteArray) (hs : s.size ≤ 8) : ∀ (d i fuel : Nat), i + d = s.size → d < fuel →
  QM.l0 k fuel (s, leI ((Qj s).take i), (s.size : Int), (i : Int), ()) = some (leI (Qj s), ())
 | 0, i, fuel + 1, hi, _ => by
  have : i = s.size := by omega
  subst this
  show QM.l0.r k _ (Q0o (QM.l0.r k) fuel) some = _
  simp only [QM.l0.r]
  rw [decide_eq_false (by omega), cond_false, ← Q04, List.take_length]
 | d + 1, i, fuel + 1, hi, hf => by
  show QM.l0.r k _ (Q0o (QM.l0.r k) fuel) some = _
  simp only [QM.l0.r]
  have hr := Q2D s (i : Int).toNat
  rw [decide_eq_true (by omega), cond_true, decide_eq_true (by omega), cond_true, i64_in (by omega), decide_eq_true (by omega), cond_true, i64_in (by omega), u64_in (by omega)]
  have hin : Q0h ((Qj s).take i) := fun x hx => Q1v (List.mem_of_mem_take hx)
  obtain ⟨h0, h1⟩ := Q3q hin
  have hlen : ((Qj s).take i).length = i := by rw [List.length_take, Q04]; omega
  rw [hlen] at h1
  have hstep : leI ((Qj s).take (i + 1)) = leI ((Qj s).take i) + 256 ^ i * Q0C s i := by
   have hi' : i < (Qj s).length := by rw [Q04]; omega
   rw [List.take_succ_eq_append_getElem hi', Q7x, hlen, Q6g, List.getD_eq_getElem?_getD, List.getElem?_eq_getElem hi']
   simp [leI]
  have hin2 : Q0h ((Qj s).take (i + 1)) := fun x hx => Q1v (List.mem_of_mem_take hx)
  obtain ⟨g0, g1⟩ := Q3q hin2
  have hlen2 : ((Qj s).take (i + 1)).length = i + 1 := by rw [List.length_take, Q04]; omega
  rw [hlen2] at g1
  have hpow : (256 : Int) ^ (i + 1) ≤ 18446744073709551616 := by
   have : i + 1 ≤ 8 := by omega
   have h2 : ∀ j : Nat, j ≤ 8 → (256 : Int) ^ j ≤ 18446744073709551616 := by
    intro j hj
    match j, hj with
    | 0, _ | 1, _ | 2, _ | 3, _ | 4, _ | 5, _ | 6, _ | 7, _ | 8, _ => decide
   exact h2 _ this
  have hshl : Q1H IntKind.u64 (Q0C s (i : Int).toNat) (8 * (i : Int)) = ((Q0C s i).toNat * 2 ^ (8 * i) : Nat) := by
   unfold Q1H
   rw [show (8 * (i : Int)).toNat = 8 * i by omega, show (i : Int).toNat = i by omega]
   have : min (8 * i) IntKind.u64.bits = 8 * i := by simp [IntKind.bits]; omega
   rw [this]
   have hb := Q2D s i
   have e : Q0C s i * 2 ^ (8 * i) = (((Q0C s i).toNat * 2 ^ (8 * i) : Nat) : Int) := by
    rw [Int.natCast_mul, Int.natCast_pow, show ((Q0C s i).toNat : Int) = Q0C s i by omega]; rfl
   rw [e, u64_in]
   rw [← e, pow8, Int.mul_comm]
   have : 256 ^ i * Q0C s i ≤ leI ((Qj s).take (i + 1)) := by omega
   have : 0 ≤ 256 ^ i * Q0C s i := Int.mul_nonneg (Int.le_of_lt (Int.pow_pos (by omega))) hb.1
   omega
  have hb := Q2D s i
  have hor := Qdt (A := (leI ((Qj s).take i)).toNat) (B := (Q0C s i).toNat) (j := 8 * i) (by
   have e : ((2 ^ (8 * i) : Nat) : Int) = 256 ^ i := by rw [Int.natCast_pow]; exact pow8 i
   omega) (by
   have e : (((Q0C s i).toNat * 2 ^ (8 * i) : Nat) : Int) = 256 ^ i * Q0C s i := by
    rw [Int.natCast_mul, Int.natCast_pow, show ((2 : Nat) : Int) = 2 from rfl, pow8, Int.mul_comm, show ((Q0C s i).toNat : Int) = Q0C s i by omega]
   omega)
  rw [show ((leI ((Qj s).take i)).toNat : Int) = leI ((Qj s).take i) by omega] at hor
  rw [hshl, hor]
  have hfin : (((Q0C s i).toNat * 2 ^ (8 * i) + (leI ((Qj s).take i)).toNat : Nat) : Int) = leI ((Qj s).take (i + 1)) := by
   rw [hstep, Int.natCast_add, Int.natCast_mul, Int.natCast_pow, show ((2 : Nat) : Int) = 2 from rfl, pow8, Int.mul_comm]
   rw [show ((Q0C s i).toNat : Int) = Q0C s i by omega]
   omega
  rw [hfin]
  have ih := Q9a k s hs d (i + 1) fuel (by omega) (by omega)
  rw [show ((i + 1 : Nat) : Int) = (i : Int) + 1 by omega] at ih
  exact ih
theorem QaY {k : Nat} (hk : 9 ≤ k) (s : ByteArray) (hs : s.size ≤ 8) : QM k s = some (leI (Qj s), ()) := by
 unfold QM QM.c
 have := Q9a k s hs s.size 0 k (by omega) (by omega)
 simp only [List.take_zero, leI] at this
 show (QM.l0 k k (s, (0 : Int), (s.size : Int), ((0 : Nat) : Int), ())).bind _ = _
 rw [this]
 rfl
theorem QaW (k : Nat) (s : ByteArray) (hs : s.size ≤ 8) : ∀ (i fuel : Nat), i ≤ s.size → i < fuel →
  Qb.l0 k fuel (s, leI ((Qj s).drop i), (i : Int) - 1, ()) = some (leI (Qj s), ())
 | 0, fuel + 1, hi, _ => by
  have e : Qb.l0 k (fuel + 1) (s, leI ((Qj s).drop 0), ((0 : Nat) : Int) - 1, ()) = Qb.l0.r k (s, leI ((Qj s).drop 0), ((0 : Nat) : Int) - 1, ()) (Q0o (Qb.l0.r k) fuel) some := rfl
  rw [e]
  simp only [Qb.l0.r]
  rw [decide_eq_false (by omega), cond_false, List.drop_zero]
 | i + 1, fuel + 1, hi, hf => by
  show Qb.l0.r k _ (Q0o (Qb.l0.r k) fuel) some = _
  simp only [Qb.l0.r]
  have hr := Q2D s i
  rw [show ((i + 1 : Nat) : Int) - 1 = (i : Int) by omega, show (i : Int).toNat = i by omega]
  have hin : Q0h ((Qj s).drop i) := fun x hx => Q1v (List.mem_of_mem_drop hx)
  obtain ⟨h0, h1⟩ := Q3q hin
  have hlen : ((Qj s).drop i).length = s.size - i := by rw [List.length_drop, Q04]
  rw [hlen] at h1
  have hpow : (256 : Int) ^ (s.size - i) ≤ 18446744073709551616 := by
   have h2 : ∀ j : Nat, j ≤ 8 → (256 : Int) ^ j ≤ 18446744073709551616 := by
    intro j hj
    match j, hj with
    | 0, _ | 1, _ | 2, _ | 3, _ | 4, _ | 5, _ | 6, _ | 7, _ | 8, _ => decide
   exact h2 _ (by omega)
  have hstep : leI ((Qj s).drop i) = Q0C s i + 256 * leI ((Qj s).drop (i + 1)) := by
   have hi' : i < (Qj s).length := by rw [Q04]; omega
   rw [List.drop_eq_getElem_cons hi', leI, Q6g, List.getD_eq_getElem?_getD, List.getElem?_eq_getElem hi']
   rfl
  have hin2 : Q0h ((Qj s).drop (i + 1)) := fun x hx => Q1v (List.mem_of_mem_drop hx)
  have g0 := (Q3q hin2).1
  rw [decide_eq_true (by omega), cond_true, decide_eq_true (by omega), cond_true, u64_in (n := Q0C s i) (by omega), u64_in (n := _ * 256) (by omega), u64_in (by omega), i64_in (by omega)]
  rw [show leI ((Qj s).drop (i + 1)) * 256 + Q0C s i = leI ((Qj s).drop i) by omega]
  exact QaW k s hs i fuel (by omega) (by omega)
theorem Q19 {k : Nat} (hk : 9 ≤ k) (s : ByteArray) (hs : s.size ≤ 8) : Qb k s = some (leI (Qj s), ()) := by
 unfold Qb Qb.c
 have := QaW k s hs s.size k (by omega) (by omega)
 rw [show (Qj s).drop s.size = [] by rw [← Q04]; simp] at this
 simp only [leI] at this
 rw [i64_in (by omega)]
 show (Qb.l0 k k (s, (0 : Int), (s.size : Int) - 1, ())).bind _ = _
 rw [this]
 rfl
theorem Q15 (s : ByteArray) : Q0h (Qj s) := fun _ h => Q1v h
theorem QeW {l r : List Int} (h : Q0h l) (hs : ∀ x ∈ r, x ∈ l) : Q0h r := fun x hx => h x (hs x hx)
theorem Qf0 : (⟨List.toArray []⟩ : ByteArray) = bytesOf [] := rfl
abbrev Rd : Type := ByteArray × Int × Int × Unit
def RdOK (r : Rd) : Prop := r.1.size ≤ 140737488351232 ∧ 0 ≤ r.2.1 ∧ r.2.1 ≤ (r.1.size : Int)
def Q1L (r : Rd) (n : Int) : Rd × ByteArray :=
 if r.2.2.1 ≠ 0 then (r, ⟨List.toArray []⟩) else
 if n < 0 then ((r.1, r.2.1, 1, ()), ⟨List.toArray []⟩) else
 if n > (r.1.size : Int) - r.2.1 then ((r.1, r.2.1, 4, ()), ⟨List.toArray []⟩) else
 ((r.1, r.2.1 + n, r.2.2.1, ()), r.1.extract r.2.1.toNat (r.2.1 + n).toNat)
theorem Qfu {r : Rd} (h : RdOK r) (n : Int) : RdOK (Q1L r n).1 ∧ (Q1L r n).1.1 = r.1 := by
 obtain ⟨h1, h2, h3⟩ := h
 unfold Q1L
 split
 ·exact ⟨⟨h1, h2, h3⟩, rfl⟩
 ·split
  ·exact ⟨⟨h1, h2, h3⟩, rfl⟩
  ·split
   ·exact ⟨⟨h1, h2, h3⟩, rfl⟩
   ·exact ⟨⟨h1, by dsimp only; omega, by dsimp only; omega⟩, rfl⟩
theorem Q8w {r : Rd} (h : RdOK r) (n : Int) : (Q1L r n).2.size = 0 ∨ (Q1L r n).2.size = n.toNat := by
 obtain ⟨h1, h2, h3⟩ := h
 unfold Q1L
 split
 ·exact .inl rfl
 ·split
  ·exact .inl rfl
  ·split
   ·exact .inl rfl
   ·right
    rw [ByteArray.size_extract]; omega
theorem Qfs {r : Rd} (n : Int) (he : (Q1L r n).1.2.2.1 ≠ 0) : (Q1L r n).2 = ⟨List.toArray []⟩ := by
 unfold Q1L at he ⊢
 split
 ·rfl
 ·split
  ·rfl
  ·split
   ·rfl
   ·rename_i h0 h1 h2
    rw [if_neg h0, if_neg h1, if_neg h2] at he
    exact absurd he h0
theorem Qfl {r : Rd} (h : RdOK r) {n : Int} (he : (Q1L r n).1.2.2.1 = 0) : (Q1L r n).2.size = n.toNat ∧ 0 ≤ n := by
 obtain ⟨h1, h2, h3⟩ := h
 unfold Q1L at he ⊢
 split
 ·rename_i h0
  rw [if_pos h0] at he
  exact absurd he h0
 ·rename_i h0
  rw [if_neg h0] at he
  split
  ·rename_i h1
   rw [if_pos h1] at he; cases he
  ·rename_i h1
   rw [if_neg h1] at he
   split
   ·rename_i h2
    rw [if_pos h2] at he; cases he
   ·exact ⟨by rw [ByteArray.size_extract]; omega, by omega⟩
theorem QaK (k : Nat) {r : Rd} (h : RdOK r) {n : Int} : Qu k n r = some ((Q1L r n).2, (Q1L r n).1, ()) := by
 obtain ⟨s, a, e, u⟩ := r
 obtain ⟨h1, h2, h3⟩ := h
 simp only at h1 h2 h3
 unfold Qu Qu.c Q1L
 rw [show QG k (s, a, e, ()) = some (e, (s, a, e, ()), ()) from rfl]
 simp only [Option.bind_some]
 by_cases he : e = 0
 ·subst he
  rw [bne_self_eq_false, cond_false, if_neg (by simp)]
  by_cases hn : n < 0
  ·rw [QF hn, if_pos hn]
  ·rw [Q0z hn, if_neg hn, show QJ k (s, a, (0 : Int), ()) = some (IntKind.i64.wrap ((s.size : Int) - a), (s, a, (0 : Int), ()), ()) from rfl]
   simp only [Option.bind_some]
   rw [i64_in (n := (s.size : Int) - a) (by omega)]
   by_cases hg : n > (s.size : Int) - a
   ·rw [QF hg, if_pos hg]
   ·rw [Q0z hg, if_neg hg, i64_in (n := a + n) (by omega), i64_in (by omega), QF (by omega), show a + n - n = a by omega]
 ·rw [Q0l (by simpa using he), if_pos he]
theorem Qfp {l : List Int} (h : Q0h l) {m : Nat} (hm : l.length ≤ m) : 0 ≤ leI l ∧ leI l < 256 ^ m := by
 obtain ⟨h1, h2⟩ := Q3q h
 refine ⟨h1, Int.lt_of_lt_of_le h2 ?_⟩
 have : (256 : Nat) ^ l.length ≤ 256 ^ m := Nat.pow_le_pow_right (by omega) hm
 have h3 : (((256 : Nat) ^ l.length : Nat) : Int) ≤ ((256 ^ m : Nat) : Int) := Int.ofNat_le.2 this
 rw [Int.natCast_pow, Int.natCast_pow] at h3
 exact h3
def numS (r : Rd) (n : Int) : Int := leI (Qj (Q1L r n).2)
theorem QfE {r : Rd} (h : RdOK r) (n : Nat) : 0 ≤ numS r n ∧ numS r n < 256 ^ n := by
 refine Qfp (Q15 _) ?_
 rw [Q04]
 rcases Q8w h (n : Int) with h | h <;> omega
theorem QbP {k : Nat} (hk : 9 ≤ k) {r : Rd} (h : RdOK r) (n : Nat) (hn : n ≤ 8) : QM k (Q1L r n).2 = some (numS r n, ()) :=
 QaY hk _ (by rcases Q8w h (n : Int) with h | h <;> omega)
theorem Qe0 {k : Nat} (hk : 9 ≤ k) {r : Rd} (h : RdOK r) : Qv k r = some (numS r 8, (Q1L r 8).1, ()) := by
 unfold Qv Qv.c
 show (Qu k 8 r).bind _ = _
 rw [QaK k h]
 simp only [Option.bind_some]
 rw [show (8 : Int) = ((8 : Nat) : Int) from rfl, QbP hk h 8 (by omega)]
 rfl
theorem Qe5 : ∀ (b : Nat) (n : Int), lowI (n % 256 ^ b) b = lowI n b
 | 0, _ => rfl
 | b + 1, n => by
  simp only [lowI]
  have h1 : n % 256 ^ (b + 1) % 256 = n % 256 := by
   rw [Int.pow_succ, Int.mul_comm]
   exact Int.emod_emod_of_dvd _ (Int.dvd_mul_right _ _)
  have h2 : n % 256 ^ (b + 1) / 256 = n / 256 % 256 ^ b := by
   have e := Int.mul_ediv_add_emod n 256
   have hp : (0 : Int) < 256 ^ b := Int.pow_pos (by decide)
   have e2 := Int.mul_ediv_add_emod (n / 256) (256 ^ b)
   have r1 := Int.emod_nonneg n (show (256 : Int) ≠ 0 by decide)
   have r2 := Int.emod_lt_of_pos n (show (0 : Int) < 256 by decide)
   have r3 := Int.emod_nonneg (n / 256) (Int.ne_of_gt hp)
   have r4 := Int.emod_lt_of_pos (n / 256) hp
   have key : n % 256 ^ (b + 1) = 256 * (n / 256 % 256 ^ b) + n % 256 := by
    rw [Int.pow_succ]
    have hn : n = (256 * (n / 256 % 256 ^ b) + n % 256) + 256 ^ b * 256 * (n / 256 / 256 ^ b) := by
     have e3 : 256 ^ b * 256 * (n / 256 / 256 ^ b) = 256 * (256 ^ b * (n / 256 / 256 ^ b)) := by
      rw [Int.mul_comm (256 ^ b) 256, Int.mul_assoc]
     rw [e3]; omega
    conv => lhs; rw [hn]
    rw [Int.add_mul_emod_self_left]
    exact Int.emod_eq_of_lt (by omega) (by omega)
   rw [key]
   omega
  rw [h1, h2, Qe5 b]
theorem wb {k : Nat} {s : ByteArray} {u} {b1 : List Int} (h : b1.length + s.size ≤ 140737488355328) : Qt k s u b1 = some (u, b1 ++ Qj s, ()) := by
 unfold Qt Qt.c Qh Qh.c
 rw [Q0l (Q16 (by rw [Q04]; omega))]
 rfl
theorem wrl {k : Nat} {l : List Int} (hl : Q0h l) {u} {b1 : List Int} (h : b1.length + l.length ≤ 140737488355328) : Qt k (bytesOf l) u b1 = some (u, b1 ++ l, ()) := by
 rw [wb (by rw [QQ]; exact h), Q09 hl]
theorem wu64 {k : Nat} (hk : 9 ≤ k) (n : Int) {u} {b1 : List Int} (h : b1.length ≤ 140737488350000) : QH k n u b1 = some (u, b1 ++ lowI n 8, ()) := by
 unfold QH QH.c
 rw [show (8 : Int) = ((8 : Nat) : Int) from rfl, Qb8 hk _ 8 (by omega)]
 simp only [Option.bind_some]
 rw [wrl (Q5L _ _) (by rw [Q0W]; omega)]
 rfl
theorem Q9h (s : ByteArray) (i : Nat) : Q0C s i = (Qj s).getD i 0 := Q6g s i
theorem Qfn {l : List Int} {i : Nat} (h : i + 64 ≤ l.length) : (List.range 64).map (fun j => l.getD (i + j) 0) = (l.drop i).take 64 := by
 apply List.ext_getElem
 ·simp; omega
 ·intro j h1 h2
  simp only [List.length_map, List.length_range] at h1
  simp only [List.getElem_map, List.getElem_range, List.getElem_take, List.getElem_drop, List.getD_eq_getElem?_getD]
  rw [List.getElem?_eq_getElem (by omega)]
  rfl
theorem QbO (k : Nat) (s : ByteArray) {i : Nat} (hi : i + 64 ≤ s.size) (hs : s.size ≤ 9223372036854775807) (x z : List Int) {fuel : Nat} (hf : 64 < fuel) :
  Q7.l1 k fuel (s, (i : Int), (0 : Int), z, x, List.replicate 64 0, ()) = some (s, (i : Int), z, x, ((Qj s).drop i).take 64, ()) := by
 have hl := Q04 s
 have := Q0f (r := Q7.l1.r k) (fun j => (s, (i : Int), (j : Int), z, x, (List.range j).map (fun j => (Qj s).getD (i + j) 0) ++ (List.replicate 64 (0 : Int)).drop j, ())) 64 (s, (i : Int), z, x, ((Qj s).drop i).take 64, ()) ?_ ?_ hf
 ·exact this
 ·intro j hj kn ke
  simp only [Q7.l1.r]
  rw [QF (by omega), i64_in (n := (i : Int) + (j : Int)) (by omega), QF (by omega), QF (by omega), i64_in (n := (j : Int) + 1) (by omega), show ((i : Int) + (j : Int)).toNat = i + j by omega, show (j : Int).toNat = j by omega, Q9h]
  rw [Q7m (f := fun j => (Qj s).getD (i + j) 0) (by simp; omega)]
  rfl
 ·intro kn ke
  simp only [Q7.l1.r]
  rw [Q0z (by omega), Q7B (by simp), Qfn (by omega)]
theorem Qbg {k : Nat} (hk : 128 < k) {s : ByteArray} (hs : s.size ≤ 140737488354000) (hf : s.size / 64 + 2 < k) : Q7 k s = some (sumL (Qj s), ()) := by
 unfold Q7 Q7.c
 have hsz := Q04 s
 have hp : (bytesOf (padL (s.size : Int))).size = 9 + padZ (s.size : Int) := by rw [QQ, Q1T]
 have hz := Q3H (s.size : Int)
 have hpb : Qj (bytesOf (padL (s.size : Int))) = padL (s.size : Int) := Q09 fun x hx => by have := Qc6 (s.size : Int) x hx; omega
 dsimp only
 rw [u64_in (n := (s.size : Int)) (by omega), Qbc (by omega) (by omega)]
 simp only [Option.bind_some]
 rw [Q0l (Q16 (by omega)), Q9t]
 simp only [Option.bind_some]
 generalize hv : s ++ bytesOf (padL (s.size : Int)) = v
 have hvl : Qj v = Qj s ++ padL (s.size : Int) := by rw [← hv, Q4g, hpb]
 have hvs : v.size = s.size + (9 + padZ (s.size : Int)) := by rw [← Q04, hvl, List.length_append, hsz, Q1T]
 have h64 : (s.size + (9 + padZ (s.size : Int))) % 64 = 0 := by have := Qew (n := s.size); rwa [Q1T] at this
 have h0 : Q7.l0 k k (v, (0 : Int), List.replicate 32 0, first, ()) = some (List.replicate 32 0, stt first (Qj v) (v.size / 64), ()) := by
  have := Q0f (r := Q7.l0.r k) (fun i => (v, ((64 * i : Nat) : Int), List.replicate 32 (0 : Int), stt first (Qj v) i, ())) (v.size / 64) (List.replicate 32 0, stt first (Qj v) (v.size / 64), ()) ?_ ?_ (fuel := k) (by omega)
  ·exact this
  ·intro i hi kn ke
   simp only [Q7.l0.r]
   rw [QF (by omega), QbO k v (by omega) (by omega) _ _ (by omega)]
   simp only [Option.bind_some]
   rw [Qaf (by omega) (QbB Q8m i) (Q5g Q3A i) (Q7w (Q5e (Q3C v) _) _) (by rw [List.length_take, List.length_drop, Q04]; omega)]
   simp only [Option.bind_some]
   rw [i64_in (by omega), show ((64 * i : Nat) : Int) + 64 = ((64 * (i + 1) : Nat) : Int) by omega]
   rfl
  ·intro kn ke
   simp only [Q7.l0.r]
   rw [Q0z (by omega)]
 rw [h0]
 simp only [Option.bind_some]
 rw [Q9x (by omega)]
 simp only [Option.bind_some]
 unfold sumL hx
 rw [hvl, hsz, List.length_append, hsz, Q1T, hvs]
end Go.Am
