/- A part of a proof: a machine of abstract values that tells what functions of the program compute, and the plain facts on them. -/
import Derived.Test.YtpoofchknajlgaaAm10
set_option linter.unusedVariables false
set_option linter.unusedSimpArgs false
set_option linter.unnecessarySimpa false
set_option linter.unusedSectionVars false
namespace Go.Am
open Go
def first : List Int := [1779033703, 3144134277, 1013904242, 2773480762, 1359893119, 2600822924, 528734635, 1541459225]
theorem Qe1 (k : Nat) : Q1v k = some (first, ()) := rfl
theorem Qae (k : Nat) : Q0H k = some (first, ()) := rfl
theorem Q8o : Q1V 0 4294967295 first := by unfold Q1V first; decide
theorem Q4n : first.length = 8 := rfl
def stt (x l : List Int) : Nat → List Int
 | 0 => x
 | n + 1 => Q7j (stt x l n) ((l.drop (64 * n)).take 64)
theorem Qbn {x l : List Int} (hx : Q1V 0 4294967295 x) : ∀ n, Q1V 0 4294967295 (stt x l n)
 | 0 => hx
 | _ + 1 => QdD _ _
theorem Q5U {x l : List Int} (hx : x.length = 8) : ∀ n, (stt x l n).length = 8
 | 0 => hx
 | _ + 1 => Qa0 _ _
theorem Q8B (x a b : List Int) : ∀ n, 64 * n ≤ a.length → stt x (a ++ b) n = stt x a n
 | 0, _ => rfl
 | n + 1, h => by
  simp only [stt]
  rw [Q8B x a b n (by omega), List.drop_append_of_le_length (by omega), List.take_append_of_le_length (by simp; omega)]
theorem QbX (x l : List Int) (q : Nat) : ∀ j, stt x l (q + j) = stt (stt x l q) (l.drop (64 * q)) j
 | 0 => rfl
 | j + 1 => by
  rw [← Nat.add_assoc]
  simp only [stt]
  rw [QbX x l q j, List.drop_drop, show 64 * q + 64 * j = 64 * (q + j) by omega]
theorem Q5W {lo hi : Int} {l : List Int} (h : Q1V lo hi l) (n : Nat) : Q1V lo hi (l.drop n) := fun x hx => h x (List.mem_of_mem_drop hx)
theorem Q8C {lo hi : Int} {l : List Int} (h : Q1V lo hi l) (n : Nat) : Q1V lo hi (l.take n) := fun x hx => h x (List.mem_of_mem_take hx)
theorem Q9V {lo hi : Int} {l r : List Int} (h : Q1V lo hi l) (h2 : Q1V lo hi r) : Q1V lo hi (l ++ r) := fun x hx => by
 rcases List.mem_append.1 hx with hx | hx
 ·exact h x hx
 ·exact h2 x hx
theorem Q4r (s : ByteArray) : Q1V 0 255 (Q0Z s) := fun x hx => by have := Q5c hx; omega
theorem Q8i (k : Nat) (hk : 64 < k) {x left : List Int} (hx : Q1V 0 4294967295 x) (hxl : x.length = 8) (hl : Q1V 0 255 left) (n : Int) {fuel : Nat} (hf : left.length / 64 < fuel) :
  Qt.l0 k fuel ((x, (), n, ()), left, ()) = some ((stt x left (left.length / 64), (), n, ()), left.drop (64 * (left.length / 64)), ()) := by
 refine Q1H (r := Qt.l0.r k) (fun i => ((stt x left i, (), n, ()), left.drop (64 * i), ())) (left.length / 64) _ ?_ ?_ hf
 ·intro i hi kn ke
  simp only [Qt.l0.r]
  have hlen : (left.drop (64 * i)).length = left.length - 64 * i := by simp
  rw [Q13 (by rw [hlen]; omega), Q13 (by rw [hlen]; omega), List.drop_zero]
  rw [QaC hk (Qbn hx i) (Q5U hxl i) (Q8C (Q5W hl _) _) (by simp; omega)]
  simp only [Option.bind_some]
  have e : List.take ((((List.drop (64 * i) left).length : Nat) : Int) - 64).toNat (List.drop 64 (List.drop (64 * i) left)) = left.drop (64 * (i + 1)) := by
   rw [List.take_of_length_le (by rw [List.length_drop, hlen]; omega), List.drop_drop, show 64 * i + 64 = 64 * (i + 1) by omega]
  rw [Q13 (by rw [hlen]; omega), e]
  rfl
 ·intro kn ke
  simp only [Qt.l0.r]
  have hlen : (left.drop (64 * (left.length / 64))).length = left.length - 64 * (left.length / 64) := by simp
  rw [Q1R (by rw [hlen]; omega)]
def padF (n : Int) (j : Nat) : Int := IntKind.u8.wrap (Q2l .u64 (IntKind.u64.wrap (8 * n)) (8 * (7 - (j : Int))))
def padZ (n : Int) : Nat := ((119 - n % 64) % 64).toNat
def padL (n : Int) : List Int := (128 :: List.replicate (padZ n) 0) ++ (List.range 8).map (padF n)
theorem Q2Q (n : Int) : (padL n).length = 9 + padZ n := by simp [padL]; omega
theorem Q4y (n : Int) : padZ n < 64 := by unfold padZ; omega
theorem Qcb (n : Int) : Q1V 0 255 (padL n) := by
 intro x hx
 simp only [padL, List.mem_append, List.mem_cons, List.mem_replicate, List.mem_map] at hx
 rcases hx with (rfl | ⟨_, rfl⟩) | ⟨j, _, rfl⟩
 ·omega
 ·omega
 ·unfold padF; rw [Qbz]; omega
theorem Qeh {n : Nat} : (n + (padL (n : Int)).length) % 64 = 0 := by
 rw [Q2Q]; unfold padZ; omega
theorem Qaw {α : Type} (f : Nat → α) (l : List α) (i : Nat) : l ++ (List.range i).map f ++ [f i] = l ++ (List.range (i + 1)).map f := by
 rw [List.range_succ, List.map_append, List.append_assoc]; rfl
theorem shl3 (n : Int) : Q3l .u64 n 3 = IntKind.u64.wrap (8 * n) := by
 unfold Q3l
 rw [show min (3 : Int).toNat IntKind.u64.bits = 3 from rfl, show n * 2 ^ 3 = 8 * n by omega]
theorem Qbt {k : Nat} (hk : 64 < k) {n : Int} (hn : 0 ≤ n ∧ n ≤ 18446744073709551615) : Q1d k n = some (bytesOf (padL n), ()) := by
 unfold Q1d Q1d.c
 dsimp only
 rw [Int.tmod_eq_emod_of_nonneg hn.1, i64_in (n := n % 64) (by omega), i64_in (n := 119 - n % 64) (by omega), Int.tmod_eq_emod_of_nonneg (by omega), i64_in (n := 1 + (119 - n % 64) % 64) (by omega), i64_in (by omega)]
 have hz : (1 + (119 - n % 64) % 64).toNat = padZ n + 1 := by unfold padZ; omega
 have hb : Nat.ble ((1 + (119 - n % 64) % 64 + 8).toNat * 1) 140737488355328 = true := Q2a (by omega)
 rw [decide_eq_true (show 0 ≤ 1 + (119 - n % 64) % 64 ∧ 1 + (119 - n % 64) % 64 ≤ 1 + (119 - n % 64) % 64 + 8 by omega), hb, Bool.and_self, cond_true, hz, List.length_replicate, Q13 (by omega)]
 have e : (List.replicate (padZ n + 1) (0 : Int)).set 0 128 = 128 :: List.replicate (padZ n) 0 := by rw [List.replicate_succ, List.set_cons_zero]
 rw [e]
 have := Q1H (r := Q1d.l0.r k) (fun i => (n, (i : Int), (128 :: List.replicate (padZ n) 0) ++ (List.range i).map (padF n), ())) 8 (padL n, ()) ?_ ?_ (fuel := k) (by omega)
 ·simp only [List.range_zero, List.map_nil, List.append_nil] at this
  show (Q1d.l0 k k (n, ((0 : Nat) : Int), 128 :: List.replicate (padZ n) 0, ())).bind _ = _
  unfold Q1d.l0
  rw [this]
  rfl
 ·intro i hi kn ke
  simp only [Q1d.l0.r]
  rw [Q13 (by omega), i64_in (n := 7 - (i : Int)) (by omega), i64_in (n := 8 * (7 - (i : Int))) (by omega), Q13 (by omega), i64_in (n := (i : Int) + 1) (by omega), shl3]
  have hl : Nat.ble ((((128 :: List.replicate (padZ n) 0) ++ (List.range i).map (padF n)).length + (List.set (List.replicate 1 (0 : Int)) 0 (IntKind.u8.wrap (Q2l .u64 (IntKind.u64.wrap (8 * n)) (8 * (7 - (i : Int)))))).length) * 1) 140737488355328 = true :=
   Q2a (by have := Q4y n; simp; omega)
  rw [Q1C hl]
  show kn (n, (i : Int) + 1, (128 :: List.replicate (padZ n) 0) ++ (List.range i).map (padF n) ++ [padF n i], ()) = _
  rw [Qaw]
  rfl
 ·intro kn ke
  simp only [Q1d.l0.r]
  rw [Q1R (by omega)]
  rfl
theorem Qbf {k : Nat} (hk : 80 < k) {n : Int} (hn : 0 ≤ n ∧ n ≤ 18446744073709551615) : Qd k n = some (bytesOf (padL n), ()) := by
 unfold Qd Qd.c
 have h0 := Q1H (r := Qd.l0.r k) (fun i => (n, 128 :: List.replicate i (0 : Int), ())) (padZ n) (n, 128 :: List.replicate (padZ n) 0, ()) ?_ ?_ (fuel := k) (by have := Q4y n; omega)
 ·have e : List.set (List.replicate 1 (0 : Int)) 0 128 = 128 :: List.replicate 0 0 := rfl
  rw [e]
  unfold Qd.l0
  rw [h0]
  simp only [Option.bind_some]
  have := Q1H (r := Qd.l1.r k) (fun i => (IntKind.u64.wrap (8 * n), 7 - (i : Int), (128 :: List.replicate (padZ n) 0) ++ (List.range i).map (padF n), ())) 8 (padL n, ()) ?_ ?_ (fuel := k) (by omega)
  ·simp only [List.range_zero, List.map_nil, List.append_nil] at this
   show (Qd.l1 k k (IntKind.u64.wrap (8 * n), 7 - ((0 : Nat) : Int), 128 :: List.replicate (padZ n) 0, ())).bind _ = _
   unfold Qd.l1
   rw [this]
   rfl
  ·intro i hi kn ke
   simp only [Qd.l1.r]
   rw [Q13 (by omega), i64_in (n := 8 * (7 - (i : Int))) (by omega), Q13 (by omega), i64_in (n := 7 - (i : Int) - 1) (by omega)]
   have hl : Nat.ble ((((128 :: List.replicate (padZ n) 0) ++ (List.range i).map (padF n)).length + (List.set (List.replicate 1 (0 : Int)) 0 (IntKind.u8.wrap (Q2l .u64 (IntKind.u64.wrap (8 * n)) (8 * (7 - (i : Int)))))).length) * 1) 140737488355328 = true :=
    Q2a (by have := Q4y n; simp; omega)
   rw [Q1C hl]
   show kn (IntKind.u64.wrap (8 * n), 7 - (i : Int) - 1, (128 :: List.replicate (padZ n) 0) ++ (List.range i).map (padF n) ++ [padF n i], ()) = _
   rw [Qaw, show 7 - (i : Int) - 1 = 7 - ((i + 1 : Nat) : Int) by omega]
  ·intro kn ke
   simp only [Qd.l1.r]
   rw [Q1R (by omega)]
   rfl
 ·intro i hi kn ke
  simp only [Qd.l0.r]
  have hz : padZ n < 64 := Q4y n
  have hzd : (padZ n : Int) = (119 - n % 64) % 64 := by unfold padZ; omega
  simp only [List.length_cons, List.length_replicate]
  rw [u64_in (n := ((i + 1 : Nat) : Int)) (by omega), Q9R, Int.tmod_eq_emod_of_nonneg (by omega)]
  have hne : ((n + ((i + 1 : Nat) : Int)) % 18446744073709551616 % 64 != 56) = true := by
   rw [bne_iff_ne]; omega
  rw [Q1C hne, Q1C (Q2a (by omega))]
  show kn (n, (128 :: List.replicate i (0 : Int)) ++ [0], ()) = _
  rw [List.cons_append, ← List.replicate_succ']
 ·intro kn ke
  simp only [Qd.l0.r]
  have hz : padZ n < 64 := Q4y n
  have hzd : (padZ n : Int) = (119 - n % 64) % 64 := by unfold padZ; omega
  simp only [List.length_cons, List.length_replicate]
  rw [u64_in (n := ((padZ n + 1 : Nat) : Int)) (by omega), Q9R, Int.tmod_eq_emod_of_nonneg (by omega)]
  have hne : ((n + ((padZ n + 1 : Nat) : Int)) % 18446744073709551616 % 64 != 56) = false := by
   rw [bne_eq_false_iff_eq]; omega
  rw [Q20 hne]
def beF (x : List Int) (j : Nat) : Int := IntKind.u8.wrap (Q2l .u32 (x.getD (j / 4) 0) (24 - 8 * ((j % 4 : Nat) : Int)))
def Q3W (x : List Int) : List Int := (List.range 32).map (beF x)
def beZ (x : List Int) (j : Nat) : List Int := (List.range j).map (beF x) ++ (List.replicate 32 (0 : Int)).drop j
theorem Qcm (x : List Int) {j : Nat} (h : j < 32) : (beZ x j).set j (beF x j) = beZ x (j + 1) := Q7I (by simpa using h)
theorem Q7V (x : List Int) : (Q3W x).length = 32 := by simp [Q3W]
theorem Qbd (x : List Int) : Q1V 0 255 (Q3W x) := by
 intro v hv
 simp only [Q3W, List.mem_map] at hv
 obtain ⟨j, _, rfl⟩ := hv
 unfold beF; rw [Qbz]; omega
theorem QeT (k : Nat) (x : List Int) {i : Nat} (hi : i < 8) (b0 : List Int × Unit × Int × Unit) (b1 z : List Int) {fuel : Nat} (hf : 4 < fuel) :
  Qj.l1 k fuel ((i : Int), x.getD i 0, x, (i : Int), (0 : Int), b0, b1, z, beZ x (4 * i), ()) = some (x, (i : Int), b0, b1, z, beZ x (4 * (i + 1)), ()) := by
 refine Q1H (r := Qj.l1.r k) (fun j => ((i : Int), x.getD i 0, x, (i : Int), (j : Int), b0, b1, z, beZ x (4 * i + j), ())) 4 _ ?_ ?_ hf
 ·intro j hj kn ke
  simp only [Qj.l1.r]
  rw [Q13 (by omega), i64_in (n := 4 * (i : Int)) (by omega), i64_in (n := 4 * (i : Int) + (j : Int)) (by omega), i64_in (n := 3 - (j : Int)) (by omega), i64_in (n := 8 * (3 - (j : Int))) (by omega), i64_in (n := (j : Int) + 1) (by omega), Q13 (by omega), Q13 (by omega)]
  have e : IntKind.u8.wrap (Q2l .u32 (x.getD i 0) (8 * (3 - (j : Int)))) = beF x (4 * i + j) := by
   unfold beF
   rw [show (4 * i + j) / 4 = i by omega, show (4 * i + j) % 4 = j by omega, show 8 * (3 - (j : Int)) = 24 - 8 * (j : Int) by omega]
  rw [e, show (4 * (i : Int) + (j : Int)).toNat = 4 * i + j by omega, Qcm x (by omega)]
  rfl
 ·intro kn ke
  simp only [Qj.l1.r]
  rw [Q1R (by omega)]
  rfl
theorem QeW (k : Nat) (hk : 64 < k) (x : List Int) (b0 : List Int × Unit × Int × Unit) (b1 z : List Int) :
  Qj.l0 k k (x, (0 : Int), b0, b1, z, List.replicate 32 0, ()) = some (b0, b1, z, Q3W x, ()) := by
 refine Q1H (r := Qj.l0.r k) (fun i => (x, (i : Int), b0, b1, z, beZ x (4 * i), ())) 8 _ ?_ ?_ (by omega)
 ·intro i hi kn ke
  simp only [Qj.l0.r]
  rw [Q13 (by omega), Q13 (by omega), show (i : Int).toNat = i by omega]
  have := QeT k x hi b0 b1 z (fuel := k) (by omega)
  show (Qj.l1 k k ((i : Int), x.getD i 0, x, (i : Int), (0 : Int), b0, b1, z, beZ x (4 * i), ())).bind _ = _
  rw [this]
  simp only [Option.bind_some]
  rw [i64_in (by omega)]
  rfl
 ·intro kn ke
  simp only [Qj.l0.r]
  rw [Q1R (by omega)]
  rfl
theorem Q9E {k : Nat} (hk : 64 < k) (x : List Int) : Qb k x = some (Q3W x, ()) := by
 unfold Qb Qb.c
 dsimp only
 have l1 : ∀ {i : Nat}, i < 8 → ∀ z : List Int, Qb.l1 k k ((i : Int), (0 : Int), x, z, beZ x (4 * i), ()) = some ((i : Int), x, z, beZ x (4 * (i + 1)), ()) := by
  intro i hi z
  refine Q1H (r := Qb.l1.r k) (fun j => ((i : Int), (j : Int), x, z, beZ x (4 * i + j), ())) 4 _ ?_ ?_ (by omega)
  ·intro j hj kn ke
   simp only [Qb.l1.r]
   rw [Q13 (by omega), i64_in (n := 4 * (i : Int)) (by omega), i64_in (n := 4 * (i : Int) + (j : Int)) (by omega), i64_in (n := 8 * (j : Int)) (by omega), i64_in (n := 24 - 8 * (j : Int)) (by omega), i64_in (n := (j : Int) + 1) (by omega), Q13 (by omega), Q13 (by omega), Q13 (by omega)]
   have e : IntKind.u8.wrap (Q2l .u32 (x.getD (i : Int).toNat 0) (24 - 8 * (j : Int))) = beF x (4 * i + j) := by
    unfold beF
    rw [show (4 * i + j) / 4 = i by omega, show (4 * i + j) % 4 = j by omega, show (i : Int).toNat = i by omega]
   rw [e, show (4 * (i : Int) + (j : Int)).toNat = 4 * i + j by omega, Qcm x (by omega)]
   rfl
  ·intro kn ke
   simp only [Qb.l1.r]
   rw [Q1R (by omega)]
   rfl
 have h0 : Qb.l0 k k ((0 : Int), x, List.replicate 32 0, List.replicate 32 0, ()) = some (List.replicate 32 0, Q3W x, ()) := by
  refine Q1H (r := Qb.l0.r k) (fun i => ((i : Int), x, List.replicate 32 0, beZ x (4 * i), ())) 8 _ ?_ ?_ (by omega)
  ·intro i hi kn ke
   simp only [Qb.l0.r]
   rw [Q13 (by omega), l1 hi]
   simp only [Option.bind_some]
   rw [i64_in (by omega)]
   rfl
  ·intro kn ke
   simp only [Qb.l0.r]
   rw [Q1R (by omega)]
   rfl
 rw [h0]
 rfl
def hx (a : List Int) : List Int := stt first a (a.length / 64)
def hl (a : List Int) : List Int := a.drop (64 * (a.length / 64))
def HS (a : List Int) : List Int × Unit × Int × Unit := (hx a, (), (a.length : Int), ())
theorem Qf8 (a : List Int) : Q1V 0 4294967295 (hx a) := Qbn Q8o _
theorem QcY (a : List Int) : (hx a).length = 8 := Q5U Q4n _
theorem Q9B (a : List Int) : (hl a).length < 64 := by simp only [hl, List.length_drop]; omega
theorem Qfc {a : List Int} (h : Q1V 0 255 a) : Q1V 0 255 (hl a) := Q5W h _
theorem Qcw (a b : List Int) : stt (hx a) (hl a ++ b) ((hl a ++ b).length / 64) = hx (a ++ b) ∧ (hl a ++ b).drop (64 * ((hl a ++ b).length / 64)) = hl (a ++ b) := by
 have hle : 64 * (a.length / 64) ≤ a.length := by omega
 have e1 : hl a ++ b = (a ++ b).drop (64 * (a.length / 64)) := by rw [List.drop_append_of_le_length hle]; rfl
 have e2 : hx a = stt first (a ++ b) (a.length / 64) := (Q8B _ _ _ _ hle).symm
 have hlen : (hl a ++ b).length = (a ++ b).length - 64 * (a.length / 64) := by rw [e1, List.length_drop]
 have hq : (a ++ b).length / 64 = a.length / 64 + (hl a ++ b).length / 64 := by
  rw [hlen]; simp only [List.length_append]; omega
 refine ⟨?_, ?_⟩
 ·unfold hx at e2 ⊢
  rw [e2, hq, QbX first (a ++ b), ← e1]
 ·have e3 : hl (a ++ b) = (a ++ b).drop (64 * ((a ++ b).length / 64)) := rfl
  rw [e3, hq, e1, List.drop_drop, ← e1, Nat.mul_add]
theorem Qba (k : Nat) : Q1E k = some (HS [], ()) := rfl
theorem QcO {k : Nat} (hk : 64 < k) {a : List Int} (ha : Q1V 0 255 a) {s : ByteArray} (hs : s.size ≤ 140737488354000) (hn : a.length + s.size ≤ 18446744073709551615) (hf : s.size / 64 + 1 < k) :
  Qp k s (HS a) (hl a) = some (HS (a ++ Q0Z s), hl (a ++ Q0Z s), ()) := by
 unfold Qp Qp.c
 have h64 := Q9B a
 have hsz := Q1G s
 dsimp only
 rw [Q1C (Q2a (by omega)), u64_in (n := (s.size : Int)) (by omega)]
 have hw := Q8i k hk (Qf8 a) (QcY a) (left := hl a ++ Q0Z s) (Q9V (Qfc ha) (Q4r s)) (IntKind.u64.wrap ((a.length : Int) + (s.size : Int))) (fuel := k) (by rw [List.length_append]; omega)
 obtain ⟨e1, e2⟩ := Qcw a (Q0Z s)
 rw [e1, e2, u64_in (by omega)] at hw
 have hw2 : Qp.l0 k k ((hx a, (), IntKind.u64.wrap ((a.length : Int) + (s.size : Int)), ()), hl a ++ Q0Z s, ()) = some ((hx (a ++ Q0Z s), (), (a.length : Int) + (s.size : Int), ()), hl (a ++ Q0Z s), ()) := by
  rw [u64_in (by omega)]; exact hw
 show (Qp.l0 k k ((hx a, (), IntKind.u64.wrap ((a.length : Int) + (s.size : Int)), ()), hl a ++ Q0Z s, ())).bind _ = _
 rw [hw2]
 simp only [Option.bind_some, HS, List.length_append, hsz]
 rw [Int.natCast_add]
theorem QcD {k : Nat} (hk : 64 < k) {s : ByteArray} (hs : s.size ≤ 140737488354000) (hf : s.size / 64 + 1 < k) :
  Qt k s (HS []) = some (HS (Q0Z s), hl (Q0Z s), ()) := by
 unfold Qt Qt.c
 have hsz := Q1G s
 dsimp only
 rw [Q1C (Q2a (by omega)), u64_in (n := (s.size : Int)) (by omega)]
 have hw := Q8i k hk Q8o Q4n (left := Q0Z s) (Q4r s) (s.size : Int) (fuel := k) (by omega)
 show (Qt.l0 k k ((first, (), IntKind.u64.wrap (((0 : Nat) : Int) + (s.size : Int)), ()), Q0Z s, ())).bind _ = _
 rw [u64_in (by omega), show (((0 : Nat) : Int) + (s.size : Int)) = (s.size : Int) by omega, hw]
 simp only [Option.bind_some, HS, hx, hl, hsz]
def sumL (a : List Int) : List Int := Q3W (hx (a ++ padL (a.length : Int)))
theorem QdF {k : Nat} (a : List Int) : Q0A k (HS a) (hl a) = some (HS a, hl a, HS a, hl a, ()) := by
 unfold Q0A Q0A.c
 have h64 := Q9B a
 dsimp only
 rw [Q1C (Q2a (by omega))]
theorem Qe6 {k : Nat} (hk : 128 < k) {a : List Int} (ha : Q1V 0 255 a) (hn : a.length ≤ 18446744073709551000) : Qj k (HS a) (hl a) = some (sumL a, HS a, hl a, ()) := by
 unfold Qj Qj.c
 have hp : (bytesOf (padL (a.length : Int))).size ≤ 80 := by rw [Q27, Q2Q]; have := Q4y (a.length : Int); omega
 have hpb : Q0Z (bytesOf (padL (a.length : Int))) = padL (a.length : Int) := Q2r fun x hx => by have := Qcb (a.length : Int) x hx; omega
 show (Q0A k (HS a) (hl a)).bind _ = _
 rw [QdF]
 simp only [Option.bind_some]
 show (Q1d k (a.length : Int)).bind _ = _
 rw [Qbt (by omega) (by omega)]
 simp only [Option.bind_some]
 show (Qp k (bytesOf (padL (a.length : Int))) (HS a) (hl a)).bind _ = _
 rw [QcO (by omega) ha (by omega) (by omega) (by omega), hpb]
 simp only [Option.bind_some]
 show (Qj.l0 k k (hx (a ++ padL (a.length : Int)), (0 : Int), HS a, hl a, List.replicate 32 0, List.replicate 32 0, ())).bind _ = _
 rw [QeW k (by omega)]
 rfl
theorem Q7Y {k : Nat} (hk : 128 < k) {s : ByteArray} (hs : s.size ≤ 140737488354000) (hf : s.size / 64 + 1 < k) : Q1D k s = some (sumL (Q0Z s), ()) := by
 unfold Q1D Q1D.c
 rw [Qba]
 simp only [Option.bind_some]
 show (Qt k s (HS [])).bind _ = _
 rw [QcD (by omega) hs hf]
 simp only [Option.bind_some]
 show (Qj k (HS (Q0Z s)) (hl (Q0Z s))).bind _ = _
 rw [Qe6 hk (Q4r s) (by rw [Q1G]; omega)]
 rfl
end Go.Am
namespace Go.Am
open Go
theorem QaP (k : Nat) (n : Int) (b : Nat) (hb : b ≤ 8) : ∀ (d i fuel : Nat), i + d = b → d < fuel →
  Q18.l0 k fuel (n, (b : Int), (i : Int), lowI n i ++ List.replicate d 0, ()) = some (lowI n b, ())
 | 0, i, fuel + 1, hi, _ => by
  have : i = b := by omega
  subst this
  show Q18.l0.r k _ (Q1p (Q18.l0.r k) fuel) some = _
  simp only [Q18.l0.r]
  rw [decide_eq_false (by omega), cond_false]
  simp
 | d + 1, i, fuel + 1, hi, hf => by
  show Q18.l0.r k _ (Q1p (Q18.l0.r k) fuel) some = _
  simp only [Q18.l0.r]
  rw [decide_eq_true (by omega), cond_true, i64_in (by omega), decide_eq_true (by omega), cond_true]
  have hlen : (lowI n i ++ List.replicate (d + 1) (0 : Int)).length = b := by simp [Q1S]; omega
  rw [hlen, decide_eq_true (by omega), cond_true, i64_in (by omega)]
  have h8 : (8 : Int) * (i : Int) = ((8 * i : Nat) : Int) := by omega
  rw [h8, Qeg (by omega), pow8, Qbz, show (i : Int).toNat = i by omega]
  have hset : (lowI n i ++ List.replicate (d + 1) (0 : Int)).set i (n / 256 ^ i % 256) = lowI n (i + 1) ++ List.replicate d 0 := by
   rw [List.set_append]
   simp [Q1S, Q9p, List.replicate_succ]
  rw [hset]
  have ih := QaP k n b hb d (i + 1) fuel (by omega) (by omega)
  rw [show ((i + 1 : Nat) : Int) = (i : Int) + 1 by omega] at ih
  exact ih
theorem Q89 {k : Nat} (hk : 9 ≤ k) (n : Int) (b : Nat) (hb : b ≤ 8) : Q18 k n (b : Int) = some (bytesOf (lowI n b), ()) := by
 unfold Q18 Q18.c
 rw [decide_eq_true (by omega), show (b : Int).toNat = b by omega]
 have : Nat.ble (b * 1) 140737488355328 = true := Q2a (by omega)
 rw [this]
 simp only [Bool.and_self, cond_true]
 have := QaP k n b hb b 0 k (by omega) (by omega)
 simp only [lowI, List.nil_append] at this
 rw [List.length_replicate]
 show (Q18.l0 k k (n, (b : Int), ((0 : Nat) : Int), List.replicate b 0, ())).bind _ = _
 rw [this]
 rfl
theorem QeB (s : ByteArray) : Q3V (Q0Z s) := fun _ h => Q5c h
theorem QeA {l r : List Int} (h : Q3V l) (hs : ∀ x ∈ r, x ∈ l) : Q3V r := fun x hx => h x (hs x hx)
theorem Qeq : (⟨List.toArray []⟩ : ByteArray) = bytesOf [] := rfl
theorem QdG : ∀ (b : Nat) (n : Int), lowI (n % 256 ^ b) b = lowI n b
 | 0, _ => rfl
 | b + 1, n => by
  simp only [lowI]
  have h1 : n % 256 ^ (b + 1) % 256 = n % 256 := by
   rw [Int.pow_succ, Int.mul_comm]
   exact Int.emod_emod_of_dvd _ (Int.dvd_mul_right _ _)
  have h2 : n % 256 ^ (b + 1) / 256 = n / 256 % 256 ^ b := by
   have e := Int.mul_ediv_add_emod n 256
   have hp : (0 : Int) < 256 ^ b := Int.pow_pos (by decide)
   have e2 := Int.mul_ediv_add_emod (n / 256) (256 ^ b)
   have r1 := Int.emod_nonneg n (show (256 : Int) ≠ 0 by decide)
   have r2 := Int.emod_lt_of_pos n (show (0 : Int) < 256 by decide)
   have r3 := Int.emod_nonneg (n / 256) (Int.ne_of_gt hp)
   have r4 := Int.emod_lt_of_pos (n / 256) hp
   have key : n % 256 ^ (b + 1) = 256 * (n / 256 % 256 ^ b) + n % 256 := by
    rw [Int.pow_succ]
    have hn : n = (256 * (n / 256 % 256 ^ b) + n % 256) + 256 ^ b * 256 * (n / 256 / 256 ^ b) := by
     have e3 : 256 ^ b * 256 * (n / 256 / 256 ^ b) = 256 * (256 ^ b * (n / 256 / 256 ^ b)) := by
      rw [Int.mul_comm (256 ^ b) 256, Int.mul_assoc]
     rw [e3]; omega
    conv => lhs; rw [hn]
    rw [Int.add_mul_emod_self_left]
    exact Int.emod_eq_of_lt (by omega) (by omega)
   rw [key]
   omega
  rw [h1, h2, QdG b]
theorem wb {k : Nat} {s : ByteArray} {u} {b1 : List Int} (h : b1.length + s.size ≤ 140737488355328) : Q0m k s u b1 = some (u, b1 ++ Q0Z s, ()) := by
 unfold Q0m Q0m.c QF QF.c
 rw [Q1C (Q2a (by rw [Q1G]; omega))]
 rfl
theorem wrl {k : Nat} {l : List Int} (hl : Q3V l) {u} {b1 : List Int} (h : b1.length + l.length ≤ 140737488355328) : Q0m k (bytesOf l) u b1 = some (u, b1 ++ l, ()) := by
 rw [wb (by rw [Q27]; exact h), Q2r hl]
theorem wu64 {k : Nat} (hk : 9 ≤ k) (n : Int) {u} {b1 : List Int} (h : b1.length ≤ 140737488350000) : Q0O k n u b1 = some (u, b1 ++ lowI n 8, ()) := by
 unfold Q0O Q0O.c
 rw [show (8 : Int) = ((8 : Nat) : Int) from rfl, Q89 hk _ 8 (by omega)]
 simp only [Option.bind_some]
 rw [wrl (Qcf _ _) (by rw [Q1S]; omega)]
 rfl
def u32R (n : Int) : Prop := 0 ≤ n ∧ n ≤ 4294967295
theorem wu32 {k : Nat} (hk : 9 ≤ k) {n : Int} (hn : u32R n) {u} {b1 : List Int} (h : b1.length ≤ 140737488350000) : Q0T k n u b1 = some (u, b1 ++ lowI n 4, ()) := by
 unfold Q0T Q0T.c
 have h1 := hn.1
 have h2 := hn.2
 rw [u64_in (by omega), show (4 : Int) = ((4 : Nat) : Int) from rfl, Q89 hk _ 4 (by omega)]
 simp only [Option.bind_some]
 rw [wrl (Qcf _ _) (by rw [Q1S]; omega)]
 rfl
theorem Q9U (s : ByteArray) (i : Nat) : Q1I s i = (Q0Z s).getD i 0 := Q4e s i
theorem QeR {l : List Int} {i : Nat} (h : i + 64 ≤ l.length) : (List.range 64).map (fun j => l.getD (i + j) 0) = (l.drop i).take 64 := by
 apply List.ext_getElem
 ·simp; omega
 ·intro j h1 h2
  simp only [List.length_map, List.length_range] at h1
  simp only [List.getElem_map, List.getElem_range, List.getElem_take, List.getElem_drop, List.getD_eq_getElem?_getD]
  rw [List.getElem?_eq_getElem (by omega)]
  rfl
theorem QbT (k : Nat) (s : ByteArray) {i : Nat} (hi : i + 64 ≤ s.size) (hs : s.size ≤ 9223372036854775807) (x z : List Int) {fuel : Nat} (hf : 64 < fuel) :
  Qe.l1 k fuel (s, (i : Int), (0 : Int), z, x, List.replicate 64 0, ()) = some (s, (i : Int), z, x, ((Q0Z s).drop i).take 64, ()) := by
 have hl := Q1G s
 have := Q1H (r := Qe.l1.r k) (fun j => (s, (i : Int), (j : Int), z, x, (List.range j).map (fun j => (Q0Z s).getD (i + j) 0) ++ (List.replicate 64 (0 : Int)).drop j, ())) 64 (s, (i : Int), z, x, ((Q0Z s).drop i).take 64, ()) ?_ ?_ hf
 ·exact this
 ·intro j hj kn ke
  simp only [Qe.l1.r]
  rw [Q13 (by omega), i64_in (n := (i : Int) + (j : Int)) (by omega), Q13 (by omega), Q13 (by omega), i64_in (n := (j : Int) + 1) (by omega), show ((i : Int) + (j : Int)).toNat = i + j by omega, show (j : Int).toNat = j by omega, Q9U]
  rw [Q7I (f := fun j => (Q0Z s).getD (i + j) 0) (by simp; omega)]
  rfl
 ·intro kn ke
  simp only [Qe.l1.r]
  rw [Q1R (by omega), Q82 (by simp), QeR (by omega)]
theorem Q8F {k : Nat} (hk : 128 < k) {s : ByteArray} (hs : s.size ≤ 140737488354000) (hf : s.size / 64 + 2 < k) : Qe k s = some (sumL (Q0Z s), ()) := by
 unfold Qe Qe.c
 have hsz := Q1G s
 have hp : (bytesOf (padL (s.size : Int))).size = 9 + padZ (s.size : Int) := by rw [Q27, Q2Q]
 have hz := Q4y (s.size : Int)
 have hpb : Q0Z (bytesOf (padL (s.size : Int))) = padL (s.size : Int) := Q2r fun x hx => by have := Qcb (s.size : Int) x hx; omega
 dsimp only
 rw [u64_in (n := (s.size : Int)) (by omega), Qbf (by omega) (by omega)]
 simp only [Option.bind_some]
 rw [Q1C (Q2a (by omega)), Qae]
 simp only [Option.bind_some]
 generalize hv : s ++ bytesOf (padL (s.size : Int)) = v
 have hvl : Q0Z v = Q0Z s ++ padL (s.size : Int) := by rw [← hv, Q3E, hpb]
 have hvs : v.size = s.size + (9 + padZ (s.size : Int)) := by rw [← Q1G, hvl, List.length_append, hsz, Q2Q]
 have h64 : (s.size + (9 + padZ (s.size : Int))) % 64 = 0 := by have := Qeh (n := s.size); rwa [Q2Q] at this
 have h0 : Qe.l0 k k (v, (0 : Int), List.replicate 32 0, first, ()) = some (List.replicate 32 0, stt first (Q0Z v) (v.size / 64), ()) := by
  have := Q1H (r := Qe.l0.r k) (fun i => (v, ((64 * i : Nat) : Int), List.replicate 32 (0 : Int), stt first (Q0Z v) i, ())) (v.size / 64) (List.replicate 32 0, stt first (Q0Z v) (v.size / 64), ()) ?_ ?_ (fuel := k) (by omega)
  ·exact this
  ·intro i hi kn ke
   simp only [Qe.l0.r]
   rw [Q13 (by omega), QbT k v (by omega) (by omega) _ _ (by omega)]
   simp only [Option.bind_some]
   rw [Qap (by omega) (Qbn Q8o i) (Q5U Q4n i) (Q8C (Q5W (Q4r v) _) _) (by rw [List.length_take, List.length_drop, Q1G]; omega)]
   simp only [Option.bind_some]
   rw [i64_in (by omega), show ((64 * i : Nat) : Int) + 64 = ((64 * (i + 1) : Nat) : Int) by omega]
   rfl
  ·intro kn ke
   simp only [Qe.l0.r]
   rw [Q1R (by omega)]
 rw [h0]
 simp only [Option.bind_some]
 rw [Q9E (by omega)]
 simp only [Option.bind_some]
 unfold sumL hx
 rw [hvl, hsz, List.length_append, hsz, Q2Q, hvs]
theorem Q5l (a : List Int) : (sumL a).length = 32 := Q7V _
theorem QdS (a : List Int) : Q1V 0 255 (sumL a) := Qbd _
theorem Q96 (a : List Int) : Q0Z (bytesOf ((((sumL a).drop 0).take 32))) = sumL a := by
 rw [List.drop_zero, List.take_of_length_le (by rw [Q5l]; omega)]
 exact Q2r fun x hx => by have := QdS a x hx; omega
theorem Q6f (a : List Int) : (bytesOf ((((sumL a).drop 0).take 32))).size = 32 := by
 rw [Q27]; simp [Q5l]
theorem Q9D {k : Nat} (hk : 128 < k) {s : ByteArray} (hs : s.size ≤ 140737488354000) (hf : s.size / 64 + 1 < k) : Q1s k s = some (sumL (sumL (Q0Z s)), ()) := by
 unfold Q1s Q1s.c
 rw [Q7Y hk hs hf]
 simp only [Option.bind_some]
 rw [Q7Y hk (by rw [Q6f]; omega) (by rw [Q6f]; omega), Q96]
 rfl
theorem Q9H {k : Nat} (hk : 128 < k) {s : ByteArray} (hs : s.size ≤ 140737488354000) (hf : s.size / 64 + 2 < k) : Q0y k s = some (sumL (sumL (Q0Z s)), ()) := by
 unfold Q0y Q0y.c
 rw [Q8F hk hs hf]
 simp only [Option.bind_some]
 rw [Q8F hk (by rw [Q6f]; omega) (by rw [Q6f]; omega), Q96]
 rfl
theorem Q3p {k : Nat} (hk : 9 ≤ k) (n : Int) (hn : 0 ≤ n ∧ n ≤ 18446744073709551615) (b : Nat) (hb : b ≤ 8) : Qs k n (b : Int) = some (bytesOf (lowI n b), ()) := by
 unfold Qs Qs.c
 have hl : Qs.l0 k k (n, (b : Int), (0 : Int), List.replicate 0 (0 : Int), ()) = some (lowI n b, ()) := by
  have := Q1H (r := Qs.l0.r k) (fun i => (n / 256 ^ i, (b : Int), (i : Int), lowI n i, ())) b (lowI n b, ()) ?_ ?_ (fuel := k) (by omega)
  ·rw [Int.pow_zero, Int.ediv_one] at this
   exact this
  ·intro i hi kn ke
   simp only [Qs.l0.r]
   have hp : (0 : Int) < 256 ^ i := Int.pow_pos (by decide)
   have h0 : 0 ≤ n / 256 ^ i := Int.ediv_nonneg hn.1 (Int.le_of_lt hp)
   have h1 : n / 256 ^ i ≤ n := Int.ediv_le_self _ hn.1
   have hll := Q1S n i
   rw [Q13 (by omega), Int.tmod_eq_emod_of_nonneg h0, Int.tdiv_eq_ediv_of_nonneg h0]
   have e1 : (List.set (List.replicate 1 (0 : Int)) 0 (IntKind.u8.wrap (n / 256 ^ i % 256))) = [n / 256 ^ i % 256] := by rw [u8_in (by omega)]; rfl
   rw [e1, Q1C (Q2a (by simp only [List.length_singleton]; omega)), ← Q9p, u64_in (by omega), i64_in (by omega)]
   rw [show n / 256 ^ i / 256 = n / 256 ^ (i + 1) by rw [Int.pow_succ, Int.ediv_ediv_of_nonneg (Int.le_of_lt hp)]]
   rfl
  ·intro kn ke
   simp only [Qs.l0.r]
   rw [Q1R (by omega)]
 rw [hl]
 rfl
end Go.Am
