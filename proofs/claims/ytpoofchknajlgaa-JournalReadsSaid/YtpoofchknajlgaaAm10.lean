/- A part of a proof: a machine of abstract values that tells what functions of the program compute, and the plain facts on them. -/
import Derived.Test.YtpoofchknajlgaaAm9
set_option linter.unusedVariables false
set_option linter.unusedSimpArgs false
set_option linter.unnecessarySimpa false
set_option linter.unusedSectionVars false
namespace Go.Am
open Go
def first : List Int := [1779033703, 3144134277, 1013904242, 2773480762, 1359893119, 2600822924, 528734635, 1541459225]
theorem Qdc (k : Nat) : Q1b k = some (first, ()) := rfl
theorem Q9Q (k : Nat) : Q0t k = some (first, ()) := rfl
theorem Q7E : Q1B 0 4294967295 first := by unfold Q1B first; decide
theorem Q44 : first.length = 8 := rfl
def stt (x l : List Int) : Nat → List Int
 | 0 => x
 | n + 1 => Q6O (stt x l n) ((l.drop (64 * n)).take 64)
theorem Qbc {x l : List Int} (hx : Q1B 0 4294967295 x) : ∀ n, Q1B 0 4294967295 (stt x l n)
 | 0 => hx
 | _ + 1 => Qd2 _ _
theorem Q5z {x l : List Int} (hx : x.length = 8) : ∀ n, (stt x l n).length = 8
 | 0 => hx
 | _ + 1 => Q9n _ _
theorem Q7v (x a b : List Int) : ∀ n, 64 * n ≤ a.length → stt x (a ++ b) n = stt x a n
 | 0, _ => rfl
 | n + 1, h => by
  simp only [stt]
  rw [Q7v x a b n (by omega), List.drop_append_of_le_length (by omega), List.take_append_of_le_length (by simp; omega)]
theorem Qbr (x l : List Int) (q : Nat) : ∀ j, stt x l (q + j) = stt (stt x l q) (l.drop (64 * q)) j
 | 0 => rfl
 | j + 1 => by
  rw [← Nat.add_assoc]
  simp only [stt]
  rw [Qbr x l q j, List.drop_drop, show 64 * q + 64 * j = 64 * (q + j) by omega]
theorem Q5D {lo hi : Int} {l : List Int} (h : Q1B lo hi l) (n : Nat) : Q1B lo hi (l.drop n) := fun x hx => h x (List.mem_of_mem_drop hx)
theorem Q7I {lo hi : Int} {l : List Int} (h : Q1B lo hi l) (n : Nat) : Q1B lo hi (l.take n) := fun x hx => h x (List.mem_of_mem_take hx)
theorem Q9R {lo hi : Int} {l r : List Int} (h : Q1B lo hi l) (h2 : Q1B lo hi r) : Q1B lo hi (l ++ r) := fun x hx => by
 rcases List.mem_append.1 hx with hx | hx
 ·exact h x hx
 ·exact h2 x hx
theorem Q40 (s : ByteArray) : Q1B 0 255 (QM s) := fun x hx => by have := Q2i hx; omega
theorem Q7V (k : Nat) (hk : 64 < k) {x left : List Int} (hx : Q1B 0 4294967295 x) (hxl : x.length = 8) (hl : Q1B 0 255 left) (n : Int) {fuel : Nat} (hf : left.length / 64 < fuel) :
  Qh.l0 k fuel ((x, (), n, ()), left, ()) = some ((stt x left (left.length / 64), (), n, ()), left.drop (64 * (left.length / 64)), ()) := by
 refine Q1o (r := Qh.l0.r k) (fun i => ((stt x left i, (), n, ()), left.drop (64 * i), ())) (left.length / 64) _ ?_ ?_ hf
 ·intro i hi kn ke
  simp only [Qh.l0.r]
  have hlen : (left.drop (64 * i)).length = left.length - 64 * i := by simp
  rw [Q0F (by rw [hlen]; omega), Q0F (by rw [hlen]; omega), List.drop_zero]
  rw [Q9W hk (Qbc hx i) (Q5z hxl i) (Q7I (Q5D hl _) _) (by simp; omega)]
  simp only [Option.bind_some]
  have e : List.take ((((List.drop (64 * i) left).length : Nat) : Int) - 64).toNat (List.drop 64 (List.drop (64 * i) left)) = left.drop (64 * (i + 1)) := by
   rw [List.take_of_length_le (by rw [List.length_drop, hlen]; omega), List.drop_drop, show 64 * i + 64 = 64 * (i + 1) by omega]
  rw [Q0F (by rw [hlen]; omega), e]
  rfl
 ·intro kn ke
  simp only [Qh.l0.r]
  have hlen : (left.drop (64 * (left.length / 64))).length = left.length - 64 * (left.length / 64) := by simp
  rw [Q1D (by rw [hlen]; omega)]
def padF (n : Int) (j : Nat) : Int := IntKind.u8.wrap (Q1Z .u64 (IntKind.u64.wrap (8 * n)) (8 * (7 - (j : Int))))
def padZ (n : Int) : Nat := ((119 - n % 64) % 64).toNat
def padL (n : Int) : List Int := (128 :: List.replicate (padZ n) 0) ++ (List.range 8).map (padF n)
theorem Q2D (n : Int) : (padL n).length = 9 + padZ n := by simp [padL]; omega
theorem Q4b (n : Int) : padZ n < 64 := by unfold padZ; omega
theorem QbA (n : Int) : Q1B 0 255 (padL n) := by
 intro x hx
 simp only [padL, List.mem_append, List.mem_cons, List.mem_replicate, List.mem_map] at hx
 rcases hx with (rfl | ⟨_, rfl⟩) | ⟨j, _, rfl⟩
 ·omega
 ·omega
 ·unfold padF; rw [Qbi]; omega
theorem Qds {n : Nat} : (n + (padL (n : Int)).length) % 64 = 0 := by
 rw [Q2D]; unfold padZ; omega
theorem Q9U {α : Type} (f : Nat → α) (l : List α) (i : Nat) : l ++ (List.range i).map f ++ [f i] = l ++ (List.range (i + 1)).map f := by
 rw [List.range_succ, List.map_append, List.append_assoc]; rfl
theorem shl3 (n : Int) : Q2P .u64 n 3 = IntKind.u64.wrap (8 * n) := by
 unfold Q2P
 rw [show min (3 : Int).toNat IntKind.u64.bits = 3 from rfl, show n * 2 ^ 3 = 8 * n by omega]
theorem QaO {k : Nat} (hk : 64 < k) {n : Int} (hn : 0 ≤ n ∧ n ≤ 18446744073709551615) : Q0Y k n = some (bytesOf (padL n), ()) := by
 unfold Q0Y Q0Y.c
 dsimp only
 rw [Int.tmod_eq_emod_of_nonneg hn.1, i64_in (n := n % 64) (by omega), i64_in (n := 119 - n % 64) (by omega), Int.tmod_eq_emod_of_nonneg (by omega), i64_in (n := 1 + (119 - n % 64) % 64) (by omega), i64_in (by omega)]
 have hz : (1 + (119 - n % 64) % 64).toNat = padZ n + 1 := by unfold padZ; omega
 have hb : Nat.ble ((1 + (119 - n % 64) % 64 + 8).toNat * 1) 140737488355328 = true := Q1J (by omega)
 rw [decide_eq_true (show 0 ≤ 1 + (119 - n % 64) % 64 ∧ 1 + (119 - n % 64) % 64 ≤ 1 + (119 - n % 64) % 64 + 8 by omega), hb, Bool.and_self, cond_true, hz, List.length_replicate, Q0F (by omega)]
 have e : (List.replicate (padZ n + 1) (0 : Int)).set 0 128 = 128 :: List.replicate (padZ n) 0 := by rw [List.replicate_succ, List.set_cons_zero]
 rw [e]
 have := Q1o (r := Q0Y.l0.r k) (fun i => (n, (i : Int), (128 :: List.replicate (padZ n) 0) ++ (List.range i).map (padF n), ())) 8 (padL n, ()) ?_ ?_ (fuel := k) (by omega)
 ·simp only [List.range_zero, List.map_nil, List.append_nil] at this
  show (Q0Y.l0 k k (n, ((0 : Nat) : Int), 128 :: List.replicate (padZ n) 0, ())).bind _ = _
  unfold Q0Y.l0
  rw [this]
  rfl
 ·intro i hi kn ke
  simp only [Q0Y.l0.r]
  rw [Q0F (by omega), i64_in (n := 7 - (i : Int)) (by omega), i64_in (n := 8 * (7 - (i : Int))) (by omega), Q0F (by omega), i64_in (n := (i : Int) + 1) (by omega), shl3]
  have hl : Nat.ble ((((128 :: List.replicate (padZ n) 0) ++ (List.range i).map (padF n)).length + (List.set (List.replicate 1 (0 : Int)) 0 (IntKind.u8.wrap (Q1Z .u64 (IntKind.u64.wrap (8 * n)) (8 * (7 - (i : Int)))))).length) * 1) 140737488355328 = true :=
   Q1J (by have := Q4b n; simp; omega)
  rw [Q14 hl]
  show kn (n, (i : Int) + 1, (128 :: List.replicate (padZ n) 0) ++ (List.range i).map (padF n) ++ [padF n i], ()) = _
  rw [Q9U]
  rfl
 ·intro kn ke
  simp only [Q0Y.l0.r]
  rw [Q1D (by omega)]
  rfl
theorem Qbj {k : Nat} (hk : 80 < k) {n : Int} (hn : 0 ≤ n ∧ n ≤ 18446744073709551615) : Q7 k n = some (bytesOf (padL n), ()) := by
 unfold Q7 Q7.c
 have h0 := Q1o (r := Q7.l0.r k) (fun i => (n, 128 :: List.replicate i (0 : Int), ())) (padZ n) (n, 128 :: List.replicate (padZ n) 0, ()) ?_ ?_ (fuel := k) (by have := Q4b n; omega)
 ·have e : List.set (List.replicate 1 (0 : Int)) 0 128 = 128 :: List.replicate 0 0 := rfl
  rw [e]
  unfold Q7.l0
  rw [h0]
  simp only [Option.bind_some]
  have := Q1o (r := Q7.l1.r k) (fun i => (IntKind.u64.wrap (8 * n), 7 - (i : Int), (128 :: List.replicate (padZ n) 0) ++ (List.range i).map (padF n), ())) 8 (padL n, ()) ?_ ?_ (fuel := k) (by omega)
  ·simp only [List.range_zero, List.map_nil, List.append_nil] at this
   show (Q7.l1 k k (IntKind.u64.wrap (8 * n), 7 - ((0 : Nat) : Int), 128 :: List.replicate (padZ n) 0, ())).bind _ = _
   unfold Q7.l1
   rw [this]
   rfl
  ·intro i hi kn ke
   simp only [Q7.l1.r]
   rw [Q0F (by omega), i64_in (n := 8 * (7 - (i : Int))) (by omega), Q0F (by omega), i64_in (n := 7 - (i : Int) - 1) (by omega)]
   have hl : Nat.ble ((((128 :: List.replicate (padZ n) 0) ++ (List.range i).map (padF n)).length + (List.set (List.replicate 1 (0 : Int)) 0 (IntKind.u8.wrap (Q1Z .u64 (IntKind.u64.wrap (8 * n)) (8 * (7 - (i : Int)))))).length) * 1) 140737488355328 = true :=
    Q1J (by have := Q4b n; simp; omega)
   rw [Q14 hl]
   show kn (IntKind.u64.wrap (8 * n), 7 - (i : Int) - 1, (128 :: List.replicate (padZ n) 0) ++ (List.range i).map (padF n) ++ [padF n i], ()) = _
   rw [Q9U, show 7 - (i : Int) - 1 = 7 - ((i + 1 : Nat) : Int) by omega]
  ·intro kn ke
   simp only [Q7.l1.r]
   rw [Q1D (by omega)]
   rfl
 ·intro i hi kn ke
  simp only [Q7.l0.r]
  have hz : padZ n < 64 := Q4b n
  have hzd : (padZ n : Int) = (119 - n % 64) % 64 := by unfold padZ; omega
  simp only [List.length_cons, List.length_replicate]
  rw [u64_in (n := ((i + 1 : Nat) : Int)) (by omega), Q9b, Int.tmod_eq_emod_of_nonneg (by omega)]
  have hne : ((n + ((i + 1 : Nat) : Int)) % 18446744073709551616 % 64 != 56) = true := by
   rw [bne_iff_ne]; omega
  rw [Q14 hne, Q14 (Q1J (by omega))]
  show kn (n, (128 :: List.replicate i (0 : Int)) ++ [0], ()) = _
  rw [List.cons_append, ← List.replicate_succ']
 ·intro kn ke
  simp only [Q7.l0.r]
  have hz : padZ n < 64 := Q4b n
  have hzd : (padZ n : Int) = (119 - n % 64) % 64 := by unfold padZ; omega
  simp only [List.length_cons, List.length_replicate]
  rw [u64_in (n := ((padZ n + 1 : Nat) : Int)) (by omega), Q9b, Int.tmod_eq_emod_of_nonneg (by omega)]
  have hne : ((n + ((padZ n + 1 : Nat) : Int)) % 18446744073709551616 % 64 != 56) = false := by
   rw [bne_eq_false_iff_eq]; omega
  rw [Q1P hne]
def beF (x : List Int) (j : Nat) : Int := IntKind.u8.wrap (Q1Z .u32 (x.getD (j / 4) 0) (24 - 8 * ((j % 4 : Nat) : Int)))
def Q3C (x : List Int) : List Int := (List.range 32).map (beF x)
def beZ (x : List Int) (j : Nat) : List Int := (List.range j).map (beF x) ++ (List.replicate 32 (0 : Int)).drop j
theorem QbH (x : List Int) {j : Nat} (h : j < 32) : (beZ x j).set j (beF x j) = beZ x (j + 1) := Q7o (by simpa using h)
theorem Q7G (x : List Int) : (Q3C x).length = 32 := by simp [Q3C]
theorem QaZ (x : List Int) : Q1B 0 255 (Q3C x) := by
 intro v hv
 simp only [Q3C, List.mem_map] at hv
 obtain ⟨j, _, rfl⟩ := hv
 unfold beF; rw [Qbi]; omega
theorem Qe7 (k : Nat) (x : List Int) {i : Nat} (hi : i < 8) (b0 : List Int × Unit × Int × Unit) (b1 z : List Int) {fuel : Nat} (hf : 4 < fuel) :
  Qb.l1 k fuel ((i : Int), x.getD i 0, x, (i : Int), (0 : Int), b0, b1, z, beZ x (4 * i), ()) = some (x, (i : Int), b0, b1, z, beZ x (4 * (i + 1)), ()) := by
 refine Q1o (r := Qb.l1.r k) (fun j => ((i : Int), x.getD i 0, x, (i : Int), (j : Int), b0, b1, z, beZ x (4 * i + j), ())) 4 _ ?_ ?_ hf
 ·intro j hj kn ke
  simp only [Qb.l1.r]
  rw [Q0F (by omega), i64_in (n := 4 * (i : Int)) (by omega), i64_in (n := 4 * (i : Int) + (j : Int)) (by omega), i64_in (n := 3 - (j : Int)) (by omega), i64_in (n := 8 * (3 - (j : Int))) (by omega), i64_in (n := (j : Int) + 1) (by omega), Q0F (by omega), Q0F (by omega)]
  have e : IntKind.u8.wrap (Q1Z .u32 (x.getD i 0) (8 * (3 - (j : Int)))) = beF x (4 * i + j) := by
   unfold beF
   rw [show (4 * i + j) / 4 = i by omega, show (4 * i + j) % 4 = j by omega, show 8 * (3 - (j : Int)) = 24 - 8 * (j : Int) by omega]
  rw [e, show (4 * (i : Int) + (j : Int)).toNat = 4 * i + j by omega, QbH x (by omega)]
  rfl
 ·intro kn ke
  simp only [Qb.l1.r]
  rw [Q1D (by omega)]
  rfl
theorem Qe6 (k : Nat) (hk : 64 < k) (x : List Int) (b0 : List Int × Unit × Int × Unit) (b1 z : List Int) :
  Qb.l0 k k (x, (0 : Int), b0, b1, z, List.replicate 32 0, ()) = some (b0, b1, z, Q3C x, ()) := by
 refine Q1o (r := Qb.l0.r k) (fun i => (x, (i : Int), b0, b1, z, beZ x (4 * i), ())) 8 _ ?_ ?_ (by omega)
 ·intro i hi kn ke
  simp only [Qb.l0.r]
  rw [Q0F (by omega), Q0F (by omega), show (i : Int).toNat = i by omega]
  have := Qe7 k x hi b0 b1 z (fuel := k) (by omega)
  show (Qb.l1 k k ((i : Int), x.getD i 0, x, (i : Int), (0 : Int), b0, b1, z, beZ x (4 * i), ())).bind _ = _
  rw [this]
  simp only [Option.bind_some]
  rw [i64_in (by omega)]
  rfl
 ·intro kn ke
  simp only [Qb.l0.r]
  rw [Q1D (by omega)]
  rfl
theorem Q9g {k : Nat} (hk : 64 < k) (x : List Int) : Q3 k x = some (Q3C x, ()) := by
 unfold Q3 Q3.c
 dsimp only
 have l1 : ∀ {i : Nat}, i < 8 → ∀ z : List Int, Q3.l1 k k ((i : Int), (0 : Int), x, z, beZ x (4 * i), ()) = some ((i : Int), x, z, beZ x (4 * (i + 1)), ()) := by
  intro i hi z
  refine Q1o (r := Q3.l1.r k) (fun j => ((i : Int), (j : Int), x, z, beZ x (4 * i + j), ())) 4 _ ?_ ?_ (by omega)
  ·intro j hj kn ke
   simp only [Q3.l1.r]
   rw [Q0F (by omega), i64_in (n := 4 * (i : Int)) (by omega), i64_in (n := 4 * (i : Int) + (j : Int)) (by omega), i64_in (n := 8 * (j : Int)) (by omega), i64_in (n := 24 - 8 * (j : Int)) (by omega), i64_in (n := (j : Int) + 1) (by omega), Q0F (by omega), Q0F (by omega), Q0F (by omega)]
   have e : IntKind.u8.wrap (Q1Z .u32 (x.getD (i : Int).toNat 0) (24 - 8 * (j : Int))) = beF x (4 * i + j) := by
    unfold beF
    rw [show (4 * i + j) / 4 = i by omega, show (4 * i + j) % 4 = j by omega, show (i : Int).toNat = i by omega]
   rw [e, show (4 * (i : Int) + (j : Int)).toNat = 4 * i + j by omega, QbH x (by omega)]
   rfl
  ·intro kn ke
   simp only [Q3.l1.r]
   rw [Q1D (by omega)]
   rfl
 have h0 : Q3.l0 k k ((0 : Int), x, List.replicate 32 0, List.replicate 32 0, ()) = some (List.replicate 32 0, Q3C x, ()) := by
  refine Q1o (r := Q3.l0.r k) (fun i => ((i : Int), x, List.replicate 32 0, beZ x (4 * i), ())) 8 _ ?_ ?_ (by omega)
  ·intro i hi kn ke
   simp only [Q3.l0.r]
   rw [Q0F (by omega), l1 hi]
   simp only [Option.bind_some]
   rw [i64_in (by omega)]
   rfl
  ·intro kn ke
   simp only [Q3.l0.r]
   rw [Q1D (by omega)]
   rfl
 rw [h0]
 rfl
def hx (a : List Int) : List Int := stt first a (a.length / 64)
def hl (a : List Int) : List Int := a.drop (64 * (a.length / 64))
def HS (a : List Int) : List Int × Unit × Int × Unit := (hx a, (), (a.length : Int), ())
theorem Qej (a : List Int) : Q1B 0 4294967295 (hx a) := Qbc Q7E _
theorem Qcb (a : List Int) : (hx a).length = 8 := Q5z Q44 _
theorem Q8V (a : List Int) : (hl a).length < 64 := by simp only [hl, List.length_drop]; omega
theorem Qei {a : List Int} (h : Q1B 0 255 a) : Q1B 0 255 (hl a) := Q5D h _
theorem QbW (a b : List Int) : stt (hx a) (hl a ++ b) ((hl a ++ b).length / 64) = hx (a ++ b) ∧ (hl a ++ b).drop (64 * ((hl a ++ b).length / 64)) = hl (a ++ b) := by
 have hle : 64 * (a.length / 64) ≤ a.length := by omega
 have e1 : hl a ++ b = (a ++ b).drop (64 * (a.length / 64)) := by rw [List.drop_append_of_le_length hle]; rfl
 have e2 : hx a = stt first (a ++ b) (a.length / 64) := (Q7v _ _ _ _ hle).symm
 have hlen : (hl a ++ b).length = (a ++ b).length - 64 * (a.length / 64) := by rw [e1, List.length_drop]
 have hq : (a ++ b).length / 64 = a.length / 64 + (hl a ++ b).length / 64 := by
  rw [hlen]; simp only [List.length_append]; omega
 refine ⟨?_, ?_⟩
 ·unfold hx at e2 ⊢
  rw [e2, hq, Qbr first (a ++ b), ← e1]
 ·have e3 : hl (a ++ b) = (a ++ b).drop (64 * ((a ++ b).length / 64)) := rfl
  rw [e3, hq, e1, List.drop_drop, ← e1, Nat.mul_add]
theorem QaU (k : Nat) : Q1l k = some (HS [], ()) := rfl
theorem Qce {k : Nat} (hk : 64 < k) {a : List Int} (ha : Q1B 0 255 a) {s : ByteArray} (hs : s.size ≤ 140737488354000) (hn : a.length + s.size ≤ 18446744073709551615) (hf : s.size / 64 + 1 < k) :
  Qd k s (HS a) (hl a) = some (HS (a ++ QM s), hl (a ++ QM s), ()) := by
 unfold Qd Qd.c
 have h64 := Q8V a
 have hsz := Q19 s
 dsimp only
 rw [Q14 (Q1J (by omega)), u64_in (n := (s.size : Int)) (by omega)]
 have hw := Q7V k hk (Qej a) (Qcb a) (left := hl a ++ QM s) (Q9R (Qei ha) (Q40 s)) (IntKind.u64.wrap ((a.length : Int) + (s.size : Int))) (fuel := k) (by rw [List.length_append]; omega)
 obtain ⟨e1, e2⟩ := QbW a (QM s)
 rw [e1, e2, u64_in (by omega)] at hw
 have hw2 : Qd.l0 k k ((hx a, (), IntKind.u64.wrap ((a.length : Int) + (s.size : Int)), ()), hl a ++ QM s, ()) = some ((hx (a ++ QM s), (), (a.length : Int) + (s.size : Int), ()), hl (a ++ QM s), ()) := by
  rw [u64_in (by omega)]; exact hw
 show (Qd.l0 k k ((hx a, (), IntKind.u64.wrap ((a.length : Int) + (s.size : Int)), ()), hl a ++ QM s, ())).bind _ = _
 rw [hw2]
 simp only [Option.bind_some, HS, List.length_append, hsz]
 rw [Int.natCast_add]
theorem Qc7 {k : Nat} (hk : 64 < k) {s : ByteArray} (hs : s.size ≤ 140737488354000) (hf : s.size / 64 + 1 < k) :
  Qh k s (HS []) = some (HS (QM s), hl (QM s), ()) := by
 unfold Qh Qh.c
 have hsz := Q19 s
 dsimp only
 rw [Q14 (Q1J (by omega)), u64_in (n := (s.size : Int)) (by omega)]
 have hw := Q7V k hk Q7E Q44 (left := QM s) (Q40 s) (s.size : Int) (fuel := k) (by omega)
 show (Qh.l0 k k ((first, (), IntKind.u64.wrap (((0 : Nat) : Int) + (s.size : Int)), ()), QM s, ())).bind _ = _
 rw [u64_in (by omega), show (((0 : Nat) : Int) + (s.size : Int)) = (s.size : Int) by omega, hw]
 simp only [Option.bind_some, HS, hx, hl, hsz]
def sumL (a : List Int) : List Int := Q3C (hx (a ++ padL (a.length : Int)))
theorem Qcw {k : Nat} (a : List Int) : Q0k k (HS a) (hl a) = some (HS a, hl a, HS a, hl a, ()) := by
 unfold Q0k Q0k.c
 have h64 := Q8V a
 dsimp only
 rw [Q14 (Q1J (by omega))]
theorem Qdy {k : Nat} (hk : 128 < k) {a : List Int} (ha : Q1B 0 255 a) (hn : a.length ≤ 18446744073709551000) : Qb k (HS a) (hl a) = some (sumL a, HS a, hl a, ()) := by
 unfold Qb Qb.c
 have hp : (bytesOf (padL (a.length : Int))).size ≤ 80 := by rw [Q1N, Q2D]; have := Q4b (a.length : Int); omega
 have hpb : QM (bytesOf (padL (a.length : Int))) = padL (a.length : Int) := Q27 fun x hx => by have := QbA (a.length : Int) x hx; omega
 show (Q0k k (HS a) (hl a)).bind _ = _
 rw [Qcw]
 simp only [Option.bind_some]
 show (Q0Y k (a.length : Int)).bind _ = _
 rw [QaO (by omega) (by omega)]
 simp only [Option.bind_some]
 show (Qd k (bytesOf (padL (a.length : Int))) (HS a) (hl a)).bind _ = _
 rw [Qce (by omega) ha (by omega) (by omega) (by omega), hpb]
 simp only [Option.bind_some]
 show (Qb.l0 k k (hx (a ++ padL (a.length : Int)), (0 : Int), HS a, hl a, List.replicate 32 0, List.replicate 32 0, ())).bind _ = _
 rw [Qe6 k (by omega)]
 rfl
theorem Q7x {k : Nat} (hk : 128 < k) {s : ByteArray} (hs : s.size ≤ 140737488354000) (hf : s.size / 64 + 1 < k) : Q1k k s = some (sumL (QM s), ()) := by
 unfold Q1k Q1k.c
 rw [QaU]
 simp only [Option.bind_some]
 show (Qh k s (HS [])).bind _ = _
 rw [Qc7 (by omega) hs hf]
 simp only [Option.bind_some]
 show (Qb k (HS (QM s)) (hl (QM s))).bind _ = _
 rw [Qdy hk (Q40 s) (by rw [Q19]; omega)]
 rfl
end Go.Am
namespace Go.Am
open Go
theorem QaB (k : Nat) (n : Int) (b : Nat) (hb : b ≤ 8) : ∀ (d i fuel : Nat), i + d = b → d < fuel →
  Q0U.l0 k fuel (n, (b : Int), (i : Int), lowI n i ++ List.replicate d 0, ()) = some (lowI n b, ())
 | 0, i, fuel + 1, hi, _ => by
  have : i = b := by omega
  subst this
  show Q0U.l0.r k _ (Q1f (Q0U.l0.r k) fuel) some = _
  simp only [Q0U.l0.r]
  rw [decide_eq_false (by omega), cond_false]
  simp
 | d + 1, i, fuel + 1, hi, hf => by
  show Q0U.l0.r k _ (Q1f (Q0U.l0.r k) fuel) some = _
  simp only [Q0U.l0.r]
  rw [decide_eq_true (by omega), cond_true, i64_in (by omega), decide_eq_true (by omega), cond_true]
  have hlen : (lowI n i ++ List.replicate (d + 1) (0 : Int)).length = b := by simp [Q1y]; omega
  rw [hlen, decide_eq_true (by omega), cond_true, i64_in (by omega)]
  have h8 : (8 : Int) * (i : Int) = ((8 * i : Nat) : Int) := by omega
  rw [h8, Qdf (by omega), pow8, Qbi, show (i : Int).toNat = i by omega]
  have hset : (lowI n i ++ List.replicate (d + 1) (0 : Int)).set i (n / 256 ^ i % 256) = lowI n (i + 1) ++ List.replicate d 0 := by
   rw [List.set_append]
   simp [Q1y, Q8M, List.replicate_succ]
  rw [hset]
  have ih := QaB k n b hb d (i + 1) fuel (by omega) (by omega)
  rw [show ((i + 1 : Nat) : Int) = (i : Int) + 1 by omega] at ih
  exact ih
theorem Q8x {k : Nat} (hk : 9 ≤ k) (n : Int) (b : Nat) (hb : b ≤ 8) : Q0U k n (b : Int) = some (bytesOf (lowI n b), ()) := by
 unfold Q0U Q0U.c
 rw [decide_eq_true (by omega), show (b : Int).toNat = b by omega]
 have : Nat.ble (b * 1) 140737488355328 = true := Q1J (by omega)
 rw [this]
 simp only [Bool.and_self, cond_true]
 have := QaB k n b hb b 0 k (by omega) (by omega)
 simp only [lowI, List.nil_append] at this
 rw [List.length_replicate]
 show (Q0U.l0 k k (n, (b : Int), ((0 : Nat) : Int), List.replicate b 0, ())).bind _ = _
 rw [this]
 rfl
theorem Q4n (s : ByteArray) : Q2j (QM s) := fun _ h => Q2i h
theorem QdC {l r : List Int} (h : Q2j l) (hs : ∀ x ∈ r, x ∈ l) : Q2j r := fun x hx => h x (hs x hx)
theorem QdJ : (⟨List.toArray []⟩ : ByteArray) = bytesOf [] := rfl
theorem Qco : ∀ (b : Nat) (n : Int), lowI (n % 256 ^ b) b = lowI n b
 | 0, _ => rfl
 | b + 1, n => by
  simp only [lowI]
  have h1 : n % 256 ^ (b + 1) % 256 = n % 256 := by
   rw [Int.pow_succ, Int.mul_comm]
   exact Int.emod_emod_of_dvd _ (Int.dvd_mul_right _ _)
  have h2 : n % 256 ^ (b + 1) / 256 = n / 256 % 256 ^ b := by
   have e := Int.mul_ediv_add_emod n 256
   have hp : (0 : Int) < 256 ^ b := Int.pow_pos (by decide)
   have e2 := Int.mul_ediv_add_emod (n / 256) (256 ^ b)
   have r1 := Int.emod_nonneg n (show (256 : Int) ≠ 0 by decide)
   have r2 := Int.emod_lt_of_pos n (show (0 : Int) < 256 by decide)
   have r3 := Int.emod_nonneg (n / 256) (Int.ne_of_gt hp)
   have r4 := Int.emod_lt_of_pos (n / 256) hp
   have key : n % 256 ^ (b + 1) = 256 * (n / 256 % 256 ^ b) + n % 256 := by
    rw [Int.pow_succ]
    have hn : n = (256 * (n / 256 % 256 ^ b) + n % 256) + 256 ^ b * 256 * (n / 256 / 256 ^ b) := by
     have e3 : 256 ^ b * 256 * (n / 256 / 256 ^ b) = 256 * (256 ^ b * (n / 256 / 256 ^ b)) := by
      rw [Int.mul_comm (256 ^ b) 256, Int.mul_assoc]
     rw [e3]; omega
    conv => lhs; rw [hn]
    rw [Int.add_mul_emod_self_left]
    exact Int.emod_eq_of_lt (by omega) (by omega)
   rw [key]
   omega
  rw [h1, h2, Qco b]
theorem wb {k : Nat} {s : ByteArray} {u} {b1 : List Int} (h : b1.length + s.size ≤ 140737488355328) : Q06 k s u b1 = some (u, b1 ++ QM s, ()) := by
 unfold Q06 Q06.c Qo Qo.c
 rw [Q14 (Q1J (by rw [Q19]; omega))]
 rfl
theorem wrl {k : Nat} {l : List Int} (hl : Q2j l) {u} {b1 : List Int} (h : b1.length + l.length ≤ 140737488355328) : Q06 k (bytesOf l) u b1 = some (u, b1 ++ l, ()) := by
 rw [wb (by rw [Q1N]; exact h), Q27 hl]
theorem wu64 {k : Nat} (hk : 9 ≤ k) (n : Int) {u} {b1 : List Int} (h : b1.length ≤ 140737488350000) : Q0x k n u b1 = some (u, b1 ++ lowI n 8, ()) := by
 unfold Q0x Q0x.c
 rw [show (8 : Int) = ((8 : Nat) : Int) from rfl, Q8x hk _ 8 (by omega)]
 simp only [Option.bind_some]
 rw [wrl (QbL _ _) (by rw [Q1y]; omega)]
 rfl
def u32R (n : Int) : Prop := 0 ≤ n ∧ n ≤ 4294967295
theorem wu32 {k : Nat} (hk : 9 ≤ k) {n : Int} (hn : u32R n) {u} {b1 : List Int} (h : b1.length ≤ 140737488350000) : Q0I k n u b1 = some (u, b1 ++ lowI n 4, ()) := by
 unfold Q0I Q0I.c
 have h1 := hn.1
 have h2 := hn.2
 rw [u64_in (by omega), show (4 : Int) = ((4 : Nat) : Int) from rfl, Q8x hk _ 4 (by omega)]
 simp only [Option.bind_some]
 rw [wrl (QbL _ _) (by rw [Q1y]; omega)]
 rfl
theorem Q9J (s : ByteArray) (i : Nat) : Q1v s i = (QM s).getD i 0 := Q6w s i
theorem Qe2 {l : List Int} {i : Nat} (h : i + 64 ≤ l.length) : (List.range 64).map (fun j => l.getD (i + j) 0) = (l.drop i).take 64 := by
 apply List.ext_getElem
 ·simp; omega
 ·intro j h1 h2
  simp only [List.length_map, List.length_range] at h1
  simp only [List.getElem_map, List.getElem_range, List.getElem_take, List.getElem_drop, List.getD_eq_getElem?_getD]
  rw [List.getElem?_eq_getElem (by omega)]
  rfl
theorem QaP (k : Nat) (s : ByteArray) {i : Nat} (hi : i + 64 ≤ s.size) (hs : s.size ≤ 9223372036854775807) (x z : List Int) {fuel : Nat} (hf : 64 < fuel) :
  Q6.l1 k fuel (s, (i : Int), (0 : Int), z, x, List.replicate 64 0, ()) = some (s, (i : Int), z, x, ((QM s).drop i).take 64, ()) := by
 have hl := Q19 s
 have := Q1o (r := Q6.l1.r k) (fun j => (s, (i : Int), (j : Int), z, x, (List.range j).map (fun j => (QM s).getD (i + j) 0) ++ (List.replicate 64 (0 : Int)).drop j, ())) 64 (s, (i : Int), z, x, ((QM s).drop i).take 64, ()) ?_ ?_ hf
 ·exact this
 ·intro j hj kn ke
  simp only [Q6.l1.r]
  rw [Q0F (by omega), i64_in (n := (i : Int) + (j : Int)) (by omega), Q0F (by omega), Q0F (by omega), i64_in (n := (j : Int) + 1) (by omega), show ((i : Int) + (j : Int)).toNat = i + j by omega, show (j : Int).toNat = j by omega, Q9J]
  rw [Q7o (f := fun j => (QM s).getD (i + j) 0) (by simp; omega)]
  rfl
 ·intro kn ke
  simp only [Q6.l1.r]
  rw [Q1D (by omega), Q82 (by simp), Qe2 (by omega)]
theorem Q8h {k : Nat} (hk : 128 < k) {s : ByteArray} (hs : s.size ≤ 140737488354000) (hf : s.size / 64 + 2 < k) : Q6 k s = some (sumL (QM s), ()) := by
 unfold Q6 Q6.c
 have hsz := Q19 s
 have hp : (bytesOf (padL (s.size : Int))).size = 9 + padZ (s.size : Int) := by rw [Q1N, Q2D]
 have hz := Q4b (s.size : Int)
 have hpb : QM (bytesOf (padL (s.size : Int))) = padL (s.size : Int) := Q27 fun x hx => by have := QbA (s.size : Int) x hx; omega
 dsimp only
 rw [u64_in (n := (s.size : Int)) (by omega), Qbj (by omega) (by omega)]
 simp only [Option.bind_some]
 rw [Q14 (Q1J (by omega)), Q9Q]
 simp only [Option.bind_some]
 generalize hv : s ++ bytesOf (padL (s.size : Int)) = v
 have hvl : QM v = QM s ++ padL (s.size : Int) := by rw [← hv, Q8c, hpb]
 have hvs : v.size = s.size + (9 + padZ (s.size : Int)) := by rw [← Q19, hvl, List.length_append, hsz, Q2D]
 have h64 : (s.size + (9 + padZ (s.size : Int))) % 64 = 0 := by have := Qds (n := s.size); rwa [Q2D] at this
 have h0 : Q6.l0 k k (v, (0 : Int), List.replicate 32 0, first, ()) = some (List.replicate 32 0, stt first (QM v) (v.size / 64), ()) := by
  have := Q1o (r := Q6.l0.r k) (fun i => (v, ((64 * i : Nat) : Int), List.replicate 32 (0 : Int), stt first (QM v) i, ())) (v.size / 64) (List.replicate 32 0, stt first (QM v) (v.size / 64), ()) ?_ ?_ (fuel := k) (by omega)
  ·exact this
  ·intro i hi kn ke
   simp only [Q6.l0.r]
   rw [Q0F (by omega), QaP k v (by omega) (by omega) _ _ (by omega)]
   simp only [Option.bind_some]
   rw [Qap (by omega) (Qbc Q7E i) (Q5z Q44 i) (Q7I (Q5D (Q40 v) _) _) (by rw [List.length_take, List.length_drop, Q19]; omega)]
   simp only [Option.bind_some]
   rw [i64_in (by omega), show ((64 * i : Nat) : Int) + 64 = ((64 * (i + 1) : Nat) : Int) by omega]
   rfl
  ·intro kn ke
   simp only [Q6.l0.r]
   rw [Q1D (by omega)]
 rw [h0]
 simp only [Option.bind_some]
 rw [Q9g (by omega)]
 simp only [Option.bind_some]
 unfold sumL hx
 rw [hvl, hsz, List.length_append, hsz, Q2D, hvs]
theorem Q4y (a : List Int) : (sumL a).length = 32 := Q7G _
theorem Qde (a : List Int) : Q1B 0 255 (sumL a) := QaZ _
theorem Q8O (a : List Int) : QM (bytesOf ((((sumL a).drop 0).take 32))) = sumL a := by
 rw [List.drop_zero, List.take_of_length_le (by rw [Q4y]; omega)]
 exact Q27 fun x hx => by have := Qde a x hx; omega
theorem Q5T (a : List Int) : (bytesOf ((((sumL a).drop 0).take 32))).size = 32 := by
 rw [Q1N]; simp [Q4y]
theorem Q9A {k : Nat} (hk : 128 < k) {s : ByteArray} (hs : s.size ≤ 140737488354000) (hf : s.size / 64 + 1 < k) : Q1a k s = some (sumL (sumL (QM s)), ()) := by
 unfold Q1a Q1a.c
 rw [Q7x hk hs hf]
 simp only [Option.bind_some]
 rw [Q7x hk (by rw [Q5T]; omega) (by rw [Q5T]; omega), Q8O]
 rfl
theorem Q9e {k : Nat} (hk : 128 < k) {s : ByteArray} (hs : s.size ≤ 140737488354000) (hf : s.size / 64 + 2 < k) : Q0i k s = some (sumL (sumL (QM s)), ()) := by
 unfold Q0i Q0i.c
 rw [Q8h hk hs hf]
 simp only [Option.bind_some]
 rw [Q8h hk (by rw [Q5T]; omega) (by rw [Q5T]; omega), Q8O]
 rfl
theorem Q37 {k : Nat} (hk : 9 ≤ k) (n : Int) (hn : 0 ≤ n ∧ n ≤ 18446744073709551615) (b : Nat) (hb : b ≤ 8) : Qi k n (b : Int) = some (bytesOf (lowI n b), ()) := by
 unfold Qi Qi.c
 have hl : Qi.l0 k k (n, (b : Int), (0 : Int), List.replicate 0 (0 : Int), ()) = some (lowI n b, ()) := by
  have := Q1o (r := Qi.l0.r k) (fun i => (n / 256 ^ i, (b : Int), (i : Int), lowI n i, ())) b (lowI n b, ()) ?_ ?_ (fuel := k) (by omega)
  ·rw [Int.pow_zero, Int.ediv_one] at this
   exact this
  ·intro i hi kn ke
   simp only [Qi.l0.r]
   have hp : (0 : Int) < 256 ^ i := Int.pow_pos (by decide)
   have h0 : 0 ≤ n / 256 ^ i := Int.ediv_nonneg hn.1 (Int.le_of_lt hp)
   have h1 : n / 256 ^ i ≤ n := Int.ediv_le_self _ hn.1
   have hll := Q1y n i
   rw [Q0F (by omega), Int.tmod_eq_emod_of_nonneg h0, Int.tdiv_eq_ediv_of_nonneg h0]
   have e1 : (List.set (List.replicate 1 (0 : Int)) 0 (IntKind.u8.wrap (n / 256 ^ i % 256))) = [n / 256 ^ i % 256] := by rw [u8_in (by omega)]; rfl
   rw [e1, Q14 (Q1J (by simp only [List.length_singleton]; omega)), ← Q8M, u64_in (by omega), i64_in (by omega)]
   rw [show n / 256 ^ i / 256 = n / 256 ^ (i + 1) by rw [Int.pow_succ, Int.ediv_ediv_of_nonneg (Int.le_of_lt hp)]]
   rfl
  ·intro kn ke
   simp only [Qi.l0.r]
   rw [Q1D (by omega)]
 rw [hl]
 rfl
end Go.Am
