/- A part of a proof: a machine of abstract values that tells what functions of the program compute, and the plain facts on them. -/
import Derived.Test.YtifpmlmgindkaaaGreatAm11
import Derived.KernelRfl
import Derived.Test.YtifpmlmgindkaaaGreatAm9
set_option linter.unusedVariables false
set_option linter.unusedSimpArgs false
set_option linter.unnecessarySimpa false
set_option linter.unusedSectionVars false
namespace Go.Am
open Go Go.Proofs
set_option maxRecDepth 100000
def Q0i.c (k : Nat) {ρ : Type} (n : Int) (K : ByteArray × Unit → Option ρ) : Option ρ :=
 (QA k ).bind fun t0 => (QX k n (((), ((), ())), ()) t0.2.1).bind fun t1 => (Qp k (((), ((), ())), ()) t1.2.1).bind fun t2 => K (t2.1, ())
def Q0i (k : Nat) (n : Int) : Option (ByteArray × Unit) := Q0i.c k n some
def Q0i.tin : List Ty := [(.int .u64)]
def Q0i.tout : List Ty := [.str]
def Q0i.sem (k : Nat) : Qt := QL Q0i.tin Q0i.tout fun x => Q0i k x.1
noncomputable def Q0i.ctx (k : Nat) : Ctx := ⟨Tryz.prog, gam [(33, (QA.sem k)), (104, (QX.sem k)), (38, (Qp.sem k))]⟩
theorem Q0i.gok (k : Nat) : ∀ f, Qo Tryz.prog f ((Q0i.ctx k).Γ f) := (Qd (QA.sem_ok k) (Qd (QX.sem_ok k) (Qd (Qp.sem_ok k) QU)))
def Q0i.ann (k : Nat) : Ann := .nil
theorem Q0i.body (k : Nat) : Q0C (Q0i.ctx k) Tryz.f106 (Func.code Tryz.f106) (Q0i.ann k) Q0i.tin Q0i.tout (fun x K => Q0i.c k x.1 K) := by
 intro ρ x K; kernel_rfl
theorem Q0i.sem_ok (k : Nat) : Qo Tryz.prog 106 (Q0i.sem k) :=
 Qw (C := Q0i.ctx k) (Q0i.gok k) Tryz.mix (c := Func.code Tryz.f106) (ann := Q0i.ann k) (tin := Q0i.tin) (tout := Q0i.tout) (fun x K => Q0i.c k x.1 K) Tryz.func106 (by kernel_rfl) (by kernel_rfl) Q3.nil (Q0i.body k)
def Q0y.c (k : Nat) {ρ : Type} (s : ByteArray) (K : ByteArray × Unit → Option ρ) : Option ρ :=
 (Q0D k s).bind fun t0 => let v1 : ByteArray := (bytesOf (List.take 4 (List.drop 0 t0.1)))
 K (v1, ())
def Q0y (k : Nat) (s : ByteArray) : Option (ByteArray × Unit) := Q0y.c k s some
def Q0y.tin : List Ty := [.str]
def Q0y.tout : List Ty := [.str]
def Q0y.sem (k : Nat) : Qt := QL Q0y.tin Q0y.tout fun x => Q0y k x.1
noncomputable def Q0y.ctx (k : Nat) : Ctx := ⟨Tryz.prog, gam [(91, (Q0D.sem k))]⟩
theorem Q0y.gok (k : Nat) : ∀ f, Qo Tryz.prog f ((Q0y.ctx k).Γ f) := (Qd (Q0D.sem_ok k) QU)
def Q0y.ann (k : Nat) : Ann := .nil
theorem Q0y.body (k : Nat) : Q0C (Q0y.ctx k) Tryz.f105 (Func.code Tryz.f105) (Q0y.ann k) Q0y.tin Q0y.tout (fun x K => Q0y.c k x.1 K) := by
 intro ρ x K; kernel_rfl
theorem Q0y.sem_ok (k : Nat) : Qo Tryz.prog 105 (Q0y.sem k) :=
 Qw (C := Q0y.ctx k) (Q0y.gok k) Tryz.mix (c := Func.code Tryz.f105) (ann := Q0y.ann k) (tin := Q0y.tin) (tout := Q0y.tout) (fun x K => Q0y.c k x.1 K) Tryz.func105 (by kernel_rfl) (by kernel_rfl) Q3.nil (Q0y.body k)
def Q0g.c (k : Nat) {ρ : Type} (epoch : Int) (K : ByteArray × Unit → Option ρ) : Option ρ :=
 (Q0i k epoch).bind fun t0 => bif (Nat.ble (8 + (ByteArray.size t0.1)) 9223372036854775807) then (let v1 : ByteArray := ((⟨(List.toArray [98, 101, 100, 114, 111, 99, 107, 106])⟩ : ByteArray) ++ t0.1)
 (Q0y k v1).bind fun t2 => bif (Nat.ble ((ByteArray.size v1) + (ByteArray.size t2.1)) 9223372036854775807) then (let v3 : ByteArray := (v1 ++ t2.1)
 K (v3, ())) else (none)) else (none)
def Q0g (k : Nat) (epoch : Int) : Option (ByteArray × Unit) := Q0g.c k epoch some
def Q0g.tin : List Ty := [(.int .u64)]
def Q0g.tout : List Ty := [.str]
def Q0g.sem (k : Nat) : Qt := QL Q0g.tin Q0g.tout fun x => Q0g k x.1
noncomputable def Q0g.ctx (k : Nat) : Ctx := ⟨Tryz.prog, gam [(106, (Q0i.sem k)), (105, (Q0y.sem k))]⟩
theorem Q0g.gok (k : Nat) : ∀ f, Qo Tryz.prog f ((Q0g.ctx k).Γ f) := (Qd (Q0i.sem_ok k) (Qd (Q0y.sem_ok k) QU))
def Q0g.ann (k : Nat) : Ann := .nil
theorem Q0g.body (k : Nat) : Q0C (Q0g.ctx k) Tryz.f95 (Func.code Tryz.f95) (Q0g.ann k) Q0g.tin Q0g.tout (fun x K => Q0g.c k x.1 K) := by
 intro ρ x K; kernel_rfl
theorem Q0g.sem_ok (k : Nat) : Qo Tryz.prog 95 (Q0g.sem k) :=
 Qw (C := Q0g.ctx k) (Q0g.gok k) Tryz.mix (c := Func.code Tryz.f95) (ann := Q0g.ann k) (tin := Q0g.tin) (tout := Q0g.tout) (fun x K => Q0g.c k x.1 K) Tryz.func95 (by kernel_rfl) (by kernel_rfl) Q3.nil (Q0g.body k)
end Go.Am
namespace Go.Am
open Go Go.Proofs
set_option maxRecDepth 100000
def Q02.c (k : Nat) {ρ : Type} (epoch : Int) (number : Int) (s : ByteArray) (K : ByteArray × Int × Unit → Option ρ) : Option ρ :=
 bif (decide ((((ByteArray.size s) : Nat) : Int) > (65536 : Int))) then (K ((⟨(List.toArray [])⟩ : ByteArray), ((121 : Int), ()))) else ((QA k ).bind fun t0 => (Qr k (IntKind.wrap IntKind.u32 (((ByteArray.size s) : Nat) : Int)) (((), ((), ())), ()) t0.2.1).bind fun t1 => (QX k number (((), ((), ())), ()) t1.2.1).bind fun t2 => (Qf k s (((), ((), ())), ()) t2.2.1).bind fun t3 => (Qp k (((), ((), ())), ()) t3.2.1).bind fun t4 => (Q0i k epoch).bind fun t5 => bif (Nat.ble ((ByteArray.size t5.1) + (ByteArray.size t4.1)) 9223372036854775807) then (let v6 : ByteArray := (t5.1 ++ t4.1)
 (Q0y k v6).bind fun t7 => bif (Nat.ble ((ByteArray.size t4.1) + (ByteArray.size t7.1)) 9223372036854775807) then (let v8 : ByteArray := (t4.1 ++ t7.1)
 K (v8, ((0 : Int), ()))) else (none)) else (none))
def Q02 (k : Nat) (epoch : Int) (number : Int) (s : ByteArray) : Option (ByteArray × Int × Unit) := Q02.c k epoch number s some
def Q02.tin : List Ty := [(.int .u64), (.int .u64), .str]
def Q02.tout : List Ty := [.str, (.int .i64)]
def Q02.sem (k : Nat) : Qt := QL Q02.tin Q02.tout fun x => Q02 k x.1 x.2.1 x.2.2.1
noncomputable def Q02.ctx (k : Nat) : Ctx := ⟨Tryz.prog, gam [(33, (QA.sem k)), (36, (Qr.sem k)), (104, (QX.sem k)), (34, (Qf.sem k)), (38, (Qp.sem k)), (106, (Q0i.sem k)), (105, (Q0y.sem k))]⟩
theorem Q02.gok (k : Nat) : ∀ f, Qo Tryz.prog f ((Q02.ctx k).Γ f) := (Qd (QA.sem_ok k) (Qd (Qr.sem_ok k) (Qd (QX.sem_ok k) (Qd (Qf.sem_ok k) (Qd (Qp.sem_ok k) (Qd (Q0i.sem_ok k) (Qd (Q0y.sem_ok k) QU)))))))
def Q02.ann (k : Nat) : Ann := .nil
theorem Q02.body (k : Nat) : Q0C (Q02.ctx k) Tryz.f63 (Func.code Tryz.f63) (Q02.ann k) Q02.tin Q02.tout (fun x K => Q02.c k x.1 x.2.1 x.2.2.1 K) := by
 intro ρ x K; kernel_rfl
theorem Q02.sem_ok (k : Nat) : Qo Tryz.prog 63 (Q02.sem k) :=
 Qw (C := Q02.ctx k) (Q02.gok k) Tryz.mix (c := Func.code Tryz.f63) (ann := Q02.ann k) (tin := Q02.tin) (tout := Q02.tout) (fun x K => Q02.c k x.1 x.2.1 x.2.2.1 K) Tryz.func63 (by kernel_rfl) (by kernel_rfl) Q3.nil (Q02.body k)
end Go.Am
namespace Go.Am
open Go
theorem Q9e (k : Nat) (n : Int) (b : Nat) (hb : b ≤ 8) : ∀ (d i fuel : Nat), i + d = b → d < fuel →
  Q09.l0 k fuel (n, (b : Int), (i : Int), lowI n i ++ List.replicate d 0, ()) = some (lowI n b, ())
 | 0, i, fuel + 1, hi, _ => by
  have : i = b := by omega
  subst this
  show Q09.l0.r k _ (Q0T (Q09.l0.r k) fuel) some = _
  simp only [Q09.l0.r]
  rw [decide_eq_false (by omega), cond_false]
  simp
 | d + 1, i, fuel + 1, hi, hf => by
  show Q09.l0.r k _ (Q0T (Q09.l0.r k) fuel) some = _
  simp only [Q09.l0.r]
  rw [decide_eq_true (by omega), cond_true, i64_in (by omega), decide_eq_true (by omega), cond_true]
  have hlen : (lowI n i ++ List.replicate (d + 1) (0 : Int)).length = b := by simp [Q0o]; omega
  rw [hlen, decide_eq_true (by omega), cond_true, i64_in (by omega)]
  have h8 : (8 : Int) * (i : Int) = ((8 * i : Nat) : Int) := by omega
  rw [h8, Qcq (by omega), pow8, QbW, show (i : Int).toNat = i by omega]
  have hset : (lowI n i ++ List.replicate (d + 1) (0 : Int)).set i (n / 256 ^ i % 256) = lowI n (i + 1) ++ List.replicate d 0 := by
   rw [List.set_append]
   simp [Q0o, Q8f, List.replicate_succ]
  rw [hset]
  have ih := Q9e k n b hb d (i + 1) fuel (by omega) (by omega)
  rw [show ((i + 1 : Nat) : Int) = (i : Int) + 1 by omega] at ih
  exact ih
theorem Q7H {k : Nat} (hk : 9 ≤ k) (n : Int) (b : Nat) (hb : b ≤ 8) : Q09 k n (b : Int) = some (bytesOf (lowI n b), ()) := by
 unfold Q09 Q09.c
 rw [decide_eq_true (by omega), show (b : Int).toNat = b by omega]
 have : Nat.ble (b * 1) 140737488355328 = true := Q2b (by omega)
 rw [this]
 simp only [Bool.and_self, cond_true]
 have := Q9e k n b hb b 0 k (by omega) (by omega)
 simp only [lowI, List.nil_append] at this
 rw [List.length_replicate]
 show (Q09.l0 k k (n, (b : Int), ((0 : Nat) : Int), List.replicate b 0, ())).bind _ = _
 rw [this]
 rfl
theorem Q98 (k : Nat) (n : Int) (hn : 0 ≤ n ∧ n ≤ 18446744073709551615) (b : Nat) (hb : b ≤ 8) : ∀ (d i fuel : Nat), i + d = b → d < fuel →
  Q7.l0 k fuel (n / 256 ^ i, (b : Int), bytesOf (lowI n i), (i : Int), ()) = some (bytesOf (lowI n b), ())
 | 0, i, fuel + 1, hi, _ => by
  have : i = b := by omega
  subst this
  show Q7.l0.r k _ (Q0T (Q7.l0.r k) fuel) some = _
  simp only [Q7.l0.r]
  rw [decide_eq_false (by omega), cond_false]
 | d + 1, i, fuel + 1, hi, hf => by
  show Q7.l0.r k _ (Q0T (Q7.l0.r k) fuel) some = _
  simp only [Q7.l0.r]
  rw [decide_eq_true (by omega), cond_true]
  have hq : 0 ≤ n / 256 ^ i := Int.ediv_nonneg hn.1 (Int.le_of_lt (Int.pow_pos (by omega)))
  have hq2 : n / 256 ^ i ≤ n := Int.ediv_le_self _ hn.1
  rw [Int.tmod_eq_emod_of_nonneg hq, Int.tdiv_eq_ediv_of_nonneg hq, QbW, i64_in (by omega), u64_in (by omega)]
  have h1 : List.set (List.replicate 1 (0 : Int)) 0 (n / 256 ^ i % 256 % 256) = [n / 256 ^ i % 256] := by
   simp
  rw [h1, Q0S, Q0S, Q0o]
  have : Nat.ble (i + [n / 256 ^ i % 256].length) 9223372036854775807 = true := Q2b (by simp; omega)
  rw [this, cond_true, Q17, ← Q8f, Int.ediv_ediv_of_nonneg (Int.le_of_lt (Int.pow_pos (by omega))), ← Int.pow_succ]
  have ih := Q98 k n hn b hb d (i + 1) fuel (by omega) (by omega)
  rw [show ((i + 1 : Nat) : Int) = (i : Int) + 1 by omega] at ih
  exact ih
theorem Q2H {k : Nat} (hk : 9 ≤ k) (n : Int) (hn : 0 ≤ n ∧ n ≤ 18446744073709551615) (b : Nat) (hb : b ≤ 8) : Q7 k n (b : Int) = some (bytesOf (lowI n b), ()) := by
 unfold Q7 Q7.c
 have := Q98 k n hn b hb b 0 k (by omega) (by omega)
 simp only [Int.pow_zero, Int.ediv_one, lowI] at this
 show (Q7.l0 k k (n, (b : Int), bytesOf [], ((0 : Nat) : Int), ())).bind _ = _
 rw [this]
 rfl
theorem Q8b (k : Nat) (s : ByteArray) (hs : s.size ≤ 8) : ∀ (d i fuel : Nat), i + d = s.size → d < fuel →
  Q04.l0 k fuel (s, leI ((Qv s).take i), (s.size : Int), (i : Int), ()) = some (leI (Qv s), ())
 | 0, i, fuel + 1, hi, _ => by
  have : i = s.size := by omega
  subst this
  show Q04.l0.r k _ (Q0T (Q04.l0.r k) fuel) some = _
  simp only [Q04.l0.r]
  rw [decide_eq_false (by omega), cond_false, ← Q0Z, List.take_length]
 | d + 1, i, fuel + 1, hi, hf => by
  show Q04.l0.r k _ (Q0T (Q04.l0.r k) fuel) some = _
  simp only [Q04.l0.r]
  have hr := Q2J s (i : Int).toNat
  rw [decide_eq_true (by omega), cond_true, decide_eq_true (by omega), cond_true, i64_in (by omega), decide_eq_true (by omega), cond_true, i64_in (by omega), u64_in (by omega)]
  have hin : Q1q ((Qv s).take i) := fun x hx => Q2i (List.mem_of_mem_take hx)
  obtain ⟨h0, h1⟩ := Q3r hin
  have hlen : ((Qv s).take i).length = i := by rw [List.length_take, Q0Z]; omega
  rw [hlen] at h1
  have hstep : leI ((Qv s).take (i + 1)) = leI ((Qv s).take i) + 256 ^ i * Q13 s i := by
   have hi' : i < (Qv s).length := by rw [Q0Z]; omega
   rw [List.take_succ_eq_append_getElem hi', Q9R, hlen, Q4I, List.getD_eq_getElem?_getD, List.getElem?_eq_getElem hi']
   simp [leI]
  have hin2 : Q1q ((Qv s).take (i + 1)) := fun x hx => Q2i (List.mem_of_mem_take hx)
  obtain ⟨g0, g1⟩ := Q3r hin2
  have hlen2 : ((Qv s).take (i + 1)).length = i + 1 := by rw [List.length_take, Q0Z]; omega
  rw [hlen2] at g1
  have hpow : (256 : Int) ^ (i + 1) ≤ 18446744073709551616 := by
   have : i + 1 ≤ 8 := by omega
   have h2 : ∀ j : Nat, j ≤ 8 → (256 : Int) ^ j ≤ 18446744073709551616 := by
    intro j hj
    match j, hj with
    | 0, _ | 1, _ | 2, _ | 3, _ | 4, _ | 5, _ | 6, _ | 7, _ | 8, _ => decide
   exact h2 _ this
  have hshl : Q2Y IntKind.u64 (Q13 s (i : Int).toNat) (8 * (i : Int)) = ((Q13 s i).toNat * 2 ^ (8 * i) : Nat) := by
   unfold Q2Y
   rw [show (8 * (i : Int)).toNat = 8 * i by omega, show (i : Int).toNat = i by omega]
   have : min (8 * i) IntKind.u64.bits = 8 * i := by simp [IntKind.bits]; omega
   rw [this]
   have hb := Q2J s i
   have e : Q13 s i * 2 ^ (8 * i) = (((Q13 s i).toNat * 2 ^ (8 * i) : Nat) : Int) := by
    rw [Int.natCast_mul, Int.natCast_pow, show ((Q13 s i).toNat : Int) = Q13 s i by omega]; rfl
   rw [e, u64_in]
   rw [← e, pow8, Int.mul_comm]
   have : 256 ^ i * Q13 s i ≤ leI ((Qv s).take (i + 1)) := by omega
   have : 0 ≤ 256 ^ i * Q13 s i := Int.mul_nonneg (Int.le_of_lt (Int.pow_pos (by omega))) hb.1
   omega
  have hb := Q2J s i
  have hor := Qd3 (A := (leI ((Qv s).take i)).toNat) (B := (Q13 s i).toNat) (j := 8 * i) (by
   have e : ((2 ^ (8 * i) : Nat) : Int) = 256 ^ i := by rw [Int.natCast_pow]; exact pow8 i
   omega) (by
   have e : (((Q13 s i).toNat * 2 ^ (8 * i) : Nat) : Int) = 256 ^ i * Q13 s i := by
    rw [Int.natCast_mul, Int.natCast_pow, show ((2 : Nat) : Int) = 2 from rfl, pow8, Int.mul_comm, show ((Q13 s i).toNat : Int) = Q13 s i by omega]
   omega)
  rw [show ((leI ((Qv s).take i)).toNat : Int) = leI ((Qv s).take i) by omega] at hor
  rw [hshl, hor]
  have hfin : (((Q13 s i).toNat * 2 ^ (8 * i) + (leI ((Qv s).take i)).toNat : Nat) : Int) = leI ((Qv s).take (i + 1)) := by
   rw [hstep, Int.natCast_add, Int.natCast_mul, Int.natCast_pow, show ((2 : Nat) : Int) = 2 from rfl, pow8, Int.mul_comm]
   rw [show ((Q13 s i).toNat : Int) = Q13 s i by omega]
   omega
  rw [hfin]
  have ih := Q8b k s hs d (i + 1) fuel (by omega) (by omega)
  rw [show ((i + 1 : Nat) : Int) = (i : Int) + 1 by omega] at ih
  exact ih
theorem Q9m {k : Nat} (hk : 9 ≤ k) (s : ByteArray) (hs : s.size ≤ 8) : Q04 k s = some (leI (Qv s), ()) := by
 unfold Q04 Q04.c
 have := Q8b k s hs s.size 0 k (by omega) (by omega)
 simp only [List.take_zero, leI] at this
 show (Q04.l0 k k (s, (0 : Int), (s.size : Int), ((0 : Nat) : Int), ())).bind _ = _
 rw [this]
 rfl
theorem Q9o (k : Nat) (s : ByteArray) (hs : s.size ≤ 8) : ∀ (i fuel : Nat), i ≤ s.size → i < fuel →
  Q8.l0 k fuel (s, leI ((Qv s).drop i), (i : Int) - 1, ()) = some (leI (Qv s), ())
 | 0, fuel + 1, hi, _ => by
  have e : Q8.l0 k (fuel + 1) (s, leI ((Qv s).drop 0), ((0 : Nat) : Int) - 1, ()) = Q8.l0.r k (s, leI ((Qv s).drop 0), ((0 : Nat) : Int) - 1, ()) (Q0T (Q8.l0.r k) fuel) some := rfl
  rw [e]
  simp only [Q8.l0.r]
  rw [decide_eq_false (by omega), cond_false, List.drop_zero]
 | i + 1, fuel + 1, hi, hf => by
  show Q8.l0.r k _ (Q0T (Q8.l0.r k) fuel) some = _
  simp only [Q8.l0.r]
  have hr := Q2J s i
  rw [show ((i + 1 : Nat) : Int) - 1 = (i : Int) by omega, show (i : Int).toNat = i by omega]
  have hin : Q1q ((Qv s).drop i) := fun x hx => Q2i (List.mem_of_mem_drop hx)
  obtain ⟨h0, h1⟩ := Q3r hin
  have hlen : ((Qv s).drop i).length = s.size - i := by rw [List.length_drop, Q0Z]
  rw [hlen] at h1
  have hpow : (256 : Int) ^ (s.size - i) ≤ 18446744073709551616 := by
   have h2 : ∀ j : Nat, j ≤ 8 → (256 : Int) ^ j ≤ 18446744073709551616 := by
    intro j hj
    match j, hj with
    | 0, _ | 1, _ | 2, _ | 3, _ | 4, _ | 5, _ | 6, _ | 7, _ | 8, _ => decide
   exact h2 _ (by omega)
  have hstep : leI ((Qv s).drop i) = Q13 s i + 256 * leI ((Qv s).drop (i + 1)) := by
   have hi' : i < (Qv s).length := by rw [Q0Z]; omega
   rw [List.drop_eq_getElem_cons hi', leI, Q4I, List.getD_eq_getElem?_getD, List.getElem?_eq_getElem hi']
   rfl
  have hin2 : Q1q ((Qv s).drop (i + 1)) := fun x hx => Q2i (List.mem_of_mem_drop hx)
  have g0 := (Q3r hin2).1
  rw [decide_eq_true (by omega), cond_true, decide_eq_true (by omega), cond_true, u64_in (n := Q13 s i) (by omega), u64_in (n := _ * 256) (by omega), u64_in (by omega), i64_in (by omega)]
  rw [show leI ((Qv s).drop (i + 1)) * 256 + Q13 s i = leI ((Qv s).drop i) by omega]
  exact Q9o k s hs i fuel (by omega) (by omega)
theorem Q1w {k : Nat} (hk : 9 ≤ k) (s : ByteArray) (hs : s.size ≤ 8) : Q8 k s = some (leI (Qv s), ()) := by
 unfold Q8 Q8.c
 have := Q9o k s hs s.size k (by omega) (by omega)
 rw [show (Qv s).drop s.size = [] by rw [← Q0Z]; simp] at this
 simp only [leI] at this
 rw [i64_in (by omega)]
 show (Q8.l0 k k (s, (0 : Int), (s.size : Int) - 1, ())).bind _ = _
 rw [this]
 rfl
theorem Q44 (s : ByteArray) : Q1q (Qv s) := fun _ h => Q2i h
theorem Qcw {l r : List Int} (h : Q1q l) (hs : ∀ x ∈ r, x ∈ l) : Q1q r := fun x hx => h x (hs x hx)
theorem QcI : (⟨List.toArray []⟩ : ByteArray) = bytesOf [] := rfl
abbrev Rd : Type := ByteArray × Int × Int × Unit
def RdOK (r : Rd) : Prop := r.1.size ≤ 140737488351232 ∧ 0 ≤ r.2.1 ∧ r.2.1 ≤ (r.1.size : Int)
def Q15 (r : Rd) (n : Int) : Rd × ByteArray :=
 if r.2.2.1 ≠ 0 then (r, ⟨List.toArray []⟩) else
 if n < 0 then ((r.1, r.2.1, 1, ()), ⟨List.toArray []⟩) else
 if n > (r.1.size : Int) - r.2.1 then ((r.1, r.2.1, 4, ()), ⟨List.toArray []⟩) else
 ((r.1, r.2.1 + n, r.2.2.1, ()), r.1.extract r.2.1.toNat (r.2.1 + n).toNat)
theorem QbE {r : Rd} (h : RdOK r) (n : Int) : RdOK (Q15 r n).1 ∧ (Q15 r n).1.1 = r.1 := by
 obtain ⟨h1, h2, h3⟩ := h
 unfold Q15
 split
 ·exact ⟨⟨h1, h2, h3⟩, rfl⟩
 ·split
  ·exact ⟨⟨h1, h2, h3⟩, rfl⟩
  ·split
   ·exact ⟨⟨h1, h2, h3⟩, rfl⟩
   ·exact ⟨⟨h1, by dsimp only; omega, by dsimp only; omega⟩, rfl⟩
theorem Q6R {r : Rd} (h : RdOK r) (n : Int) : (Q15 r n).2.size = 0 ∨ (Q15 r n).2.size = n.toNat := by
 obtain ⟨h1, h2, h3⟩ := h
 unfold Q15
 split
 ·exact .inl rfl
 ·split
  ·exact .inl rfl
  ·split
   ·exact .inl rfl
   ·right
    rw [ByteArray.size_extract]; omega
theorem Qd4 {r : Rd} (n : Int) (he : (Q15 r n).1.2.2.1 ≠ 0) : (Q15 r n).2 = ⟨List.toArray []⟩ := by
 unfold Q15 at he ⊢
 split
 ·rfl
 ·split
  ·rfl
  ·split
   ·rfl
   ·rename_i h0 h1 h2
    rw [if_neg h0, if_neg h1, if_neg h2] at he
    exact absurd he h0
theorem QcO {r : Rd} (h : RdOK r) {n : Int} (he : (Q15 r n).1.2.2.1 = 0) : (Q15 r n).2.size = n.toNat ∧ 0 ≤ n := by
 obtain ⟨h1, h2, h3⟩ := h
 unfold Q15 at he ⊢
 split
 ·rename_i h0
  rw [if_pos h0] at he
  exact absurd he h0
 ·rename_i h0
  rw [if_neg h0] at he
  split
  ·rename_i h1
   rw [if_pos h1] at he; cases he
  ·rename_i h1
   rw [if_neg h1] at he
   split
   ·rename_i h2
    rw [if_pos h2] at he; cases he
   ·exact ⟨by rw [ByteArray.size_extract]; omega, by omega⟩
theorem bytes_eq (k : Nat) {r : Rd} (h : RdOK r) {n : Int} : Qu k n r = some ((Q15 r n).2, (Q15 r n).1, ()) := by
 obtain ⟨s, a, e, u⟩ := r
 obtain ⟨h1, h2, h3⟩ := h
 simp only at h1 h2 h3
 unfold Qu Qu.c Q15
 rw [show Q01 k (s, a, e, ()) = some (e, (s, a, e, ()), ()) from rfl]
 simp only [Option.bind_some]
 by_cases he : e = 0
 ·subst he
  rw [bne_self_eq_false, cond_false, if_neg (by simp)]
  by_cases hn : n < 0
  ·rw [Q0L hn, if_pos hn]
  ·rw [Q1r hn, if_neg hn, show Q03 k (s, a, (0 : Int), ()) = some (IntKind.i64.wrap ((s.size : Int) - a), (s, a, (0 : Int), ()), ()) from rfl]
   simp only [Option.bind_some]
   rw [i64_in (n := (s.size : Int) - a) (by omega)]
   by_cases hg : n > (s.size : Int) - a
   ·rw [Q0L hg, if_pos hg]
   ·rw [Q1r hg, if_neg hg, i64_in (n := a + n) (by omega), i64_in (by omega), Q0L (by omega), show a + n - n = a by omega]
 ·rw [Q1g (by simpa using he), if_pos he]
theorem Q9Q {l : List Int} (h : Q1q l) {m : Nat} (hm : l.length ≤ m) : 0 ≤ leI l ∧ leI l < 256 ^ m := by
 obtain ⟨h1, h2⟩ := Q3r h
 refine ⟨h1, Int.lt_of_lt_of_le h2 ?_⟩
 have : (256 : Nat) ^ l.length ≤ 256 ^ m := Nat.pow_le_pow_right (by omega) hm
 have h3 : (((256 : Nat) ^ l.length : Nat) : Int) ≤ ((256 ^ m : Nat) : Int) := Int.ofNat_le.2 this
 rw [Int.natCast_pow, Int.natCast_pow] at h3
 exact h3
def numS (r : Rd) (n : Int) : Int := leI (Qv (Q15 r n).2)
theorem QaU {r : Rd} (h : RdOK r) (n : Nat) : 0 ≤ numS r n ∧ numS r n < 256 ^ n := by
 refine Q9Q (Q44 _) ?_
 rw [Q0Z]
 rcases Q6R h (n : Int) with h | h <;> omega
theorem Q77 {k : Nat} (hk : 9 ≤ k) {r : Rd} (h : RdOK r) (n : Nat) (hn : n ≤ 8) : Q04 k (Q15 r n).2 = some (numS r n, ()) :=
 Q9m hk _ (by rcases Q6R h (n : Int) with h | h <;> omega)
theorem Qcc {k : Nat} (hk : 9 ≤ k) {r : Rd} (h : RdOK r) : QB k r = some (numS r 1, (Q15 r 1).1, ()) := by
 unfold QB QB.c
 show (Qu k 1 r).bind _ = _
 rw [bytes_eq k h]
 simp only [Option.bind_some]
 rw [show (1 : Int) = ((1 : Nat) : Int) from rfl, Q77 hk h 1 (by omega)]
 have := QaU h 1
 simp only [Option.bind_some]
 rw [u8_in (by omega)]
theorem Q46 {k : Nat} (hk : 9 ≤ k) {r : Rd} (h : RdOK r) : Qq k r = some (numS r 4, (Q15 r 4).1, ()) := by
 unfold Qq Qq.c
 show (Qu k 4 r).bind _ = _
 rw [bytes_eq k h]
 simp only [Option.bind_some]
 rw [show (4 : Int) = ((4 : Nat) : Int) from rfl, Q77 hk h 4 (by omega)]
 have := QaU h 4
 simp only [Option.bind_some]
 rw [Q2D (by omega)]
theorem Qbq : ∀ (b : Nat) (n : Int), lowI (n % 256 ^ b) b = lowI n b
 | 0, _ => rfl
 | b + 1, n => by
  simp only [lowI]
  have h1 : n % 256 ^ (b + 1) % 256 = n % 256 := by
   rw [Int.pow_succ, Int.mul_comm]
   exact Int.emod_emod_of_dvd _ (Int.dvd_mul_right _ _)
  have h2 : n % 256 ^ (b + 1) / 256 = n / 256 % 256 ^ b := by
   have e := Int.mul_ediv_add_emod n 256
   have hp : (0 : Int) < 256 ^ b := Int.pow_pos (by decide)
   have e2 := Int.mul_ediv_add_emod (n / 256) (256 ^ b)
   have r1 := Int.emod_nonneg n (show (256 : Int) ≠ 0 by decide)
   have r2 := Int.emod_lt_of_pos n (show (0 : Int) < 256 by decide)
   have r3 := Int.emod_nonneg (n / 256) (Int.ne_of_gt hp)
   have r4 := Int.emod_lt_of_pos (n / 256) hp
   have key : n % 256 ^ (b + 1) = 256 * (n / 256 % 256 ^ b) + n % 256 := by
    rw [Int.pow_succ]
    have hn : n = (256 * (n / 256 % 256 ^ b) + n % 256) + 256 ^ b * 256 * (n / 256 / 256 ^ b) := by
     have e3 : 256 ^ b * 256 * (n / 256 / 256 ^ b) = 256 * (256 ^ b * (n / 256 / 256 ^ b)) := by
      rw [Int.mul_comm (256 ^ b) 256, Int.mul_assoc]
     rw [e3]; omega
    conv => lhs; rw [hn]
    rw [Int.add_mul_emod_self_left]
    exact Int.emod_eq_of_lt (by omega) (by omega)
   rw [key]
   omega
  rw [h1, h2, Qbq b]
theorem wb {k : Nat} {s : ByteArray} {u} {b1 : List Int} (h : b1.length + s.size ≤ 140737488355328) : Qf k s u b1 = some (u, b1 ++ Qv s, ()) := by
 unfold Qf Qf.c Qg Qg.c
 rw [Q1g (Q2b (by rw [Q0Z]; omega))]
 rfl
theorem wrl {k : Nat} {l : List Int} (hl : Q1q l) {u} {b1 : List Int} (h : b1.length + l.length ≤ 140737488355328) : Qf k (bytesOf l) u b1 = some (u, b1 ++ l, ()) := by
 rw [wb (by rw [Q0S]; exact h), Q1u hl]
def u32R (n : Int) : Prop := 0 ≤ n ∧ n ≤ 4294967295
theorem wu32 {k : Nat} (hk : 9 ≤ k) {n : Int} (hn : u32R n) {u} {b1 : List Int} (h : b1.length ≤ 140737488350000) : Qr k n u b1 = some (u, b1 ++ lowI n 4, ()) := by
 unfold Qr Qr.c
 have h1 := hn.1
 have h2 := hn.2
 rw [u64_in (by omega), show (4 : Int) = ((4 : Nat) : Int) from rfl, Q7H hk _ 4 (by omega)]
 simp only [Option.bind_some]
 rw [wrl (Q6H _ _) (by rw [Q0o]; omega)]
 rfl
theorem QcC (k : Nat) {l : List Int} (hl : l.length = 32 ∧ Q1q l) {u} {b1 : List Int} (h : b1.length ≤ 140737488350000) : QM k l u b1 = some (u, b1 ++ l.take 32, ()) := by
 unfold QM QM.c
 rw [List.drop_zero]
 dsimp only
 rw [wrl (fun x hx => hl.2 x (List.mem_of_mem_take hx)) (by rw [List.length_take]; omega)]
 rfl
end Go.Am
