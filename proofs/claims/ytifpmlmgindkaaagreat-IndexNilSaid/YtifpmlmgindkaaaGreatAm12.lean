/- A part of a proof: a machine of abstract values that tells what functions of the program compute, and the plain facts on them. -/
import Derived.Test.YtifpmlmgindkaaaGreatAm11
import Derived.KernelRfl
import Derived.Test.YtifpmlmgindkaaaGreatAm9
set_option linter.unusedVariables false
set_option linter.unusedSimpArgs false
set_option linter.unnecessarySimpa false
set_option linter.unusedSectionVars false
namespace Go.Am
open Go Go.Proofs
set_option maxRecDepth 100000
def Q0D.c (k : Nat) {ρ : Type} (n : Int) (K : ByteArray × Unit → Option ρ) : Option ρ :=
 (QR k ).bind fun t0 => (Q09 k n (((), ((), ())), ()) t0.2.1).bind fun t1 => (Qx k (((), ((), ())), ()) t1.2.1).bind fun t2 => K (t2.1, ())
def Q0D (k : Nat) (n : Int) : Option (ByteArray × Unit) := Q0D.c k n some
def Q0D.tin : List Ty := [(.int .u64)]
def Q0D.tout : List Ty := [.str]
def Q0D.sem (k : Nat) : Qr := QX Q0D.tin Q0D.tout fun x => Q0D k x.1
noncomputable def Q0D.ctx (k : Nat) : Ctx := ⟨Tryz.prog, gam [(33, (QR.sem k)), (104, (Q09.sem k)), (38, (Qx.sem k))]⟩
theorem Q0D.gok (k : Nat) : ∀ f, Qm Tryz.prog f ((Q0D.ctx k).Γ f) := (Q8 (QR.sem_ok k) (Q8 (Q09.sem_ok k) (Q8 (Qx.sem_ok k) QK)))
def Q0D.ann (k : Nat) : Ann := .nil
theorem Q0D.body (k : Nat) : Q0Y (Q0D.ctx k) Tryz.f106 (Func.code Tryz.f106) (Q0D.ann k) Q0D.tin Q0D.tout (fun x K => Q0D.c k x.1 K) := by
 intro ρ x K; kernel_rfl
theorem Q0D.sem_ok (k : Nat) : Qm Tryz.prog 106 (Q0D.sem k) :=
 QD (C := Q0D.ctx k) (Q0D.gok k) Tryz.mix (c := Func.code Tryz.f106) (ann := Q0D.ann k) (tin := Q0D.tin) (tout := Q0D.tout) (fun x K => Q0D.c k x.1 K) Tryz.func106 (by kernel_rfl) (by kernel_rfl) Q1.nil (Q0D.body k)
def Q0S.c (k : Nat) {ρ : Type} (s : ByteArray) (K : ByteArray × Unit → Option ρ) : Option ρ :=
 (Q0Z k s).bind fun t0 => let v1 : ByteArray := (bytesOf (List.take 4 (List.drop 0 t0.1)))
 K (v1, ())
def Q0S (k : Nat) (s : ByteArray) : Option (ByteArray × Unit) := Q0S.c k s some
def Q0S.tin : List Ty := [.str]
def Q0S.tout : List Ty := [.str]
def Q0S.sem (k : Nat) : Qr := QX Q0S.tin Q0S.tout fun x => Q0S k x.1
noncomputable def Q0S.ctx (k : Nat) : Ctx := ⟨Tryz.prog, gam [(91, (Q0Z.sem k))]⟩
theorem Q0S.gok (k : Nat) : ∀ f, Qm Tryz.prog f ((Q0S.ctx k).Γ f) := (Q8 (Q0Z.sem_ok k) QK)
def Q0S.ann (k : Nat) : Ann := .nil
theorem Q0S.body (k : Nat) : Q0Y (Q0S.ctx k) Tryz.f105 (Func.code Tryz.f105) (Q0S.ann k) Q0S.tin Q0S.tout (fun x K => Q0S.c k x.1 K) := by
 intro ρ x K; kernel_rfl
theorem Q0S.sem_ok (k : Nat) : Qm Tryz.prog 105 (Q0S.sem k) :=
 QD (C := Q0S.ctx k) (Q0S.gok k) Tryz.mix (c := Func.code Tryz.f105) (ann := Q0S.ann k) (tin := Q0S.tin) (tout := Q0S.tout) (fun x K => Q0S.c k x.1 K) Tryz.func105 (by kernel_rfl) (by kernel_rfl) Q1.nil (Q0S.body k)
def Q0B.c (k : Nat) {ρ : Type} (epoch : Int) (K : ByteArray × Unit → Option ρ) : Option ρ :=
 (Q0D k epoch).bind fun t0 => bif (Nat.ble (8 + (ByteArray.size t0.1)) 9223372036854775807) then (let v1 : ByteArray := ((⟨(List.toArray [98, 101, 100, 114, 111, 99, 107, 106])⟩ : ByteArray) ++ t0.1)
 (Q0S k v1).bind fun t2 => bif (Nat.ble ((ByteArray.size v1) + (ByteArray.size t2.1)) 9223372036854775807) then (let v3 : ByteArray := (v1 ++ t2.1)
 K (v3, ())) else (none)) else (none)
def Q0B (k : Nat) (epoch : Int) : Option (ByteArray × Unit) := Q0B.c k epoch some
def Q0B.tin : List Ty := [(.int .u64)]
def Q0B.tout : List Ty := [.str]
def Q0B.sem (k : Nat) : Qr := QX Q0B.tin Q0B.tout fun x => Q0B k x.1
noncomputable def Q0B.ctx (k : Nat) : Ctx := ⟨Tryz.prog, gam [(106, (Q0D.sem k)), (105, (Q0S.sem k))]⟩
theorem Q0B.gok (k : Nat) : ∀ f, Qm Tryz.prog f ((Q0B.ctx k).Γ f) := (Q8 (Q0D.sem_ok k) (Q8 (Q0S.sem_ok k) QK))
def Q0B.ann (k : Nat) : Ann := .nil
theorem Q0B.body (k : Nat) : Q0Y (Q0B.ctx k) Tryz.f95 (Func.code Tryz.f95) (Q0B.ann k) Q0B.tin Q0B.tout (fun x K => Q0B.c k x.1 K) := by
 intro ρ x K; kernel_rfl
theorem Q0B.sem_ok (k : Nat) : Qm Tryz.prog 95 (Q0B.sem k) :=
 QD (C := Q0B.ctx k) (Q0B.gok k) Tryz.mix (c := Func.code Tryz.f95) (ann := Q0B.ann k) (tin := Q0B.tin) (tout := Q0B.tout) (fun x K => Q0B.c k x.1 K) Tryz.func95 (by kernel_rfl) (by kernel_rfl) Q1.nil (Q0B.body k)
end Go.Am
namespace Go.Am
open Go Go.Proofs
set_option maxRecDepth 100000
def Q0i.c (k : Nat) {ρ : Type} (epoch : Int) (number : Int) (s : ByteArray) (K : ByteArray × Int × Unit → Option ρ) : Option ρ :=
 bif (decide ((((ByteArray.size s) : Nat) : Int) > (65536 : Int))) then (K ((⟨(List.toArray [])⟩ : ByteArray), ((121 : Int), ()))) else ((QR k ).bind fun t0 => (Qv k (IntKind.wrap IntKind.u32 (((ByteArray.size s) : Nat) : Int)) (((), ((), ())), ()) t0.2.1).bind fun t1 => (Q09 k number (((), ((), ())), ()) t1.2.1).bind fun t2 => (Qg k s (((), ((), ())), ()) t2.2.1).bind fun t3 => (Qx k (((), ((), ())), ()) t3.2.1).bind fun t4 => (Q0D k epoch).bind fun t5 => bif (Nat.ble ((ByteArray.size t5.1) + (ByteArray.size t4.1)) 9223372036854775807) then (let v6 : ByteArray := (t5.1 ++ t4.1)
 (Q0S k v6).bind fun t7 => bif (Nat.ble ((ByteArray.size t4.1) + (ByteArray.size t7.1)) 9223372036854775807) then (let v8 : ByteArray := (t4.1 ++ t7.1)
 K (v8, ((0 : Int), ()))) else (none)) else (none))
def Q0i (k : Nat) (epoch : Int) (number : Int) (s : ByteArray) : Option (ByteArray × Int × Unit) := Q0i.c k epoch number s some
def Q0i.tin : List Ty := [(.int .u64), (.int .u64), .str]
def Q0i.tout : List Ty := [.str, (.int .i64)]
def Q0i.sem (k : Nat) : Qr := QX Q0i.tin Q0i.tout fun x => Q0i k x.1 x.2.1 x.2.2.1
noncomputable def Q0i.ctx (k : Nat) : Ctx := ⟨Tryz.prog, gam [(33, (QR.sem k)), (36, (Qv.sem k)), (104, (Q09.sem k)), (34, (Qg.sem k)), (38, (Qx.sem k)), (106, (Q0D.sem k)), (105, (Q0S.sem k))]⟩
theorem Q0i.gok (k : Nat) : ∀ f, Qm Tryz.prog f ((Q0i.ctx k).Γ f) := (Q8 (QR.sem_ok k) (Q8 (Qv.sem_ok k) (Q8 (Q09.sem_ok k) (Q8 (Qg.sem_ok k) (Q8 (Qx.sem_ok k) (Q8 (Q0D.sem_ok k) (Q8 (Q0S.sem_ok k) QK)))))))
def Q0i.ann (k : Nat) : Ann := .nil
theorem Q0i.body (k : Nat) : Q0Y (Q0i.ctx k) Tryz.f63 (Func.code Tryz.f63) (Q0i.ann k) Q0i.tin Q0i.tout (fun x K => Q0i.c k x.1 x.2.1 x.2.2.1 K) := by
 intro ρ x K; kernel_rfl
theorem Q0i.sem_ok (k : Nat) : Qm Tryz.prog 63 (Q0i.sem k) :=
 QD (C := Q0i.ctx k) (Q0i.gok k) Tryz.mix (c := Func.code Tryz.f63) (ann := Q0i.ann k) (tin := Q0i.tin) (tout := Q0i.tout) (fun x K => Q0i.c k x.1 x.2.1 x.2.2.1 K) Tryz.func63 (by kernel_rfl) (by kernel_rfl) Q1.nil (Q0i.body k)
end Go.Am
namespace Go.Am
open Go
theorem Q9o (k : Nat) (n : Int) (b : Nat) (hb : b ≤ 8) : ∀ (d i fuel : Nat), i + d = b → d < fuel →
  Q0r.l0 k fuel (n, (b : Int), (i : Int), lowI n i ++ List.replicate d 0, ()) = some (lowI n b, ())
 | 0, i, fuel + 1, hi, _ => by
  have : i = b := by omega
  subst this
  show Q0r.l0.r k _ (Q1c (Q0r.l0.r k) fuel) some = _
  simp only [Q0r.l0.r]
  rw [decide_eq_false (by omega), cond_false]
  simp
 | d + 1, i, fuel + 1, hi, hf => by
  show Q0r.l0.r k _ (Q1c (Q0r.l0.r k) fuel) some = _
  simp only [Q0r.l0.r]
  rw [decide_eq_true (by omega), cond_true, i64_in (by omega), decide_eq_true (by omega), cond_true]
  have hlen : (lowI n i ++ List.replicate (d + 1) (0 : Int)).length = b := by simp [Q3j]; omega
  rw [hlen, decide_eq_true (by omega), cond_true, i64_in (by omega)]
  have h8 : (8 : Int) * (i : Int) = ((8 * i : Nat) : Int) := by omega
  rw [h8, QbP (by omega), pow8, Qbj, show (i : Int).toNat = i by omega]
  have hset : (lowI n i ++ List.replicate (d + 1) (0 : Int)).set i (n / 256 ^ i % 256) = lowI n (i + 1) ++ List.replicate d 0 := by
   rw [List.set_append]
   simp [Q3j, Q8d, List.replicate_succ]
  rw [hset]
  have ih := Q9o k n b hb d (i + 1) fuel (by omega) (by omega)
  rw [show ((i + 1 : Nat) : Int) = (i : Int) + 1 by omega] at ih
  exact ih
theorem Qab {k : Nat} (hk : 9 ≤ k) (n : Int) (b : Nat) (hb : b ≤ 8) : Q0r k n (b : Int) = some (bytesOf (lowI n b), ()) := by
 unfold Q0r Q0r.c
 rw [decide_eq_true (by omega), show (b : Int).toNat = b by omega]
 have : Nat.ble (b * 1) 140737488355328 = true := Q9F (by omega)
 rw [this]
 simp only [Bool.and_self, cond_true]
 have := Q9o k n b hb b 0 k (by omega) (by omega)
 simp only [lowI, List.nil_append] at this
 rw [List.length_replicate]
 show (Q0r.l0 k k (n, (b : Int), ((0 : Nat) : Int), List.replicate b 0, ())).bind _ = _
 rw [this]
 rfl
theorem Q9q (k : Nat) (n : Int) (hn : 0 ≤ n ∧ n ≤ 18446744073709551615) (b : Nat) (hb : b ≤ 8) : ∀ (d i fuel : Nat), i + d = b → d < fuel →
  Qa.l0 k fuel (n / 256 ^ i, (b : Int), bytesOf (lowI n i), (i : Int), ()) = some (bytesOf (lowI n b), ())
 | 0, i, fuel + 1, hi, _ => by
  have : i = b := by omega
  subst this
  show Qa.l0.r k _ (Q1c (Qa.l0.r k) fuel) some = _
  simp only [Qa.l0.r]
  rw [decide_eq_false (by omega), cond_false]
 | d + 1, i, fuel + 1, hi, hf => by
  show Qa.l0.r k _ (Q1c (Qa.l0.r k) fuel) some = _
  simp only [Qa.l0.r]
  rw [decide_eq_true (by omega), cond_true]
  have hq : 0 ≤ n / 256 ^ i := Int.ediv_nonneg hn.1 (Int.le_of_lt (Int.pow_pos (by omega)))
  have hq2 : n / 256 ^ i ≤ n := Int.ediv_le_self _ hn.1
  rw [Int.tmod_eq_emod_of_nonneg hq, Int.tdiv_eq_ediv_of_nonneg hq, Qbj, i64_in (by omega), u64_in (by omega)]
  have h1 : List.set (List.replicate 1 (0 : Int)) 0 (n / 256 ^ i % 256 % 256) = [n / 256 ^ i % 256] := by
   simp
  rw [h1, Q3X, Q3X, Q3j]
  have : Nat.ble (i + [n / 256 ^ i % 256].length) 9223372036854775807 = true := Q9F (by simp; omega)
  rw [this, cond_true, Q7m, ← Q8d, Int.ediv_ediv_of_nonneg (Int.le_of_lt (Int.pow_pos (by omega))), ← Int.pow_succ]
  have ih := Q9q k n hn b hb d (i + 1) fuel (by omega) (by omega)
  rw [show ((i + 1 : Nat) : Int) = (i : Int) + 1 by omega] at ih
  exact ih
theorem Q9B {k : Nat} (hk : 9 ≤ k) (n : Int) (hn : 0 ≤ n ∧ n ≤ 18446744073709551615) (b : Nat) (hb : b ≤ 8) : Qa k n (b : Int) = some (bytesOf (lowI n b), ()) := by
 unfold Qa Qa.c
 have := Q9q k n hn b hb b 0 k (by omega) (by omega)
 simp only [Int.pow_zero, Int.ediv_one, lowI] at this
 show (Qa.l0 k k (n, (b : Int), bytesOf [], ((0 : Nat) : Int), ())).bind _ = _
 rw [this]
 rfl
theorem Q8i (k : Nat) (s : ByteArray) (hs : s.size ≤ 8) : ∀ (d i fuel : Nat), i + d = s.size → d < fuel →
  Q0l.l0 k fuel (s, leI ((Q0z s).take i), (s.size : Int), (i : Int), ()) = some (leI (Q0z s), ())
 | 0, i, fuel + 1, hi, _ => by
  have : i = s.size := by omega
  subst this
  show Q0l.l0.r k _ (Q1c (Q0l.l0.r k) fuel) some = _
  simp only [Q0l.l0.r]
  rw [decide_eq_false (by omega), cond_false, ← Q1z, List.take_length]
 | d + 1, i, fuel + 1, hi, hf => by
  show Q0l.l0.r k _ (Q1c (Q0l.l0.r k) fuel) some = _
  simp only [Q0l.l0.r]
  have hr := Q2Q s (i : Int).toNat
  rw [decide_eq_true (by omega), cond_true, decide_eq_true (by omega), cond_true, i64_in (by omega), decide_eq_true (by omega), cond_true, i64_in (by omega), u64_in (by omega)]
  have hin : Q1Z ((Q0z s).take i) := fun x hx => Q2m (List.mem_of_mem_take hx)
  obtain ⟨h0, h1⟩ := Q3E hin
  have hlen : ((Q0z s).take i).length = i := by rw [List.length_take, Q1z]; omega
  rw [hlen] at h1
  have hstep : leI ((Q0z s).take (i + 1)) = leI ((Q0z s).take i) + 256 ^ i * Q1r s i := by
   have hi' : i < (Q0z s).length := by rw [Q1z]; omega
   rw [List.take_succ_eq_append_getElem hi', Qa6, hlen, Q7P, List.getD_eq_getElem?_getD, List.getElem?_eq_getElem hi']
   simp [leI]
  have hin2 : Q1Z ((Q0z s).take (i + 1)) := fun x hx => Q2m (List.mem_of_mem_take hx)
  obtain ⟨g0, g1⟩ := Q3E hin2
  have hlen2 : ((Q0z s).take (i + 1)).length = i + 1 := by rw [List.length_take, Q1z]; omega
  rw [hlen2] at g1
  have hpow : (256 : Int) ^ (i + 1) ≤ 18446744073709551616 := by
   have : i + 1 ≤ 8 := by omega
   have h2 : ∀ j : Nat, j ≤ 8 → (256 : Int) ^ j ≤ 18446744073709551616 := by
    intro j hj
    match j, hj with
    | 0, _ | 1, _ | 2, _ | 3, _ | 4, _ | 5, _ | 6, _ | 7, _ | 8, _ => decide
   exact h2 _ this
  have hshl : Q30 IntKind.u64 (Q1r s (i : Int).toNat) (8 * (i : Int)) = ((Q1r s i).toNat * 2 ^ (8 * i) : Nat) := by
   unfold Q30
   rw [show (8 * (i : Int)).toNat = 8 * i by omega, show (i : Int).toNat = i by omega]
   have : min (8 * i) IntKind.u64.bits = 8 * i := by simp [IntKind.bits]; omega
   rw [this]
   have hb := Q2Q s i
   have e : Q1r s i * 2 ^ (8 * i) = (((Q1r s i).toNat * 2 ^ (8 * i) : Nat) : Int) := by
    rw [Int.natCast_mul, Int.natCast_pow, show ((Q1r s i).toNat : Int) = Q1r s i by omega]; rfl
   rw [e, u64_in]
   rw [← e, pow8, Int.mul_comm]
   have : 256 ^ i * Q1r s i ≤ leI ((Q0z s).take (i + 1)) := by omega
   have : 0 ≤ 256 ^ i * Q1r s i := Int.mul_nonneg (Int.le_of_lt (Int.pow_pos (by omega))) hb.1
   omega
  have hb := Q2Q s i
  have hor := Qcx (A := (leI ((Q0z s).take i)).toNat) (B := (Q1r s i).toNat) (j := 8 * i) (by
   have e : ((2 ^ (8 * i) : Nat) : Int) = 256 ^ i := by rw [Int.natCast_pow]; exact pow8 i
   omega) (by
   have e : (((Q1r s i).toNat * 2 ^ (8 * i) : Nat) : Int) = 256 ^ i * Q1r s i := by
    rw [Int.natCast_mul, Int.natCast_pow, show ((2 : Nat) : Int) = 2 from rfl, pow8, Int.mul_comm, show ((Q1r s i).toNat : Int) = Q1r s i by omega]
   omega)
  rw [show ((leI ((Q0z s).take i)).toNat : Int) = leI ((Q0z s).take i) by omega] at hor
  rw [hshl, hor]
  have hfin : (((Q1r s i).toNat * 2 ^ (8 * i) + (leI ((Q0z s).take i)).toNat : Nat) : Int) = leI ((Q0z s).take (i + 1)) := by
   rw [hstep, Int.natCast_add, Int.natCast_mul, Int.natCast_pow, show ((2 : Nat) : Int) = 2 from rfl, pow8, Int.mul_comm]
   rw [show ((Q1r s i).toNat : Int) = Q1r s i by omega]
   omega
  rw [hfin]
  have ih := Q8i k s hs d (i + 1) fuel (by omega) (by omega)
  rw [show ((i + 1 : Nat) : Int) = (i : Int) + 1 by omega] at ih
  exact ih
theorem Q9n {k : Nat} (hk : 9 ≤ k) (s : ByteArray) (hs : s.size ≤ 8) : Q0l k s = some (leI (Q0z s), ()) := by
 unfold Q0l Q0l.c
 have := Q8i k s hs s.size 0 k (by omega) (by omega)
 simp only [List.take_zero, leI] at this
 show (Q0l.l0 k k (s, (0 : Int), (s.size : Int), ((0 : Nat) : Int), ())).bind _ = _
 rw [this]
 rfl
theorem Q9k (k : Nat) (s : ByteArray) (hs : s.size ≤ 8) : ∀ (i fuel : Nat), i ≤ s.size → i < fuel →
  Q9.l0 k fuel (s, leI ((Q0z s).drop i), (i : Int) - 1, ()) = some (leI (Q0z s), ())
 | 0, fuel + 1, hi, _ => by
  have e : Q9.l0 k (fuel + 1) (s, leI ((Q0z s).drop 0), ((0 : Nat) : Int) - 1, ()) = Q9.l0.r k (s, leI ((Q0z s).drop 0), ((0 : Nat) : Int) - 1, ()) (Q1c (Q9.l0.r k) fuel) some := rfl
  rw [e]
  simp only [Q9.l0.r]
  rw [decide_eq_false (by omega), cond_false, List.drop_zero]
 | i + 1, fuel + 1, hi, hf => by
  show Q9.l0.r k _ (Q1c (Q9.l0.r k) fuel) some = _
  simp only [Q9.l0.r]
  have hr := Q2Q s i
  rw [show ((i + 1 : Nat) : Int) - 1 = (i : Int) by omega, show (i : Int).toNat = i by omega]
  have hin : Q1Z ((Q0z s).drop i) := fun x hx => Q2m (List.mem_of_mem_drop hx)
  obtain ⟨h0, h1⟩ := Q3E hin
  have hlen : ((Q0z s).drop i).length = s.size - i := by rw [List.length_drop, Q1z]
  rw [hlen] at h1
  have hpow : (256 : Int) ^ (s.size - i) ≤ 18446744073709551616 := by
   have h2 : ∀ j : Nat, j ≤ 8 → (256 : Int) ^ j ≤ 18446744073709551616 := by
    intro j hj
    match j, hj with
    | 0, _ | 1, _ | 2, _ | 3, _ | 4, _ | 5, _ | 6, _ | 7, _ | 8, _ => decide
   exact h2 _ (by omega)
  have hstep : leI ((Q0z s).drop i) = Q1r s i + 256 * leI ((Q0z s).drop (i + 1)) := by
   have hi' : i < (Q0z s).length := by rw [Q1z]; omega
   rw [List.drop_eq_getElem_cons hi', leI, Q7P, List.getD_eq_getElem?_getD, List.getElem?_eq_getElem hi']
   rfl
  have hin2 : Q1Z ((Q0z s).drop (i + 1)) := fun x hx => Q2m (List.mem_of_mem_drop hx)
  have g0 := (Q3E hin2).1
  rw [decide_eq_true (by omega), cond_true, decide_eq_true (by omega), cond_true, u64_in (n := Q1r s i) (by omega), u64_in (n := _ * 256) (by omega), u64_in (by omega), i64_in (by omega)]
  rw [show leI ((Q0z s).drop (i + 1)) * 256 + Q1r s i = leI ((Q0z s).drop i) by omega]
  exact Q9k k s hs i fuel (by omega) (by omega)
theorem Q9C {k : Nat} (hk : 9 ≤ k) (s : ByteArray) (hs : s.size ≤ 8) : Q9 k s = some (leI (Q0z s), ()) := by
 unfold Q9 Q9.c
 have := Q9k k s hs s.size k (by omega) (by omega)
 rw [show (Q0z s).drop s.size = [] by rw [← Q1z]; simp] at this
 simp only [leI] at this
 rw [i64_in (by omega)]
 show (Q9.l0 k k (s, (0 : Int), (s.size : Int) - 1, ())).bind _ = _
 rw [this]
 rfl
theorem Q9j (s : ByteArray) : Q1Z (Q0z s) := fun _ h => Q2m h
theorem Qch {l r : List Int} (h : Q1Z l) (hs : ∀ x ∈ r, x ∈ l) : Q1Z r := fun x hx => h x (hs x hx)
theorem Qci : (⟨List.toArray []⟩ : ByteArray) = bytesOf [] := rfl
abbrev Rd : Type := ByteArray × Int × Int × Unit
def RdOK (r : Rd) : Prop := r.1.size ≤ 140737488351232 ∧ 0 ≤ r.2.1 ∧ r.2.1 ≤ (r.1.size : Int)
def Q2u (r : Rd) (n : Int) : Rd × ByteArray :=
 if r.2.2.1 ≠ 0 then (r, ⟨List.toArray []⟩) else
 if n < 0 then ((r.1, r.2.1, 1, ()), ⟨List.toArray []⟩) else
 if n > (r.1.size : Int) - r.2.1 then ((r.1, r.2.1, 4, ()), ⟨List.toArray []⟩) else
 ((r.1, r.2.1 + n, r.2.2.1, ()), r.1.extract r.2.1.toNat (r.2.1 + n).toNat)
theorem QcN {r : Rd} (h : RdOK r) (n : Int) : RdOK (Q2u r n).1 ∧ (Q2u r n).1.1 = r.1 := by
 obtain ⟨h1, h2, h3⟩ := h
 unfold Q2u
 split
 ·exact ⟨⟨h1, h2, h3⟩, rfl⟩
 ·split
  ·exact ⟨⟨h1, h2, h3⟩, rfl⟩
  ·split
   ·exact ⟨⟨h1, h2, h3⟩, rfl⟩
   ·exact ⟨⟨h1, by dsimp only; omega, by dsimp only; omega⟩, rfl⟩
theorem Q7g {r : Rd} (h : RdOK r) (n : Int) : (Q2u r n).2.size = 0 ∨ (Q2u r n).2.size = n.toNat := by
 obtain ⟨h1, h2, h3⟩ := h
 unfold Q2u
 split
 ·exact .inl rfl
 ·split
  ·exact .inl rfl
  ·split
   ·exact .inl rfl
   ·right
    rw [ByteArray.size_extract]; omega
theorem QcH {r : Rd} (n : Int) (he : (Q2u r n).1.2.2.1 ≠ 0) : (Q2u r n).2 = ⟨List.toArray []⟩ := by
 unfold Q2u at he ⊢
 split
 ·rfl
 ·split
  ·rfl
  ·split
   ·rfl
   ·rename_i h0 h1 h2
    rw [if_neg h0, if_neg h1, if_neg h2] at he
    exact absurd he h0
theorem Qcp {r : Rd} (h : RdOK r) {n : Int} (he : (Q2u r n).1.2.2.1 = 0) : (Q2u r n).2.size = n.toNat ∧ 0 ≤ n := by
 obtain ⟨h1, h2, h3⟩ := h
 unfold Q2u at he ⊢
 split
 ·rename_i h0
  rw [if_pos h0] at he
  exact absurd he h0
 ·rename_i h0
  rw [if_neg h0] at he
  split
  ·rename_i h1
   rw [if_pos h1] at he; cases he
  ·rename_i h1
   rw [if_neg h1] at he
   split
   ·rename_i h2
    rw [if_pos h2] at he; cases he
   ·exact ⟨by rw [ByteArray.size_extract]; omega, by omega⟩
theorem bytes_eq (k : Nat) {r : Rd} (h : RdOK r) {n : Int} : QF k n r = some ((Q2u r n).2, (Q2u r n).1, ()) := by
 obtain ⟨s, a, e, u⟩ := r
 obtain ⟨h1, h2, h3⟩ := h
 simp only at h1 h2 h3
 unfold QF QF.c Q2u
 rw [show Q0e k (s, a, e, ()) = some (e, (s, a, e, ()), ()) from rfl]
 simp only [Option.bind_some]
 by_cases he : e = 0
 ·subst he
  rw [bne_self_eq_false, cond_false, if_neg (by simp)]
  by_cases hn : n < 0
  ·rw [Q8p hn, if_pos hn]
  ·rw [QbI hn, if_neg hn, show Q0j k (s, a, (0 : Int), ()) = some (IntKind.i64.wrap ((s.size : Int) - a), (s, a, (0 : Int), ()), ()) from rfl]
   simp only [Option.bind_some]
   rw [i64_in (n := (s.size : Int) - a) (by omega)]
   by_cases hg : n > (s.size : Int) - a
   ·rw [Q8p hg, if_pos hg]
   ·rw [QbI hg, if_neg hg, i64_in (n := a + n) (by omega), i64_in (by omega), Q8p (by omega), show a + n - n = a by omega]
 ·rw [Q6U (by simpa using he), if_pos he]
theorem QcG {l : List Int} (h : Q1Z l) {m : Nat} (hm : l.length ≤ m) : 0 ≤ leI l ∧ leI l < 256 ^ m := by
 obtain ⟨h1, h2⟩ := Q3E h
 refine ⟨h1, Int.lt_of_lt_of_le h2 ?_⟩
 have : (256 : Nat) ^ l.length ≤ 256 ^ m := Nat.pow_le_pow_right (by omega) hm
 have h3 : (((256 : Nat) ^ l.length : Nat) : Int) ≤ ((256 ^ m : Nat) : Int) := Int.ofNat_le.2 this
 rw [Int.natCast_pow, Int.natCast_pow] at h3
 exact h3
def numS (r : Rd) (n : Int) : Int := leI (Q0z (Q2u r n).2)
theorem QaG {r : Rd} (h : RdOK r) (n : Nat) : 0 ≤ numS r n ∧ numS r n < 256 ^ n := by
 refine QcG (Q9j _) ?_
 rw [Q1z]
 rcases Q7g h (n : Int) with h | h <;> omega
theorem Q7q {k : Nat} (hk : 9 ≤ k) {r : Rd} (h : RdOK r) (n : Nat) (hn : n ≤ 8) : Q0l k (Q2u r n).2 = some (numS r n, ()) :=
 Q9n hk _ (by rcases Q7g h (n : Int) with h | h <;> omega)
theorem QcS {k : Nat} (hk : 9 ≤ k) {r : Rd} (h : RdOK r) : QS k r = some (numS r 1, (Q2u r 1).1, ()) := by
 unfold QS QS.c
 show (QF k 1 r).bind _ = _
 rw [bytes_eq k h]
 simp only [Option.bind_some]
 rw [show (1 : Int) = ((1 : Nat) : Int) from rfl, Q7q hk h 1 (by omega)]
 have := QaG h 1
 simp only [Option.bind_some]
 rw [u8_in (by omega)]
theorem QcX {k : Nat} (hk : 9 ≤ k) {r : Rd} (h : RdOK r) : QE k r = some (numS r 4, (Q2u r 4).1, ()) := by
 unfold QE QE.c
 show (QF k 4 r).bind _ = _
 rw [bytes_eq k h]
 simp only [Option.bind_some]
 rw [show (4 : Int) = ((4 : Nat) : Int) from rfl, Q7q hk h 4 (by omega)]
 have := QaG h 4
 simp only [Option.bind_some]
 rw [Q8C (by omega)]
theorem Qbf : ∀ (b : Nat) (n : Int), lowI (n % 256 ^ b) b = lowI n b
 | 0, _ => rfl
 | b + 1, n => by
  simp only [lowI]
  have h1 : n % 256 ^ (b + 1) % 256 = n % 256 := by
   rw [Int.pow_succ, Int.mul_comm]
   exact Int.emod_emod_of_dvd _ (Int.dvd_mul_right _ _)
  have h2 : n % 256 ^ (b + 1) / 256 = n / 256 % 256 ^ b := by
   have e := Int.mul_ediv_add_emod n 256
   have hp : (0 : Int) < 256 ^ b := Int.pow_pos (by decide)
   have e2 := Int.mul_ediv_add_emod (n / 256) (256 ^ b)
   have r1 := Int.emod_nonneg n (show (256 : Int) ≠ 0 by decide)
   have r2 := Int.emod_lt_of_pos n (show (0 : Int) < 256 by decide)
   have r3 := Int.emod_nonneg (n / 256) (Int.ne_of_gt hp)
   have r4 := Int.emod_lt_of_pos (n / 256) hp
   have key : n % 256 ^ (b + 1) = 256 * (n / 256 % 256 ^ b) + n % 256 := by
    rw [Int.pow_succ]
    have hn : n = (256 * (n / 256 % 256 ^ b) + n % 256) + 256 ^ b * 256 * (n / 256 / 256 ^ b) := by
     have e3 : 256 ^ b * 256 * (n / 256 / 256 ^ b) = 256 * (256 ^ b * (n / 256 / 256 ^ b)) := by
      rw [Int.mul_comm (256 ^ b) 256, Int.mul_assoc]
     rw [e3]; omega
    conv => lhs; rw [hn]
    rw [Int.add_mul_emod_self_left]
    exact Int.emod_eq_of_lt (by omega) (by omega)
   rw [key]
   omega
  rw [h1, h2, Qbf b]
theorem wb {k : Nat} {s : ByteArray} {u} {b1 : List Int} (h : b1.length + s.size ≤ 140737488355328) : Qg k s u b1 = some (u, b1 ++ Q0z s, ()) := by
 unfold Qg Qg.c Qi Qi.c
 rw [Q6U (Q9F (by rw [Q1z]; omega))]
 rfl
theorem wrl {k : Nat} {l : List Int} (hl : Q1Z l) {u} {b1 : List Int} (h : b1.length + l.length ≤ 140737488355328) : Qg k (bytesOf l) u b1 = some (u, b1 ++ l, ()) := by
 rw [wb (by rw [Q3X]; exact h), Q44 hl]
def u32R (n : Int) : Prop := 0 ≤ n ∧ n ≤ 4294967295
theorem wu32 {k : Nat} (hk : 9 ≤ k) {n : Int} (hn : u32R n) {u} {b1 : List Int} (h : b1.length ≤ 140737488350000) : Qv k n u b1 = some (u, b1 ++ lowI n 4, ()) := by
 unfold Qv Qv.c
 have h1 := hn.1
 have h2 := hn.2
 rw [u64_in (by omega), show (4 : Int) = ((4 : Nat) : Int) from rfl, Qab hk _ 4 (by omega)]
 simp only [Option.bind_some]
 rw [wrl (QbT _ _) (by rw [Q3j]; omega)]
 rfl
theorem Qd7 (k : Nat) {l : List Int} (hl : l.length = 32 ∧ Q1Z l) {u} {b1 : List Int} (h : b1.length ≤ 140737488350000) : QY k l u b1 = some (u, b1 ++ l.take 32, ()) := by
 unfold QY QY.c
 rw [List.drop_zero]
 dsimp only
 rw [wrl (fun x hx => hl.2 x (List.mem_of_mem_take hx)) (by rw [List.length_take]; omega)]
 rfl
end Go.Am
