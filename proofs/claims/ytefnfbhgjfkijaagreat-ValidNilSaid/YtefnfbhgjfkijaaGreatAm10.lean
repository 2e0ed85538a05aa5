/- A part of a proof: a machine of abstract values that tells what functions of the program compute, and the plain facts on them. -/
import Derived.Test.YtefnfbhgjfkijaaGreatAm9
import Derived.KernelRfl
set_option linter.unusedVariables false
set_option linter.unusedSimpArgs false
set_option linter.unnecessarySimpa false
set_option linter.unusedSectionVars false
namespace Go.Am
abbrev QcW : Ty := (.sl (.int .u64))
abbrev QcV : Type := ((List Int) × Unit)
abbrev QcU : Ty := (.arr 4 (.int .u64))
abbrev QcT : Ty := (.arr 32 (.int .u8))
abbrev QcS : Type := (ByteArray × Int × Unit)
abbrev QcR : Ty := (.sl  QcT )
abbrev QcQ : Type := ((Unit × (Unit × Unit)) × Unit)
abbrev QcP : Ty := (.sl  QcR )
abbrev QcO : Type := (List (Int × (ByteArray × Unit)))
abbrev QcN : Type := (Int × (Unit × (Unit × (Int × Unit))))
abbrev QcM : Ty := (.sl (.pair (.int .u64) (.pair .str .unit)))
abbrev QcL : Type := ( QcQ  × (List Int) × Unit)
abbrev QcK : Type := (List (((List Int) × (Int × Unit)) × (ByteArray × (Int × Unit))))
abbrev QcJ : Type := (Int × ((List Int) × ((List Int) × (Int × (Int × (Int × Unit))))))
abbrev QcI : Type := ( QcJ  × (Unit × Unit))
abbrev QcH : Ty := (.sl (.pair (.pair  QcT  (.pair (.int .u32) .unit)) (.pair .str (.pair (.int .u32) .unit))))
abbrev QcG : Type := (Int × ( QcK  × ( QcO  × (Int × Unit))))
abbrev QcF : Type := (List  QcG )
abbrev QcE : Type := ( QcG  × Unit)
abbrev QcD : Ty := (.pair (.int .u32) (.pair  QcT  (.pair  QcT  (.pair (.int .u32) (.pair (.int .u32) (.pair (.int .u32) .unit))))))
abbrev QcC : Type := ( QcG  ×  QcQ  × (List Int) × Unit)
abbrev QcB : Ty := (.pair (.int .u32) (.pair  QcH  (.pair  QcM  (.pair (.int .u32) .unit))))
abbrev QcA : Type := ( QcJ  × ( QcF  × Unit))
abbrev Qcz : Ty := (.sl  QcB )
abbrev Qcy : Ty := (.pair  QcD  (.pair  Qcz  .unit))
end Go.Am
namespace Go.Am
open Go Go.Proofs
set_option maxRecDepth 100000
abbrev Qk.p0.σ : Type := Int × ByteArray × QcO × QcN × Unit
abbrev Qk.p0.τ : Type := (Int × QcN × Unit) ⊕ (Int × ByteArray × QcO × QcN × Unit)
def Qk.p0.r (k : Nat) {ρ : Type} (x : Qk.p0.σ) (K : Qk.p0.τ → Option ρ) : Option ρ :=
 bif (decide (x.1 < (0 : Int))) then (K (.inl ((1 : Int), (((0 : Int), ((), ((), ((0 : Int), ())))), ())))) else (bif (decide (x.1 > (2147483647 : Int))) then (K (.inl ((1 : Int), (((0 : Int), ((), ((), ((0 : Int), ())))), ())))) else (let v0 : Int := (((ByteArray.size x.2.1) : Nat) : Int)
 bif (decide (v0 > (96 : Int))) then (K (.inl ((1 : Int), (((0 : Int), ((), ((), ((0 : Int), ())))), ())))) else (K (.inr (x.1, (x.2.1, (x.2.2.1, ((x.2.2.2.1.1, ((), ((), (x.2.2.2.1.2.2.2.1, ())))), ()))))))))
def Qk.p0 (k : Nat) (x : Qk.p0.σ) : Option Qk.p0.τ := Qk.p0.r k x some
def Qk.p0.T : StT := ⟨.dat (.int .i64) :: .dat .str :: .dat QcM :: us 3 ++ .ptr 0 [] :: us 32, [.pair (.dat (.int .u32)) (.pair (.nils) (.pair (.nils) (.dat (.pair (.int .u32) .unit))))]⟩
def Qk.p0.os : List Out := [⟨.ret, [.mask [6, 7], .auto 0], ⟨us 6 ++ .ptr 0 [] :: .dat (.int .i64) :: us 31, [.pair (.dat (.int .u32)) (.pair (.nils) (.pair (.nils) (.dat (.pair (.int .u32) .unit))))]⟩⟩, ⟨.normal, [.mask [0, 1, 2, 6], .auto 0], ⟨.dat (.int .i64) :: .dat .str :: .dat QcM :: us 3 ++ .ptr 0 [] :: us 32, [.pair (.dat (.int .u32)) (.pair (.nils) (.pair (.nils) (.dat (.pair (.int .u32) .unit))))]⟩⟩]
def Qk.c (k : Nat) {ρ : Type} (height : Int) (extra : ByteArray) (outs : QcO) (K : QcG × Int × Unit → Option ρ) : Option ρ :=
  (Qk.p0 k (height, (extra, (outs, (((0 : Int), ((), ((), ((0 : Int), ())))), ()))))).bind fun t1 => (match t1 with
 | .inl t2 => (K ((t2.2.1.1, ([], ([], (t2.2.1.2.2.2.1, ())))), (t2.1, ())))
 | .inr (t3) => ((Q07 k ).bind fun t4 => let v5 : Int := (IntKind.wrap IntKind.u32 t3.1)
  (QN k v5 (((), ((), ())), ()) t4.2.1).bind fun t6 => (Qq k t3.2.1 (((), ((), ())), ()) t6.2.1).bind fun t7 => (QK k (((), ((), ())), ()) t7.2.1).bind fun t8 => bif (Nat.ble ((List.length t3.2.2.1) * 24) 140737488355328) then (K (((1 : Int), ((List.set (List.replicate 1 (((List.replicate 32 (0 : Int)), ((0 : Int), ())), (ByteArray.empty, ((0 : Int), ())))) 0 (((List.replicate 32 (0 : Int)), ((4294967295 : Int), ())), (t8.1, ((4294967295 : Int), ())))), (t3.2.2.1, ((0 : Int), ())))), ((0 : Int), ()))) else (none)))
def Qk (k : Nat) (height : Int) (extra : ByteArray) (outs : QcO) : Option (QcG × Int × Unit) := Qk.c k height extra outs some
def Qk.tin : List Ty := [(.int .i64), .str, QcM]
def Qk.tout : List Ty := [QcB, (.int .i64)]
def Qk.sem (k : Nat) : Qp := Qt Qk.tin Qk.tout fun x => Qk k x.1 x.2.1 x.2.2.1
noncomputable def Qk.ctx (k : Nat) : Ctx := ⟨Tryz.prog, gam [(30, (Q07.sem k)), (32, (QN.sem k)), (46, (Qq.sem k)), (35, (QK.sem k))]⟩
theorem Qk.gok (k : Nat) : ∀ f, Qh Tryz.prog f ((Qk.ctx k).Γ f) := (Qf (Q07.sem_ok k) (Qf (QN.sem_ok k) (Qf (Qq.sem_ok k) (Qf (QK.sem_ok k) QO))))
theorem Qk.p0.is (k : Nat) : Q3g (Qk.ctx k) (Q08 (Func.code Tryz.f22) [1, 0]) (.nil) Qk.p0.T Qk.p0.os (Qk.p0.r k) := by
 intro ρ x K; kernel_rfl
theorem Qk.p0.ok (k : Nat) : StOK 0 Tryz.prog (Q08 (Func.code Tryz.f22) [1, 0]) (Qr Qk.p0.T Qk.p0.os (Qk.p0 k)) :=
 Q2U (C := Qk.ctx k) (T := Qk.p0.T) (os := Qk.p0.os) (Qk.gok k) Tryz.mix (fun x K => Qk.p0.r k x K) Q0.nil (by kernel_rfl) (by kernel_rfl) (Qk.p0.is k)
def Qk.ann (k : Nat) : Ann := .node [] none (.nil) (.node [] none (.node [.mask [0, 1, 2, 6], .auto 0] (some (Qr Qk.p0.T Qk.p0.os (Qk.p0 k))) .nil .nil) (.nil))
theorem Qk.body (k : Nat) : Q0I (Qk.ctx k) Tryz.f22 (Func.code Tryz.f22) (Qk.ann k) Qk.tin Qk.tout (fun x K => Qk.c k x.1 x.2.1 x.2.2.1 K) := by
 intro ρ x K; kernel_rfl
theorem Qk.sem_ok (k : Nat) : Qh Tryz.prog 22 (Qk.sem k) :=
 Qv (C := Qk.ctx k) (Qk.gok k) Tryz.mix (c := Func.code Tryz.f22) (ann := Qk.ann k) (tin := Qk.tin) (tout := Qk.tout) (fun x K => Qk.c k x.1 x.2.1 x.2.2.1 K) Tryz.func22 (by kernel_rfl) (by kernel_rfl) (Q0.seq Q0.nil (Q0.seq (Q0.loop (by kernel_rfl) (Qk.p0.ok k)) Q0.nil)) (Qk.body k)
def Q0a.c (k : Nat) {ρ : Type} (n : Int) (K : Int × Unit → Option ρ) : Option ρ :=
 bif (decide (n < (253 : Int))) then (K ((1 : Int), ())) else (bif (decide (n < (65536 : Int))) then (K ((3 : Int), ())) else (bif (decide (n < (4294967296 : Int))) then (K ((5 : Int), ())) else (K ((9 : Int), ()))))
def Q0a (k : Nat) (n : Int) : Option (Int × Unit) := Q0a.c k n some
def Q0a.tin : List Ty := [(.int .u64)]
def Q0a.tout : List Ty := [(.int .i64)]
def Q0a.sem (k : Nat) : Qp := Qt Q0a.tin Q0a.tout fun x => Q0a k x.1
noncomputable def Q0a.ctx (k : Nat) : Ctx := ⟨Tryz.prog, gam []⟩
theorem Q0a.gok (k : Nat) : ∀ f, Qh Tryz.prog f ((Q0a.ctx k).Γ f) := QO
def Q0a.ann (k : Nat) : Ann := .nil
theorem Q0a.body (k : Nat) : Q0I (Q0a.ctx k) Tryz.f94 (Func.code Tryz.f94) (Q0a.ann k) Q0a.tin Q0a.tout (fun x K => Q0a.c k x.1 K) := by
 intro ρ x K; kernel_rfl
theorem Q0a.sem_ok (k : Nat) : Qh Tryz.prog 94 (Q0a.sem k) :=
 Qv (C := Q0a.ctx k) (Q0a.gok k) Tryz.mix (c := Func.code Tryz.f94) (ann := Q0a.ann k) (tin := Q0a.tin) (tout := Q0a.tout) (fun x K => Q0a.c k x.1 K) Tryz.func94 (by kernel_rfl) (by kernel_rfl) Q0.nil (Q0a.body k)
def Q18.c (k : Nat) {ρ : Type} (n : Int) (K : Int × Unit → Option ρ) : Option ρ :=
 (Q0a k (IntKind.wrap IntKind.u64 n)).bind fun t0 => let v1 : Int := (IntKind.wrap IntKind.i64 (t0.1 + n))
 K (v1, ())
def Q18 (k : Nat) (n : Int) : Option (Int × Unit) := Q18.c k n some
def Q18.tin : List Ty := [(.int .i64)]
def Q18.tout : List Ty := [(.int .i64)]
def Q18.sem (k : Nat) : Qp := Qt Q18.tin Q18.tout fun x => Q18 k x.1
noncomputable def Q18.ctx (k : Nat) : Ctx := ⟨Tryz.prog, gam [(94, (Q0a.sem k))]⟩
theorem Q18.gok (k : Nat) : ∀ f, Qh Tryz.prog f ((Q18.ctx k).Γ f) := (Qf (Q0a.sem_ok k) QO)
def Q18.ann (k : Nat) : Ann := .nil
theorem Q18.body (k : Nat) : Q0I (Q18.ctx k) Tryz.f127 (Func.code Tryz.f127) (Q18.ann k) Q18.tin Q18.tout (fun x K => Q18.c k x.1 K) := by
 intro ρ x K; kernel_rfl
theorem Q18.sem_ok (k : Nat) : Qh Tryz.prog 127 (Q18.sem k) :=
 Qv (C := Q18.ctx k) (Q18.gok k) Tryz.mix (c := Func.code Tryz.f127) (ann := Q18.ann k) (tin := Q18.tin) (tout := Q18.tout) (fun x K => Q18.c k x.1 K) Tryz.func127 (by kernel_rfl) (by kernel_rfl) Q0.nil (Q18.body k)
abbrev Q09.l0.σ : Type := Int × QcK × Int × Int × QcG × Unit
abbrev Q09.l0.τ : Type := (Int × QcG × Unit)
def Q09.l0.r (k : Nat) {ρ : Type} (x : Q09.l0.σ) (kn : Q09.l0.σ → Option ρ) (ke : Q09.l0.τ → Option ρ) : Option ρ :=
 bif (decide (x.2.2.2.1 < x.2.2.1)) then (bif (decide (((0 : Int) ≤ x.2.2.2.1) ∧ (x.2.2.2.1 < (((List.length x.2.1) : Nat) : Int)))) then (let v11 : ByteArray := (List.getD x.2.1 (Int.toNat x.2.2.2.1) (((List.replicate 32 (0 : Int)), ((0 : Int), ())), (ByteArray.empty, ((0 : Int), ())))).2.1
 (Q18 k (((ByteArray.size v11) : Nat) : Int)).bind fun t12 => let v13 : Int := (IntKind.wrap IntKind.i64 ((40 : Int) + t12.1))
 let v14 : Int := (IntKind.wrap IntKind.i64 (x.1 + v13))
 let v15 : Int := (IntKind.wrap IntKind.i64 (x.2.2.2.1 + (1 : Int)))
 kn (v14, (x.2.1, (x.2.2.1, (v15, ((x.2.2.2.2.1.1, (x.2.2.2.2.1.2.1, (x.2.2.2.2.1.2.2.1, (x.2.2.2.2.1.2.2.2.1, ())))), ())))))) else (none)) else (ke (x.1, ((x.2.2.2.2.1.1, (x.2.2.2.2.1.2.1, (x.2.2.2.2.1.2.2.1, (x.2.2.2.2.1.2.2.2.1, ())))), ())))
def Q09.l0 (k : Nat) : Nat → Q09.l0.σ → Option Q09.l0.τ := Q12 (Q09.l0.r k)
def Q09.l0.T : StT := ⟨us 1 ++ .ptr 0 [] :: us 1 ++ .dat (.int .i64) :: us 18 ++ .dat QcH :: .dat (.int .i64) :: .dat (.int .i64) :: us 27, [.dat QcB]⟩
def Q09.l0.os : List Out := [⟨(.exit 0), [.mask [1, 3], .auto 0], ⟨us 1 ++ .ptr 0 [] :: us 1 ++ .dat (.int .i64) :: us 48, [.dat QcB]⟩⟩]
abbrev Q09.l1.σ : Type := Int × QcO × Int × Int × Unit
abbrev Q09.l1.τ : Type := (Int × Unit)
def Q09.l1.r (k : Nat) {ρ : Type} (x : Q09.l1.σ) (kn : Q09.l1.σ → Option ρ) (ke : Q09.l1.τ → Option ρ) : Option ρ :=
 bif (decide (x.2.2.2.1 < x.2.2.1)) then (bif (decide (((0 : Int) ≤ x.2.2.2.1) ∧ (x.2.2.2.1 < (((List.length x.2.1) : Nat) : Int)))) then (let v19 : ByteArray := (List.getD x.2.1 (Int.toNat x.2.2.2.1) ((0 : Int), (ByteArray.empty, ()))).2.1
 (Q18 k (((ByteArray.size v19) : Nat) : Int)).bind fun t20 => let v21 : Int := (IntKind.wrap IntKind.i64 ((8 : Int) + t20.1))
 let v22 : Int := (IntKind.wrap IntKind.i64 (x.1 + v21))
 let v23 : Int := (IntKind.wrap IntKind.i64 (x.2.2.2.1 + (1 : Int)))
 kn (v22, (x.2.1, (x.2.2.1, (v23, ()))))) else (none)) else (ke (x.1, ()))
def Q09.l1 (k : Nat) : Nat → Q09.l1.σ → Option Q09.l1.τ := Q12 (Q09.l1.r k)
def Q09.l1.T : StT := ⟨us 3 ++ .dat (.int .i64) :: us 33 ++ .dat QcM :: .dat (.int .i64) :: .dat (.int .i64) :: us 12, []⟩
def Q09.l1.os : List Out := [⟨(.exit 2), [.mask [3], .auto 0], ⟨us 3 ++ .dat (.int .i64) :: us 48, []⟩⟩]
def Q09.c (k : Nat) {ρ : Type} (t : QcG) (K : Int × Unit → Option ρ) : Option ρ :=
 let v0 : QcK := t.2.1
 let v1 : Int := (((List.length v0) : Nat) : Int)
 (Q0a k (IntKind.wrap IntKind.u64 v1)).bind fun t2 => let v3 : Int := (IntKind.wrap IntKind.i64 ((4 : Int) + t2.1))
 let v4 : QcO := t.2.2.1
 let v5 : Int := (((List.length v4) : Nat) : Int)
 (Q0a k (IntKind.wrap IntKind.u64 v5)).bind fun t6 => let v7 : Int := (IntKind.wrap IntKind.i64 (v3 + t6.1))
 let v8 : Int := (IntKind.wrap IntKind.i64 (v7 + (4 : Int)))
 let v9 : QcK := t.2.1
 let v10 : Int := (((List.length v9) : Nat) : Int)
 (Q09.l0 k k (v8, (v9, (v10, ((0 : Int), ((t.1, (t.2.1, (t.2.2.1, (t.2.2.2.1, ())))), ())))))).bind fun t16 => let v17 : QcO := t16.2.1.2.2.1
 let v18 : Int := (((List.length v17) : Nat) : Int)
 (Q09.l1 k k (t16.1, (v17, (v18, ((0 : Int), ()))))).bind fun t24 => K (t24.1, ())
def Q09 (k : Nat) (t : QcG) : Option (Int × Unit) := Q09.c k t some
def Q09.tin : List Ty := [QcB]
def Q09.tout : List Ty := [(.int .i64)]
def Q09.sem (k : Nat) : Qp := Qt Q09.tin Q09.tout fun x => Q09 k x.1
noncomputable def Q09.ctx (k : Nat) : Ctx := ⟨Tryz.prog, gam [(94, (Q0a.sem k)), (127, (Q18.sem k))]⟩
theorem Q09.gok (k : Nat) : ∀ f, Qh Tryz.prog f ((Q09.ctx k).Γ f) := (Qf (Q0a.sem_ok k) (Qf (Q18.sem_ok k) QO))
theorem Q09.l1.round (k : Nat) : Q0Q (Q09.ctx k) (Q08 (Func.code Tryz.f101) [1, 1, 1, 0, 1, 0, 0]) (.nil) Q09.l1.T [.mask [3, 37, 38, 39], .auto 0] Q09.l1.os (Q09.l1.r k) := by
 intro ρ x kn ke; kernel_rfl
theorem Q09.l1.ok (k : Nat) : StOK 0 Tryz.prog (.loop (Q08 (Func.code Tryz.f101) [1, 1, 1, 0, 1, 0, 0])) (Qr Q09.l1.T Q09.l1.os (Q09.l1 k k)) :=
 Q0R (C := Q09.ctx k) (Q09.gok k) Tryz.mix Q0.nil (by kernel_rfl) (by kernel_rfl) (by kernel_rfl) (Q09.l1.round k) k
theorem Q09.l0.round (k : Nat) : Q0Q (Q09.ctx k) (Q08 (Func.code Tryz.f101) [1, 1, 0, 1, 0, 0]) (.nil) Q09.l0.T [.mask [1, 3, 22, 23, 24], .auto 0] Q09.l0.os (Q09.l0.r k) := by
 intro ρ x kn ke; kernel_rfl
theorem Q09.l0.ok (k : Nat) : StOK 0 Tryz.prog (.loop (Q08 (Func.code Tryz.f101) [1, 1, 0, 1, 0, 0])) (Qr Q09.l0.T Q09.l0.os (Q09.l0 k k)) :=
 Q0R (C := Q09.ctx k) (Q09.gok k) Tryz.mix Q0.nil (by kernel_rfl) (by kernel_rfl) (by kernel_rfl) (Q09.l0.round k) k
def Q09.ann (k : Nat) : Ann := .node [] none (.nil) (.node [] none (.nil) (.node [] none (.node [] none (.nil) (.node [] none (.node [.mask [1, 3, 22, 23, 24], .auto 0] (some (Qr Q09.l0.T Q09.l0.os (Q09.l0 k k))) .nil .nil) (.nil))) (.node [] none (.node [] none (.nil) (.node [] none (.node [.mask [3, 37, 38, 39], .auto 0] (some (Qr Q09.l1.T Q09.l1.os (Q09.l1 k k))) .nil .nil) (.nil))) (.nil))))
theorem Q09.body (k : Nat) : Q0I (Q09.ctx k) Tryz.f101 (Func.code Tryz.f101) (Q09.ann k) Q09.tin Q09.tout (fun x K => Q09.c k x.1 K) := by
 intro ρ x K; kernel_rfl
theorem Q09.sem_ok (k : Nat) : Qh Tryz.prog 101 (Q09.sem k) :=
 Qv (C := Q09.ctx k) (Q09.gok k) Tryz.mix (c := Func.code Tryz.f101) (ann := Q09.ann k) (tin := Q09.tin) (tout := Q09.tout) (fun x K => Q09.c k x.1 K) Tryz.func101 (by kernel_rfl) (by kernel_rfl) (Q0.seq Q0.nil (Q0.seq Q0.nil (Q0.seq (Q0.seq Q0.nil (Q0.block (Q0.loop (by kernel_rfl) (Q09.l0.ok k)))) (Q0.seq (Q0.seq Q0.nil (Q0.block (Q0.loop (by kernel_rfl) (Q09.l1.ok k)))) Q0.nil)))) (Q09.body k)
def Q0W.c (k : Nat) {ρ : Type} (n : Int) (K : ByteArray × Unit → Option ρ) : Option ρ :=
 (Q0a k n).bind fun t0 => bif (t0.1 == (1 : Int)) then ((Q0s k n (1 : Int)).bind fun t1 => K (t1.1, ())) else (bif (t0.1 == (3 : Int)) then ((Q0s k (253 : Int) (1 : Int)).bind fun t2 => (Q0s k n (2 : Int)).bind fun t3 => bif (Nat.ble ((ByteArray.size t2.1) + (ByteArray.size t3.1)) 9223372036854775807) then (let v4 : ByteArray := (t2.1 ++ t3.1)
 K (v4, ())) else (none)) else (bif (t0.1 == (5 : Int)) then ((Q0s k (254 : Int) (1 : Int)).bind fun t5 => (Q0s k n (4 : Int)).bind fun t6 => bif (Nat.ble ((ByteArray.size t5.1) + (ByteArray.size t6.1)) 9223372036854775807) then (let v7 : ByteArray := (t5.1 ++ t6.1)
 K (v7, ())) else (none)) else ((Q0s k (255 : Int) (1 : Int)).bind fun t8 => (Q0s k n (8 : Int)).bind fun t9 => bif (Nat.ble ((ByteArray.size t8.1) + (ByteArray.size t9.1)) 9223372036854775807) then (let v10 : ByteArray := (t8.1 ++ t9.1)
 K (v10, ())) else (none))))
def Q0W (k : Nat) (n : Int) : Option (ByteArray × Unit) := Q0W.c k n some
def Q0W.tin : List Ty := [(.int .u64)]
def Q0W.tout : List Ty := [.str]
def Q0W.sem (k : Nat) : Qp := Qt Q0W.tin Q0W.tout fun x => Q0W k x.1
noncomputable def Q0W.ctx (k : Nat) : Ctx := ⟨Tryz.prog, gam [(94, (Q0a.sem k)), (60, (Q0s.sem k))]⟩
theorem Q0W.gok (k : Nat) : ∀ f, Qh Tryz.prog f ((Q0W.ctx k).Γ f) := (Qf (Q0a.sem_ok k) (Qf (Q0s.sem_ok k) QO))
def Q0W.ann (k : Nat) : Ann := .nil
theorem Q0W.body (k : Nat) : Q0I (Q0W.ctx k) Tryz.f61 (Func.code Tryz.f61) (Q0W.ann k) Q0W.tin Q0W.tout (fun x K => Q0W.c k x.1 K) := by
 intro ρ x K; kernel_rfl
theorem Q0W.sem_ok (k : Nat) : Qh Tryz.prog 61 (Q0W.sem k) :=
 Qv (C := Q0W.ctx k) (Q0W.gok k) Tryz.mix (c := Func.code Tryz.f61) (ann := Q0W.ann k) (tin := Q0W.tin) (tout := Q0W.tout) (fun x K => Q0W.c k x.1 K) Tryz.func61 (by kernel_rfl) (by kernel_rfl) Q0.nil (Q0W.body k)
abbrev QI.τ : Type := QcL 
def QI.c (k : Nat) {ρ : Type} (n : Int) (b0 : QcQ) (b1 : (List Int)) (K : QI.τ → Option ρ) : Option ρ :=
 (Q0W k n).bind fun t0 => (Qq k t0.1 (((), ((), ())), ()) b1).bind fun t1 => K ((((), ((), ())), ()), (t1.2.1, ()))
def QI (k : Nat) (n : Int) (b0 : QcQ) (b1 : (List Int)) : Option QI.τ := QI.c k n b0 b1 some
def QI.T : Q1a := ⟨[.ptr 0 [], .dat (.int .u64)], [.pair (.pair (.sfp 0 [0] 130) (.pair (.vbs 1) (.dat .unit))) (.dat .unit), .vec (.int .u8)], 1⟩
def QI.os : List Out := [⟨.ret, [.auto 1], ⟨[], [.pair (.pair (.sfp 0 [0] 130) (.pair (.vbs 1) (.dat .unit))) (.dat .unit), .vec (.int .u8)]⟩⟩]
def QI.sem (k : Nat) : Qp := Q1g QI.T QI.os fun x => QI k x.1 x.2.1 x.2.2.1
noncomputable def QI.ctx (k : Nat) : Ctx := ⟨Tryz.prog, gam [(61, (Q0W.sem k)), (46, (Qq.sem k))]⟩
theorem QI.gok (k : Nat) : ∀ f, Qh Tryz.prog f ((QI.ctx k).Γ f) := (Qf (Q0W.sem_ok k) (Qf (Qq.sem_ok k) QO))
def QI.ann (k : Nat) : Ann := .nil
theorem QI.body (k : Nat) : Q1m (QI.ctx k) Tryz.f33 (Func.code Tryz.f33) (QI.ann k) QI.T QI.os (fun x K => QI.c k x.1 x.2.1 x.2.2.1 K) := by
 intro ρ x K; kernel_rfl
theorem QI.sem_ok (k : Nat) : Qh Tryz.prog 33 (QI.sem k) :=
 Q0S (C := QI.ctx k) (QI.gok k) Tryz.mix (c := Func.code Tryz.f33) (ann := QI.ann k) (T := QI.T) (os := QI.os) (fun x K => QI.c k x.1 x.2.1 x.2.2.1 K) Tryz.func33 (by kernel_rfl) (by kernel_rfl) Q0.nil (QI.body k) (by kernel_rfl) (by kernel_rfl) (by kernel_rfl)
abbrev QP.τ : Type := QcL 
def QP.c (k : Nat) {ρ : Type} (s : ByteArray) (b0 : QcQ) (b1 : (List Int)) (K : QP.τ → Option ρ) : Option ρ :=
 (QI k (IntKind.wrap IntKind.u64 (((ByteArray.size s) : Nat) : Int)) (((), ((), ())), ()) b1).bind fun t0 => (Qq k s (((), ((), ())), ()) t0.2.1).bind fun t1 => K ((((), ((), ())), ()), (t1.2.1, ()))
def QP (k : Nat) (s : ByteArray) (b0 : QcQ) (b1 : (List Int)) : Option QP.τ := QP.c k s b0 b1 some
def QP.T : Q1a := ⟨[.ptr 0 [], .dat .str], [.pair (.pair (.sfp 0 [0] 130) (.pair (.vbs 1) (.dat .unit))) (.dat .unit), .vec (.int .u8)], 1⟩
def QP.os : List Out := [⟨.ret, [.auto 1], ⟨[], [.pair (.pair (.sfp 0 [0] 130) (.pair (.vbs 1) (.dat .unit))) (.dat .unit), .vec (.int .u8)]⟩⟩]
def QP.sem (k : Nat) : Qp := Q1g QP.T QP.os fun x => QP k x.1 x.2.1 x.2.2.1
noncomputable def QP.ctx (k : Nat) : Ctx := ⟨Tryz.prog, gam [(33, (QI.sem k)), (46, (Qq.sem k))]⟩
theorem QP.gok (k : Nat) : ∀ f, Qh Tryz.prog f ((QP.ctx k).Γ f) := (Qf (QI.sem_ok k) (Qf (Qq.sem_ok k) QO))
def QP.ann (k : Nat) : Ann := .nil
theorem QP.body (k : Nat) : Q1m (QP.ctx k) Tryz.f64 (Func.code Tryz.f64) (QP.ann k) QP.T QP.os (fun x K => QP.c k x.1 x.2.1 x.2.2.1 K) := by
 intro ρ x K; kernel_rfl
theorem QP.sem_ok (k : Nat) : Qh Tryz.prog 64 (QP.sem k) :=
 Q0S (C := QP.ctx k) (QP.gok k) Tryz.mix (c := Func.code Tryz.f64) (ann := QP.ann k) (T := QP.T) (os := QP.os) (fun x K => QP.c k x.1 x.2.1 x.2.2.1 K) Tryz.func64 (by kernel_rfl) (by kernel_rfl) Q0.nil (QP.body k) (by kernel_rfl) (by kernel_rfl) (by kernel_rfl)
abbrev Q0h.τ : Type := QcL 
def Q0h.c (k : Nat) {ρ : Type} (n : Int) (b0 : QcQ) (b1 : (List Int)) (K : Q0h.τ → Option ρ) : Option ρ :=
 (Q0s k n (8 : Int)).bind fun t0 => (Qq k t0.1 (((), ((), ())), ()) b1).bind fun t1 => K ((((), ((), ())), ()), (t1.2.1, ()))
def Q0h (k : Nat) (n : Int) (b0 : QcQ) (b1 : (List Int)) : Option Q0h.τ := Q0h.c k n b0 b1 some
def Q0h.T : Q1a := ⟨[.ptr 0 [], .dat (.int .u64)], [.pair (.pair (.sfp 0 [0] 130) (.pair (.vbs 1) (.dat .unit))) (.dat .unit), .vec (.int .u8)], 1⟩
def Q0h.os : List Out := [⟨.ret, [.auto 1], ⟨[], [.pair (.pair (.sfp 0 [0] 130) (.pair (.vbs 1) (.dat .unit))) (.dat .unit), .vec (.int .u8)]⟩⟩]
def Q0h.sem (k : Nat) : Qp := Q1g Q0h.T Q0h.os fun x => Q0h k x.1 x.2.1 x.2.2.1
noncomputable def Q0h.ctx (k : Nat) : Ctx := ⟨Tryz.prog, gam [(60, (Q0s.sem k)), (46, (Qq.sem k))]⟩
theorem Q0h.gok (k : Nat) : ∀ f, Qh Tryz.prog f ((Q0h.ctx k).Γ f) := (Qf (Q0s.sem_ok k) (Qf (Qq.sem_ok k) QO))
def Q0h.ann (k : Nat) : Ann := .nil
theorem Q0h.body (k : Nat) : Q1m (Q0h.ctx k) Tryz.f63 (Func.code Tryz.f63) (Q0h.ann k) Q0h.T Q0h.os (fun x K => Q0h.c k x.1 x.2.1 x.2.2.1 K) := by
 intro ρ x K; kernel_rfl
theorem Q0h.sem_ok (k : Nat) : Qh Tryz.prog 63 (Q0h.sem k) :=
 Q0S (C := Q0h.ctx k) (Q0h.gok k) Tryz.mix (c := Func.code Tryz.f63) (ann := Q0h.ann k) (T := Q0h.T) (os := Q0h.os) (fun x K => Q0h.c k x.1 x.2.1 x.2.2.1 K) Tryz.func63 (by kernel_rfl) (by kernel_rfl) Q0.nil (Q0h.body k) (by kernel_rfl) (by kernel_rfl) (by kernel_rfl)
abbrev Qd.l0.σ : Type := QcK × Int × Int × QcG × Unit
abbrev Qd.l0.τ : Type := QcS ⊕ QcE 
def Qd.l0.r (k : Nat) {ρ : Type} (x : Qd.l0.σ) (kn : Qd.l0.σ → Option ρ) (ke : Qd.l0.τ → Option ρ) : Option ρ :=
 bif (decide (x.2.2.1 < x.2.1)) then (bif (decide (((0 : Int) ≤ x.2.2.1) ∧ (x.2.2.1 < (((List.length x.1) : Nat) : Int)))) then (let v2 : ByteArray := (List.getD x.1 (Int.toNat x.2.2.1) (((List.replicate 32 (0 : Int)), ((0 : Int), ())), (ByteArray.empty, ((0 : Int), ())))).2.1
 bif (decide ((((ByteArray.size v2) : Nat) : Int) > (520 : Int))) then (ke (.inl ((⟨(List.toArray [])⟩ : ByteArray), ((100 : Int), ())))) else (let v3 : Int := (IntKind.wrap IntKind.i64 (x.2.2.1 + (1 : Int)))
 kn (x.1, (x.2.1, (v3, ((x.2.2.2.1.1, (x.2.2.2.1.2.1, (x.2.2.2.1.2.2.1, (x.2.2.2.1.2.2.2.1, ())))), ())))))) else (none)) else (ke (.inr ((x.2.2.2.1.1, (x.2.2.2.1.2.1, (x.2.2.2.1.2.2.1, (x.2.2.2.1.2.2.2.1, ())))), ())))
def Qd.l0 (k : Nat) : Nat → Qd.l0.σ → Option Qd.l0.τ := Q12 (Qd.l0.r k)
def Qd.l0.T : StT := ⟨us 1 ++ .ptr 0 [] :: us 12 ++ .dat QcH :: .dat (.int .i64) :: .dat (.int .i64) :: us 88, [.dat QcB]⟩
def Qd.l0.os : List Out := [⟨.ret, [.mask [2, 3], .auto 0], ⟨us 2 ++ .dat .str :: .dat (.int .i64) :: us 101, []⟩⟩, ⟨(.exit 0), [.mask [1], .auto 0], ⟨us 1 ++ .ptr 0 [] :: us 103, [.dat QcB]⟩⟩]
abbrev Qd.l1.σ : Type := QcO × Int × Int × QcG × Unit
abbrev Qd.l1.τ : Type := QcS ⊕ QcE 
def Qd.l1.r (k : Nat) {ρ : Type} (x : Qd.l1.σ) (kn : Qd.l1.σ → Option ρ) (ke : Qd.l1.τ → Option ρ) : Option ρ :=
 bif (decide (x.2.2.1 < x.2.1)) then (bif (decide (((0 : Int) ≤ x.2.2.1) ∧ (x.2.2.1 < (((List.length x.1) : Nat) : Int)))) then (let v9 : ByteArray := (List.getD x.1 (Int.toNat x.2.2.1) ((0 : Int), (ByteArray.empty, ()))).2.1
 bif (decide ((((ByteArray.size v9) : Nat) : Int) > (520 : Int))) then (ke (.inl ((⟨(List.toArray [])⟩ : ByteArray), ((100 : Int), ())))) else (let v10 : Int := (IntKind.wrap IntKind.i64 (x.2.2.1 + (1 : Int)))
 kn (x.1, (x.2.1, (v10, ((x.2.2.2.1.1, (x.2.2.2.1.2.1, (x.2.2.2.1.2.2.1, (x.2.2.2.1.2.2.2.1, ())))), ())))))) else (none)) else (ke (.inr ((x.2.2.2.1.1, (x.2.2.2.1.2.1, (x.2.2.2.1.2.2.1, (x.2.2.2.1.2.2.2.1, ())))), ())))
def Qd.l1 (k : Nat) : Nat → Qd.l1.σ → Option Qd.l1.τ := Q12 (Qd.l1.r k)
def Qd.l1.T : StT := ⟨us 1 ++ .ptr 0 [] :: us 24 ++ .dat QcM :: .dat (.int .i64) :: .dat (.int .i64) :: us 76, [.dat QcB]⟩
def Qd.l1.os : List Out := [⟨.ret, [.mask [2, 3], .auto 0], ⟨us 2 ++ .dat .str :: .dat (.int .i64) :: us 101, []⟩⟩, ⟨(.exit 2), [.mask [1], .auto 0], ⟨us 1 ++ .ptr 0 [] :: us 103, [.dat QcB]⟩⟩]
abbrev Qd.l2.σ : Type := QcK × Int × Int × QcG × QcQ × (List Int) × Unit
abbrev Qd.l2.τ : Type := QcC 
def Qd.l2.r (k : Nat) {ρ : Type} (x : Qd.l2.σ) (kn : Qd.l2.σ → Option ρ) (ke : Qd.l2.τ → Option ρ) : Option ρ :=
 bif (decide (x.2.2.1 < x.2.1)) then (bif (decide (((0 : Int) ≤ x.2.2.1) ∧ (x.2.2.1 < (((List.length x.1) : Nat) : Int)))) then (let v23 : (List Int) := (List.getD x.1 (Int.toNat x.2.2.1) (((List.replicate 32 (0 : Int)), ((0 : Int), ())), (ByteArray.empty, ((0 : Int), ())))).1.1
 (QY k v23 (((), ((), ())), ()) x.2.2.2.2.2.1).bind fun t24 => let v25 : Int := (List.getD x.1 (Int.toNat x.2.2.1) (((List.replicate 32 (0 : Int)), ((0 : Int), ())), (ByteArray.empty, ((0 : Int), ())))).1.2.1
 (QN k v25 (((), ((), ())), ()) t24.2.1).bind fun t26 => let v27 : ByteArray := (List.getD x.1 (Int.toNat x.2.2.1) (((List.replicate 32 (0 : Int)), ((0 : Int), ())), (ByteArray.empty, ((0 : Int), ())))).2.1
 (QP k v27 (((), ((), ())), ()) t26.2.1).bind fun t28 => let v29 : Int := (List.getD x.1 (Int.toNat x.2.2.1) (((List.replicate 32 (0 : Int)), ((0 : Int), ())), (ByteArray.empty, ((0 : Int), ())))).2.2.1
 (QN k v29 (((), ((), ())), ()) t28.2.1).bind fun t30 => let v31 : Int := (IntKind.wrap IntKind.i64 (x.2.2.1 + (1 : Int)))
 kn (x.1, (x.2.1, (v31, ((x.2.2.2.1.1, (x.2.2.2.1.2.1, (x.2.2.2.1.2.2.1, (x.2.2.2.1.2.2.2.1, ())))), ((((), ((), ())), ()), (t30.2.1, ()))))))) else (none)) else (ke ((x.2.2.2.1.1, (x.2.2.2.1.2.1, (x.2.2.2.1.2.2.1, (x.2.2.2.1.2.2.2.1, ())))), ((((), ((), ())), ()), (x.2.2.2.2.2.1, ()))))
def Qd.l2 (k : Nat) : Nat → Qd.l2.σ → Option Qd.l2.τ := Q12 (Qd.l2.r k)
def Qd.l2.T : StT := ⟨us 1 ++ .ptr 0 [] :: us 6 ++ .ptr 1 [] :: us 43 ++ .dat QcH :: .dat (.int .i64) :: .dat (.int .i64) :: us 50, [.dat QcB, .pair (.pair (.sfp 1 [0] 130) (.pair (.vbs 2) (.dat .unit))) (.dat .unit), .vec (.int .u8)]⟩
def Qd.l2.os : List Out := [⟨(.exit 4), [.mask [1, 8], .auto 0], ⟨us 1 ++ .ptr 0 [] :: us 6 ++ .ptr 1 [] :: us 96, [.dat QcB, .pair (.pair (.sfp 1 [0] 130) (.pair (.vbs 2) (.dat .unit))) (.dat .unit), .vec (.int .u8)]⟩⟩]
abbrev Qd.l3.σ : Type := QcO × Int × Int × QcG × QcQ × (List Int) × Unit
abbrev Qd.l3.τ : Type := QcC 
def Qd.l3.r (k : Nat) {ρ : Type} (x : Qd.l3.σ) (kn : Qd.l3.σ → Option ρ) (ke : Qd.l3.τ → Option ρ) : Option ρ :=
 bif (decide (x.2.2.1 < x.2.1)) then (bif (decide (((0 : Int) ≤ x.2.2.1) ∧ (x.2.2.1 < (((List.length x.1) : Nat) : Int)))) then (let v38 : Int := (List.getD x.1 (Int.toNat x.2.2.1) ((0 : Int), (ByteArray.empty, ()))).1
 (Q0h k v38 (((), ((), ())), ()) x.2.2.2.2.2.1).bind fun t39 => let v40 : ByteArray := (List.getD x.1 (Int.toNat x.2.2.1) ((0 : Int), (ByteArray.empty, ()))).2.1
 (QP k v40 (((), ((), ())), ()) t39.2.1).bind fun t41 => let v42 : Int := (IntKind.wrap IntKind.i64 (x.2.2.1 + (1 : Int)))
 kn (x.1, (x.2.1, (v42, ((x.2.2.2.1.1, (x.2.2.2.1.2.1, (x.2.2.2.1.2.2.1, (x.2.2.2.1.2.2.2.1, ())))), ((((), ((), ())), ()), (t41.2.1, ()))))))) else (none)) else (ke ((x.2.2.2.1.1, (x.2.2.2.1.2.1, (x.2.2.2.1.2.2.1, (x.2.2.2.1.2.2.2.1, ())))), ((((), ((), ())), ()), (x.2.2.2.2.2.1, ()))))
def Qd.l3 (k : Nat) : Nat → Qd.l3.σ → Option Qd.l3.τ := Q12 (Qd.l3.r k)
def Qd.l3.T : StT := ⟨us 1 ++ .ptr 0 [] :: us 6 ++ .ptr 1 [] :: us 75 ++ .dat QcM :: .dat (.int .i64) :: .dat (.int .i64) :: us 18, [.dat QcB, .pair (.pair (.sfp 1 [0] 130) (.pair (.vbs 2) (.dat .unit))) (.dat .unit), .vec (.int .u8)]⟩
def Qd.l3.os : List Out := [⟨(.exit 6), [.mask [1, 8], .auto 0], ⟨us 1 ++ .ptr 0 [] :: us 6 ++ .ptr 1 [] :: us 96, [.dat QcB, .pair (.pair (.sfp 1 [0] 130) (.pair (.vbs 2) (.dat .unit))) (.dat .unit), .vec (.int .u8)]⟩⟩]
def Qd.c (k : Nat) {ρ : Type} (t : QcG) (K : ByteArray × Int × Unit → Option ρ) : Option ρ :=
  let v0 : QcK := t.2.1
  let v1 : Int := (((List.length v0) : Nat) : Int)
  (Qd.l0 k k (v0, (v1, ((0 : Int), ((t.1, (t.2.1, (t.2.2.1, (t.2.2.2.1, ())))), ()))))).bind fun t4 => (match t4 with
 | .inl t5 => (K (t5.1, (t5.2.1, ())))
 | .inr (t6) => (let v7 : QcO := t6.1.2.2.1
  let v8 : Int := (((List.length v7) : Nat) : Int)
  (Qd.l1 k k (v7, (v8, ((0 : Int), ((t6.1.1, (t6.1.2.1, (t6.1.2.2.1, (t6.1.2.2.2.1, ())))), ()))))).bind fun t11 => (match t11 with
 | .inl t12 => (K (t12.1, (t12.2.1, ())))
 | .inr (t13) => ((Q09 k (t13.1.1, (t13.1.2.1, (t13.1.2.2.1, (t13.1.2.2.2.1, ()))))).bind fun t14 => bif (decide (t14.1 > (4096 : Int))) then (K ((⟨(List.toArray [])⟩ : ByteArray), ((101 : Int), ()))) else ((Q07 k ).bind fun t15 => let v16 : Int := t13.1.1
  (QN k v16 (((), ((), ())), ()) t15.2.1).bind fun t17 => let v18 : QcK := t13.1.2.1
  let v19 : Int := (((List.length v18) : Nat) : Int)
  (QI k (IntKind.wrap IntKind.u64 v19) (((), ((), ())), ()) t17.2.1).bind fun t20 => let v21 : QcK := t13.1.2.1
  let v22 : Int := (((List.length v21) : Nat) : Int)
  (Qd.l2 k k (v21, (v22, ((0 : Int), ((t13.1.1, (t13.1.2.1, (t13.1.2.2.1, (t13.1.2.2.2.1, ())))), ((((), ((), ())), ()), (t20.2.1, ()))))))).bind fun t32 => let v33 : QcO := t32.1.2.2.1
  let v34 : Int := (((List.length v33) : Nat) : Int)
  (QI k (IntKind.wrap IntKind.u64 v34) (((), ((), ())), ()) t32.2.2.1).bind fun t35 => let v36 : QcO := t32.1.2.2.1
  let v37 : Int := (((List.length v36) : Nat) : Int)
  (Qd.l3 k k (v36, (v37, ((0 : Int), ((t32.1.1, (t32.1.2.1, (t32.1.2.2.1, (t32.1.2.2.2.1, ())))), ((((), ((), ())), ()), (t35.2.1, ()))))))).bind fun t43 => let v44 : Int := t43.1.2.2.2.1
  (QN k v44 (((), ((), ())), ()) t43.2.2.1).bind fun t45 => (QK k (((), ((), ())), ()) t45.2.1).bind fun t46 => K (t46.1, ((0 : Int), ())))))))
def Qd (k : Nat) (t : QcG) : Option QcS := Qd.c k t some
def Qd.tin : List Ty := [QcB]
def Qd.tout : List Ty := [.str, (.int .i64)]
def Qd.sem (k : Nat) : Qp := Qt Qd.tin Qd.tout fun x => Qd k x.1
noncomputable def Qd.ctx (k : Nat) : Ctx := ⟨Tryz.prog, gam [(101, (Q09.sem k)), (30, (Q07.sem k)), (32, (QN.sem k)), (33, (QI.sem k)), (31, (QY.sem k)), (64, (QP.sem k)), (63, (Q0h.sem k)), (35, (QK.sem k))]⟩
theorem Qd.gok (k : Nat) : ∀ f, Qh Tryz.prog f ((Qd.ctx k).Γ f) := (Qf (Q09.sem_ok k) (Qf (Q07.sem_ok k) (Qf (QN.sem_ok k) (Qf (QI.sem_ok k) (Qf (QY.sem_ok k) (Qf (QP.sem_ok k) (Qf (Q0h.sem_ok k) (Qf (QK.sem_ok k) QO))))))))
theorem Qd.l3.round (k : Nat) : Q0Q (Qd.ctx k) (Q08 (Func.code Tryz.f85) [1, 1, 1, 1, 1, 1, 1, 1, 1, 0, 1, 0, 0]) (.nil) Qd.l3.T [.mask [1, 8, 84, 85, 86], .auto 0] Qd.l3.os (Qd.l3.r k) := by
 intro ρ x kn ke; kernel_rfl
theorem Qd.l3.ok (k : Nat) : StOK 0 Tryz.prog (.loop (Q08 (Func.code Tryz.f85) [1, 1, 1, 1, 1, 1, 1, 1, 1, 0, 1, 0, 0])) (Qr Qd.l3.T Qd.l3.os (Qd.l3 k k)) :=
 Q0R (C := Qd.ctx k) (Qd.gok k) Tryz.mix Q0.nil (by kernel_rfl) (by kernel_rfl) (by kernel_rfl) (Qd.l3.round k) k
theorem Qd.l2.round (k : Nat) : Q0Q (Qd.ctx k) (Q08 (Func.code Tryz.f85) [1, 1, 1, 1, 1, 1, 1, 0, 1, 0, 0]) (.nil) Qd.l2.T [.mask [1, 8, 52, 53, 54], .auto 0] Qd.l2.os (Qd.l2.r k) := by
 intro ρ x kn ke; kernel_rfl
theorem Qd.l2.ok (k : Nat) : StOK 0 Tryz.prog (.loop (Q08 (Func.code Tryz.f85) [1, 1, 1, 1, 1, 1, 1, 0, 1, 0, 0])) (Qr Qd.l2.T Qd.l2.os (Qd.l2 k k)) :=
 Q0R (C := Qd.ctx k) (Qd.gok k) Tryz.mix Q0.nil (by kernel_rfl) (by kernel_rfl) (by kernel_rfl) (Qd.l2.round k) k
theorem Qd.l1.round (k : Nat) : Q0Q (Qd.ctx k) (Q08 (Func.code Tryz.f85) [1, 1, 0, 1, 0, 0]) (.nil) Qd.l1.T [.mask [1, 26, 27, 28], .auto 0] Qd.l1.os (Qd.l1.r k) := by
 intro ρ x kn ke; kernel_rfl
theorem Qd.l1.ok (k : Nat) : StOK 0 Tryz.prog (.loop (Q08 (Func.code Tryz.f85) [1, 1, 0, 1, 0, 0])) (Qr Qd.l1.T Qd.l1.os (Qd.l1 k k)) :=
 Q0R (C := Qd.ctx k) (Qd.gok k) Tryz.mix Q0.nil (by kernel_rfl) (by kernel_rfl) (by kernel_rfl) (Qd.l1.round k) k
theorem Qd.l0.round (k : Nat) : Q0Q (Qd.ctx k) (Q08 (Func.code Tryz.f85) [1, 0, 1, 0, 0]) (.nil) Qd.l0.T [.mask [1, 14, 15, 16], .auto 0] Qd.l0.os (Qd.l0.r k) := by
 intro ρ x kn ke; kernel_rfl
theorem Qd.l0.ok (k : Nat) : StOK 0 Tryz.prog (.loop (Q08 (Func.code Tryz.f85) [1, 0, 1, 0, 0])) (Qr Qd.l0.T Qd.l0.os (Qd.l0 k k)) :=
 Q0R (C := Qd.ctx k) (Qd.gok k) Tryz.mix Q0.nil (by kernel_rfl) (by kernel_rfl) (by kernel_rfl) (Qd.l0.round k) k
def Qd.ann (k : Nat) : Ann := .node [] none (.nil) (.node [] none (.node [] none (.nil) (.node [] none (.node [.mask [1, 14, 15, 16], .auto 0] (some (Qr Qd.l0.T Qd.l0.os (Qd.l0 k k))) .nil .nil) (.nil))) (.node [] none (.node [] none (.nil) (.node [] none (.node [.mask [1, 26, 27, 28], .auto 0] (some (Qr Qd.l1.T Qd.l1.os (Qd.l1 k k))) .nil .nil) (.nil))) (.node [] none (.nil) (.node [] none (.nil) (.node [] none (.nil) (.node [] none (.nil) (.node [] none (.node [] none (.nil) (.node [] none (.node [.mask [1, 8, 52, 53, 54], .auto 0] (some (Qr Qd.l2.T Qd.l2.os (Qd.l2 k k))) .nil .nil) (.nil))) (.node [] none (.nil) (.node [] none (.node [] none (.nil) (.node [] none (.node [.mask [1, 8, 84, 85, 86], .auto 0] (some (Qr Qd.l3.T Qd.l3.os (Qd.l3 k k))) .nil .nil) (.nil))) (.nil))))))))))
theorem Qd.body (k : Nat) : Q0I (Qd.ctx k) Tryz.f85 (Func.code Tryz.f85) (Qd.ann k) Qd.tin Qd.tout (fun x K => Qd.c k x.1 K) := by
 intro ρ x K; kernel_rfl
theorem Qd.sem_ok (k : Nat) : Qh Tryz.prog 85 (Qd.sem k) :=
 Qv (C := Qd.ctx k) (Qd.gok k) Tryz.mix (c := Func.code Tryz.f85) (ann := Qd.ann k) (tin := Qd.tin) (tout := Qd.tout) (fun x K => Qd.c k x.1 K) Tryz.func85 (by kernel_rfl) (by kernel_rfl) (Q0.seq Q0.nil (Q0.seq (Q0.seq Q0.nil (Q0.block (Q0.loop (by kernel_rfl) (Qd.l0.ok k)))) (Q0.seq (Q0.seq Q0.nil (Q0.block (Q0.loop (by kernel_rfl) (Qd.l1.ok k)))) (Q0.seq Q0.nil (Q0.seq Q0.nil (Q0.seq Q0.nil (Q0.seq Q0.nil (Q0.seq (Q0.seq Q0.nil (Q0.block (Q0.loop (by kernel_rfl) (Qd.l2.ok k)))) (Q0.seq Q0.nil (Q0.seq (Q0.seq Q0.nil (Q0.block (Q0.loop (by kernel_rfl) (Qd.l3.ok k)))) Q0.nil)))))))))) (Qd.body k)
def Q1f.c (k : Nat) {ρ : Type} (t : QcG) (K : (List Int) × Int × Unit → Option ρ) : Option ρ :=
 (Qd k (t.1, (t.2.1, (t.2.2.1, (t.2.2.2.1, ()))))).bind fun t0 => let v1 : ByteArray := t0.1
 let v2 : Int := t0.2.1
 bif (v2 != (0 : Int)) then (let v3 : (List Int) := (List.replicate 32 (0 : Int))
 K (v3, (v2, ()))) else ((Q0J k v1).bind fun t4 => K (t4.1, ((0 : Int), ())))
def Q1f (k : Nat) (t : QcG) : Option ((List Int) × Int × Unit) := Q1f.c k t some
def Q1f.tin : List Ty := [QcB]
def Q1f.tout : List Ty := [QcT, (.int .i64)]
def Q1f.sem (k : Nat) : Qp := Qt Q1f.tin Q1f.tout fun x => Q1f k x.1
noncomputable def Q1f.ctx (k : Nat) : Ctx := ⟨Tryz.prog, gam [(85, (Qd.sem k)), (36, (Q0J.sem k))]⟩
theorem Q1f.gok (k : Nat) : ∀ f, Qh Tryz.prog f ((Q1f.ctx k).Γ f) := (Qf (Qd.sem_ok k) (Qf (Q0J.sem_ok k) QO))
def Q1f.ann (k : Nat) : Ann := .nil
theorem Q1f.body (k : Nat) : Q0I (Q1f.ctx k) Tryz.f47 (Func.code Tryz.f47) (Q1f.ann k) Q1f.tin Q1f.tout (fun x K => Q1f.c k x.1 K) := by
 intro ρ x K; kernel_rfl
theorem Q1f.sem_ok (k : Nat) : Qh Tryz.prog 47 (Q1f.sem k) :=
 Qv (C := Q1f.ctx k) (Q1f.gok k) Tryz.mix (c := Func.code Tryz.f47) (ann := Q1f.ann k) (tin := Q1f.tin) (tout := Q1f.tout) (fun x K => Q1f.c k x.1 K) Tryz.func47 (by kernel_rfl) (by kernel_rfl) Q0.nil (Q1f.body k)
def Qg.c (k : Nat) {ρ : Type} (s : (List (List Int))) (K : (List (List Int)) × Unit → Option ρ) : Option ρ :=
 bif (Nat.ble 1 (List.length s)) then (bif (Nat.ble ((0 + (List.length s)) * 32) 140737488355328) then (K (((List.replicate 0 (List.replicate 32 (0 : Int))) ++ s), ())) else (none)) else (none)
def Qg (k : Nat) (s : (List (List Int))) : Option ((List (List Int)) × Unit) := Qg.c k s some
def Qg.tin : List Ty := [QcR]
def Qg.tout : List Ty := [QcR]
def Qg.sem (k : Nat) : Qp := Qt Qg.tin Qg.tout fun x => Qg k x.1
noncomputable def Qg.ctx (k : Nat) : Ctx := ⟨Tryz.prog, gam []⟩
theorem Qg.gok (k : Nat) : ∀ f, Qh Tryz.prog f ((Qg.ctx k).Γ f) := QO
def Qg.ann (k : Nat) : Ann := .nil
theorem Qg.body (k : Nat) : Q0I (Qg.ctx k) Tryz.f111 (Func.code Tryz.f111) (Qg.ann k) Qg.tin Qg.tout (fun x K => Qg.c k x.1 K) := by
 intro ρ x K; kernel_rfl
theorem Qg.sem_ok (k : Nat) : Qh Tryz.prog 111 (Qg.sem k) :=
 Qv (C := Qg.ctx k) (Qg.gok k) Tryz.mix (c := Func.code Tryz.f111) (ann := Qg.ann k) (tin := Qg.tin) (tout := Qg.tout) (fun x K => Qg.c k x.1 K) Tryz.func111 (by kernel_rfl) (by kernel_rfl) Q0.nil (Qg.body k)
def Q0L.c (k : Nat) {ρ : Type} (a : (List Int)) (b : (List Int)) (K : (List Int) × Unit → Option ρ) : Option ρ :=
 let v0 : ByteArray := (bytesOf (List.take 32 (List.drop 0 a)))
 let v1 : ByteArray := (bytesOf (List.take 32 (List.drop 0 b)))
 bif (Nat.ble ((ByteArray.size v0) + (ByteArray.size v1)) 9223372036854775807) then (let v2 : ByteArray := (v0 ++ v1)
 (Q0J k v2).bind fun t3 => K (t3.1, ())) else (none)
def Q0L (k : Nat) (a : (List Int)) (b : (List Int)) : Option QcV := Q0L.c k a b some
def Q0L.tin : List Ty := [QcT, QcT]
def Q0L.tout : List Ty := [QcT]
def Q0L.sem (k : Nat) : Qp := Qt Q0L.tin Q0L.tout fun x => Q0L k x.1 x.2.1
noncomputable def Q0L.ctx (k : Nat) : Ctx := ⟨Tryz.prog, gam [(36, (Q0J.sem k))]⟩
theorem Q0L.gok (k : Nat) : ∀ f, Qh Tryz.prog f ((Q0L.ctx k).Γ f) := (Qf (Q0J.sem_ok k) QO)
def Q0L.ann (k : Nat) : Ann := .nil
theorem Q0L.body (k : Nat) : Q0I (Q0L.ctx k) Tryz.f132 (Func.code Tryz.f132) (Q0L.ann k) Q0L.tin Q0L.tout (fun x K => Q0L.c k x.1 x.2.1 K) := by
 intro ρ x K; kernel_rfl
theorem Q0L.sem_ok (k : Nat) : Qh Tryz.prog 132 (Q0L.sem k) :=
 Qv (C := Q0L.ctx k) (Q0L.gok k) Tryz.mix (c := Func.code Tryz.f132) (ann := Q0L.ann k) (tin := Q0L.tin) (tout := Q0L.tout) (fun x K => Q0L.c k x.1 x.2.1 K) Tryz.func132 (by kernel_rfl) (by kernel_rfl) Q0.nil (Q0L.body k)
abbrev QD.l0.σ : Type := (List (List Int)) × Int × (List (List Int)) × Unit
abbrev QD.l0.τ : Type := ((List (List Int)) × Unit)
def QD.l0.r (k : Nat) {ρ : Type} (x : QD.l0.σ) (kn : QD.l0.σ → Option ρ) (ke : QD.l0.τ → Option ρ) : Option ρ :=
 let v0 : Int := (((List.length x.1) : Nat) : Int)
 bif (decide (x.2.1 < v0)) then (bif (decide (((0 : Int) ≤ x.2.1) ∧ (x.2.1 < (((List.length x.1) : Nat) : Int)))) then (let v1 : (List Int) := (List.getD x.1 (Int.toNat x.2.1) (List.replicate 32 (0 : Int)))
 let v2 : Int := (IntKind.wrap IntKind.i64 (x.2.1 + (1 : Int)))
 let v3 : Int := (((List.length x.1) : Nat) : Int)
 let v4 : Int := (IntKind.wrap IntKind.i64 (v3 - (1 : Int)))
 let v5 : Int := (if (v4 < v2) then v4 else v2)
 bif (decide (((0 : Int) ≤ v5) ∧ (v5 < (((List.length x.1) : Nat) : Int)))) then (let v6 : (List Int) := (List.getD x.1 (Int.toNat v5) (List.replicate 32 (0 : Int)))
 (Q0L k v1 v6).bind fun t7 => bif (Nat.ble (((List.length x.2.2.1) + (List.length (List.set (List.replicate 1 (List.replicate 32 (0 : Int))) 0 t7.1))) * 32) 140737488355328) then (let v8 : Int := (IntKind.wrap IntKind.i64 (x.2.1 + (2 : Int)))
 kn (x.1, (v8, ((x.2.2.1 ++ (List.set (List.replicate 1 (List.replicate 32 (0 : Int))) 0 t7.1)), ())))) else (none)) else (none)) else (none)) else (ke (x.2.2.1, ()))
def QD.l0 (k : Nat) : Nat → QD.l0.σ → Option QD.l0.τ := Q12 (QD.l0.r k)
def QD.l0.T : StT := ⟨.dat QcR :: us 2 ++ .vsl 0 :: .dat (.int .i64) :: us 24, [.vec QcT]⟩
def QD.l0.os : List Out := [⟨(.exit 0), [.mask [3], .auto 0], ⟨us 3 ++ .vsl 0 :: us 25, [.vec QcT]⟩⟩]
def QD.c (k : Nat) {ρ : Type} (l : (List (List Int))) (K : (List (List Int)) × Unit → Option ρ) : Option ρ :=
 (QD.l0 k k (l, ((0 : Int), ([], ())))).bind fun t9 => K (t9.1, ())
def QD (k : Nat) (l : (List (List Int))) : Option ((List (List Int)) × Unit) := QD.c k l some
def QD.tin : List Ty := [QcR]
def QD.tout : List Ty := [QcR]
def QD.sem (k : Nat) : Qp := Qt QD.tin QD.tout fun x => QD k x.1
noncomputable def QD.ctx (k : Nat) : Ctx := ⟨Tryz.prog, gam [(132, (Q0L.sem k))]⟩
theorem QD.gok (k : Nat) : ∀ f, Qh Tryz.prog f ((QD.ctx k).Γ f) := (Qf (Q0L.sem_ok k) QO)
theorem QD.l0.round (k : Nat) : Q0Q (QD.ctx k) (Q08 (Func.code Tryz.f112) [1, 1, 0, 1, 0, 0]) (.nil) QD.l0.T [.mask [0, 3, 4], .auto 0] QD.l0.os (QD.l0.r k) := by
 intro ρ x kn ke; kernel_rfl
theorem QD.l0.ok (k : Nat) : StOK 0 Tryz.prog (.loop (Q08 (Func.code Tryz.f112) [1, 1, 0, 1, 0, 0])) (Qr QD.l0.T QD.l0.os (QD.l0 k k)) :=
 Q0R (C := QD.ctx k) (QD.gok k) Tryz.mix Q0.nil (by kernel_rfl) (by kernel_rfl) (by kernel_rfl) (QD.l0.round k) k
def QD.ann (k : Nat) : Ann := .node [] none (.nil) (.node [] none (.nil) (.node [] none (.node [] none (.nil) (.node [] none (.node [.own (.slot 3) QcT] (some (Qr QD.l0.T QD.l0.os (QD.l0 k k))) .nil .nil) (.nil))) (.nil)))
theorem QD.body (k : Nat) : Q0I (QD.ctx k) Tryz.f112 (Func.code Tryz.f112) (QD.ann k) QD.tin QD.tout (fun x K => QD.c k x.1 K) := by
 intro ρ x K; kernel_rfl
theorem QD.sem_ok (k : Nat) : Qh Tryz.prog 112 (QD.sem k) :=
 Qv (C := QD.ctx k) (QD.gok k) Tryz.mix (c := Func.code Tryz.f112) (ann := QD.ann k) (tin := QD.tin) (tout := QD.tout) (fun x K => QD.c k x.1 K) Tryz.func112 (by kernel_rfl) (by kernel_rfl) (Q0.seq Q0.nil (Q0.seq Q0.nil (Q0.seq (Q0.seq Q0.nil (Q0.block (Q0.loop (by kernel_rfl) (QD.l0.ok k)))) Q0.nil))) (QD.body k)
abbrev Qs.l0.σ : Type := (List (List Int)) × (List (List (List Int))) × Unit
abbrev Qs.l0.τ : Type := ((List (List (List Int))) × Unit)
def Qs.l0.r (k : Nat) {ρ : Type} (x : Qs.l0.σ) (kn : Qs.l0.σ → Option ρ) (ke : Qs.l0.τ → Option ρ) : Option ρ :=
 let v2 : Int := (((List.length x.1) : Nat) : Int)
 bif (decide (v2 > (1 : Int))) then ((QD k x.1).bind fun t3 => bif (Nat.ble (((List.length x.2.1) + (List.length (List.set (List.replicate 1 []) 0 t3.1))) * 24) 140737488355328) then (kn (t3.1, ((x.2.1 ++ (List.set (List.replicate 1 []) 0 t3.1)), ()))) else (none)) else (ke (x.2.1, ()))
def Qs.l0 (k : Nat) : Nat → Qs.l0.σ → Option Qs.l0.τ := Q12 (Qs.l0.r k)
def Qs.l0.T : StT := ⟨.dat QcR :: us 2 ++ .vsl 0 :: us 16, [.vec QcR]⟩
def Qs.l0.os : List Out := [⟨(.exit 0), [.mask [3], .auto 0], ⟨us 3 ++ .vsl 0 :: us 16, [.vec QcR]⟩⟩]
def Qs.c (k : Nat) {ρ : Type} (l : (List (List Int))) (K : (List (List (List Int))) × Unit → Option ρ) : Option ρ :=
 let v0 : Int := (((List.length l) : Nat) : Int)
 bif (v0 == (0 : Int)) then (K ([], ())) else ((Qg k l).bind fun t1 => (Qs.l0 k k (l, ((List.set (List.replicate 1 []) 0 t1.1), ()))).bind fun t4 => K (t4.1, ()))
def Qs (k : Nat) (l : (List (List Int))) : Option ((List (List (List Int))) × Unit) := Qs.c k l some
def Qs.tin : List Ty := [QcR]
def Qs.tout : List Ty := [QcP]
def Qs.sem (k : Nat) : Qp := Qt Qs.tin Qs.tout fun x => Qs k x.1
noncomputable def Qs.ctx (k : Nat) : Ctx := ⟨Tryz.prog, gam [(111, (Qg.sem k)), (112, (QD.sem k))]⟩
theorem Qs.gok (k : Nat) : ∀ f, Qh Tryz.prog f ((Qs.ctx k).Γ f) := (Qf (Qg.sem_ok k) (Qf (QD.sem_ok k) QO))
theorem Qs.l0.round (k : Nat) : Q0Q (Qs.ctx k) (Q08 (Func.code Tryz.f86) [1, 1, 1, 0, 0, 0]) (.nil) Qs.l0.T [.mask [0, 3], .auto 0] Qs.l0.os (Qs.l0.r k) := by
 intro ρ x kn ke; kernel_rfl
theorem Qs.l0.ok (k : Nat) : StOK 0 Tryz.prog (.loop (Q08 (Func.code Tryz.f86) [1, 1, 1, 0, 0, 0])) (Qr Qs.l0.T Qs.l0.os (Qs.l0 k k)) :=
 Q0R (C := Qs.ctx k) (Qs.gok k) Tryz.mix Q0.nil (by kernel_rfl) (by kernel_rfl) (by kernel_rfl) (Qs.l0.round k) k
def Qs.ann (k : Nat) : Ann := .node [] none (.nil) (.node [] none (.nil) (.node [] none (.nil) (.node [] none (.node [] none (.node [.mask [0, 3], .auto 0] (some (Qr Qs.l0.T Qs.l0.os (Qs.l0 k k))) .nil .nil) (.nil)) (.nil))))
theorem Qs.body (k : Nat) : Q0I (Qs.ctx k) Tryz.f86 (Func.code Tryz.f86) (Qs.ann k) Qs.tin Qs.tout (fun x K => Qs.c k x.1 K) := by
 intro ρ x K; kernel_rfl
theorem Qs.sem_ok (k : Nat) : Qh Tryz.prog 86 (Qs.sem k) :=
 Qv (C := Qs.ctx k) (Qs.gok k) Tryz.mix (c := Func.code Tryz.f86) (ann := Qs.ann k) (tin := Qs.tin) (tout := Qs.tout) (fun x K => Qs.c k x.1 K) Tryz.func86 (by kernel_rfl) (by kernel_rfl) (Q0.seq Q0.nil (Q0.seq Q0.nil (Q0.seq Q0.nil (Q0.seq (Q0.block (Q0.loop (by kernel_rfl) (Qs.l0.ok k))) Q0.nil)))) (Qs.body k)
abbrev Qn.l1.σ : Type := Bool × (List (List (List Int))) × (List (List Int)) × Int × (List (List (List Int))) × Int × Int × (List Int) × Unit
abbrev Qn.l1.τ : Type := (Bool × (List (List (List Int))) × (List (List (List Int))) × Int × Int × (List Int) × Unit)
def Qn.l1.r (k : Nat) {ρ : Type} (x : Qn.l1.σ) (kn : Qn.l1.σ → Option ρ) (ke : Qn.l1.τ → Option ρ) : Option ρ :=
 let v3 : Int := (IntKind.wrap IntKind.i64 (x.2.2.2.1 + (1 : Int)))
 let v4 : Int := (((List.length x.2.2.1) : Nat) : Int)
 bif (decide (v3 < v4)) then (bif x.1 then (let v5 : Int := (IntKind.wrap IntKind.i64 (x.2.2.2.1 + (2 : Int)))
 kn (true, (x.2.1, (x.2.2.1, (v5, (x.2.2.2.2.1, (x.2.2.2.2.2.1, (x.2.2.2.2.2.2.1, (x.2.2.2.2.2.2.2.1, ()))))))))) else (bif (decide (((0 : Int) ≤ x.2.2.2.1) ∧ (x.2.2.2.1 < (((List.length x.2.2.1) : Nat) : Int)))) then (let v6 : (List Int) := (List.getD x.2.2.1 (Int.toNat x.2.2.2.1) (List.replicate 32 (0 : Int)))
 let v7 : Int := (IntKind.wrap IntKind.i64 (x.2.2.2.1 + (1 : Int)))
 bif (decide (((0 : Int) ≤ v7) ∧ (v7 < (((List.length x.2.2.1) : Nat) : Int)))) then (let v8 : (List Int) := (List.getD x.2.2.1 (Int.toNat v7) (List.replicate 32 (0 : Int)))
 let v9 : Int := (IntKind.wrap IntKind.i64 (x.2.2.2.1 + (2 : Int)))
 kn ((decide (v6 = v8)), (x.2.1, (x.2.2.1, (v9, (x.2.2.2.2.1, (x.2.2.2.2.2.1, (x.2.2.2.2.2.2.1, (x.2.2.2.2.2.2.2.1, ()))))))))) else (none)) else (none))) else (ke (x.1, (x.2.1, (x.2.2.2.2.1, (x.2.2.2.2.2.1, (x.2.2.2.2.2.2.1, (x.2.2.2.2.2.2.2.1, ())))))))
def Qn.l1 (k : Nat) : Nat → Qn.l1.σ → Option Qn.l1.τ := Q12 (Qn.l1.r k)
def Qn.l1.T : StT := ⟨us 2 ++ .ptr 0 [] :: us 1 ++ .dat .bool :: .dat QcP :: us 1 ++ .dat QcR :: .dat (.int .i64) :: us 2 ++ .dat QcP :: .dat (.int .i64) :: .dat (.int .i64) :: us 37, [.dat QcT]⟩
def Qn.l1.os : List Out := [⟨(.exit 2), [.mask [2, 4, 5, 11, 12, 13], .auto 0], ⟨us 2 ++ .ptr 0 [] :: us 1 ++ .dat .bool :: .dat QcP :: us 5 ++ .dat QcP :: .dat (.int .i64) :: .dat (.int .i64) :: us 37, [.dat QcT]⟩⟩]
abbrev Qn.l0.σ : Type := Bool × (List (List (List Int))) × (List (List (List Int))) × Int × Int × (List Int) × Unit
abbrev Qn.l0.τ : Type := (Bool × (List (List (List Int))) × (List Int) × Unit)
def Qn.l0.r (k : Nat) {ρ : Type} (x : Qn.l0.σ) (kn : Qn.l0.σ → Option ρ) (ke : Qn.l0.τ → Option ρ) : Option ρ :=
 bif (decide (x.2.2.2.2.1 < x.2.2.2.1)) then (bif (decide (((0 : Int) ≤ x.2.2.2.2.1) ∧ (x.2.2.2.2.1 < (((List.length x.2.2.1) : Nat) : Int)))) then (let v2 : (List (List Int)) := (List.getD x.2.2.1 (Int.toNat x.2.2.2.2.1) [])
 (Qn.l1 k k (x.1, (x.2.1, (v2, ((0 : Int), (x.2.2.1, (x.2.2.2.1, (x.2.2.2.2.1, (x.2.2.2.2.2.1, ()))))))))).bind fun t10 => let v11 : Int := (IntKind.wrap IntKind.i64 (t10.2.2.2.2.1 + (1 : Int)))
 kn (t10.1, (t10.2.1, (t10.2.2.1, (t10.2.2.2.1, (v11, (t10.2.2.2.2.2.1, ()))))))) else (none)) else (ke (x.1, (x.2.1, (x.2.2.2.2.2.1, ()))))
def Qn.l0 (k : Nat) : Nat → Qn.l0.σ → Option Qn.l0.τ := Q12 (Qn.l0.r k)
def Qn.l0.T : StT := ⟨us 2 ++ .ptr 0 [] :: us 1 ++ .dat .bool :: .dat QcP :: us 5 ++ .dat QcP :: .dat (.int .i64) :: .dat (.int .i64) :: us 37, [.dat QcT]⟩
def Qn.l0.os : List Out := [⟨(.exit 0), [.mask [2, 4, 5], .auto 0], ⟨us 2 ++ .ptr 0 [] :: us 1 ++ .dat .bool :: .dat QcP :: us 45, [.dat QcT]⟩⟩]
def Qn.c (k : Nat) {ρ : Type} (l : (List (List Int))) (K : (List Int) × Bool × Unit → Option ρ) : Option ρ :=
 (Qs k l).bind fun t0 => let v1 : Int := (((List.length t0.1) : Nat) : Int)
 (Qn.l0 k k (false, (t0.1, (t0.1, (v1, ((0 : Int), ((List.replicate 32 (0 : Int)), ()))))))).bind fun t12 => let v13 : Int := (((List.length t12.2.1) : Nat) : Int)
 bif (v13 == (0 : Int)) then (let v14 : (List Int) := (List.replicate 32 (0 : Int))
 K (v14, (false, ()))) else (let v15 : Int := (((List.length t12.2.1) : Nat) : Int)
 let v16 : Int := (IntKind.wrap IntKind.i64 (v15 - (1 : Int)))
 bif (decide (((0 : Int) ≤ v16) ∧ (v16 < (((List.length t12.2.1) : Nat) : Int)))) then (let v17 : (List (List Int)) := (List.getD t12.2.1 (Int.toNat v16) [])
 bif (decide (((0 : Int) ≤ (0 : Int)) ∧ ((0 : Int) < (((List.length v17) : Nat) : Int)))) then (let v18 : (List Int) := (List.getD v17 0 (List.replicate 32 (0 : Int)))
 K (v18, (t12.1, ()))) else (none)) else (none))
def Qn (k : Nat) (l : (List (List Int))) : Option ((List Int) × Bool × Unit) := Qn.c k l some
def Qn.tin : List Ty := [QcR]
def Qn.tout : List Ty := [QcT, .bool]
def Qn.sem (k : Nat) : Qp := Qt Qn.tin Qn.tout fun x => Qn k x.1
noncomputable def Qn.ctx (k : Nat) : Ctx := ⟨Tryz.prog, gam [(86, (Qs.sem k))]⟩
theorem Qn.gok (k : Nat) : ∀ f, Qh Tryz.prog f ((Qn.ctx k).Γ f) := (Qf (Qs.sem_ok k) QO)
theorem Qn.l1.round (k : Nat) : Q0Q (Qn.ctx k) (Q08 (Func.code Tryz.f48) [1, 1, 1, 0, 1, 0, 0, 1, 1, 0, 0, 1, 1, 0, 0]) (.nil) Qn.l1.T [.mask [2, 4, 5, 7, 8, 11, 12, 13], .auto 0] Qn.l1.os (Qn.l1.r k) := by
 intro ρ x kn ke; kernel_rfl
theorem Qn.l1.ok (k : Nat) : StOK 0 Tryz.prog (.loop (Q08 (Func.code Tryz.f48) [1, 1, 1, 0, 1, 0, 0, 1, 1, 0, 0, 1, 1, 0, 0])) (Qr Qn.l1.T Qn.l1.os (Qn.l1 k k)) :=
 Q0R (C := Qn.ctx k) (Qn.gok k) Tryz.mix Q0.nil (by kernel_rfl) (by kernel_rfl) (by kernel_rfl) (Qn.l1.round k) k
theorem Qn.l0.round (k : Nat) : Q0Q (Qn.ctx k) (Q08 (Func.code Tryz.f48) [1, 1, 1, 0, 1, 0, 0]) (.node [] none (.nil) (.node [] none (.nil) (.node [] none (.node [] none (.node [] none (.nil) (.node [] none (.nil) (.node [] none (.node [.mask [2, 4, 5, 7, 8, 11, 12, 13], .auto 0] (some (Qr Qn.l1.T Qn.l1.os (Qn.l1 k k))) .nil .nil) (.nil)))) (.nil)) (.nil)))) Qn.l0.T [.mask [2, 4, 5, 11, 12, 13], .auto 0] Qn.l0.os (Qn.l0.r k) := by
 intro ρ x kn ke; kernel_rfl
theorem Qn.l0.ok (k : Nat) : StOK 0 Tryz.prog (.loop (Q08 (Func.code Tryz.f48) [1, 1, 1, 0, 1, 0, 0])) (Qr Qn.l0.T Qn.l0.os (Qn.l0 k k)) :=
 Q0R (C := Qn.ctx k) (Qn.gok k) Tryz.mix (Q0.seq Q0.nil (Q0.seq Q0.nil (Q0.seq (Q0.block (Q0.seq Q0.nil (Q0.seq Q0.nil (Q0.block (Q0.loop (by kernel_rfl) (Qn.l1.ok k)))))) Q0.nil))) (by kernel_rfl) (by kernel_rfl) (by kernel_rfl) (Qn.l0.round k) k
def Qn.ann (k : Nat) : Ann := .node [] none (.nil) (.node [] none (.nil) (.node [] none (.nil) (.node [] none (.node [] none (.nil) (.node [] none (.node [.mask [2, 4, 5, 11, 12, 13], .auto 0] (some (Qr Qn.l0.T Qn.l0.os (Qn.l0 k k))) .nil .nil) (.nil))) (.nil))))
theorem Qn.body (k : Nat) : Q0I (Qn.ctx k) Tryz.f48 (Func.code Tryz.f48) (Qn.ann k) Qn.tin Qn.tout (fun x K => Qn.c k x.1 K) := by
 intro ρ x K; kernel_rfl
theorem Qn.sem_ok (k : Nat) : Qh Tryz.prog 48 (Qn.sem k) :=
 Qv (C := Qn.ctx k) (Qn.gok k) Tryz.mix (c := Func.code Tryz.f48) (ann := Qn.ann k) (tin := Qn.tin) (tout := Qn.tout) (fun x K => Qn.c k x.1 K) Tryz.func48 (by kernel_rfl) (by kernel_rfl) (Q0.seq Q0.nil (Q0.seq Q0.nil (Q0.seq Q0.nil (Q0.seq (Q0.seq Q0.nil (Q0.block (Q0.loop (by kernel_rfl) (Qn.l0.ok k)))) Q0.nil)))) (Qn.body k)
abbrev Qx.l0.σ : Type := QcF × Int × Int × (List Int) × (List (List Int)) × Unit
abbrev Qx.l0.τ : Type := ((List Int) × (List (List Int)) × Unit)
def Qx.l0.r (k : Nat) {ρ : Type} (x : Qx.l0.σ) (kn : Qx.l0.σ → Option ρ) (ke : Qx.l0.τ → Option ρ) : Option ρ :=
 bif (decide (x.2.2.1 < x.2.1)) then (bif (decide (((0 : Int) ≤ x.2.2.1) ∧ (x.2.2.1 < (((List.length x.1) : Nat) : Int)))) then ((Q1f k ((List.getD x.1 (Int.toNat x.2.2.1) ((0 : Int), ([], ([], ((0 : Int), ()))))).1, ((List.getD x.1 (Int.toNat x.2.2.1) ((0 : Int), ([], ([], ((0 : Int), ()))))).2.1, ((List.getD x.1 (Int.toNat x.2.2.1) ((0 : Int), ([], ([], ((0 : Int), ()))))).2.2.1, ((List.getD x.1 (Int.toNat x.2.2.1) ((0 : Int), ([], ([], ((0 : Int), ()))))).2.2.2.1, ()))))).bind fun t2 => let v3 : (List Int) := t2.1
 let v4 : Int := t2.2.1
 bif (decide (((0 : Int) ≤ x.2.2.1) ∧ (x.2.2.1 < (((List.length x.2.2.2.2.1) : Nat) : Int)))) then (let v5 : Int := (IntKind.wrap IntKind.i64 (x.2.2.1 + (1 : Int)))
 kn (x.1, (x.2.1, (v5, (x.2.2.2.1, ((List.set x.2.2.2.2.1 (Int.toNat x.2.2.1) v3), ())))))) else (none)) else (none)) else (ke (x.2.2.2.1, (x.2.2.2.2.1, ())))
def Qx.l0 (k : Nat) : Nat → Qx.l0.σ → Option Qx.l0.τ := Q12 (Qx.l0.r k)
def Qx.l0.T : StT := ⟨us 2 ++ .ptr 0 [] :: us 1 ++ .vsl 1 :: us 5 ++ .dat Qcz :: .dat (.int .i64) :: .dat (.int .i64) :: us 17, [.dat QcT, .vec QcT]⟩
def Qx.l0.os : List Out := [⟨(.exit 0), [.mask [2, 4], .auto 0], ⟨us 2 ++ .ptr 0 [] :: us 1 ++ .vsl 1 :: us 25, [.dat QcT, .vec QcT]⟩⟩]
def Qx.c (k : Nat) {ρ : Type} (txs : QcF) (K : (List Int) × Bool × Unit → Option ρ) : Option ρ :=
 let v0 : Int := (((List.length txs) : Nat) : Int)
 bif ((decide (((0 : Int) ≤ v0) ∧ (v0 ≤ v0))) && (Nat.ble ((Int.toNat v0) * 32) 140737488355328)) then (let v1 : Int := (((List.length txs) : Nat) : Int)
 (Qx.l0 k k (txs, (v1, ((0 : Int), ((List.replicate 32 (0 : Int)), ((List.replicate (Int.toNat v0) (List.replicate 32 (0 : Int))), ())))))).bind fun t6 => (Qn k t6.2.1).bind fun t7 => let v8 : (List Int) := t7.1
 K (v8, (t7.2.1, ()))) else (none)
def Qx (k : Nat) (txs : QcF) : Option ((List Int) × Bool × Unit) := Qx.c k txs some
def Qx.tin : List Ty := [Qcz]
def Qx.tout : List Ty := [QcT, .bool]
def Qx.sem (k : Nat) : Qp := Qt Qx.tin Qx.tout fun x => Qx k x.1
noncomputable def Qx.ctx (k : Nat) : Ctx := ⟨Tryz.prog, gam [(47, (Q1f.sem k)), (48, (Qn.sem k))]⟩
theorem Qx.gok (k : Nat) : ∀ f, Qh Tryz.prog f ((Qx.ctx k).Γ f) := (Qf (Q1f.sem_ok k) (Qf (Qn.sem_ok k) QO))
theorem Qx.l0.round (k : Nat) : Q0Q (Qx.ctx k) (Q08 (Func.code Tryz.f23) [1, 1, 0, 1, 0, 0]) (.nil) Qx.l0.T [.mask [2, 4, 10, 11, 12], .auto 0] Qx.l0.os (Qx.l0.r k) := by
 intro ρ x kn ke; kernel_rfl
theorem Qx.l0.ok (k : Nat) : StOK 0 Tryz.prog (.loop (Q08 (Func.code Tryz.f23) [1, 1, 0, 1, 0, 0])) (Qr Qx.l0.T Qx.l0.os (Qx.l0 k k)) :=
 Q0R (C := Qx.ctx k) (Qx.gok k) Tryz.mix Q0.nil (by kernel_rfl) (by kernel_rfl) (by kernel_rfl) (Qx.l0.round k) k
def Qx.ann (k : Nat) : Ann := .node [] none (.nil) (.node [] none (.nil) (.node [] none (.node [] none (.nil) (.node [] none (.node [.mask [2, 4, 10, 11, 12], .auto 0] (some (Qr Qx.l0.T Qx.l0.os (Qx.l0 k k))) .nil .nil) (.nil))) (.nil)))
theorem Qx.body (k : Nat) : Q0I (Qx.ctx k) Tryz.f23 (Func.code Tryz.f23) (Qx.ann k) Qx.tin Qx.tout (fun x K => Qx.c k x.1 K) := by
 intro ρ x K; kernel_rfl
theorem Qx.sem_ok (k : Nat) : Qh Tryz.prog 23 (Qx.sem k) :=
 Qv (C := Qx.ctx k) (Qx.gok k) Tryz.mix (c := Func.code Tryz.f23) (ann := Qx.ann k) (tin := Qx.tin) (tout := Qx.tout) (fun x K => Qx.c k x.1 K) Tryz.func23 (by kernel_rfl) (by kernel_rfl) (Q0.seq Q0.nil (Q0.seq Q0.nil (Q0.seq (Q0.seq Q0.nil (Q0.block (Q0.loop (by kernel_rfl) (Qx.l0.ok k)))) Q0.nil))) (Qx.body k)
def Q0E.c (k : Nat) {ρ : Type} (t : QcG) (K : QcG × Unit → Option ρ) : Option ρ :=
 let v0 : QcK := t.2.1
 bif (Nat.ble ((List.length v0) * 64) 140737488355328) then (let v1 : QcO := t.2.2.1
 bif (Nat.ble ((List.length v1) * 24) 140737488355328) then (K ((t.1, (v0, (v1, (t.2.2.2.1, ())))), ())) else (none)) else (none)
def Q0E (k : Nat) (t : QcG) : Option QcE := Q0E.c k t some
def Q0E.tin : List Ty := [QcB]
def Q0E.tout : List Ty := [QcB]
def Q0E.sem (k : Nat) : Qp := Qt Q0E.tin Q0E.tout fun x => Q0E k x.1
noncomputable def Q0E.ctx (k : Nat) : Ctx := ⟨Tryz.prog, gam []⟩
theorem Q0E.gok (k : Nat) : ∀ f, Qh Tryz.prog f ((Q0E.ctx k).Γ f) := QO
def Q0E.ann (k : Nat) : Ann := .nil
theorem Q0E.body (k : Nat) : Q0I (Q0E.ctx k) Tryz.f107 (Func.code Tryz.f107) (Q0E.ann k) Q0E.tin Q0E.tout (fun x K => Q0E.c k x.1 K) := by
 intro ρ x K; kernel_rfl
theorem Q0E.sem_ok (k : Nat) : Qh Tryz.prog 107 (Q0E.sem k) :=
 Qv (C := Q0E.ctx k) (Q0E.gok k) Tryz.mix (c := Func.code Tryz.f107) (ann := Q0E.ann k) (tin := Q0E.tin) (tout := Q0E.tout) (fun x K => Q0E.c k x.1 K) Tryz.func107 (by kernel_rfl) (by kernel_rfl) Q0.nil (Q0E.body k)
abbrev QG.τ : Type := (Int × QcQ × (List Int) × Unit)
def QG.c (k : Nat) {ρ : Type} (b0 : QcQ) (b1 : (List Int)) (K : QG.τ → Option ρ) : Option ρ :=
 let v0 : Int := (((List.length b1) : Nat) : Int)
 K (v0, ((((), ((), ())), ()), (b1, ())))
def QG (k : Nat) (b0 : QcQ) (b1 : (List Int)) : Option QG.τ := QG.c k b0 b1 some
def QG.T : Q1a := ⟨[.ptr 0 [0]], [.pair (.pair (.sfp 0 [0] 130) (.pair (.vbs 1) (.dat .unit))) (.dat .unit), .vec (.int .u8)], 1⟩
def QG.os : List Out := [⟨.ret, [.freeze (.slot 0), .auto 1], ⟨[.dat (.int .i64)], [.pair (.pair (.sfp 0 [0] 130) (.pair (.vbs 1) (.dat .unit))) (.dat .unit), .vec (.int .u8)]⟩⟩]
def QG.sem (k : Nat) : Qp := Q1g QG.T QG.os fun x => QG k x.1 x.2.1
noncomputable def QG.ctx (k : Nat) : Ctx := ⟨Tryz.prog, gam []⟩
theorem QG.gok (k : Nat) : ∀ f, Qh Tryz.prog f ((QG.ctx k).Γ f) := QO
def QG.ann (k : Nat) : Ann := .nil
theorem QG.body (k : Nat) : Q1m (QG.ctx k) Tryz.f141 (Func.code Tryz.f141) (QG.ann k) QG.T QG.os (fun x K => QG.c k x.1 x.2.1 K) := by
 intro ρ x K; kernel_rfl
theorem QG.sem_ok (k : Nat) : Qh Tryz.prog 141 (QG.sem k) :=
 Q0S (C := QG.ctx k) (QG.gok k) Tryz.mix (c := Func.code Tryz.f141) (ann := QG.ann k) (T := QG.T) (os := QG.os) (fun x K => QG.c k x.1 x.2.1 K) Tryz.func141 (by kernel_rfl) (by kernel_rfl) Q0.nil (QG.body k) (by kernel_rfl) (by kernel_rfl) (by kernel_rfl)
abbrev Q0i.τ : Type := (Int × QcQ × (List Int) × Unit)
def Q0i.c (k : Nat) {ρ : Type} (b0 : QcQ) (b1 : (List Int)) (K : Q0i.τ → Option ρ) : Option ρ :=
 (QG k (((), ((), ())), ()) b1).bind fun t0 => K (t0.1, ((((), ((), ())), ()), (t0.2.2.1, ())))
def Q0i (k : Nat) (b0 : QcQ) (b1 : (List Int)) : Option Q0i.τ := Q0i.c k b0 b1 some
def Q0i.T : Q1a := ⟨[.ptr 0 []], [.pair (.pair (.sfp 0 [0] 130) (.pair (.vbs 1) (.dat .unit))) (.dat .unit), .vec (.int .u8)], 1⟩
def Q0i.os : List Out := [⟨.ret, [.freeze (.slot 0), .auto 1], ⟨[.dat (.int .i64)], [.pair (.pair (.sfp 0 [0] 130) (.pair (.vbs 1) (.dat .unit))) (.dat .unit), .vec (.int .u8)]⟩⟩]
def Q0i.sem (k : Nat) : Qp := Q1g Q0i.T Q0i.os fun x => Q0i k x.1 x.2.1
noncomputable def Q0i.ctx (k : Nat) : Ctx := ⟨Tryz.prog, gam [(141, (QG.sem k))]⟩
theorem Q0i.gok (k : Nat) : ∀ f, Qh Tryz.prog f ((Q0i.ctx k).Γ f) := (Qf (QG.sem_ok k) QO)
def Q0i.ann (k : Nat) : Ann := .nil
theorem Q0i.body (k : Nat) : Q1m (Q0i.ctx k) Tryz.f129 (Func.code Tryz.f129) (Q0i.ann k) Q0i.T Q0i.os (fun x K => Q0i.c k x.1 x.2.1 K) := by
 intro ρ x K; kernel_rfl
theorem Q0i.sem_ok (k : Nat) : Qh Tryz.prog 129 (Q0i.sem k) :=
 Q0S (C := Q0i.ctx k) (Q0i.gok k) Tryz.mix (c := Func.code Tryz.f129) (ann := Q0i.ann k) (T := Q0i.T) (os := Q0i.os) (fun x K => Q0i.c k x.1 x.2.1 K) Tryz.func129 (by kernel_rfl) (by kernel_rfl) Q0.nil (Q0i.body k) (by kernel_rfl) (by kernel_rfl) (by kernel_rfl)
abbrev QB.l0.σ : Type := QcF × Int × Int × QcQ × (List Int) × Unit
abbrev QB.l0.τ : Type := QcS ⊕ QcL 
def QB.l0.r (k : Nat) {ρ : Type} (x : QB.l0.σ) (kn : QB.l0.σ → Option ρ) (ke : QB.l0.τ → Option ρ) : Option ρ :=
 bif (decide (x.2.2.1 < x.2.1)) then (bif (decide (((0 : Int) ≤ x.2.2.1) ∧ (x.2.2.1 < (((List.length x.1) : Nat) : Int)))) then ((Qd k ((List.getD x.1 (Int.toNat x.2.2.1) ((0 : Int), ([], ([], ((0 : Int), ()))))).1, ((List.getD x.1 (Int.toNat x.2.2.1) ((0 : Int), ([], ([], ((0 : Int), ()))))).2.1, ((List.getD x.1 (Int.toNat x.2.2.1) ((0 : Int), ([], ([], ((0 : Int), ()))))).2.2.1, ((List.getD x.1 (Int.toNat x.2.2.1) ((0 : Int), ([], ([], ((0 : Int), ()))))).2.2.2.1, ()))))).bind fun t8 => let v9 : ByteArray := t8.1
 let v10 : Int := t8.2.1
 bif (v10 != (0 : Int)) then (ke (.inl ((⟨(List.toArray [])⟩ : ByteArray), (v10, ())))) else ((Qq k v9 (((), ((), ())), ()) x.2.2.2.2.1).bind fun t11 => let v12 : Int := (IntKind.wrap IntKind.i64 (x.2.2.1 + (1 : Int)))
 kn (x.1, (x.2.1, (v12, ((((), ((), ())), ()), (t11.2.1, ()))))))) else (none)) else (ke (.inr ((((), ((), ())), ()), (x.2.2.2.2.1, ()))))
def QB.l0 (k : Nat) : Nat → QB.l0.σ → Option QB.l0.τ := Q12 (QB.l0.r k)
def QB.l0.T : StT := ⟨us 4 ++ .ptr 0 [] :: us 17 ++ .dat Qcz :: .dat (.int .i64) :: .dat (.int .i64) :: us 20, [.pair (.pair (.sfp 0 [0] 130) (.pair (.vbs 1) (.dat .unit))) (.dat .unit), .vec (.int .u8)]⟩
def QB.l0.os : List Out := [⟨.ret, [.mask [2, 3], .auto 0], ⟨us 2 ++ .dat .str :: .dat (.int .i64) :: us 41, []⟩⟩, ⟨(.exit 0), [.mask [4], .auto 0], ⟨us 4 ++ .ptr 0 [] :: us 40, [.pair (.pair (.sfp 0 [0] 130) (.pair (.vbs 1) (.dat .unit))) (.dat .unit), .vec (.int .u8)]⟩⟩]
def QB.c (k : Nat) {ρ : Type} (b : QcA) (K : ByteArray × Int × Unit → Option ρ) : Option ρ :=
  (Q07 k ).bind fun t0 => (Q0N k (b.1.1, (b.1.2.1, (b.1.2.2.1, (b.1.2.2.2.1, (b.1.2.2.2.2.1, (b.1.2.2.2.2.2.1, ()))))))).bind fun t1 => (Qq k t1.1 (((), ((), ())), ()) t0.2.1).bind fun t2 => let v3 : QcF := b.2.1
  let v4 : Int := (((List.length v3) : Nat) : Int)
  (QI k (IntKind.wrap IntKind.u64 v4) (((), ((), ())), ()) t2.2.1).bind fun t5 => let v6 : QcF := b.2.1
  let v7 : Int := (((List.length v6) : Nat) : Int)
  (QB.l0 k k (v6, (v7, ((0 : Int), ((((), ((), ())), ()), (t5.2.1, ())))))).bind fun t13 => (match t13 with
 | .inl t14 => (K (t14.1, (t14.2.1, ())))
 | .inr (t15) => ((Q0i k (((), ((), ())), ()) t15.2.1).bind fun t16 => bif (decide (t16.1 > (8192 : Int))) then (K ((⟨(List.toArray [])⟩ : ByteArray), ((110 : Int), ()))) else ((QK k (((), ((), ())), ()) t16.2.2.1).bind fun t17 => K (t17.1, ((0 : Int), ())))))
def QB (k : Nat) (b : QcA) : Option QcS := QB.c k b some
def QB.tin : List Ty := [Qcy]
def QB.tout : List Ty := [.str, (.int .i64)]
def QB.sem (k : Nat) : Qp := Qt QB.tin QB.tout fun x => QB k x.1
noncomputable def QB.ctx (k : Nat) : Ctx := ⟨Tryz.prog, gam [(30, (Q07.sem k)), (44, (Q0N.sem k)), (46, (Qq.sem k)), (33, (QI.sem k)), (85, (Qd.sem k)), (129, (Q0i.sem k)), (35, (QK.sem k))]⟩
theorem QB.gok (k : Nat) : ∀ f, Qh Tryz.prog f ((QB.ctx k).Γ f) := (Qf (Q07.sem_ok k) (Qf (Q0N.sem_ok k) (Qf (Qq.sem_ok k) (Qf (QI.sem_ok k) (Qf (Qd.sem_ok k) (Qf (Q0i.sem_ok k) (Qf (QK.sem_ok k) QO)))))))
theorem QB.l0.round (k : Nat) : Q0Q (QB.ctx k) (Q08 (Func.code Tryz.f108) [1, 1, 1, 1, 0, 1, 0, 0]) (.nil) QB.l0.T [.mask [4, 22, 23, 24], .auto 0] QB.l0.os (QB.l0.r k) := by
 intro ρ x kn ke; kernel_rfl
theorem QB.l0.ok (k : Nat) : StOK 0 Tryz.prog (.loop (Q08 (Func.code Tryz.f108) [1, 1, 1, 1, 0, 1, 0, 0])) (Qr QB.l0.T QB.l0.os (QB.l0 k k)) :=
 Q0R (C := QB.ctx k) (QB.gok k) Tryz.mix Q0.nil (by kernel_rfl) (by kernel_rfl) (by kernel_rfl) (QB.l0.round k) k
def QB.ann (k : Nat) : Ann := .node [] none (.nil) (.node [] none (.nil) (.node [] none (.nil) (.node [] none (.nil) (.node [] none (.node [] none (.nil) (.node [] none (.node [.mask [4, 22, 23, 24], .auto 0] (some (Qr QB.l0.T QB.l0.os (QB.l0 k k))) .nil .nil) (.nil))) (.nil)))))
theorem QB.body (k : Nat) : Q0I (QB.ctx k) Tryz.f108 (Func.code Tryz.f108) (QB.ann k) QB.tin QB.tout (fun x K => QB.c k x.1 K) := by
 intro ρ x K; kernel_rfl
theorem QB.sem_ok (k : Nat) : Qh Tryz.prog 108 (QB.sem k) :=
 Qv (C := QB.ctx k) (QB.gok k) Tryz.mix (c := Func.code Tryz.f108) (ann := QB.ann k) (tin := QB.tin) (tout := QB.tout) (fun x K => QB.c k x.1 K) Tryz.func108 (by kernel_rfl) (by kernel_rfl) (Q0.seq Q0.nil (Q0.seq Q0.nil (Q0.seq Q0.nil (Q0.seq Q0.nil (Q0.seq (Q0.seq Q0.nil (Q0.block (Q0.loop (by kernel_rfl) (QB.l0.ok k)))) Q0.nil))))) (QB.body k)
def Q0V.c (k : Nat) {ρ : Type} (n : Int) (K : (List Int) × Unit → Option ρ) : Option ρ :=
 let v0 : (List Int) := (List.set (List.replicate 4 (0 : Int)) 0 n)
 K (v0, ())
def Q0V (k : Nat) (n : Int) : Option QcV := Q0V.c k n some
def Q0V.tin : List Ty := [(.int .u64)]
def Q0V.tout : List Ty := [QcU]
def Q0V.sem (k : Nat) : Qp := Qt Q0V.tin Q0V.tout fun x => Q0V k x.1
noncomputable def Q0V.ctx (k : Nat) : Ctx := ⟨Tryz.prog, gam []⟩
theorem Q0V.gok (k : Nat) : ∀ f, Qh Tryz.prog f ((Q0V.ctx k).Γ f) := QO
def Q0V.ann (k : Nat) : Ann := .nil
theorem Q0V.body (k : Nat) : Q0I (Q0V.ctx k) Tryz.f153 (Func.code Tryz.f153) (Q0V.ann k) Q0V.tin Q0V.tout (fun x K => Q0V.c k x.1 K) := by
 intro ρ x K; kernel_rfl
theorem Q0V.sem_ok (k : Nat) : Qh Tryz.prog 153 (Q0V.sem k) :=
 Qv (C := Q0V.ctx k) (Q0V.gok k) Tryz.mix (c := Func.code Tryz.f153) (ann := Q0V.ann k) (tin := Q0V.tin) (tout := Q0V.tout) (fun x K => Q0V.c k x.1 K) Tryz.func153 (by kernel_rfl) (by kernel_rfl) Q0.nil (Q0V.body k)
def Q1b (k : Nat) (a0 : (List Int)) (a1 : Int) : Option QcV := none
def Q1b.tin : List Ty := [QcU, (.int .i64)]
def Q1b.tout : List Ty := [QcU]
def Q1b.sem (k : Nat) : Qp := Qt Q1b.tin Q1b.tout fun x => Q1b k x.1 x.2.1
theorem Q1b.sem_ok (k : Nat) : Qh Tryz.prog 157 (Q1b.sem k) := Q90 fun _ => rfl
def Q0P.c (k : Nat) {ρ : Type} (a : (List Int)) (K : Bool × Unit → Option ρ) : Option ρ :=
 let v0 : (List Int) := (List.replicate 4 (0 : Int))
 K ((decide (a = v0)), ())
def Q0P (k : Nat) (a : (List Int)) : Option (Bool × Unit) := Q0P.c k a some
def Q0P.tin : List Ty := [QcU]
def Q0P.tout : List Ty := [.bool]
def Q0P.sem (k : Nat) : Qp := Qt Q0P.tin Q0P.tout fun x => Q0P k x.1
noncomputable def Q0P.ctx (k : Nat) : Ctx := ⟨Tryz.prog, gam []⟩
theorem Q0P.gok (k : Nat) : ∀ f, Qh Tryz.prog f ((Q0P.ctx k).Γ f) := QO
def Q0P.ann (k : Nat) : Ann := .nil
theorem Q0P.body (k : Nat) : Q0I (Q0P.ctx k) Tryz.f149 (Func.code Tryz.f149) (Q0P.ann k) Q0P.tin Q0P.tout (fun x K => Q0P.c k x.1 K) := by
 intro ρ x K; kernel_rfl
theorem Q0P.sem_ok (k : Nat) : Qh Tryz.prog 149 (Q0P.sem k) :=
 Qv (C := Q0P.ctx k) (Q0P.gok k) Tryz.mix (c := Func.code Tryz.f149) (ann := Q0P.ann k) (tin := Q0P.tin) (tout := Q0P.tout) (fun x K => Q0P.c k x.1 K) Tryz.func149 (by kernel_rfl) (by kernel_rfl) Q0.nil (Q0P.body k)
abbrev Qa.p0.σ : Type := Int × Int × Unit
abbrev Qa.p0.τ : Type := (Int × Int × Unit)
def Qa.p0.r (k : Nat) {ρ : Type} (x : Qa.p0.σ) (K : Qa.p0.τ → Option ρ) : Option ρ :=
 bif (decide (x.1 ≥ (4294967296 : Int))) then (let v0 : Int := (Q1P IntKind.u64 x.1 (32 : Int))
 K (v0, ((32 : Int), ()))) else (K (x.1, (x.2.1, ())))
def Qa.p0 (k : Nat) (x : Qa.p0.σ) : Option Qa.p0.τ := Qa.p0.r k x some
def Qa.p0.T : StT := ⟨.dat (.int .u64) :: us 1 ++ .dat (.int .i64) :: us 22, []⟩
def Qa.p0.os : List Out := [⟨.normal, [.mask [0, 2], .auto 0], ⟨.dat (.int .u64) :: us 1 ++ .dat (.int .i64) :: us 22, []⟩⟩]
abbrev Qa.p1.σ : Type := Int × Int × Unit
abbrev Qa.p1.τ : Type := (Int × Int × Unit)
def Qa.p1.r (k : Nat) {ρ : Type} (x : Qa.p1.σ) (K : Qa.p1.τ → Option ρ) : Option ρ :=
 bif (decide (x.1 ≥ (65536 : Int))) then (let v2 : Int := (Q1P IntKind.u64 x.1 (16 : Int))
 let v3 : Int := (IntKind.wrap IntKind.i64 (x.2.1 + (16 : Int)))
 K (v2, (v3, ()))) else (K (x.1, (x.2.1, ())))
def Qa.p1 (k : Nat) (x : Qa.p1.σ) : Option Qa.p1.τ := Qa.p1.r k x some
def Qa.p1.T : StT := ⟨.dat (.int .u64) :: us 1 ++ .dat (.int .i64) :: us 22, []⟩
def Qa.p1.os : List Out := [⟨.normal, [.mask [0, 2], .auto 0], ⟨.dat (.int .u64) :: us 1 ++ .dat (.int .i64) :: us 22, []⟩⟩]
def Qa.c (k : Nat) {ρ : Type} (x_0 : Int) (K : Int × Unit → Option ρ) : Option ρ :=
 (Qa.p0 k (x_0, ((0 : Int), ()))).bind fun t1 => (Qa.p1 k (t1.1, (t1.2.1, ()))).bind fun t4 => bif (decide (t4.1 ≥ (256 : Int))) then (let v5 : Int := (Q1P IntKind.u64 t4.1 (8 : Int))
 let v6 : Int := (IntKind.wrap IntKind.i64 (t4.2.1 + (8 : Int)))
 bif (decide (((0 : Int) ≤ (IntKind.wrap IntKind.u8 v5)) ∧ ((IntKind.wrap IntKind.u8 v5) < ((256 : Nat) : Int)))) then (let v7 : Int := (Q63 (⟨(List.toArray (List.append (List.append [0, 1, 2, 2, 3, 3, 3, 3, 4, 4, 4, 4, 4, 4, 4, 4, 5, 5, 5, 5, 5, 5, 5, 5, 5, 5, 5, 5, 5, 5, 5, 5, 6, 6, 6, 6, 6, 6, 6, 6, 6, 6, 6, 6, 6, 6, 6, 6, 6, 6, 6, 6, 6, 6, 6, 6, 6, 6, 6, 6, 6, 6, 6, 6] [7, 7, 7, 7, 7, 7, 7, 7, 7, 7, 7, 7, 7, 7, 7, 7, 7, 7, 7, 7, 7, 7, 7, 7, 7, 7, 7, 7, 7, 7, 7, 7, 7, 7, 7, 7, 7, 7, 7, 7, 7, 7, 7, 7, 7, 7, 7, 7, 7, 7, 7, 7, 7, 7, 7, 7, 7, 7, 7, 7, 7, 7, 7, 7]) (List.append [8, 8, 8, 8, 8, 8, 8, 8, 8, 8, 8, 8, 8, 8, 8, 8, 8, 8, 8, 8, 8, 8, 8, 8, 8, 8, 8, 8, 8, 8, 8, 8, 8, 8, 8, 8, 8, 8, 8, 8, 8, 8, 8, 8, 8, 8, 8, 8, 8, 8, 8, 8, 8, 8, 8, 8, 8, 8, 8, 8, 8, 8, 8, 8] [8, 8, 8, 8, 8, 8, 8, 8, 8, 8, 8, 8, 8, 8, 8, 8, 8, 8, 8, 8, 8, 8, 8, 8, 8, 8, 8, 8, 8, 8, 8, 8, 8, 8, 8, 8, 8, 8, 8, 8, 8, 8, 8, 8, 8, 8, 8, 8, 8, 8, 8, 8, 8, 8, 8, 8, 8, 8, 8, 8, 8, 8, 8, 8])))⟩ : ByteArray) (Int.toNat (IntKind.wrap IntKind.u8 v5)))
 let v8 : Int := (IntKind.wrap IntKind.i64 (v6 + (IntKind.wrap IntKind.i64 v7)))
 K (v8, ())) else (none)) else (let v9 : Int := (IntKind.wrap IntKind.u8 t4.1)
 bif (decide (((0 : Int) ≤ v9) ∧ (v9 < ((256 : Nat) : Int)))) then (let v10 : Int := (Q63 (⟨(List.toArray (List.append (List.append [0, 1, 2, 2, 3, 3, 3, 3, 4, 4, 4, 4, 4, 4, 4, 4, 5, 5, 5, 5, 5, 5, 5, 5, 5, 5, 5, 5, 5, 5, 5, 5, 6, 6, 6, 6, 6, 6, 6, 6, 6, 6, 6, 6, 6, 6, 6, 6, 6, 6, 6, 6, 6, 6, 6, 6, 6, 6, 6, 6, 6, 6, 6, 6] [7, 7, 7, 7, 7, 7, 7, 7, 7, 7, 7, 7, 7, 7, 7, 7, 7, 7, 7, 7, 7, 7, 7, 7, 7, 7, 7, 7, 7, 7, 7, 7, 7, 7, 7, 7, 7, 7, 7, 7, 7, 7, 7, 7, 7, 7, 7, 7, 7, 7, 7, 7, 7, 7, 7, 7, 7, 7, 7, 7, 7, 7, 7, 7]) (List.append [8, 8, 8, 8, 8, 8, 8, 8, 8, 8, 8, 8, 8, 8, 8, 8, 8, 8, 8, 8, 8, 8, 8, 8, 8, 8, 8, 8, 8, 8, 8, 8, 8, 8, 8, 8, 8, 8, 8, 8, 8, 8, 8, 8, 8, 8, 8, 8, 8, 8, 8, 8, 8, 8, 8, 8, 8, 8, 8, 8, 8, 8, 8, 8] [8, 8, 8, 8, 8, 8, 8, 8, 8, 8, 8, 8, 8, 8, 8, 8, 8, 8, 8, 8, 8, 8, 8, 8, 8, 8, 8, 8, 8, 8, 8, 8, 8, 8, 8, 8, 8, 8, 8, 8, 8, 8, 8, 8, 8, 8, 8, 8, 8, 8, 8, 8, 8, 8, 8, 8, 8, 8, 8, 8, 8, 8, 8, 8])))⟩ : ByteArray) (Int.toNat v9))
 let v11 : Int := (IntKind.wrap IntKind.i64 (t4.2.1 + (IntKind.wrap IntKind.i64 v10)))
 K (v11, ())) else (none))
def Qa (k : Nat) (x_0 : Int) : Option (Int × Unit) := Qa.c k x_0 some
def Qa.tin : List Ty := [(.int .u64)]
def Qa.tout : List Ty := [(.int .i64)]
def Qa.sem (k : Nat) : Qp := Qt Qa.tin Qa.tout fun x => Qa k x.1
noncomputable def Qa.ctx (k : Nat) : Ctx := ⟨Tryz.prog, gam []⟩
theorem Qa.gok (k : Nat) : ∀ f, Qh Tryz.prog f ((Qa.ctx k).Γ f) := QO
theorem Qa.p1.is (k : Nat) : Q3g (Qa.ctx k) (Q08 (Func.code Tryz.f122) [1, 1, 0]) (.nil) Qa.p1.T Qa.p1.os (Qa.p1.r k) := by
 intro ρ x K; kernel_rfl
theorem Qa.p1.ok (k : Nat) : StOK 0 Tryz.prog (Q08 (Func.code Tryz.f122) [1, 1, 0]) (Qr Qa.p1.T Qa.p1.os (Qa.p1 k)) :=
 Q2U (C := Qa.ctx k) (T := Qa.p1.T) (os := Qa.p1.os) (Qa.gok k) Tryz.mix (fun x K => Qa.p1.r k x K) Q0.nil (by kernel_rfl) (by kernel_rfl) (Qa.p1.is k)
theorem Qa.p0.is (k : Nat) : Q3g (Qa.ctx k) (Q08 (Func.code Tryz.f122) [1, 0]) (.nil) Qa.p0.T Qa.p0.os (Qa.p0.r k) := by
 intro ρ x K; kernel_rfl
theorem Qa.p0.ok (k : Nat) : StOK 0 Tryz.prog (Q08 (Func.code Tryz.f122) [1, 0]) (Qr Qa.p0.T Qa.p0.os (Qa.p0 k)) :=
 Q2U (C := Qa.ctx k) (T := Qa.p0.T) (os := Qa.p0.os) (Qa.gok k) Tryz.mix (fun x K => Qa.p0.r k x K) Q0.nil (by kernel_rfl) (by kernel_rfl) (Qa.p0.is k)
def Qa.ann (k : Nat) : Ann := .node [] none (.nil) (.node [] none (.node [] (some (Qr Qa.p0.T Qa.p0.os (Qa.p0 k))) .nil .nil) (.node [] none (.node [] (some (Qr Qa.p1.T Qa.p1.os (Qa.p1 k))) .nil .nil) (.nil)))
theorem Qa.body (k : Nat) : Q0I (Qa.ctx k) Tryz.f122 (Func.code Tryz.f122) (Qa.ann k) Qa.tin Qa.tout (fun x K => Qa.c k x.1 K) := by
 intro ρ x K; kernel_rfl
theorem Qa.sem_ok (k : Nat) : Qh Tryz.prog 122 (Qa.sem k) :=
 Qv (C := Qa.ctx k) (Qa.gok k) Tryz.mix (c := Func.code Tryz.f122) (ann := Qa.ann k) (tin := Qa.tin) (tout := Qa.tout) (fun x K => Qa.c k x.1 K) Tryz.func122 (by kernel_rfl) (by kernel_rfl) (Q0.seq Q0.nil (Q0.seq (Q0.loop (by kernel_rfl) (Qa.p0.ok k)) (Q0.seq (Q0.loop (by kernel_rfl) (Qa.p1.ok k)) Q0.nil))) (Qa.body k)
abbrev Q0f.l0.σ : Type := Int × (List Int) × Unit
abbrev Q0f.l0.τ : Type := (Int × Unit) ⊕ (Unit)
def Q0f.l0.r (k : Nat) {ρ : Type} (x : Q0f.l0.σ) (kn : Q0f.l0.σ → Option ρ) (ke : Q0f.l0.τ → Option ρ) : Option ρ :=
 bif (decide (x.1 ≥ (0 : Int))) then (bif (decide (((0 : Int) ≤ x.1) ∧ (x.1 < ((4 : Nat) : Int)))) then (let v0 : Int := (List.getD x.2.1 (Int.toNat x.1) (0 : Int))
 bif (v0 != (0 : Int)) then (let v1 : Int := (IntKind.wrap IntKind.i64 (x.1 * (64 : Int)))
 bif (decide (((0 : Int) ≤ x.1) ∧ (x.1 < ((4 : Nat) : Int)))) then (let v2 : Int := (List.getD x.2.1 (Int.toNat x.1) (0 : Int))
 (Qa k v2).bind fun t3 => let v4 : Int := (IntKind.wrap IntKind.i64 (v1 + t3.1))
 ke (.inl (v4, ()))) else (none)) else (let v5 : Int := (IntKind.wrap IntKind.i64 (x.1 - (1 : Int)))
 kn (v5, (x.2.1, ())))) else (none)) else (ke (.inr ()))
def Q0f.l0 (k : Nat) : Nat → Q0f.l0.σ → Option Q0f.l0.τ := Q12 (Q0f.l0.r k)
def Q0f.l0.T : StT := ⟨us 1 ++ .ptr 0 [] :: us 1 ++ .dat (.int .i64) :: us 15, [.dat QcU]⟩
def Q0f.l0.os : List Out := [⟨.ret, [.mask [2], .auto 0], ⟨us 2 ++ .dat (.int .i64) :: us 16, []⟩⟩, ⟨(.exit 0), [.mask [], .auto 0], ⟨us 19, []⟩⟩]
def Q0f.c (k : Nat) {ρ : Type} (a : (List Int)) (K : Int × Unit → Option ρ) : Option ρ :=
  (Q0f.l0 k k ((3 : Int), (a, ()))).bind fun t6 => (match t6 with
 | .inl t7 => (K (t7.1, ()))
 | .inr (t8) => (K ((0 : Int), ())))
def Q0f (k : Nat) (a : (List Int)) : Option (Int × Unit) := Q0f.c k a some
def Q0f.tin : List Ty := [QcU]
def Q0f.tout : List Ty := [(.int .i64)]
def Q0f.sem (k : Nat) : Qp := Qt Q0f.tin Q0f.tout fun x => Q0f k x.1
noncomputable def Q0f.ctx (k : Nat) : Ctx := ⟨Tryz.prog, gam [(122, (Qa.sem k))]⟩
theorem Q0f.gok (k : Nat) : ∀ f, Qh Tryz.prog f ((Q0f.ctx k).Γ f) := (Qf (Qa.sem_ok k) QO)
theorem Q0f.l0.round (k : Nat) : Q0Q (Q0f.ctx k) (Q08 (Func.code Tryz.f155) [1, 0, 1, 0, 0]) (.nil) Q0f.l0.T [.mask [1, 3], .auto 0] Q0f.l0.os (Q0f.l0.r k) := by
 intro ρ x kn ke; kernel_rfl
theorem Q0f.l0.ok (k : Nat) : StOK 0 Tryz.prog (.loop (Q08 (Func.code Tryz.f155) [1, 0, 1, 0, 0])) (Qr Q0f.l0.T Q0f.l0.os (Q0f.l0 k k)) :=
 Q0R (C := Q0f.ctx k) (Q0f.gok k) Tryz.mix Q0.nil (by kernel_rfl) (by kernel_rfl) (by kernel_rfl) (Q0f.l0.round k) k
def Q0f.ann (k : Nat) : Ann := .node [] none (.nil) (.node [] none (.node [] none (.nil) (.node [] none (.node [.mask [1, 3], .auto 0] (some (Qr Q0f.l0.T Q0f.l0.os (Q0f.l0 k k))) .nil .nil) (.nil))) (.nil))
theorem Q0f.body (k : Nat) : Q0I (Q0f.ctx k) Tryz.f155 (Func.code Tryz.f155) (Q0f.ann k) Q0f.tin Q0f.tout (fun x K => Q0f.c k x.1 K) := by
 intro ρ x K; kernel_rfl
theorem Q0f.sem_ok (k : Nat) : Qh Tryz.prog 155 (Q0f.sem k) :=
 Qv (C := Q0f.ctx k) (Q0f.gok k) Tryz.mix (c := Func.code Tryz.f155) (ann := Q0f.ann k) (tin := Q0f.tin) (tout := Q0f.tout) (fun x K => Q0f.c k x.1 K) Tryz.func155 (by kernel_rfl) (by kernel_rfl) (Q0.seq Q0.nil (Q0.seq (Q0.seq Q0.nil (Q0.block (Q0.loop (by kernel_rfl) (Q0f.l0.ok k)))) Q0.nil)) (Q0f.body k)
abbrev Q0e.l0.σ : Type := Int × Int × (List Int) × (List Int) × (List Int) × Unit
abbrev Q0e.l0.τ : Type := (Int × (List Int) × (List Int) × (List Int) × Unit)
def Q0e.l0.r (k : Nat) {ρ : Type} (x : Q0e.l0.σ) (kn : Q0e.l0.σ → Option ρ) (ke : Q0e.l0.τ → Option ρ) : Option ρ :=
 let v5 : Int := (IntKind.wrap IntKind.i64 (Int.tdiv x.1 (64 : Int)))
 bif (decide (x.2.1 ≥ v5)) then (let v6 : Int := (IntKind.wrap IntKind.i64 (Int.tdiv x.1 (64 : Int)))
 let v7 : Int := (IntKind.wrap IntKind.i64 (x.2.1 - v6))
 bif (decide (((0 : Int) ≤ v7) ∧ (v7 < ((4 : Nat) : Int)))) then (let v8 : Int := (List.getD x.2.2.1 (Int.toNat v7) (0 : Int))
 let v9 : Int := (Int.tmod x.1 (64 : Int))
 bif (decide ((0 : Int) ≤ v9)) then (bif (decide (((0 : Int) ≤ x.2.1) ∧ (x.2.1 < ((4 : Nat) : Int)))) then (bif (decide (v7 > (0 : Int))) then (bif (decide (((0 : Int) ≤ x.2.1) ∧ (x.2.1 < ((4 : Nat) : Int)))) then (let v10 : Int := (List.getD (List.set x.2.2.2.2.1 (Int.toNat x.2.1) (Q31 IntKind.u64 v8 v9)) (Int.toNat x.2.1) (0 : Int))
 let v11 : Int := (IntKind.wrap IntKind.i64 (v7 - (1 : Int)))
 bif (decide (((0 : Int) ≤ v11) ∧ (v11 < ((4 : Nat) : Int)))) then (let v12 : Int := (List.getD x.2.2.1 (Int.toNat v11) (0 : Int))
 let v13 : Int := (Int.tmod x.1 (64 : Int))
 let v14 : Int := (IntKind.wrap IntKind.i64 ((64 : Int) - v13))
 bif (decide ((0 : Int) ≤ v14)) then (let v15 : Int := (Q0Z BinOp.or IntKind.u64 v10 (Q1P IntKind.u64 v12 v14))
 bif (decide (((0 : Int) ≤ x.2.1) ∧ (x.2.1 < ((4 : Nat) : Int)))) then (let v16 : Int := (IntKind.wrap IntKind.i64 (x.2.1 - (1 : Int)))
 kn (x.1, (v16, (x.2.2.1, (x.2.2.2.1, ((List.set (List.set x.2.2.2.2.1 (Int.toNat x.2.1) (Q31 IntKind.u64 v8 v9)) (Int.toNat x.2.1) v15), ())))))) else (none)) else (none)) else (none)) else (none)) else (let v17 : Int := (IntKind.wrap IntKind.i64 (x.2.1 - (1 : Int)))
 kn (x.1, (v17, (x.2.2.1, (x.2.2.2.1, ((List.set x.2.2.2.2.1 (Int.toNat x.2.1) (Q31 IntKind.u64 v8 v9)), ()))))))) else (none)) else (none)) else (none)) else (ke (x.1, (x.2.2.1, (x.2.2.2.1, (x.2.2.2.2.1, ())))))
def Q0e.l0 (k : Nat) : Nat → Q0e.l0.σ → Option Q0e.l0.τ := Q12 (Q0e.l0.r k)
def Q0e.l0.T : StT := ⟨us 1 ++ .dat (.int .i64) :: .ptr 0 [] :: us 1 ++ .ptr 1 [] :: us 1 ++ .ptr 2 [] :: .dat (.int .i64) :: us 55, [.dat QcU, .dat QcU, .dat QcU]⟩
def Q0e.l0.os : List Out := [⟨(.exit 1), [.mask [1, 2, 4, 6], .auto 0], ⟨us 1 ++ .dat (.int .i64) :: .ptr 0 [] :: us 1 ++ .ptr 1 [] :: us 1 ++ .ptr 2 [] :: us 56, [.dat QcU, .dat QcU, .dat QcU]⟩⟩]
def Q0e.c (k : Nat) {ρ : Type} (a : (List Int)) (n : Int) (K : (List Int) × Bool × Unit → Option ρ) : Option ρ :=
 bif (decide (n < (0 : Int))) then (let v0 : Int := (if ((-(256 : Int)) > n) then (-(256 : Int)) else n)
 let v1 : Int := (IntKind.wrap IntKind.i64 ((0 : Int) - v0))
 (Q1b k a v1).bind fun t2 => K (t2.1, (false, ()))) else (bif (decide (n ≥ (256 : Int))) then (let v3 : (List Int) := (List.replicate 4 (0 : Int))
 (Q0P k a).bind fun t4 => K (v3, ((!t4.1), ()))) else ((Q0e.l0 k k (n, ((3 : Int), (a, ((List.replicate 4 (0 : Int)), ((List.replicate 4 (0 : Int)), ())))))).bind fun t18 => let v19 : (List Int) := t18.2.2.2.1
 let v20 : (List Int) := t18.2.1
 (Q0f k v20).bind fun t21 => let v22 : Int := (IntKind.wrap IntKind.i64 (t21.1 + t18.1))
 K (v19, ((decide (v22 > (256 : Int))), ()))))
def Q0e (k : Nat) (a : (List Int)) (n : Int) : Option ((List Int) × Bool × Unit) := Q0e.c k a n some
def Q0e.tin : List Ty := [QcU, (.int .i64)]
def Q0e.tout : List Ty := [QcU, .bool]
def Q0e.sem (k : Nat) : Qp := Qt Q0e.tin Q0e.tout fun x => Q0e k x.1 x.2.1
noncomputable def Q0e.ctx (k : Nat) : Ctx := ⟨Tryz.prog, gam [(157, (Q1b.sem k)), (149, (Q0P.sem k)), (155, (Q0f.sem k))]⟩
theorem Q0e.gok (k : Nat) : ∀ f, Qh Tryz.prog f ((Q0e.ctx k).Γ f) := (Qf (Q1b.sem_ok k) (Qf (Q0P.sem_ok k) (Qf (Q0f.sem_ok k) QO)))
theorem Q0e.l0.round (k : Nat) : Q0Q (Q0e.ctx k) (Q08 (Func.code Tryz.f158) [1, 1, 1, 0, 1, 0, 0]) (.nil) Q0e.l0.T [.mask [1, 2, 4, 6, 7], .auto 0] Q0e.l0.os (Q0e.l0.r k) := by
 intro ρ x kn ke; kernel_rfl
theorem Q0e.l0.ok (k : Nat) : StOK 0 Tryz.prog (.loop (Q08 (Func.code Tryz.f158) [1, 1, 1, 0, 1, 0, 0])) (Qr Q0e.l0.T Q0e.l0.os (Q0e.l0 k k)) :=
 Q0R (C := Q0e.ctx k) (Q0e.gok k) Tryz.mix Q0.nil (by kernel_rfl) (by kernel_rfl) (by kernel_rfl) (Q0e.l0.round k) k
def Q0e.ann (k : Nat) : Ann := .node [] none (.nil) (.node [] none (.nil) (.node [] none (.nil) (.node [] none (.node [] none (.nil) (.node [] none (.node [.mask [1, 2, 4, 6, 7], .auto 0] (some (Qr Q0e.l0.T Q0e.l0.os (Q0e.l0 k k))) .nil .nil) (.nil))) (.nil))))
theorem Q0e.body (k : Nat) : Q0I (Q0e.ctx k) Tryz.f158 (Func.code Tryz.f158) (Q0e.ann k) Q0e.tin Q0e.tout (fun x K => Q0e.c k x.1 x.2.1 K) := by
 intro ρ x K; kernel_rfl
theorem Q0e.sem_ok (k : Nat) : Qh Tryz.prog 158 (Q0e.sem k) :=
 Qv (C := Q0e.ctx k) (Q0e.gok k) Tryz.mix (c := Func.code Tryz.f158) (ann := Q0e.ann k) (tin := Q0e.tin) (tout := Q0e.tout) (fun x K => Q0e.c k x.1 x.2.1 K) Tryz.func158 (by kernel_rfl) (by kernel_rfl) (Q0.seq Q0.nil (Q0.seq Q0.nil (Q0.seq Q0.nil (Q0.seq (Q0.seq Q0.nil (Q0.block (Q0.loop (by kernel_rfl) (Q0e.l0.ok k)))) Q0.nil)))) (Q0e.body k)
abbrev Q03.l0.σ : Type := Int × Int × (List Int) × (List Int) × (List Int) × Unit
abbrev Q03.l0.τ : Type := ((List Int) × (List Int) × Unit)
def Q03.l0.r (k : Nat) {ρ : Type} (x : Q03.l0.σ) (kn : Q03.l0.σ → Option ρ) (ke : Q03.l0.τ → Option ρ) : Option ρ :=
 let v5 : Int := (IntKind.wrap IntKind.i64 (Int.tdiv x.1 (64 : Int)))
 let v6 : Int := (IntKind.wrap IntKind.i64 (x.2.1 + v5))
 bif (decide (v6 < (4 : Int))) then (let v7 : Int := (IntKind.wrap IntKind.i64 (Int.tdiv x.1 (64 : Int)))
 let v8 : Int := (IntKind.wrap IntKind.i64 (x.2.1 + v7))
 bif (decide (((0 : Int) ≤ v8) ∧ (v8 < ((4 : Nat) : Int)))) then (let v9 : Int := (List.getD x.2.2.1 (Int.toNat v8) (0 : Int))
 let v10 : Int := (Int.tmod x.1 (64 : Int))
 bif (decide ((0 : Int) ≤ v10)) then (bif (decide (((0 : Int) ≤ x.2.1) ∧ (x.2.1 < ((4 : Nat) : Int)))) then (let v11 : Int := (IntKind.wrap IntKind.i64 (v8 + (1 : Int)))
 bif (decide (v11 < (4 : Int))) then (bif (decide (((0 : Int) ≤ x.2.1) ∧ (x.2.1 < ((4 : Nat) : Int)))) then (let v12 : Int := (List.getD (List.set x.2.2.2.2.1 (Int.toNat x.2.1) (Q1P IntKind.u64 v9 v10)) (Int.toNat x.2.1) (0 : Int))
 let v13 : Int := (IntKind.wrap IntKind.i64 (v8 + (1 : Int)))
 bif (decide (((0 : Int) ≤ v13) ∧ (v13 < ((4 : Nat) : Int)))) then (let v14 : Int := (List.getD x.2.2.1 (Int.toNat v13) (0 : Int))
 let v15 : Int := (Int.tmod x.1 (64 : Int))
 let v16 : Int := (IntKind.wrap IntKind.i64 ((64 : Int) - v15))
 bif (decide ((0 : Int) ≤ v16)) then (let v17 : Int := (Q0Z BinOp.or IntKind.u64 v12 (Q31 IntKind.u64 v14 v16))
 bif (decide (((0 : Int) ≤ x.2.1) ∧ (x.2.1 < ((4 : Nat) : Int)))) then (let v18 : Int := (IntKind.wrap IntKind.i64 (x.2.1 + (1 : Int)))
 kn (x.1, (v18, (x.2.2.1, (x.2.2.2.1, ((List.set (List.set x.2.2.2.2.1 (Int.toNat x.2.1) (Q1P IntKind.u64 v9 v10)) (Int.toNat x.2.1) v17), ())))))) else (none)) else (none)) else (none)) else (none)) else (let v19 : Int := (IntKind.wrap IntKind.i64 (x.2.1 + (1 : Int)))
 kn (x.1, (v19, (x.2.2.1, (x.2.2.2.1, ((List.set x.2.2.2.2.1 (Int.toNat x.2.1) (Q1P IntKind.u64 v9 v10)), ()))))))) else (none)) else (none)) else (none)) else (ke (x.2.2.2.1, (x.2.2.2.2.1, ())))
def Q03.l0 (k : Nat) : Nat → Q03.l0.σ → Option Q03.l0.τ := Q12 (Q03.l0.r k)
def Q03.l0.T : StT := ⟨us 1 ++ .dat (.int .i64) :: .ptr 0 [] :: us 1 ++ .ptr 1 [] :: us 2 ++ .ptr 2 [] :: .dat (.int .i64) :: us 53, [.dat QcU, .dat QcU, .dat QcU]⟩
def Q03.l0.os : List Out := [⟨(.exit 1), [.mask [4, 7], .auto 0], ⟨us 4 ++ .ptr 0 [] :: us 2 ++ .ptr 1 [] :: us 54, [.dat QcU, .dat QcU]⟩⟩]
def Q03.c (k : Nat) {ρ : Type} (a : (List Int)) (n : Int) (K : (List Int) × Unit → Option ρ) : Option ρ :=
 bif (decide (n < (0 : Int))) then (let v0 : Int := (if ((-(256 : Int)) > n) then (-(256 : Int)) else n)
 let v1 : Int := (IntKind.wrap IntKind.i64 ((0 : Int) - v0))
 (Q0e k a v1).bind fun t2 => let v3 : (List Int) := t2.1
 K (v3, ())) else (bif (decide (n ≥ (256 : Int))) then (let v4 : (List Int) := (List.replicate 4 (0 : Int))
 K (v4, ())) else ((Q03.l0 k k (n, ((0 : Int), (a, ((List.replicate 4 (0 : Int)), ((List.replicate 4 (0 : Int)), ())))))).bind fun t20 => let v21 : (List Int) := t20.2.1
 K (v21, ())))
def Q03 (k : Nat) (a : (List Int)) (n : Int) : Option QcV := Q03.c k a n some
def Q03.tin : List Ty := [QcU, (.int .i64)]
def Q03.tout : List Ty := [QcU]
def Q03.sem (k : Nat) : Qp := Qt Q03.tin Q03.tout fun x => Q03 k x.1 x.2.1
noncomputable def Q03.ctx (k : Nat) : Ctx := ⟨Tryz.prog, gam [(158, (Q0e.sem k))]⟩
theorem Q03.gok (k : Nat) : ∀ f, Qh Tryz.prog f ((Q03.ctx k).Γ f) := (Qf (Q0e.sem_ok k) QO)
theorem Q03.l0.round (k : Nat) : Q0Q (Q03.ctx k) (Q08 (Func.code Tryz.f157) [1, 1, 1, 0, 1, 0, 0]) (.nil) Q03.l0.T [.mask [1, 2, 4, 7, 8], .auto 0] Q03.l0.os (Q03.l0.r k) := by
 intro ρ x kn ke; kernel_rfl
theorem Q03.l0.ok (k : Nat) : StOK 0 Tryz.prog (.loop (Q08 (Func.code Tryz.f157) [1, 1, 1, 0, 1, 0, 0])) (Qr Q03.l0.T Q03.l0.os (Q03.l0 k k)) :=
 Q0R (C := Q03.ctx k) (Q03.gok k) Tryz.mix Q0.nil (by kernel_rfl) (by kernel_rfl) (by kernel_rfl) (Q03.l0.round k) k
def Q03.ann (k : Nat) : Ann := .node [] none (.nil) (.node [] none (.nil) (.node [] none (.nil) (.node [] none (.node [] none (.nil) (.node [] none (.node [.mask [1, 2, 4, 7, 8], .auto 0] (some (Qr Q03.l0.T Q03.l0.os (Q03.l0 k k))) .nil .nil) (.nil))) (.nil))))
theorem Q03.body (k : Nat) : Q0I (Q03.ctx k) Tryz.f157 (Func.code Tryz.f157) (Q03.ann k) Q03.tin Q03.tout (fun x K => Q03.c k x.1 x.2.1 K) := by
 intro ρ x K; kernel_rfl
theorem Q03.sem_ok (k : Nat) : Qh Tryz.prog 157 (Q03.sem k) :=
 Qv (C := Q03.ctx k) (Q03.gok k) Tryz.mix (c := Func.code Tryz.f157) (ann := Q03.ann k) (tin := Q03.tin) (tout := Q03.tout) (fun x K => Q03.c k x.1 x.2.1 K) Tryz.func157 (by kernel_rfl) (by kernel_rfl) (Q0.seq Q0.nil (Q0.seq Q0.nil (Q0.seq Q0.nil (Q0.seq (Q0.seq Q0.nil (Q0.block (Q0.loop (by kernel_rfl) (Q03.l0.ok k)))) Q0.nil)))) (Q03.body k)
def Q0n.c (k : Nat) {ρ : Type} (w : (List Int)) (bytes : Int) (K : (List Int) × Unit → Option ρ) : Option ρ :=
 bif (decide (bytes < (0 : Int))) then (let v0 : Int := (IntKind.wrap IntKind.i64 ((0 : Int) - bytes))
 let v1 : Int := (IntKind.wrap IntKind.i64 (v0 * (8 : Int)))
 (Q03 k w v1).bind fun t2 => K (t2.1, ())) else (let v3 : Int := (IntKind.wrap IntKind.i64 (bytes * (8 : Int)))
 (Q0e k w v3).bind fun t4 => let v5 : (List Int) := t4.1
 K (v5, ()))
def Q0n (k : Nat) (w : (List Int)) (bytes : Int) : Option QcV := Q0n.c k w bytes some
def Q0n.tin : List Ty := [QcU, (.int .i64)]
def Q0n.tout : List Ty := [QcU]
def Q0n.sem (k : Nat) : Qp := Qt Q0n.tin Q0n.tout fun x => Q0n k x.1 x.2.1
noncomputable def Q0n.ctx (k : Nat) : Ctx := ⟨Tryz.prog, gam [(157, (Q03.sem k)), (158, (Q0e.sem k))]⟩
theorem Q0n.gok (k : Nat) : ∀ f, Qh Tryz.prog f ((Q0n.ctx k).Γ f) := (Qf (Q03.sem_ok k) (Qf (Q0e.sem_ok k) QO))
def Q0n.ann (k : Nat) : Ann := .nil
theorem Q0n.body (k : Nat) : Q0I (Q0n.ctx k) Tryz.f154 (Func.code Tryz.f154) (Q0n.ann k) Q0n.tin Q0n.tout (fun x K => Q0n.c k x.1 x.2.1 K) := by
 intro ρ x K; kernel_rfl
theorem Q0n.sem_ok (k : Nat) : Qh Tryz.prog 154 (Q0n.sem k) :=
 Qv (C := Q0n.ctx k) (Q0n.gok k) Tryz.mix (c := Func.code Tryz.f154) (ann := Q0n.ann k) (tin := Q0n.tin) (tout := Q0n.tout) (fun x K => Q0n.c k x.1 x.2.1 K) Tryz.func154 (by kernel_rfl) (by kernel_rfl) Q0.nil (Q0n.body k)
def Q0O.c (k : Nat) {ρ : Type} (bits : Int) (K : (List Int) × Bool × Unit → Option ρ) : Option ρ :=
 let v0 : Int := (Q1P IntKind.u32 bits (24 : Int))
 let v1 : Int := (Q0Z BinOp.and IntKind.u32 bits (8388607 : Int))
 (Q0V k (IntKind.wrap IntKind.u64 v1)).bind fun t2 => bif (decide ((IntKind.wrap IntKind.i64 v0) ≤ (3 : Int))) then (let v3 : (List Int) := t2.1
 let v4 : Int := (IntKind.wrap IntKind.i64 ((IntKind.wrap IntKind.i64 v0) - (3 : Int)))
 (Q0n k v3 v4).bind fun t5 => K (t5.1, (true, ()))) else (let v6 : (List Int) := t2.1
 (Q0P k v6).bind fun t7 => bif t7.1 then (let v8 : (List Int) := t2.1
 K (v8, (true, ()))) else (let v9 : (List Int) := t2.1
 (Q0f k v9).bind fun t10 => let v11 : Int := (IntKind.wrap IntKind.i64 ((IntKind.wrap IntKind.i64 v0) - (3 : Int)))
 let v12 : Int := (IntKind.wrap IntKind.i64 (v11 * (8 : Int)))
 let v13 : Int := (IntKind.wrap IntKind.i64 (t10.1 + v12))
 bif (decide (v13 > (256 : Int))) then (let v14 : (List Int) := (List.replicate 4 (0 : Int))
 K (v14, (false, ()))) else (let v15 : (List Int) := t2.1
 let v16 : Int := (IntKind.wrap IntKind.i64 ((IntKind.wrap IntKind.i64 v0) - (3 : Int)))
 (Q0n k v15 v16).bind fun t17 => K (t17.1, (true, ())))))
def Q0O (k : Nat) (bits : Int) : Option ((List Int) × Bool × Unit) := Q0O.c k bits some
def Q0O.tin : List Ty := [(.int .u32)]
def Q0O.tout : List Ty := [QcU, .bool]
def Q0O.sem (k : Nat) : Qp := Qt Q0O.tin Q0O.tout fun x => Q0O k x.1
noncomputable def Q0O.ctx (k : Nat) : Ctx := ⟨Tryz.prog, gam [(153, (Q0V.sem k)), (154, (Q0n.sem k)), (149, (Q0P.sem k)), (155, (Q0f.sem k))]⟩
theorem Q0O.gok (k : Nat) : ∀ f, Qh Tryz.prog f ((Q0O.ctx k).Γ f) := (Qf (Q0V.sem_ok k) (Qf (Q0n.sem_ok k) (Qf (Q0P.sem_ok k) (Qf (Q0f.sem_ok k) QO))))
def Q0O.ann (k : Nat) : Ann := .nil
theorem Q0O.body (k : Nat) : Q0I (Q0O.ctx k) Tryz.f148 (Func.code Tryz.f148) (Q0O.ann k) Q0O.tin Q0O.tout (fun x K => Q0O.c k x.1 K) := by
 intro ρ x K; kernel_rfl
theorem Q0O.sem_ok (k : Nat) : Qh Tryz.prog 148 (Q0O.sem k) :=
 Qv (C := Q0O.ctx k) (Q0O.gok k) Tryz.mix (c := Func.code Tryz.f148) (ann := Q0O.ann k) (tin := Q0O.tin) (tout := Q0O.tout) (fun x K => Q0O.c k x.1 K) Tryz.func148 (by kernel_rfl) (by kernel_rfl) Q0.nil (Q0O.body k)
def Q0F.c (k : Nat) {ρ : Type}  (K : (List Int) × Unit → Option ρ) : Option ρ :=
 (Q0O k (545259519 : Int)).bind fun t0 => let v1 : (List Int) := t0.1
 K (v1, ())
def Q0F (k : Nat)  : Option QcV := Q0F.c k  some
def Q0F.tin : List Ty := []
def Q0F.tout : List Ty := [QcU]
def Q0F.sem (k : Nat) : Qp := Qt Q0F.tin Q0F.tout fun x => Q0F k 
noncomputable def Q0F.ctx (k : Nat) : Ctx := ⟨Tryz.prog, gam [(148, (Q0O.sem k))]⟩
theorem Q0F.gok (k : Nat) : ∀ f, Qh Tryz.prog f ((Q0F.ctx k).Γ f) := (Qf (Q0O.sem_ok k) QO)
def Q0F.ann (k : Nat) : Ann := .nil
theorem Q0F.body (k : Nat) : Q0I (Q0F.ctx k) Tryz.f150 (Func.code Tryz.f150) (Q0F.ann k) Q0F.tin Q0F.tout (fun x K => Q0F.c k  K) := by
 intro ρ x K; kernel_rfl
theorem Q0F.sem_ok (k : Nat) : Qh Tryz.prog 150 (Q0F.sem k) :=
 Qv (C := Q0F.ctx k) (Q0F.gok k) Tryz.mix (c := Func.code Tryz.f150) (ann := Q0F.ann k) (tin := Q0F.tin) (tout := Q0F.tout) (fun x K => Q0F.c k  K) Tryz.func150 (by kernel_rfl) (by kernel_rfl) Q0.nil (Q0F.body k)
abbrev Q2.l0.σ : Type := (Nat × Nat) × Int × Int × (List Int) × Unit
abbrev Q2.l0.τ : Type := QcV 
def Q2.l0.r (k : Nat) {ρ : Type} (x : Q2.l0.σ) (kn : Q2.l0.σ → Option ρ) (ke : Q2.l0.τ → Option ρ) : Option ρ :=
 bif (decide (x.2.1 < x.2.2.1)) then (bif (decide (((0 : Int) ≤ x.2.2.1) ∧ (x.2.2.1 < ((x.1.2 : Nat) : Int)))) then (let v1 : Int := (List.getD x.2.2.2.1 (x.1.1 + (Int.toNat x.2.2.1)) (0 : Int))
 bif (decide (((0 : Int) ≤ x.2.1) ∧ (x.2.1 < ((x.1.2 : Nat) : Int)))) then (let v2 : Int := (List.getD x.2.2.2.1 (x.1.1 + (Int.toNat x.2.1)) (0 : Int))
 bif (decide (((0 : Int) ≤ x.2.1) ∧ (x.2.1 < ((x.1.2 : Nat) : Int)))) then (bif (decide (((0 : Int) ≤ x.2.2.1) ∧ (x.2.2.1 < ((x.1.2 : Nat) : Int)))) then (let v3 : Int := (IntKind.wrap IntKind.i64 (x.2.1 + (1 : Int)))
 let v4 : Int := (IntKind.wrap IntKind.i64 (x.2.2.1 - (1 : Int)))
 kn ((x.1.1, x.1.2), (v3, (v4, ((List.set (List.set x.2.2.2.1 (x.1.1 + (Int.toNat x.2.1)) v1) (x.1.1 + (Int.toNat x.2.2.1)) v2), ()))))) else (none)) else (none)) else (none)) else (none)) else (ke (x.2.2.2.1, ()))
def Q2.l0 (k : Nat) : Nat → Q2.l0.σ → Option Q2.l0.τ := Q12 (Q2.l0.r k)
def Q2.l0.T : StT := ⟨.slr 0 [] :: us 1 ++ .dat (.int .i64) :: .dat (.int .i64) :: us 24, [.dat QcU]⟩
def Q2.l0.os : List Out := [⟨(.exit 0), [.mask [], .auto 1], ⟨us 28, [.dat QcU]⟩⟩]
abbrev Q2.τ : Type := QcV 
def Q2.c (k : Nat) {ρ : Type} (s : (Nat × Nat)) (b0 : (List Int)) (K : Q2.τ → Option ρ) : Option ρ :=
 let v0 : Int := (IntKind.wrap IntKind.i64 (((s.2 : Nat) : Int) - (1 : Int)))
 (Q2.l0 k k ((s.1, s.2), ((0 : Int), (v0, (b0, ()))))).bind fun t5 => K (t5.1, ())
def Q2 (k : Nat) (s : (Nat × Nat)) (b0 : (List Int)) : Option Q2.τ := Q2.c k s b0 some
def Q2.T : Q1a := ⟨[.slr 0 []], [.dat QcU], 1⟩
def Q2.os : List Out := [⟨.ret, [.auto 1], ⟨[], [.dat QcU]⟩⟩]
def Q2.sem (k : Nat) : Qp := Q1g Q2.T Q2.os fun x => Q2 k x.1 x.2.1
noncomputable def Q2.ctx (k : Nat) : Ctx := ⟨Tryz.prog, gam []⟩
theorem Q2.gok (k : Nat) : ∀ f, Qh Tryz.prog f ((Q2.ctx k).Γ f) := QO
theorem Q2.l0.round (k : Nat) : Q0Q (Q2.ctx k) (Q08 (Func.code Tryz.f151) [1, 0, 0]) (.nil) Q2.l0.T [.mask [0, 2, 3], .auto 1] Q2.l0.os (Q2.l0.r k) := by
 intro ρ x kn ke; kernel_rfl
theorem Q2.l0.ok (k : Nat) : StOK 1 Tryz.prog (.loop (Q08 (Func.code Tryz.f151) [1, 0, 0])) (Qr Q2.l0.T Q2.l0.os (Q2.l0 k k)) :=
 Q0R (C := Q2.ctx k) (Q2.gok k) Tryz.mix Q0.nil (by kernel_rfl) (by kernel_rfl) (by kernel_rfl) (Q2.l0.round k) k
def Q2.ann (k : Nat) : Ann := .node [] none (.nil) (.node [] none (.node [.mask [0, 2, 3], .auto 1] (some (Qr Q2.l0.T Q2.l0.os (Q2.l0 k k))) .nil .nil) (.nil))
theorem Q2.body (k : Nat) : Q1m (Q2.ctx k) Tryz.f151 (Func.code Tryz.f151) (Q2.ann k) Q2.T Q2.os (fun x K => Q2.c k x.1 x.2.1 K) := by
 intro ρ x K; kernel_rfl
theorem Q2.sem_ok (k : Nat) : Qh Tryz.prog 151 (Q2.sem k) :=
 Q0S (C := Q2.ctx k) (Q2.gok k) Tryz.mix (c := Func.code Tryz.f151) (ann := Q2.ann k) (T := Q2.T) (os := Q2.os) (fun x K => Q2.c k x.1 x.2.1 K) Tryz.func151 (by kernel_rfl) (by kernel_rfl) (Q0.seq Q0.nil (Q0.block (Q0.loop (by kernel_rfl) (Q2.l0.ok k)))) (Q2.body k) (by kernel_rfl) (by kernel_rfl) (by kernel_rfl)
def Q0b.c (k : Nat) {ρ : Type} (x_0 : Int) (K : Bool × Unit → Option ρ) : Option ρ :=
 K ((x_0 != x_0), ())
def Q0b (k : Nat) (x_0 : Int) : Option (Bool × Unit) := Q0b.c k x_0 some
def Q0b.tin : List Ty := [(.int .u64)]
def Q0b.tout : List Ty := [.bool]
def Q0b.sem (k : Nat) : Qp := Qt Q0b.tin Q0b.tout fun x => Q0b k x.1
noncomputable def Q0b.ctx (k : Nat) : Ctx := ⟨Tryz.prog, gam []⟩
theorem Q0b.gok (k : Nat) : ∀ f, Qh Tryz.prog f ((Q0b.ctx k).Γ f) := QO
def Q0b.ann (k : Nat) : Ann := .nil
theorem Q0b.body (k : Nat) : Q0I (Q0b.ctx k) Tryz.f159 (Func.code Tryz.f159) (Q0b.ann k) Q0b.tin Q0b.tout (fun x K => Q0b.c k x.1 K) := by
 intro ρ x K; kernel_rfl
theorem Q0b.sem_ok (k : Nat) : Qh Tryz.prog 159 (Q0b.sem k) :=
 Qv (C := Q0b.ctx k) (Q0b.gok k) Tryz.mix (c := Func.code Tryz.f159) (ann := Q0b.ann k) (tin := Q0b.tin) (tout := Q0b.tout) (fun x K => Q0b.c k x.1 K) Tryz.func159 (by kernel_rfl) (by kernel_rfl) Q0.nil (Q0b.body k)
def QW.c (k : Nat) {ρ : Type} (x_0 : Int) (y : Int) (K : Int × Unit → Option ρ) : Option ρ :=
 (Q0b k x_0).bind fun t0 => (Q0b k y).bind fun t1 => bif t0.1 then (bif t1.1 then (K ((0 : Int), ())) else (K ((-(1 : Int)), ()))) else (bif t1.1 then (K ((1 : Int), ())) else (bif (decide (x_0 < y)) then (K ((-(1 : Int)), ())) else (bif (decide (x_0 > y)) then (K ((1 : Int), ())) else (K ((0 : Int), ())))))
def QW (k : Nat) (x_0 : Int) (y : Int) : Option (Int × Unit) := QW.c k x_0 y some
def QW.tin : List Ty := [(.int .u64), (.int .u64)]
def QW.tout : List Ty := [(.int .i64)]
def QW.sem (k : Nat) : Qp := Qt QW.tin QW.tout fun x => QW k x.1 x.2.1
noncomputable def QW.ctx (k : Nat) : Ctx := ⟨Tryz.prog, gam [(159, (Q0b.sem k))]⟩
theorem QW.gok (k : Nat) : ∀ f, Qh Tryz.prog f ((QW.ctx k).Γ f) := (Qf (Q0b.sem_ok k) QO)
def QW.ann (k : Nat) : Ann := .nil
theorem QW.body (k : Nat) : Q0I (QW.ctx k) Tryz.f156 (Func.code Tryz.f156) (QW.ann k) QW.tin QW.tout (fun x K => QW.c k x.1 x.2.1 K) := by
 intro ρ x K; kernel_rfl
theorem QW.sem_ok (k : Nat) : Qh Tryz.prog 156 (QW.sem k) :=
 Qv (C := QW.ctx k) (QW.gok k) Tryz.mix (c := Func.code Tryz.f156) (ann := QW.ann k) (tin := QW.tin) (tout := QW.tout) (fun x K => QW.c k x.1 x.2.1 K) Tryz.func156 (by kernel_rfl) (by kernel_rfl) Q0.nil (QW.body k)
abbrev Q5.l0.σ : Type := (List Int) × (List Int) × (List Int) × Int × Int × Unit
abbrev Q5.l0.τ : Type := (Int × Unit) ⊕ ((List Int) × (List Int) × Unit)
def Q5.l0.r (k : Nat) {ρ : Type} (x : Q5.l0.σ) (kn : Q5.l0.σ → Option ρ) (ke : Q5.l0.τ → Option ρ) : Option ρ :=
 bif (decide (x.2.2.2.2.1 < x.2.2.2.1)) then (bif (decide (((0 : Int) ≤ x.2.2.2.2.1) ∧ (x.2.2.2.2.1 < (((List.length x.2.2.1) : Nat) : Int)))) then (let v1 : Int := (List.getD x.2.2.1 (Int.toNat x.2.2.2.2.1) (0 : Int))
 let v2 : Int := (((List.length x.2.1) : Nat) : Int)
 bif (decide (x.2.2.2.2.1 ≥ v2)) then (ke (.inl ((1 : Int), ()))) else (bif (decide (((0 : Int) ≤ x.2.2.2.2.1) ∧ (x.2.2.2.2.1 < (((List.length x.2.1) : Nat) : Int)))) then (let v3 : Int := (List.getD x.2.1 (Int.toNat x.2.2.2.2.1) (0 : Int))
 (QW k v1 v3).bind fun t4 => bif (t4.1 != (0 : Int)) then (ke (.inl (t4.1, ()))) else (let v5 : Int := (IntKind.wrap IntKind.i64 (x.2.2.2.2.1 + (1 : Int)))
 kn (x.1, (x.2.1, (x.2.2.1, (x.2.2.2.1, (v5, ()))))))) else (none))) else (none)) else (ke (.inr (x.1, (x.2.1, ()))))
def Q5.l0 (k : Nat) : Nat → Q5.l0.σ → Option Q5.l0.τ := Q12 (Q5.l0.r k)
def Q5.l0.T : StT := ⟨.dat QcW :: .dat QcW :: us 7 ++ .dat QcW :: .dat (.int .i64) :: .dat (.int .i64) :: us 24, []⟩
def Q5.l0.os : List Out := [⟨.ret, [.mask [4], .auto 0], ⟨us 4 ++ .dat (.int .i64) :: us 31, []⟩⟩, ⟨(.exit 0), [.mask [0, 1], .auto 0], ⟨.dat QcW :: .dat QcW :: us 34, []⟩⟩]
def Q5.c (k : Nat) {ρ : Type} (s1 : (List Int)) (s2 : (List Int)) (K : Int × Unit → Option ρ) : Option ρ :=
  let v0 : Int := (((List.length s1) : Nat) : Int)
  (Q5.l0 k k (s1, (s2, (s1, (v0, ((0 : Int), ())))))).bind fun t6 => (match t6 with
 | .inl t7 => (K (t7.1, ()))
 | .inr (t8) => (let v9 : Int := (((List.length t8.1) : Nat) : Int)
  let v10 : Int := (((List.length t8.2.1) : Nat) : Int)
  bif (decide (v9 < v10)) then (K ((-(1 : Int)), ())) else (K ((0 : Int), ()))))
def Q5 (k : Nat) (s1 : (List Int)) (s2 : (List Int)) : Option (Int × Unit) := Q5.c k s1 s2 some
def Q5.tin : List Ty := [QcW, QcW]
def Q5.tout : List Ty := [(.int .i64)]
def Q5.sem (k : Nat) : Qp := Qt Q5.tin Q5.tout fun x => Q5 k x.1 x.2.1
noncomputable def Q5.ctx (k : Nat) : Ctx := ⟨Tryz.prog, gam [(156, (QW.sem k))]⟩
theorem Q5.gok (k : Nat) : ∀ f, Qh Tryz.prog f ((Q5.ctx k).Γ f) := (Qf (QW.sem_ok k) QO)
theorem Q5.l0.round (k : Nat) : Q0Q (Q5.ctx k) (Q08 (Func.code Tryz.f152) [1, 0, 1, 0, 0]) (.nil) Q5.l0.T [.mask [0, 1, 9, 10, 11], .auto 0] Q5.l0.os (Q5.l0.r k) := by
 intro ρ x kn ke; kernel_rfl
theorem Q5.l0.ok (k : Nat) : StOK 0 Tryz.prog (.loop (Q08 (Func.code Tryz.f152) [1, 0, 1, 0, 0])) (Qr Q5.l0.T Q5.l0.os (Q5.l0 k k)) :=
 Q0R (C := Q5.ctx k) (Q5.gok k) Tryz.mix Q0.nil (by kernel_rfl) (by kernel_rfl) (by kernel_rfl) (Q5.l0.round k) k
def Q5.ann (k : Nat) : Ann := .node [] none (.nil) (.node [] none (.node [] none (.nil) (.node [] none (.node [] (some (Qr Q5.l0.T Q5.l0.os (Q5.l0 k k))) .nil .nil) (.nil))) (.nil))
theorem Q5.body (k : Nat) : Q0I (Q5.ctx k) Tryz.f152 (Func.code Tryz.f152) (Q5.ann k) Q5.tin Q5.tout (fun x K => Q5.c k x.1 x.2.1 K) := by
 intro ρ x K; kernel_rfl
theorem Q5.sem_ok (k : Nat) : Qh Tryz.prog 152 (Q5.sem k) :=
 Qv (C := Q5.ctx k) (Q5.gok k) Tryz.mix (c := Func.code Tryz.f152) (ann := Q5.ann k) (tin := Q5.tin) (tout := Q5.tout) (fun x K => Q5.c k x.1 x.2.1 K) Tryz.func152 (by kernel_rfl) (by kernel_rfl) (Q0.seq Q0.nil (Q0.seq (Q0.seq Q0.nil (Q0.block (Q0.loop (by kernel_rfl) (Q5.l0.ok k)))) Q0.nil)) (Q5.body k)
def Q0y.c (k : Nat) {ρ : Type} (a : (List Int)) (b : (List Int)) (K : Int × Unit → Option ρ) : Option ρ :=
 (Q2 k (0, 4) a).bind fun t0 => (Q2 k (0, 4) b).bind fun t1 => (Q5 k (List.take 4 (List.drop 0 t0.1)) (List.take 4 (List.drop 0 t1.1))).bind fun t2 => K (t2.1, ())
def Q0y (k : Nat) (a : (List Int)) (b : (List Int)) : Option (Int × Unit) := Q0y.c k a b some
def Q0y.tin : List Ty := [QcU, QcU]
def Q0y.tout : List Ty := [(.int .i64)]
def Q0y.sem (k : Nat) : Qp := Qt Q0y.tin Q0y.tout fun x => Q0y k x.1 x.2.1
noncomputable def Q0y.ctx (k : Nat) : Ctx := ⟨Tryz.prog, gam [(151, (Q2.sem k)), (152, (Q5.sem k))]⟩
theorem Q0y.gok (k : Nat) : ∀ f, Qh Tryz.prog f ((Q0y.ctx k).Γ f) := (Qf (Q2.sem_ok k) (Qf (Q5.sem_ok k) QO))
def Q0y.ann (k : Nat) : Ann := .nil
theorem Q0y.body (k : Nat) : Q0I (Q0y.ctx k) Tryz.f146 (Func.code Tryz.f146) (Q0y.ann k) Q0y.tin Q0y.tout (fun x K => Q0y.c k x.1 x.2.1 K) := by
 intro ρ x K; kernel_rfl
theorem Q0y.sem_ok (k : Nat) : Qh Tryz.prog 146 (Q0y.sem k) :=
 Qv (C := Q0y.ctx k) (Q0y.gok k) Tryz.mix (c := Func.code Tryz.f146) (ann := Q0y.ann k) (tin := Q0y.tin) (tout := Q0y.tout) (fun x K => Q0y.c k x.1 x.2.1 K) Tryz.func146 (by kernel_rfl) (by kernel_rfl) Q0.nil (Q0y.body k)
def Q0w.c (k : Nat) {ρ : Type} (bits : Int) (K : (List Int) × Int × Unit → Option ρ) : Option ρ :=
 (Q0O k bits).bind fun t0 => let v1 : (List Int) := t0.1
 bif (!t0.2.1) then (let v2 : (List Int) := (List.replicate 4 (0 : Int))
 K (v2, ((50 : Int), ()))) else (let v3 : Int := (Q0Z BinOp.and IntKind.u32 bits (8388608 : Int))
 bif (v3 != (0 : Int)) then (let v4 : (List Int) := (List.replicate 4 (0 : Int))
 K (v4, ((50 : Int), ()))) else ((Q0P k v1).bind fun t5 => bif t5.1 then (let v6 : (List Int) := (List.replicate 4 (0 : Int))
 K (v6, ((50 : Int), ()))) else ((Q0F k ).bind fun t7 => (Q0y k v1 t7.1).bind fun t8 => bif (decide (t8.1 > (0 : Int))) then (let v9 : (List Int) := (List.replicate 4 (0 : Int))
 K (v9, ((50 : Int), ()))) else (K (v1, ((0 : Int), ()))))))
def Q0w (k : Nat) (bits : Int) : Option ((List Int) × Int × Unit) := Q0w.c k bits some
def Q0w.tin : List Ty := [(.int .u32)]
def Q0w.tout : List Ty := [QcU, (.int .i64)]
def Q0w.sem (k : Nat) : Qp := Qt Q0w.tin Q0w.tout fun x => Q0w k x.1
noncomputable def Q0w.ctx (k : Nat) : Ctx := ⟨Tryz.prog, gam [(148, (Q0O.sem k)), (149, (Q0P.sem k)), (150, (Q0F.sem k)), (146, (Q0y.sem k))]⟩
theorem Q0w.gok (k : Nat) : ∀ f, Qh Tryz.prog f ((Q0w.ctx k).Γ f) := (Qf (Q0O.sem_ok k) (Qf (Q0P.sem_ok k) (Qf (Q0F.sem_ok k) (Qf (Q0y.sem_ok k) QO))))
def Q0w.ann (k : Nat) : Ann := .nil
theorem Q0w.body (k : Nat) : Q0I (Q0w.ctx k) Tryz.f145 (Func.code Tryz.f145) (Q0w.ann k) Q0w.tin Q0w.tout (fun x K => Q0w.c k x.1 K) := by
 intro ρ x K; kernel_rfl
theorem Q0w.sem_ok (k : Nat) : Qh Tryz.prog 145 (Q0w.sem k) :=
 Qv (C := Q0w.ctx k) (Q0w.gok k) Tryz.mix (c := Func.code Tryz.f145) (ann := Q0w.ann k) (tin := Q0w.tin) (tout := Q0w.tout) (fun x K => Q0w.c k x.1 K) Tryz.func145 (by kernel_rfl) (by kernel_rfl) Q0.nil (Q0w.body k)
abbrev Q0G.l0.σ : Type := (List Int) × Int × (List Int) × (List Int) × Unit
abbrev Q0G.l0.τ : Type := ((List Int) × (List Int) × Unit)
def Q0G.l0.r (k : Nat) {ρ : Type} (x : Q0G.l0.σ) (kn : Q0G.l0.σ → Option ρ) (ke : Q0G.l0.τ → Option ρ) : Option ρ :=
 bif (decide (x.2.1 < (32 : Int))) then (bif (decide (((0 : Int) ≤ x.2.1) ∧ (x.2.1 < ((32 : Nat) : Int)))) then (let v0 : Int := (List.getD x.1 (Int.toNat x.2.1) (0 : Int))
 let v1 : Int := (IntKind.wrap IntKind.i64 (Int.tdiv x.2.1 (8 : Int)))
 bif (decide (((0 : Int) ≤ v1) ∧ (v1 < ((4 : Nat) : Int)))) then (let v2 : Int := (List.getD x.2.2.2.1 (Int.toNat v1) (0 : Int))
 let v3 : Int := (Int.tmod x.2.1 (8 : Int))
 let v4 : Int := (IntKind.wrap IntKind.i64 ((8 : Int) * v3))
 bif (decide ((0 : Int) ≤ v4)) then (let v5 : Int := (Q0Z BinOp.or IntKind.u64 v2 (Q31 IntKind.u64 (IntKind.wrap IntKind.u64 v0) v4))
 bif (decide (((0 : Int) ≤ v1) ∧ (v1 < ((4 : Nat) : Int)))) then (let v6 : Int := (IntKind.wrap IntKind.i64 (x.2.1 + (1 : Int)))
 kn (x.1, (v6, (x.2.2.1, ((List.set x.2.2.2.1 (Int.toNat v1) v5), ()))))) else (none)) else (none)) else (none)) else (none)) else (ke (x.2.2.1, (x.2.2.2.1, ())))
def Q0G.l0 (k : Nat) : Nat → Q0G.l0.σ → Option Q0G.l0.τ := Q12 (Q0G.l0.r k)
def Q0G.l0.T : StT := ⟨us 2 ++ .ptr 0 [] :: .ptr 1 [] :: us 2 ++ .dat QcT :: .dat (.int .i64) :: us 17, [.dat QcU, .dat QcU]⟩
def Q0G.l0.os : List Out := [⟨(.exit 0), [.mask [2, 3], .auto 0], ⟨us 2 ++ .ptr 0 [] :: .ptr 1 [] :: us 21, [.dat QcU, .dat QcU]⟩⟩]
def Q0G.c (k : Nat) {ρ : Type} (h : (List Int)) (K : (List Int) × Unit → Option ρ) : Option ρ :=
 (Q0G.l0 k k (h, ((0 : Int), ((List.replicate 4 (0 : Int)), ((List.replicate 4 (0 : Int)), ()))))).bind fun t7 => let v8 : (List Int) := t7.2.1
 K (v8, ())
def Q0G (k : Nat) (h : (List Int)) : Option QcV := Q0G.c k h some
def Q0G.tin : List Ty := [QcT]
def Q0G.tout : List Ty := [QcU]
def Q0G.sem (k : Nat) : Qp := Qt Q0G.tin Q0G.tout fun x => Q0G k x.1
noncomputable def Q0G.ctx (k : Nat) : Ctx := ⟨Tryz.prog, gam []⟩
theorem Q0G.gok (k : Nat) : ∀ f, Qh Tryz.prog f ((Q0G.ctx k).Γ f) := QO
theorem Q0G.l0.round (k : Nat) : Q0Q (Q0G.ctx k) (Q08 (Func.code Tryz.f147) [1, 1, 0, 1, 0, 0]) (.nil) Q0G.l0.T [.mask [2, 3, 6, 7], .auto 0] Q0G.l0.os (Q0G.l0.r k) := by
 intro ρ x kn ke; kernel_rfl
theorem Q0G.l0.ok (k : Nat) : StOK 0 Tryz.prog (.loop (Q08 (Func.code Tryz.f147) [1, 1, 0, 1, 0, 0])) (Qr Q0G.l0.T Q0G.l0.os (Q0G.l0 k k)) :=
 Q0R (C := Q0G.ctx k) (Q0G.gok k) Tryz.mix Q0.nil (by kernel_rfl) (by kernel_rfl) (by kernel_rfl) (Q0G.l0.round k) k
def Q0G.ann (k : Nat) : Ann := .node [] none (.nil) (.node [] none (.nil) (.node [] none (.node [] none (.nil) (.node [] none (.node [.mask [2, 3, 6, 7], .auto 0] (some (Qr Q0G.l0.T Q0G.l0.os (Q0G.l0 k k))) .nil .nil) (.nil))) (.nil)))
theorem Q0G.body (k : Nat) : Q0I (Q0G.ctx k) Tryz.f147 (Func.code Tryz.f147) (Q0G.ann k) Q0G.tin Q0G.tout (fun x K => Q0G.c k x.1 K) := by
 intro ρ x K; kernel_rfl
theorem Q0G.sem_ok (k : Nat) : Qh Tryz.prog 147 (Q0G.sem k) :=
 Qv (C := Q0G.ctx k) (Q0G.gok k) Tryz.mix (c := Func.code Tryz.f147) (ann := Q0G.ann k) (tin := Q0G.tin) (tout := Q0G.tout) (fun x K => Q0G.c k x.1 K) Tryz.func147 (by kernel_rfl) (by kernel_rfl) (Q0.seq Q0.nil (Q0.seq Q0.nil (Q0.seq (Q0.seq Q0.nil (Q0.block (Q0.loop (by kernel_rfl) (Q0G.l0.ok k)))) Q0.nil))) (Q0G.body k)
def Q0D.c (k : Nat) {ρ : Type} (id : (List Int)) (bits : Int) (K : Bool × Unit → Option ρ) : Option ρ :=
 (Q0w k bits).bind fun t0 => let v1 : (List Int) := t0.1
 let v2 : Int := t0.2.1
 bif (v2 == (0 : Int)) then ((Q0G k id).bind fun t3 => (Q0y k t3.1 v1).bind fun t4 => K ((decide (t4.1 ≤ (0 : Int))), ())) else (K (false, ()))
def Q0D (k : Nat) (id : (List Int)) (bits : Int) : Option (Bool × Unit) := Q0D.c k id bits some
def Q0D.tin : List Ty := [QcT, (.int .u32)]
def Q0D.tout : List Ty := [.bool]
def Q0D.sem (k : Nat) : Qp := Qt Q0D.tin Q0D.tout fun x => Q0D k x.1 x.2.1
noncomputable def Q0D.ctx (k : Nat) : Ctx := ⟨Tryz.prog, gam [(145, (Q0w.sem k)), (147, (Q0G.sem k)), (146, (Q0y.sem k))]⟩
theorem Q0D.gok (k : Nat) : ∀ f, Qh Tryz.prog f ((Q0D.ctx k).Γ f) := (Qf (Q0w.sem_ok k) (Qf (Q0G.sem_ok k) (Qf (Q0y.sem_ok k) QO)))
def Q0D.ann (k : Nat) : Ann := .nil
theorem Q0D.body (k : Nat) : Q0I (Q0D.ctx k) Tryz.f142 (Func.code Tryz.f142) (Q0D.ann k) Q0D.tin Q0D.tout (fun x K => Q0D.c k x.1 x.2.1 K) := by
 intro ρ x K; kernel_rfl
theorem Q0D.sem_ok (k : Nat) : Qh Tryz.prog 142 (Q0D.sem k) :=
 Qv (C := Q0D.ctx k) (Q0D.gok k) Tryz.mix (c := Func.code Tryz.f142) (ann := Q0D.ann k) (tin := Q0D.tin) (tout := Q0D.tout) (fun x K => Q0D.c k x.1 x.2.1 K) Tryz.func142 (by kernel_rfl) (by kernel_rfl) Q0.nil (Q0D.body k)
def Q0M.c (k : Nat) {ρ : Type} (h : QcJ) (K : Bool × Unit → Option ρ) : Option ρ :=
 (Q0o k (h.1, (h.2.1, (h.2.2.1, (h.2.2.2.1, (h.2.2.2.2.1, (h.2.2.2.2.2.1, ()))))))).bind fun t0 => let v1 : Int := h.2.2.2.2.1
 (Q0D k t0.1 v1).bind fun t2 => K (t2.1, ())
def Q0M (k : Nat) (h : QcJ) : Option (Bool × Unit) := Q0M.c k h some
def Q0M.tin : List Ty := [QcD]
def Q0M.tout : List Ty := [.bool]
def Q0M.sem (k : Nat) : Qp := Qt Q0M.tin Q0M.tout fun x => Q0M k x.1
noncomputable def Q0M.ctx (k : Nat) : Ctx := ⟨Tryz.prog, gam [(20, (Q0o.sem k)), (142, (Q0D.sem k))]⟩
theorem Q0M.gok (k : Nat) : ∀ f, Qh Tryz.prog f ((Q0M.ctx k).Γ f) := (Qf (Q0o.sem_ok k) (Qf (Q0D.sem_ok k) QO))
def Q0M.ann (k : Nat) : Ann := .nil
theorem Q0M.body (k : Nat) : Q0I (Q0M.ctx k) Tryz.f130 (Func.code Tryz.f130) (Q0M.ann k) Q0M.tin Q0M.tout (fun x K => Q0M.c k x.1 K) := by
 intro ρ x K; kernel_rfl
theorem Q0M.sem_ok (k : Nat) : Qh Tryz.prog 130 (Q0M.sem k) :=
 Qv (C := Q0M.ctx k) (Q0M.gok k) Tryz.mix (c := Func.code Tryz.f130) (ann := Q0M.ann k) (tin := Q0M.tin) (tout := Q0M.tout) (fun x K => Q0M.c k x.1 K) Tryz.func130 (by kernel_rfl) (by kernel_rfl) Q0.nil (Q0M.body k)
abbrev Q02.l0.σ : Type := Int × Int × QcJ × QcJ × QcJ × Unit
abbrev Q02.l0.τ : Type := (Bool × QcJ × Unit) ⊕ (QcJ × QcJ × Unit)
def Q02.l0.r (k : Nat) {ρ : Type} (x : Q02.l0.σ) (kn : Q02.l0.σ → Option ρ) (ke : Q02.l0.τ → Option ρ) : Option ρ :=
 bif (decide (x.2.1 < x.1)) then ((Q0M k (x.2.2.2.2.1.1, (x.2.2.2.2.1.2.1, (x.2.2.2.2.1.2.2.1, (x.2.2.2.2.1.2.2.2.1, (x.2.2.2.2.1.2.2.2.2.1, (x.2.2.2.2.1.2.2.2.2.2.1, ()))))))).bind fun t1 => bif t1.1 then (ke (.inl (true, ((x.2.2.2.2.1.1, (x.2.2.2.2.1.2.1, (x.2.2.2.2.1.2.2.1, (x.2.2.2.2.1.2.2.2.1, (x.2.2.2.2.1.2.2.2.2.1, (x.2.2.2.2.1.2.2.2.2.2.1, ())))))), ())))) else (let v2 : Int := x.2.2.2.2.1.2.2.2.2.2.1
 bif (v2 == (4294967295 : Int)) then (ke (.inr ((x.2.2.1.1, (x.2.2.1.2.1, (x.2.2.1.2.2.1, (x.2.2.1.2.2.2.1, (x.2.2.1.2.2.2.2.1, (x.2.2.1.2.2.2.2.2.1, ())))))), ((x.2.2.2.1.1, (x.2.2.2.1.2.1, (x.2.2.2.1.2.2.1, (x.2.2.2.1.2.2.2.1, (x.2.2.2.1.2.2.2.2.1, (x.2.2.2.1.2.2.2.2.2.1, ())))))), ())))) else (let v3 : Int := x.2.2.2.2.1.2.2.2.2.2.1
 let v4 : Int := (IntKind.wrap IntKind.u32 (v3 + (1 : Int)))
 let v5 : Int := (IntKind.wrap IntKind.u64 (x.2.1 + (1 : Int)))
 kn (x.1, (v5, ((x.2.2.1.1, (x.2.2.1.2.1, (x.2.2.1.2.2.1, (x.2.2.1.2.2.2.1, (x.2.2.1.2.2.2.2.1, (x.2.2.1.2.2.2.2.2.1, ())))))), ((x.2.2.2.1.1, (x.2.2.2.1.2.1, (x.2.2.2.1.2.2.1, (x.2.2.2.1.2.2.2.1, (x.2.2.2.1.2.2.2.2.1, (x.2.2.2.1.2.2.2.2.2.1, ())))))), ((x.2.2.2.2.1.1, (x.2.2.2.2.1.2.1, (x.2.2.2.2.1.2.2.1, (x.2.2.2.2.1.2.2.2.1, (x.2.2.2.2.1.2.2.2.2.1, (v4, ())))))), ())))))))) else (ke (.inr ((x.2.2.1.1, (x.2.2.1.2.1, (x.2.2.1.2.2.1, (x.2.2.1.2.2.2.1, (x.2.2.1.2.2.2.2.1, (x.2.2.1.2.2.2.2.2.1, ())))))), ((x.2.2.2.1.1, (x.2.2.2.1.2.1, (x.2.2.2.1.2.2.1, (x.2.2.2.1.2.2.2.1, (x.2.2.2.1.2.2.2.2.1, (x.2.2.2.1.2.2.2.2.2.1, ())))))), ()))))
def Q02.l0 (k : Nat) : Nat → Q02.l0.σ → Option Q02.l0.τ := Q12 (Q02.l0.r k)
def Q02.l0.T : StT := ⟨us 2 ++ .ptr 0 [] :: us 1 ++ .ptr 1 [] :: us 1 ++ .ptr 2 [] :: us 2 ++ .dat (.int .u64) :: .dat (.int .u64) :: us 13, [.dat QcD, .dat QcD, .dat QcD]⟩
def Q02.l0.os : List Out := [⟨.ret, [.mask [4, 5], .auto 0], ⟨us 4 ++ .ptr 0 [] :: .dat .bool :: us 18, [.dat QcD]⟩⟩, ⟨(.exit 0), [.mask [2, 4], .auto 0], ⟨us 2 ++ .ptr 0 [] :: us 1 ++ .ptr 1 [] :: us 19, [.dat QcD, .dat QcD]⟩⟩]
def Q02.c (k : Nat) {ρ : Type} (h : QcJ) (tries : Int) (K : QcJ × Bool × Unit → Option ρ) : Option ρ :=
  let v0 : Int := (if ((4294967296 : Int) < tries) then (4294967296 : Int) else tries)
  (Q02.l0 k k (v0, ((0 : Int), ((h.1, (h.2.1, (h.2.2.1, (h.2.2.2.1, (h.2.2.2.2.1, (h.2.2.2.2.2.1, ())))))), (((0 : Int), ((List.replicate 32 (0 : Int)), ((List.replicate 32 (0 : Int)), ((0 : Int), ((0 : Int), ((0 : Int), ())))))), ((h.1, (h.2.1, (h.2.2.1, (h.2.2.2.1, (h.2.2.2.2.1, (h.2.2.2.2.2.1, ())))))), ())))))).bind fun t6 => (match t6 with
 | .inl t7 => (K ((t7.2.1.1, (t7.2.1.2.1, (t7.2.1.2.2.1, (t7.2.1.2.2.2.1, (t7.2.1.2.2.2.2.1, (t7.2.1.2.2.2.2.2.1, ())))))), (t7.1, ())))
 | .inr (t8) => (K ((t8.1.1, (t8.1.2.1, (t8.1.2.2.1, (t8.1.2.2.2.1, (t8.1.2.2.2.2.1, (t8.1.2.2.2.2.2.1, ())))))), (false, ()))))
def Q02 (k : Nat) (h : QcJ) (tries : Int) : Option (QcJ × Bool × Unit) := Q02.c k h tries some
def Q02.tin : List Ty := [QcD, (.int .u64)]
def Q02.tout : List Ty := [QcD, .bool]
def Q02.sem (k : Nat) : Qp := Qt Q02.tin Q02.tout fun x => Q02 k x.1 x.2.1
noncomputable def Q02.ctx (k : Nat) : Ctx := ⟨Tryz.prog, gam [(130, (Q0M.sem k))]⟩
theorem Q02.gok (k : Nat) : ∀ f, Qh Tryz.prog f ((Q02.ctx k).Γ f) := (Qf (Q0M.sem_ok k) QO)
theorem Q02.l0.round (k : Nat) : Q0Q (Q02.ctx k) (Q08 (Func.code Tryz.f109) [1, 1, 0, 1, 0, 0]) (.nil) Q02.l0.T [.mask [2, 4, 6, 9, 10], .auto 0] Q02.l0.os (Q02.l0.r k) := by
 intro ρ x kn ke; kernel_rfl
theorem Q02.l0.ok (k : Nat) : StOK 0 Tryz.prog (.loop (Q08 (Func.code Tryz.f109) [1, 1, 0, 1, 0, 0])) (Qr Q02.l0.T Q02.l0.os (Q02.l0 k k)) :=
 Q0R (C := Q02.ctx k) (Q02.gok k) Tryz.mix Q0.nil (by kernel_rfl) (by kernel_rfl) (by kernel_rfl) (Q02.l0.round k) k
def Q02.ann (k : Nat) : Ann := .node [] none (.nil) (.node [] none (.nil) (.node [] none (.node [] none (.nil) (.node [] none (.node [.mask [2, 4, 6, 9, 10], .auto 0] (some (Qr Q02.l0.T Q02.l0.os (Q02.l0 k k))) .nil .nil) (.nil))) (.nil)))
theorem Q02.body (k : Nat) : Q0I (Q02.ctx k) Tryz.f109 (Func.code Tryz.f109) (Q02.ann k) Q02.tin Q02.tout (fun x K => Q02.c k x.1 x.2.1 K) := by
 intro ρ x K; kernel_rfl
theorem Q02.sem_ok (k : Nat) : Qh Tryz.prog 109 (Q02.sem k) :=
 Qv (C := Q02.ctx k) (Q02.gok k) Tryz.mix (c := Func.code Tryz.f109) (ann := Q02.ann k) (tin := Q02.tin) (tout := Q02.tout) (fun x K => Q02.c k x.1 x.2.1 K) Tryz.func109 (by kernel_rfl) (by kernel_rfl) (Q0.seq Q0.nil (Q0.seq Q0.nil (Q0.seq (Q0.seq Q0.nil (Q0.block (Q0.loop (by kernel_rfl) (Q02.l0.ok k)))) Q0.nil))) (Q02.body k)
abbrev QL.l0.σ : Type := QcF × Int × Int × QcI × QcI × QcF × Unit
abbrev QL.l0.τ : Type := (QcI × QcI × QcF × Unit)
def QL.l0.r (k : Nat) {ρ : Type} (x : QL.l0.σ) (kn : QL.l0.σ → Option ρ) (ke : QL.l0.τ → Option ρ) : Option ρ :=
 bif (decide (x.2.2.1 < x.2.1)) then (bif (decide (((0 : Int) ≤ x.2.2.1) ∧ (x.2.2.1 < (((List.length x.1) : Nat) : Int)))) then ((Q0E k ((List.getD x.1 (Int.toNat x.2.2.1) ((0 : Int), ([], ([], ((0 : Int), ()))))).1, ((List.getD x.1 (Int.toNat x.2.2.1) ((0 : Int), ([], ([], ((0 : Int), ()))))).2.1, ((List.getD x.1 (Int.toNat x.2.2.1) ((0 : Int), ([], ([], ((0 : Int), ()))))).2.2.1, ((List.getD x.1 (Int.toNat x.2.2.1) ((0 : Int), ([], ([], ((0 : Int), ()))))).2.2.2.1, ()))))).bind fun t3 => bif (Nat.ble (((List.length x.2.2.2.2.2.1) + (List.length (List.set (List.replicate 1 ((0 : Int), ([], ([], ((0 : Int), ()))))) 0 (t3.1.1, (t3.1.2.1, (t3.1.2.2.1, (t3.1.2.2.2.1, ()))))))) * 64) 140737488355328) then (let v4 : Int := (IntKind.wrap IntKind.i64 (x.2.2.1 + (1 : Int)))
 kn (x.1, (x.2.1, (v4, (((x.2.2.2.1.1.1, (x.2.2.2.1.1.2.1, (x.2.2.2.1.1.2.2.1, (x.2.2.2.1.1.2.2.2.1, (x.2.2.2.1.1.2.2.2.2.1, (x.2.2.2.1.1.2.2.2.2.2.1, ())))))), ((), ())), (((x.2.2.2.2.1.1.1, (x.2.2.2.2.1.1.2.1, (x.2.2.2.2.1.1.2.2.1, (x.2.2.2.2.1.1.2.2.2.1, (x.2.2.2.2.1.1.2.2.2.2.1, (x.2.2.2.2.1.1.2.2.2.2.2.1, ())))))), ((), ())), ((x.2.2.2.2.2.1 ++ (List.set (List.replicate 1 ((0 : Int), ([], ([], ((0 : Int), ()))))) 0 (t3.1.1, (t3.1.2.1, (t3.1.2.2.1, (t3.1.2.2.2.1, ())))))), ()))))))) else (none)) else (none)) else (ke (((x.2.2.2.1.1.1, (x.2.2.2.1.1.2.1, (x.2.2.2.1.1.2.2.1, (x.2.2.2.1.1.2.2.2.1, (x.2.2.2.1.1.2.2.2.2.1, (x.2.2.2.1.1.2.2.2.2.2.1, ())))))), ((), ())), (((x.2.2.2.2.1.1.1, (x.2.2.2.2.1.1.2.1, (x.2.2.2.2.1.1.2.2.1, (x.2.2.2.2.1.1.2.2.2.1, (x.2.2.2.2.1.1.2.2.2.2.1, (x.2.2.2.2.1.1.2.2.2.2.2.1, ())))))), ((), ())), (x.2.2.2.2.2.1, ()))))
def QL.l0 (k : Nat) : Nat → QL.l0.σ → Option QL.l0.τ := Q12 (QL.l0.r k)
def QL.l0.T : StT := ⟨us 8 ++ .ptr 0 [] :: us 3 ++ .ptr 1 [] :: us 17 ++ .dat Qcz :: .dat (.int .i64) :: .dat (.int .i64) :: us 32, [.pair (.dat QcD) (.pair (.nils) (.dat .unit)), .pair (.dat QcD) (.pair (.vsl 2) (.dat .unit)), .vec QcB]⟩
def QL.l0.os : List Out := [⟨(.exit 0), [.mask [8, 12], .auto 0], ⟨us 8 ++ .ptr 0 [] :: us 3 ++ .ptr 1 [] :: us 52, [.pair (.dat QcD) (.pair (.nils) (.dat .unit)), .pair (.dat QcD) (.pair (.vsl 2) (.dat .unit)), .vec QcB]⟩⟩]
def QL.c (k : Nat) {ρ : Type} (prev : (List Int)) (time : Int) (bits : Int) (txs : QcF) (K : QcA × Int × Unit → Option ρ) : Option ρ :=
 (Qx k txs).bind fun t0 => let v1 : (List Int) := t0.1
 let v2 : Int := (((List.length txs) : Nat) : Int)
 (QL.l0 k k (txs, (v2, ((0 : Int), ((((0 : Int), ((List.replicate 32 (0 : Int)), ((List.replicate 32 (0 : Int)), ((0 : Int), ((0 : Int), ((0 : Int), ())))))), ((), ())), ((((1 : Int), (prev, (v1, (time, (bits, ((0 : Int), ())))))), ((), ())), ([], ()))))))).bind fun t5 => (QB k ((t5.2.1.1.1, (t5.2.1.1.2.1, (t5.2.1.1.2.2.1, (t5.2.1.1.2.2.2.1, (t5.2.1.1.2.2.2.2.1, (t5.2.1.1.2.2.2.2.2.1, ())))))), (t5.2.2.1, ()))).bind fun t6 => let v7 : ByteArray := t6.1
 let v8 : Int := t6.2.1
 bif (v8 != (0 : Int)) then (K ((((0 : Int), ((List.replicate 32 (0 : Int)), ((List.replicate 32 (0 : Int)), ((0 : Int), ((0 : Int), ((0 : Int), ())))))), ([], ())), (v8, ()))) else ((Q02 k (t5.2.1.1.1, (t5.2.1.1.2.1, (t5.2.1.1.2.2.1, (t5.2.1.1.2.2.2.1, (t5.2.1.1.2.2.2.2.1, (t5.2.1.1.2.2.2.2.2.1, ())))))) (4294967296 : Int)).bind fun t9 => bif (!t9.2.1) then (K ((((0 : Int), ((List.replicate 32 (0 : Int)), ((List.replicate 32 (0 : Int)), ((0 : Int), ((0 : Int), ((0 : Int), ())))))), ([], ())), ((111 : Int), ()))) else (K (((t9.1.1, (t9.1.2.1, (t9.1.2.2.1, (t9.1.2.2.2.1, (t9.1.2.2.2.2.1, (t9.1.2.2.2.2.2.1, ())))))), (t5.2.2.1, ())), ((0 : Int), ()))))
def QL (k : Nat) (prev : (List Int)) (time : Int) (bits : Int) (txs : QcF) : Option (QcA × Int × Unit) := QL.c k prev time bits txs some
def QL.tin : List Ty := [QcT, (.int .u32), (.int .u32), Qcz]
def QL.tout : List Ty := [Qcy, (.int .i64)]
def QL.sem (k : Nat) : Qp := Qt QL.tin QL.tout fun x => QL k x.1 x.2.1 x.2.2.1 x.2.2.2.1
noncomputable def QL.ctx (k : Nat) : Ctx := ⟨Tryz.prog, gam [(23, (Qx.sem k)), (107, (Q0E.sem k)), (108, (QB.sem k)), (109, (Q02.sem k))]⟩
theorem QL.gok (k : Nat) : ∀ f, Qh Tryz.prog f ((QL.ctx k).Γ f) := (Qf (Qx.sem_ok k) (Qf (Q0E.sem_ok k) (Qf (QB.sem_ok k) (Qf (Q02.sem_ok k) QO))))
theorem QL.l0.round (k : Nat) : Q0Q (QL.ctx k) (Q08 (Func.code Tryz.f83) [1, 1, 1, 0, 1, 0, 0]) (.nil) QL.l0.T [.mask [8, 12, 30, 31, 32], .auto 0] QL.l0.os (QL.l0.r k) := by
 intro ρ x kn ke; kernel_rfl
theorem QL.l0.ok (k : Nat) : StOK 0 Tryz.prog (.loop (Q08 (Func.code Tryz.f83) [1, 1, 1, 0, 1, 0, 0])) (Qr QL.l0.T QL.l0.os (QL.l0 k k)) :=
 Q0R (C := QL.ctx k) (QL.gok k) Tryz.mix Q0.nil (by kernel_rfl) (by kernel_rfl) (by kernel_rfl) (QL.l0.round k) k
def QL.ann (k : Nat) : Ann := .node [] none (.nil) (.node [] none (.nil) (.node [] none (.nil) (.node [] none (.node [] none (.nil) (.node [] none (.node [.mask [8, 12, 30, 31, 32], .auto 0, .own (.blk 1 [1]) QcB] (some (Qr QL.l0.T QL.l0.os (QL.l0 k k))) .nil .nil) (.nil))) (.nil))))
theorem QL.body (k : Nat) : Q0I (QL.ctx k) Tryz.f83 (Func.code Tryz.f83) (QL.ann k) QL.tin QL.tout (fun x K => QL.c k x.1 x.2.1 x.2.2.1 x.2.2.2.1 K) := by
 intro ρ x K; kernel_rfl
theorem QL.sem_ok (k : Nat) : Qh Tryz.prog 83 (QL.sem k) :=
 Qv (C := QL.ctx k) (QL.gok k) Tryz.mix (c := Func.code Tryz.f83) (ann := QL.ann k) (tin := QL.tin) (tout := QL.tout) (fun x K => QL.c k x.1 x.2.1 x.2.2.1 x.2.2.2.1 K) Tryz.func83 (by kernel_rfl) (by kernel_rfl) (Q0.seq Q0.nil (Q0.seq Q0.nil (Q0.seq Q0.nil (Q0.seq (Q0.seq Q0.nil (Q0.block (Q0.loop (by kernel_rfl) (QL.l0.ok k)))) Q0.nil)))) (QL.body k)
def Q00.c (k : Nat) {ρ : Type}  (K : QcA × Unit → Option ρ) : Option ρ :=
 (Qk k (0 : Int) (⟨(List.toArray [98, 101, 100, 114, 111, 99, 107])⟩ : ByteArray) (List.set (List.replicate 1 ((0 : Int), (ByteArray.empty, ()))) 0 ((5000 : Int), ((⟨(List.toArray [])⟩ : ByteArray), ())))).bind fun t0 => let v1 : Int := t0.2.1
 let v2 : (List Int) := (List.replicate 32 (0 : Int))
 (QL k v2 (1600000000 : Int) (545259519 : Int) (List.set (List.replicate 1 ((0 : Int), ([], ([], ((0 : Int), ()))))) 0 (t0.1.1, (t0.1.2.1, (t0.1.2.2.1, (t0.1.2.2.2.1, ())))))).bind fun t3 => let v4 : Int := t3.2.1
 K (((t3.1.1.1, (t3.1.1.2.1, (t3.1.1.2.2.1, (t3.1.1.2.2.2.1, (t3.1.1.2.2.2.2.1, (t3.1.1.2.2.2.2.2.1, ())))))), (t3.1.2.1, ())), ())
def Q00 (k : Nat)  : Option (QcA × Unit) := Q00.c k  some
def Q00.tin : List Ty := []
def Q00.tout : List Ty := [Qcy]
def Q00.sem (k : Nat) : Qp := Qt Q00.tin Q00.tout fun x => Q00 k 
noncomputable def Q00.ctx (k : Nat) : Ctx := ⟨Tryz.prog, gam [(22, (Q7d Qk.tin Qk.tout fun x => Qk k x.1 x.2.1 x.2.2.1)), (83, (Q7d QL.tin QL.tout fun x => QL k x.1 x.2.1 x.2.2.1 x.2.2.2.1))]⟩
theorem Q00.gok (k : Nat) : ∀ f, Qh Tryz.prog f ((Q00.ctx k).Γ f) := (Qf (Q5K (Qk.sem_ok k)) (Qf (Q5K (QL.sem_ok k)) QO))
def Q00.ann (k : Nat) : Ann := .nil
theorem Q00.body (k : Nat) : Q0I (Q00.ctx k) Tryz.f45 (Func.code Tryz.f45) (Q00.ann k) Q00.tin Q00.tout (fun x K => Q00.c k  K) := by
 intro ρ x K; kernel_rfl
theorem Q00.sem_ok (k : Nat) : Qh Tryz.prog 45 (Q00.sem k) :=
 Qv (C := Q00.ctx k) (Q00.gok k) Tryz.mix (c := Func.code Tryz.f45) (ann := Q00.ann k) (tin := Q00.tin) (tout := Q00.tout) (fun x K => Q00.c k  K) Tryz.func45 (by kernel_rfl) (by kernel_rfl) Q0.nil (Q00.body k)
end Go.Am
