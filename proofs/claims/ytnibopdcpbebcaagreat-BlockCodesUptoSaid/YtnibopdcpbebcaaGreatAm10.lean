/- A part of a proof: a machine of abstract values that tells what functions of the program compute, and the plain facts on them. -/
import Derived.Test.YtnibopdcpbebcaaGreatAm9
import Derived.KernelRfl
set_option linter.unusedVariables false
set_option linter.unusedSimpArgs false
set_option linter.unnecessarySimpa false
set_option linter.unusedSectionVars false
namespace Go.Am
abbrev QhC : Ty := (.arr 32 (.int .u8))
abbrev QhB : Ty := (.sl  QhC )
abbrev QhA : Type := ((Unit × (Unit × Unit)) × Unit)
abbrev Qhz : Ty := (.sl  QhB )
abbrev Qhy : Type := (List (Int × (ByteArray × Unit)))
abbrev Qhx : Type := (Int × (Unit × (Unit × (Int × Unit))))
abbrev Qhw : Ty := (.sl (.pair (.int .u64) (.pair .str .unit)))
abbrev Qhv : Type := (Int × ((List Int) × ((List Int) × (Int × (Int × (Int × Unit))))))
abbrev Qhu : Type := ( Qhv  × (Unit × Unit))
abbrev Qht : Type := (Int × ((List (((List Int) × (Int × Unit)) × (ByteArray × (Int × Unit)))) × ( Qhy  × (Int × Unit))))
abbrev Qhs : Type := (List  Qht )
abbrev Qhr : Ty := (.pair (.int .u32) (.pair  QhC  (.pair  QhC  (.pair (.int .u32) (.pair (.int .u32) (.pair (.int .u32) .unit))))))
abbrev Qhq : Ty := (.pair (.int .u32) (.pair (.sl (.pair (.pair  QhC  (.pair (.int .u32) .unit)) (.pair .str (.pair (.int .u32) .unit)))) (.pair  Qhw  (.pair (.int .u32) .unit))))
abbrev Qhp : Type := ( Qhv  × ( Qhs  × Unit))
abbrev Qho : Ty := (.sl  Qhq )
abbrev Qhn : Ty := (.pair  Qhr  (.pair  Qho  .unit))
end Go.Am
namespace Go.Am
open Go Go.Proofs
set_option maxRecDepth 100000
abbrev QQ.p0.σ : Type := Int × ByteArray × Qhy × Qhx × Unit
abbrev QQ.p0.τ : Type := (Int × Qhx × Unit) ⊕ (Int × ByteArray × Qhy × Qhx × Unit)
def QQ.p0.r (k : Nat) {ρ : Type} (x : QQ.p0.σ) (K : QQ.p0.τ → Option ρ) : Option ρ :=
 bif (decide (x.1 < (0 : Int))) then (K (.inl ((1 : Int), (((0 : Int), ((), ((), ((0 : Int), ())))), ())))) else (bif (decide (x.1 > (2147483647 : Int))) then (K (.inl ((1 : Int), (((0 : Int), ((), ((), ((0 : Int), ())))), ())))) else (let v0 : Int := (((ByteArray.size x.2.1) : Nat) : Int)
 bif (decide (v0 > (96 : Int))) then (K (.inl ((1 : Int), (((0 : Int), ((), ((), ((0 : Int), ())))), ())))) else (K (.inr (x.1, (x.2.1, (x.2.2.1, ((x.2.2.2.1.1, ((), ((), (x.2.2.2.1.2.2.2.1, ())))), ()))))))))
def QQ.p0 (k : Nat) (x : QQ.p0.σ) : Option QQ.p0.τ := QQ.p0.r k x some
def QQ.p0.T : StT := ⟨.dat (.int .i64) :: .dat .str :: .dat Qhw :: us 3 ++ .ptr 0 [] :: us 32, [.pair (.dat (.int .u32)) (.pair (.nils) (.pair (.nils) (.dat (.pair (.int .u32) .unit))))]⟩
def QQ.p0.os : List Out := [⟨.ret, [.mask [6, 7], .auto 0], ⟨us 6 ++ .ptr 0 [] :: .dat (.int .i64) :: us 31, [.pair (.dat (.int .u32)) (.pair (.nils) (.pair (.nils) (.dat (.pair (.int .u32) .unit))))]⟩⟩, ⟨.normal, [.mask [0, 1, 2, 6], .auto 0], ⟨.dat (.int .i64) :: .dat .str :: .dat Qhw :: us 3 ++ .ptr 0 [] :: us 32, [.pair (.dat (.int .u32)) (.pair (.nils) (.pair (.nils) (.dat (.pair (.int .u32) .unit))))]⟩⟩]
def QQ.c (k : Nat) {ρ : Type} (height : Int) (extra : ByteArray) (outs : Qhy) (K : Qht × Int × Unit → Option ρ) : Option ρ :=
 (QQ.p0 k (height, (extra, (outs, (((0 : Int), ((), ((), ((0 : Int), ())))), ()))))).bind fun t1 => (match t1 with | .inl t2 => (K ((t2.2.1.1, ([], ([], (t2.2.1.2.2.2.1, ())))), (t2.1, ()))) | .inr (t3) => ((Q0C k ).bind fun t4 => let v5 : Int := (IntKind.wrap IntKind.u32 t3.1)
 (Q0h k v5 (((), ((), ())), ()) t4.2.1).bind fun t6 => (QL k t3.2.1 (((), ((), ())), ()) t6.2.1).bind fun t7 => (Q06 k (((), ((), ())), ()) t7.2.1).bind fun t8 => bif (Nat.ble ((List.length t3.2.2.1) * 24) 140737488355328) then (K (((1 : Int), ((List.set (List.replicate 1 (((List.replicate 32 (0 : Int)), ((0 : Int), ())), (ByteArray.empty, ((0 : Int), ())))) 0 (((List.replicate 32 (0 : Int)), ((4294967295 : Int), ())), (t8.1, ((4294967295 : Int), ())))), (t3.2.2.1, ((0 : Int), ())))), ((0 : Int), ()))) else (none)))
def QQ (k : Nat) (height : Int) (extra : ByteArray) (outs : Qhy) : Option (Qht × Int × Unit) := QQ.c k height extra outs some
def QQ.tin : List Ty := [(.int .i64), .str, Qhw]
def QQ.tout : List Ty := [Qhq, (.int .i64)]
def QQ.sem (k : Nat) : QT := Q00 QQ.tin QQ.tout fun x => QQ k x.1 x.2.1 x.2.2.1
noncomputable def QQ.ctx (k : Nat) : Ctx := ⟨Tryz.prog, gam [(23, (Q0C.sem k)), (24, (Q0h.sem k)), (40, (QL.sem k)), (26, (Q06.sem k))]⟩
theorem QQ.gok (k : Nat) : ∀ f, QI Tryz.prog f ((QQ.ctx k).Γ f) := (Ql (Q0C.sem_ok k) (Ql (Q0h.sem_ok k) (Ql (QL.sem_ok k) (Ql (Q06.sem_ok k) Q01))))
theorem QQ.p0.is (k : Nat) : Q22 (QQ.ctx k) (QP (Func.code Tryz.f61) [1, 0]) (.nil) QQ.p0.T QQ.p0.os (QQ.p0.r k) := by
 intro ρ x K; kernel_rfl
theorem QQ.p0.ok (k : Nat) : StOK 0 Tryz.prog (QP (Func.code Tryz.f61) [1, 0]) (Qp QQ.p0.T QQ.p0.os (QQ.p0 k)) :=
 Q1X (C := QQ.ctx k) (T := QQ.p0.T) (os := QQ.p0.os) (QQ.gok k) Tryz.mix (fun x K => QQ.p0.r k x K) Q1.nil (by kernel_rfl) (by kernel_rfl) (QQ.p0.is k)
def QQ.ann (k : Nat) : Ann := .node [] none (.nil) (.node [] none (.node [.mask [0, 1, 2, 6], .auto 0] (some (Qp QQ.p0.T QQ.p0.os (QQ.p0 k))) .nil .nil) (.nil))
theorem QQ.body (k : Nat) : Q0W (QQ.ctx k) Tryz.f61 (Func.code Tryz.f61) (QQ.ann k) QQ.tin QQ.tout (fun x K => QQ.c k x.1 x.2.1 x.2.2.1 K) := by
 intro ρ x K; kernel_rfl
theorem QQ.sem_ok (k : Nat) : QI Tryz.prog 61 (QQ.sem k) :=
 QG (C := QQ.ctx k) (QQ.gok k) Tryz.mix (c := Func.code Tryz.f61) (ann := QQ.ann k) (tin := QQ.tin) (tout := QQ.tout) (fun x K => QQ.c k x.1 x.2.1 x.2.2.1 K) Tryz.func61 (by kernel_rfl) (by kernel_rfl) (Q1.seq Q1.nil (Q1.seq (Q1.loop (by kernel_rfl) (QQ.p0.ok k)) Q1.nil)) (QQ.body k)
def Q2p.c (k : Nat) {ρ : Type} (t : Qht) (K : (List Int) × Int × Unit → Option ρ) : Option ρ :=
 (Qm k (t.1, (t.2.1, (t.2.2.1, (t.2.2.2.1, ()))))).bind fun t0 => let v1 : ByteArray := t0.1
 let v2 : Int := t0.2.1
 bif (v2 != (0 : Int)) then (let v3 : (List Int) := (List.replicate 32 (0 : Int))
 K (v3, (v2, ()))) else ((Q1l k v1).bind fun t4 => K (t4.1, ((0 : Int), ())))
def Q2p (k : Nat) (t : Qht) : Option ((List Int) × Int × Unit) := Q2p.c k t some
def Q2p.tin : List Ty := [Qhq]
def Q2p.tout : List Ty := [QhC, (.int .i64)]
def Q2p.sem (k : Nat) : QT := Q00 Q2p.tin Q2p.tout fun x => Q2p k x.1
noncomputable def Q2p.ctx (k : Nat) : Ctx := ⟨Tryz.prog, gam [(42, (Qm.sem k)), (33, (Q1l.sem k))]⟩
theorem Q2p.gok (k : Nat) : ∀ f, QI Tryz.prog f ((Q2p.ctx k).Γ f) := (Ql (Qm.sem_ok k) (Ql (Q1l.sem_ok k) Q01))
def Q2p.ann (k : Nat) : Ann := .nil
theorem Q2p.body (k : Nat) : Q0W (Q2p.ctx k) Tryz.f96 (Func.code Tryz.f96) (Q2p.ann k) Q2p.tin Q2p.tout (fun x K => Q2p.c k x.1 K) := by
 intro ρ x K; kernel_rfl
theorem Q2p.sem_ok (k : Nat) : QI Tryz.prog 96 (Q2p.sem k) :=
 QG (C := Q2p.ctx k) (Q2p.gok k) Tryz.mix (c := Func.code Tryz.f96) (ann := Q2p.ann k) (tin := Q2p.tin) (tout := Q2p.tout) (fun x K => Q2p.c k x.1 K) Tryz.func96 (by kernel_rfl) (by kernel_rfl) Q1.nil (Q2p.body k)
def QF.c (k : Nat) {ρ : Type} (s : (List (List Int))) (K : (List (List Int)) × Unit → Option ρ) : Option ρ :=
 bif (Nat.ble 1 (List.length s)) then (bif (Nat.ble ((0 + (List.length s)) * 32) 140737488355328) then (K (((List.replicate 0 (List.replicate 32 (0 : Int))) ++ s), ())) else (none)) else (none)
def QF (k : Nat) (s : (List (List Int))) : Option ((List (List Int)) × Unit) := QF.c k s some
def QF.tin : List Ty := [QhB]
def QF.tout : List Ty := [QhB]
def QF.sem (k : Nat) : QT := Q00 QF.tin QF.tout fun x => QF k x.1
noncomputable def QF.ctx (k : Nat) : Ctx := ⟨Tryz.prog, gam []⟩
theorem QF.gok (k : Nat) : ∀ f, QI Tryz.prog f ((QF.ctx k).Γ f) := Q01
def QF.ann (k : Nat) : Ann := .nil
theorem QF.body (k : Nat) : Q0W (QF.ctx k) Tryz.f126 (Func.code Tryz.f126) (QF.ann k) QF.tin QF.tout (fun x K => QF.c k x.1 K) := by
 intro ρ x K; kernel_rfl
theorem QF.sem_ok (k : Nat) : QI Tryz.prog 126 (QF.sem k) :=
 QG (C := QF.ctx k) (QF.gok k) Tryz.mix (c := Func.code Tryz.f126) (ann := QF.ann k) (tin := QF.tin) (tout := QF.tout) (fun x K => QF.c k x.1 K) Tryz.func126 (by kernel_rfl) (by kernel_rfl) Q1.nil (QF.body k)
def Q1m.c (k : Nat) {ρ : Type} (a : (List Int)) (b : (List Int)) (K : (List Int) × Unit → Option ρ) : Option ρ :=
 let v0 : ByteArray := (bytesOf (List.take 32 (List.drop 0 a)))
 let v1 : ByteArray := (bytesOf (List.take 32 (List.drop 0 b)))
 bif (Nat.ble ((ByteArray.size v0) + (ByteArray.size v1)) 9223372036854775807) then (let v2 : ByteArray := (v0 ++ v1)
 (Q1l k v2).bind fun t3 => K (t3.1, ())) else (none)
def Q1m (k : Nat) (a : (List Int)) (b : (List Int)) : Option ((List Int) × Unit) := Q1m.c k a b some
def Q1m.tin : List Ty := [QhC, QhC]
def Q1m.tout : List Ty := [QhC]
def Q1m.sem (k : Nat) : QT := Q00 Q1m.tin Q1m.tout fun x => Q1m k x.1 x.2.1
noncomputable def Q1m.ctx (k : Nat) : Ctx := ⟨Tryz.prog, gam [(33, (Q1l.sem k))]⟩
theorem Q1m.gok (k : Nat) : ∀ f, QI Tryz.prog f ((Q1m.ctx k).Γ f) := (Ql (Q1l.sem_ok k) Q01)
def Q1m.ann (k : Nat) : Ann := .nil
theorem Q1m.body (k : Nat) : Q0W (Q1m.ctx k) Tryz.f133 (Func.code Tryz.f133) (Q1m.ann k) Q1m.tin Q1m.tout (fun x K => Q1m.c k x.1 x.2.1 K) := by
 intro ρ x K; kernel_rfl
theorem Q1m.sem_ok (k : Nat) : QI Tryz.prog 133 (Q1m.sem k) :=
 QG (C := Q1m.ctx k) (Q1m.gok k) Tryz.mix (c := Func.code Tryz.f133) (ann := Q1m.ann k) (tin := Q1m.tin) (tout := Q1m.tout) (fun x K => Q1m.c k x.1 x.2.1 K) Tryz.func133 (by kernel_rfl) (by kernel_rfl) Q1.nil (Q1m.body k)
abbrev Q0f.l0.σ : Type := (List (List Int)) × Int × (List (List Int)) × Unit
abbrev Q0f.l0.τ : Type := ((List (List Int)) × Unit)
def Q0f.l0.r (k : Nat) {ρ : Type} (x : Q0f.l0.σ) (kn : Q0f.l0.σ → Option ρ) (ke : Q0f.l0.τ → Option ρ) : Option ρ :=
 let v0 : Int := (((List.length x.1) : Nat) : Int)
 bif (decide (x.2.1 < v0)) then (bif (decide (((0 : Int) ≤ x.2.1) ∧ (x.2.1 < (((List.length x.1) : Nat) : Int)))) then (let v1 : (List Int) := (List.getD x.1 (Int.toNat x.2.1) (List.replicate 32 (0 : Int)))
 let v2 : Int := (IntKind.wrap IntKind.i64 (x.2.1 + (1 : Int)))
 let v3 : Int := (((List.length x.1) : Nat) : Int)
 let v4 : Int := (IntKind.wrap IntKind.i64 (v3 - (1 : Int)))
 let v5 : Int := (if (v4 < v2) then v4 else v2)
 bif (decide (((0 : Int) ≤ v5) ∧ (v5 < (((List.length x.1) : Nat) : Int)))) then (let v6 : (List Int) := (List.getD x.1 (Int.toNat v5) (List.replicate 32 (0 : Int)))
 (Q1m k v1 v6).bind fun t7 => bif (Nat.ble (((List.length x.2.2.1) + (List.length (List.set (List.replicate 1 (List.replicate 32 (0 : Int))) 0 t7.1))) * 32) 140737488355328) then (let v8 : Int := (IntKind.wrap IntKind.i64 (x.2.1 + (2 : Int)))
 kn (x.1, (v8, ((x.2.2.1 ++ (List.set (List.replicate 1 (List.replicate 32 (0 : Int))) 0 t7.1)), ())))) else (none)) else (none)) else (none)) else (ke (x.2.2.1, ()))
def Q0f.l0 (k : Nat) : Nat → Q0f.l0.σ → Option Q0f.l0.τ := Q15 (Q0f.l0.r k)
def Q0f.l0.T : StT := ⟨.dat QhB :: us 2 ++ .vsl 0 :: .dat (.int .i64) :: us 24, [.vec QhC]⟩
def Q0f.l0.os : List Out := [⟨(.exit 0), [.mask [3], .auto 0], ⟨us 3 ++ .vsl 0 :: us 25, [.vec QhC]⟩⟩]
def Q0f.c (k : Nat) {ρ : Type} (l : (List (List Int))) (K : (List (List Int)) × Unit → Option ρ) : Option ρ :=
 (Q0f.l0 k k (l, ((0 : Int), ([], ())))).bind fun t9 => K (t9.1, ())
def Q0f (k : Nat) (l : (List (List Int))) : Option ((List (List Int)) × Unit) := Q0f.c k l some
def Q0f.tin : List Ty := [QhB]
def Q0f.tout : List Ty := [QhB]
def Q0f.sem (k : Nat) : QT := Q00 Q0f.tin Q0f.tout fun x => Q0f k x.1
noncomputable def Q0f.ctx (k : Nat) : Ctx := ⟨Tryz.prog, gam [(133, (Q1m.sem k))]⟩
theorem Q0f.gok (k : Nat) : ∀ f, QI Tryz.prog f ((Q0f.ctx k).Γ f) := (Ql (Q1m.sem_ok k) Q01)
theorem Q0f.l0.round (k : Nat) : Q14 (Q0f.ctx k) (QP (Func.code Tryz.f127) [1, 1, 0, 1, 0, 0]) (.nil) Q0f.l0.T [.mask [0, 3, 4], .auto 0] Q0f.l0.os (Q0f.l0.r k) := by
 intro ρ x kn ke; kernel_rfl
theorem Q0f.l0.ok (k : Nat) : StOK 0 Tryz.prog (.loop (QP (Func.code Tryz.f127) [1, 1, 0, 1, 0, 0])) (Qp Q0f.l0.T Q0f.l0.os (Q0f.l0 k k)) :=
 Q16 (C := Q0f.ctx k) (Q0f.gok k) Tryz.mix Q1.nil (by kernel_rfl) (by kernel_rfl) (by kernel_rfl) (Q0f.l0.round k) k
def Q0f.ann (k : Nat) : Ann := .node [] none (.nil) (.node [] none (.nil) (.node [] none (.node [] none (.nil) (.node [] none (.node [.own (.slot 3) QhC] (some (Qp Q0f.l0.T Q0f.l0.os (Q0f.l0 k k))) .nil .nil) (.nil))) (.nil)))
theorem Q0f.body (k : Nat) : Q0W (Q0f.ctx k) Tryz.f127 (Func.code Tryz.f127) (Q0f.ann k) Q0f.tin Q0f.tout (fun x K => Q0f.c k x.1 K) := by
 intro ρ x K; kernel_rfl
theorem Q0f.sem_ok (k : Nat) : QI Tryz.prog 127 (Q0f.sem k) :=
 QG (C := Q0f.ctx k) (Q0f.gok k) Tryz.mix (c := Func.code Tryz.f127) (ann := Q0f.ann k) (tin := Q0f.tin) (tout := Q0f.tout) (fun x K => Q0f.c k x.1 K) Tryz.func127 (by kernel_rfl) (by kernel_rfl) (Q1.seq Q1.nil (Q1.seq Q1.nil (Q1.seq (Q1.seq Q1.nil (Q1.block (Q1.loop (by kernel_rfl) (Q0f.l0.ok k)))) Q1.nil))) (Q0f.body k)
abbrev QZ.l0.σ : Type := (List (List Int)) × (List (List (List Int))) × Unit
abbrev QZ.l0.τ : Type := ((List (List (List Int))) × Unit)
def QZ.l0.r (k : Nat) {ρ : Type} (x : QZ.l0.σ) (kn : QZ.l0.σ → Option ρ) (ke : QZ.l0.τ → Option ρ) : Option ρ :=
 let v2 : Int := (((List.length x.1) : Nat) : Int)
 bif (decide (v2 > (1 : Int))) then ((Q0f k x.1).bind fun t3 => bif (Nat.ble (((List.length x.2.1) + (List.length (List.set (List.replicate 1 []) 0 t3.1))) * 24) 140737488355328) then (kn (t3.1, ((x.2.1 ++ (List.set (List.replicate 1 []) 0 t3.1)), ()))) else (none)) else (ke (x.2.1, ()))
def QZ.l0 (k : Nat) : Nat → QZ.l0.σ → Option QZ.l0.τ := Q15 (QZ.l0.r k)
def QZ.l0.T : StT := ⟨.dat QhB :: us 2 ++ .vsl 0 :: us 16, [.vec QhB]⟩
def QZ.l0.os : List Out := [⟨(.exit 0), [.mask [3], .auto 0], ⟨us 3 ++ .vsl 0 :: us 16, [.vec QhB]⟩⟩]
def QZ.c (k : Nat) {ρ : Type} (l : (List (List Int))) (K : (List (List (List Int))) × Unit → Option ρ) : Option ρ :=
 let v0 : Int := (((List.length l) : Nat) : Int)
 bif (v0 == (0 : Int)) then (K ([], ())) else ((QF k l).bind fun t1 => (QZ.l0 k k (l, ((List.set (List.replicate 1 []) 0 t1.1), ()))).bind fun t4 => K (t4.1, ()))
def QZ (k : Nat) (l : (List (List Int))) : Option ((List (List (List Int))) × Unit) := QZ.c k l some
def QZ.tin : List Ty := [QhB]
def QZ.tout : List Ty := [Qhz]
def QZ.sem (k : Nat) : QT := Q00 QZ.tin QZ.tout fun x => QZ k x.1
noncomputable def QZ.ctx (k : Nat) : Ctx := ⟨Tryz.prog, gam [(126, (QF.sem k)), (127, (Q0f.sem k))]⟩
theorem QZ.gok (k : Nat) : ∀ f, QI Tryz.prog f ((QZ.ctx k).Γ f) := (Ql (QF.sem_ok k) (Ql (Q0f.sem_ok k) Q01))
theorem QZ.l0.round (k : Nat) : Q14 (QZ.ctx k) (QP (Func.code Tryz.f115) [1, 1, 1, 0, 0, 0]) (.nil) QZ.l0.T [.mask [0, 3], .auto 0] QZ.l0.os (QZ.l0.r k) := by
 intro ρ x kn ke; kernel_rfl
theorem QZ.l0.ok (k : Nat) : StOK 0 Tryz.prog (.loop (QP (Func.code Tryz.f115) [1, 1, 1, 0, 0, 0])) (Qp QZ.l0.T QZ.l0.os (QZ.l0 k k)) :=
 Q16 (C := QZ.ctx k) (QZ.gok k) Tryz.mix Q1.nil (by kernel_rfl) (by kernel_rfl) (by kernel_rfl) (QZ.l0.round k) k
def QZ.ann (k : Nat) : Ann := .node [] none (.nil) (.node [] none (.nil) (.node [] none (.nil) (.node [] none (.node [] none (.node [.mask [0, 3], .auto 0] (some (Qp QZ.l0.T QZ.l0.os (QZ.l0 k k))) .nil .nil) (.nil)) (.nil))))
theorem QZ.body (k : Nat) : Q0W (QZ.ctx k) Tryz.f115 (Func.code Tryz.f115) (QZ.ann k) QZ.tin QZ.tout (fun x K => QZ.c k x.1 K) := by
 intro ρ x K; kernel_rfl
theorem QZ.sem_ok (k : Nat) : QI Tryz.prog 115 (QZ.sem k) :=
 QG (C := QZ.ctx k) (QZ.gok k) Tryz.mix (c := Func.code Tryz.f115) (ann := QZ.ann k) (tin := QZ.tin) (tout := QZ.tout) (fun x K => QZ.c k x.1 K) Tryz.func115 (by kernel_rfl) (by kernel_rfl) (Q1.seq Q1.nil (Q1.seq Q1.nil (Q1.seq Q1.nil (Q1.seq (Q1.block (Q1.loop (by kernel_rfl) (QZ.l0.ok k))) Q1.nil)))) (QZ.body k)
abbrev QM.l1.σ : Type := Bool × (List (List (List Int))) × (List (List Int)) × Int × (List (List (List Int))) × Int × Int × (List Int) × Unit
abbrev QM.l1.τ : Type := (Bool × (List (List (List Int))) × (List (List (List Int))) × Int × Int × (List Int) × Unit)
def QM.l1.r (k : Nat) {ρ : Type} (x : QM.l1.σ) (kn : QM.l1.σ → Option ρ) (ke : QM.l1.τ → Option ρ) : Option ρ :=
 let v3 : Int := (IntKind.wrap IntKind.i64 (x.2.2.2.1 + (1 : Int)))
 let v4 : Int := (((List.length x.2.2.1) : Nat) : Int)
 bif (decide (v3 < v4)) then (bif x.1 then (let v5 : Int := (IntKind.wrap IntKind.i64 (x.2.2.2.1 + (2 : Int)))
 kn (true, (x.2.1, (x.2.2.1, (v5, (x.2.2.2.2.1, (x.2.2.2.2.2.1, (x.2.2.2.2.2.2.1, (x.2.2.2.2.2.2.2.1, ()))))))))) else (bif (decide (((0 : Int) ≤ x.2.2.2.1) ∧ (x.2.2.2.1 < (((List.length x.2.2.1) : Nat) : Int)))) then (let v6 : (List Int) := (List.getD x.2.2.1 (Int.toNat x.2.2.2.1) (List.replicate 32 (0 : Int)))
 let v7 : Int := (IntKind.wrap IntKind.i64 (x.2.2.2.1 + (1 : Int)))
 bif (decide (((0 : Int) ≤ v7) ∧ (v7 < (((List.length x.2.2.1) : Nat) : Int)))) then (let v8 : (List Int) := (List.getD x.2.2.1 (Int.toNat v7) (List.replicate 32 (0 : Int)))
 let v9 : Int := (IntKind.wrap IntKind.i64 (x.2.2.2.1 + (2 : Int)))
 kn ((decide (v6 = v8)), (x.2.1, (x.2.2.1, (v9, (x.2.2.2.2.1, (x.2.2.2.2.2.1, (x.2.2.2.2.2.2.1, (x.2.2.2.2.2.2.2.1, ()))))))))) else (none)) else (none))) else (ke (x.1, (x.2.1, (x.2.2.2.2.1, (x.2.2.2.2.2.1, (x.2.2.2.2.2.2.1, (x.2.2.2.2.2.2.2.1, ())))))))
def QM.l1 (k : Nat) : Nat → QM.l1.σ → Option QM.l1.τ := Q15 (QM.l1.r k)
def QM.l1.T : StT := ⟨us 2 ++ .ptr 0 [] :: us 1 ++ .dat .bool :: .dat Qhz :: us 1 ++ .dat QhB :: .dat (.int .i64) :: us 2 ++ .dat Qhz :: .dat (.int .i64) :: .dat (.int .i64) :: us 37, [.dat QhC]⟩
def QM.l1.os : List Out := [⟨(.exit 2), [.mask [2, 4, 5, 11, 12, 13], .auto 0], ⟨us 2 ++ .ptr 0 [] :: us 1 ++ .dat .bool :: .dat Qhz :: us 5 ++ .dat Qhz :: .dat (.int .i64) :: .dat (.int .i64) :: us 37, [.dat QhC]⟩⟩]
abbrev QM.l0.σ : Type := Bool × (List (List (List Int))) × (List (List (List Int))) × Int × Int × (List Int) × Unit
abbrev QM.l0.τ : Type := (Bool × (List (List (List Int))) × (List Int) × Unit)
def QM.l0.r (k : Nat) {ρ : Type} (x : QM.l0.σ) (kn : QM.l0.σ → Option ρ) (ke : QM.l0.τ → Option ρ) : Option ρ :=
 bif (decide (x.2.2.2.2.1 < x.2.2.2.1)) then (bif (decide (((0 : Int) ≤ x.2.2.2.2.1) ∧ (x.2.2.2.2.1 < (((List.length x.2.2.1) : Nat) : Int)))) then (let v2 : (List (List Int)) := (List.getD x.2.2.1 (Int.toNat x.2.2.2.2.1) [])
 (QM.l1 k k (x.1, (x.2.1, (v2, ((0 : Int), (x.2.2.1, (x.2.2.2.1, (x.2.2.2.2.1, (x.2.2.2.2.2.1, ()))))))))).bind fun t10 => let v11 : Int := (IntKind.wrap IntKind.i64 (t10.2.2.2.2.1 + (1 : Int)))
 kn (t10.1, (t10.2.1, (t10.2.2.1, (t10.2.2.2.1, (v11, (t10.2.2.2.2.2.1, ()))))))) else (none)) else (ke (x.1, (x.2.1, (x.2.2.2.2.2.1, ()))))
def QM.l0 (k : Nat) : Nat → QM.l0.σ → Option QM.l0.τ := Q15 (QM.l0.r k)
def QM.l0.T : StT := ⟨us 2 ++ .ptr 0 [] :: us 1 ++ .dat .bool :: .dat Qhz :: us 5 ++ .dat Qhz :: .dat (.int .i64) :: .dat (.int .i64) :: us 37, [.dat QhC]⟩
def QM.l0.os : List Out := [⟨(.exit 0), [.mask [2, 4, 5], .auto 0], ⟨us 2 ++ .ptr 0 [] :: us 1 ++ .dat .bool :: .dat Qhz :: us 45, [.dat QhC]⟩⟩]
def QM.c (k : Nat) {ρ : Type} (l : (List (List Int))) (K : (List Int) × Bool × Unit → Option ρ) : Option ρ :=
 (QZ k l).bind fun t0 => let v1 : Int := (((List.length t0.1) : Nat) : Int)
 (QM.l0 k k (false, (t0.1, (t0.1, (v1, ((0 : Int), ((List.replicate 32 (0 : Int)), ()))))))).bind fun t12 => let v13 : Int := (((List.length t12.2.1) : Nat) : Int)
 bif (v13 == (0 : Int)) then (let v14 : (List Int) := (List.replicate 32 (0 : Int))
 K (v14, (false, ()))) else (let v15 : Int := (((List.length t12.2.1) : Nat) : Int)
 let v16 : Int := (IntKind.wrap IntKind.i64 (v15 - (1 : Int)))
 bif (decide (((0 : Int) ≤ v16) ∧ (v16 < (((List.length t12.2.1) : Nat) : Int)))) then (let v17 : (List (List Int)) := (List.getD t12.2.1 (Int.toNat v16) [])
 bif (decide (((0 : Int) ≤ (0 : Int)) ∧ ((0 : Int) < (((List.length v17) : Nat) : Int)))) then (let v18 : (List Int) := (List.getD v17 0 (List.replicate 32 (0 : Int)))
 K (v18, (t12.1, ()))) else (none)) else (none))
def QM (k : Nat) (l : (List (List Int))) : Option ((List Int) × Bool × Unit) := QM.c k l some
def QM.tin : List Ty := [QhB]
def QM.tout : List Ty := [QhC, .bool]
def QM.sem (k : Nat) : QT := Q00 QM.tin QM.tout fun x => QM k x.1
noncomputable def QM.ctx (k : Nat) : Ctx := ⟨Tryz.prog, gam [(115, (QZ.sem k))]⟩
theorem QM.gok (k : Nat) : ∀ f, QI Tryz.prog f ((QM.ctx k).Γ f) := (Ql (QZ.sem_ok k) Q01)
theorem QM.l1.round (k : Nat) : Q14 (QM.ctx k) (QP (Func.code Tryz.f97) [1, 1, 1, 0, 1, 0, 0, 1, 1, 0, 0, 1, 1, 0, 0]) (.nil) QM.l1.T [.mask [2, 4, 5, 7, 8, 11, 12, 13], .auto 0] QM.l1.os (QM.l1.r k) := by
 intro ρ x kn ke; kernel_rfl
theorem QM.l1.ok (k : Nat) : StOK 0 Tryz.prog (.loop (QP (Func.code Tryz.f97) [1, 1, 1, 0, 1, 0, 0, 1, 1, 0, 0, 1, 1, 0, 0])) (Qp QM.l1.T QM.l1.os (QM.l1 k k)) :=
 Q16 (C := QM.ctx k) (QM.gok k) Tryz.mix Q1.nil (by kernel_rfl) (by kernel_rfl) (by kernel_rfl) (QM.l1.round k) k
theorem QM.l0.round (k : Nat) : Q14 (QM.ctx k) (QP (Func.code Tryz.f97) [1, 1, 1, 0, 1, 0, 0]) (.node [] none (.nil) (.node [] none (.nil) (.node [] none (.node [] none (.node [] none (.nil) (.node [] none (.nil) (.node [] none (.node [.mask [2, 4, 5, 7, 8, 11, 12, 13], .auto 0] (some (Qp QM.l1.T QM.l1.os (QM.l1 k k))) .nil .nil) (.nil)))) (.nil)) (.nil)))) QM.l0.T [.mask [2, 4, 5, 11, 12, 13], .auto 0] QM.l0.os (QM.l0.r k) := by
 intro ρ x kn ke; kernel_rfl
theorem QM.l0.ok (k : Nat) : StOK 0 Tryz.prog (.loop (QP (Func.code Tryz.f97) [1, 1, 1, 0, 1, 0, 0])) (Qp QM.l0.T QM.l0.os (QM.l0 k k)) :=
 Q16 (C := QM.ctx k) (QM.gok k) Tryz.mix (Q1.seq Q1.nil (Q1.seq Q1.nil (Q1.seq (Q1.block (Q1.seq Q1.nil (Q1.seq Q1.nil (Q1.block (Q1.loop (by kernel_rfl) (QM.l1.ok k)))))) Q1.nil))) (by kernel_rfl) (by kernel_rfl) (by kernel_rfl) (QM.l0.round k) k
def QM.ann (k : Nat) : Ann := .node [] none (.nil) (.node [] none (.nil) (.node [] none (.nil) (.node [] none (.node [] none (.nil) (.node [] none (.node [.mask [2, 4, 5, 11, 12, 13], .auto 0] (some (Qp QM.l0.T QM.l0.os (QM.l0 k k))) .nil .nil) (.nil))) (.nil))))
theorem QM.body (k : Nat) : Q0W (QM.ctx k) Tryz.f97 (Func.code Tryz.f97) (QM.ann k) QM.tin QM.tout (fun x K => QM.c k x.1 K) := by
 intro ρ x K; kernel_rfl
theorem QM.sem_ok (k : Nat) : QI Tryz.prog 97 (QM.sem k) :=
 QG (C := QM.ctx k) (QM.gok k) Tryz.mix (c := Func.code Tryz.f97) (ann := QM.ann k) (tin := QM.tin) (tout := QM.tout) (fun x K => QM.c k x.1 K) Tryz.func97 (by kernel_rfl) (by kernel_rfl) (Q1.seq Q1.nil (Q1.seq Q1.nil (Q1.seq Q1.nil (Q1.seq (Q1.seq Q1.nil (Q1.block (Q1.loop (by kernel_rfl) (QM.l0.ok k)))) Q1.nil)))) (QM.body k)
abbrev Q0D.l0.σ : Type := Qhs × Int × Int × (List Int) × (List (List Int)) × Unit
abbrev Q0D.l0.τ : Type := ((List Int) × (List (List Int)) × Unit)
def Q0D.l0.r (k : Nat) {ρ : Type} (x : Q0D.l0.σ) (kn : Q0D.l0.σ → Option ρ) (ke : Q0D.l0.τ → Option ρ) : Option ρ :=
 bif (decide (x.2.2.1 < x.2.1)) then (bif (decide (((0 : Int) ≤ x.2.2.1) ∧ (x.2.2.1 < (((List.length x.1) : Nat) : Int)))) then ((Q2p k ((List.getD x.1 (Int.toNat x.2.2.1) ((0 : Int), ([], ([], ((0 : Int), ()))))).1, ((List.getD x.1 (Int.toNat x.2.2.1) ((0 : Int), ([], ([], ((0 : Int), ()))))).2.1, ((List.getD x.1 (Int.toNat x.2.2.1) ((0 : Int), ([], ([], ((0 : Int), ()))))).2.2.1, ((List.getD x.1 (Int.toNat x.2.2.1) ((0 : Int), ([], ([], ((0 : Int), ()))))).2.2.2.1, ()))))).bind fun t2 => let v3 : (List Int) := t2.1
 let v4 : Int := t2.2.1
 bif (decide (((0 : Int) ≤ x.2.2.1) ∧ (x.2.2.1 < (((List.length x.2.2.2.2.1) : Nat) : Int)))) then (let v5 : Int := (IntKind.wrap IntKind.i64 (x.2.2.1 + (1 : Int)))
 kn (x.1, (x.2.1, (v5, (x.2.2.2.1, ((List.set x.2.2.2.2.1 (Int.toNat x.2.2.1) v3), ())))))) else (none)) else (none)) else (ke (x.2.2.2.1, (x.2.2.2.2.1, ())))
def Q0D.l0 (k : Nat) : Nat → Q0D.l0.σ → Option Q0D.l0.τ := Q15 (Q0D.l0.r k)
def Q0D.l0.T : StT := ⟨us 2 ++ .ptr 0 [] :: us 1 ++ .vsl 1 :: us 5 ++ .dat Qho :: .dat (.int .i64) :: .dat (.int .i64) :: us 17, [.dat QhC, .vec QhC]⟩
def Q0D.l0.os : List Out := [⟨(.exit 0), [.mask [2, 4], .auto 0], ⟨us 2 ++ .ptr 0 [] :: us 1 ++ .vsl 1 :: us 25, [.dat QhC, .vec QhC]⟩⟩]
def Q0D.c (k : Nat) {ρ : Type} (txs : Qhs) (K : (List Int) × Bool × Unit → Option ρ) : Option ρ :=
 let v0 : Int := (((List.length txs) : Nat) : Int)
 bif ((decide (((0 : Int) ≤ v0) ∧ (v0 ≤ v0))) && (Nat.ble ((Int.toNat v0) * 32) 140737488355328)) then (let v1 : Int := (((List.length txs) : Nat) : Int)
 (Q0D.l0 k k (txs, (v1, ((0 : Int), ((List.replicate 32 (0 : Int)), ((List.replicate (Int.toNat v0) (List.replicate 32 (0 : Int))), ())))))).bind fun t6 => (QM k t6.2.1).bind fun t7 => let v8 : (List Int) := t7.1
 K (v8, (t7.2.1, ()))) else (none)
def Q0D (k : Nat) (txs : Qhs) : Option ((List Int) × Bool × Unit) := Q0D.c k txs some
def Q0D.tin : List Ty := [Qho]
def Q0D.tout : List Ty := [QhC, .bool]
def Q0D.sem (k : Nat) : QT := Q00 Q0D.tin Q0D.tout fun x => Q0D k x.1
noncomputable def Q0D.ctx (k : Nat) : Ctx := ⟨Tryz.prog, gam [(96, (Q2p.sem k)), (97, (QM.sem k))]⟩
theorem Q0D.gok (k : Nat) : ∀ f, QI Tryz.prog f ((Q0D.ctx k).Γ f) := (Ql (Q2p.sem_ok k) (Ql (QM.sem_ok k) Q01))
theorem Q0D.l0.round (k : Nat) : Q14 (Q0D.ctx k) (QP (Func.code Tryz.f63) [1, 1, 0, 1, 0, 0]) (.nil) Q0D.l0.T [.mask [2, 4, 10, 11, 12], .auto 0] Q0D.l0.os (Q0D.l0.r k) := by
 intro ρ x kn ke; kernel_rfl
theorem Q0D.l0.ok (k : Nat) : StOK 0 Tryz.prog (.loop (QP (Func.code Tryz.f63) [1, 1, 0, 1, 0, 0])) (Qp Q0D.l0.T Q0D.l0.os (Q0D.l0 k k)) :=
 Q16 (C := Q0D.ctx k) (Q0D.gok k) Tryz.mix Q1.nil (by kernel_rfl) (by kernel_rfl) (by kernel_rfl) (Q0D.l0.round k) k
def Q0D.ann (k : Nat) : Ann := .node [] none (.nil) (.node [] none (.nil) (.node [] none (.node [] none (.nil) (.node [] none (.node [.mask [2, 4, 10, 11, 12], .auto 0] (some (Qp Q0D.l0.T Q0D.l0.os (Q0D.l0 k k))) .nil .nil) (.nil))) (.nil)))
theorem Q0D.body (k : Nat) : Q0W (Q0D.ctx k) Tryz.f63 (Func.code Tryz.f63) (Q0D.ann k) Q0D.tin Q0D.tout (fun x K => Q0D.c k x.1 K) := by
 intro ρ x K; kernel_rfl
theorem Q0D.sem_ok (k : Nat) : QI Tryz.prog 63 (Q0D.sem k) :=
 QG (C := Q0D.ctx k) (Q0D.gok k) Tryz.mix (c := Func.code Tryz.f63) (ann := Q0D.ann k) (tin := Q0D.tin) (tout := Q0D.tout) (fun x K => Q0D.c k x.1 K) Tryz.func63 (by kernel_rfl) (by kernel_rfl) (Q1.seq Q1.nil (Q1.seq Q1.nil (Q1.seq (Q1.seq Q1.nil (Q1.block (Q1.loop (by kernel_rfl) (Q0D.l0.ok k)))) Q1.nil))) (Q0D.body k)
def Q1g.c (k : Nat) {ρ : Type} (t : Qht) (K : Qht × Unit → Option ρ) : Option ρ :=
 let v0 : (List (((List Int) × (Int × Unit)) × (ByteArray × (Int × Unit)))) := t.2.1
 bif (Nat.ble ((List.length v0) * 64) 140737488355328) then (let v1 : Qhy := t.2.2.1
 bif (Nat.ble ((List.length v1) * 24) 140737488355328) then (K ((t.1, (v0, (v1, (t.2.2.2.1, ())))), ())) else (none)) else (none)
def Q1g (k : Nat) (t : Qht) : Option (Qht × Unit) := Q1g.c k t some
def Q1g.tin : List Ty := [Qhq]
def Q1g.tout : List Ty := [Qhq]
def Q1g.sem (k : Nat) : QT := Q00 Q1g.tin Q1g.tout fun x => Q1g k x.1
noncomputable def Q1g.ctx (k : Nat) : Ctx := ⟨Tryz.prog, gam []⟩
theorem Q1g.gok (k : Nat) : ∀ f, QI Tryz.prog f ((Q1g.ctx k).Γ f) := Q01
def Q1g.ann (k : Nat) : Ann := .nil
theorem Q1g.body (k : Nat) : Q0W (Q1g.ctx k) Tryz.f94 (Func.code Tryz.f94) (Q1g.ann k) Q1g.tin Q1g.tout (fun x K => Q1g.c k x.1 K) := by
 intro ρ x K; kernel_rfl
theorem Q1g.sem_ok (k : Nat) : QI Tryz.prog 94 (Q1g.sem k) :=
 QG (C := Q1g.ctx k) (Q1g.gok k) Tryz.mix (c := Func.code Tryz.f94) (ann := Q1g.ann k) (tin := Q1g.tin) (tout := Q1g.tout) (fun x K => Q1g.c k x.1 K) Tryz.func94 (by kernel_rfl) (by kernel_rfl) Q1.nil (Q1g.body k)
def Q1c.c (k : Nat) {ρ : Type} (h : Qhv) (K : ByteArray × Unit → Option ρ) : Option ρ :=
 (Q0C k ).bind fun t0 => let v1 : Int := h.1
 (Q0h k v1 (((), ((), ())), ()) t0.2.1).bind fun t2 => let v3 : (List Int) := h.2.1
 (Q0s k v3 (((), ((), ())), ()) t2.2.1).bind fun t4 => let v5 : (List Int) := h.2.2.1
 (Q0s k v5 (((), ((), ())), ()) t4.2.1).bind fun t6 => let v7 : Int := h.2.2.2.1
 (Q0h k v7 (((), ((), ())), ()) t6.2.1).bind fun t8 => let v9 : Int := h.2.2.2.2.1
 (Q0h k v9 (((), ((), ())), ()) t8.2.1).bind fun t10 => let v11 : Int := h.2.2.2.2.2.1
 (Q0h k v11 (((), ((), ())), ()) t10.2.1).bind fun t12 => (Q06 k (((), ((), ())), ()) t12.2.1).bind fun t13 => K (t13.1, ())
def Q1c (k : Nat) (h : Qhv) : Option (ByteArray × Unit) := Q1c.c k h some
def Q1c.tin : List Ty := [Qhr]
def Q1c.tout : List Ty := [.str]
def Q1c.sem (k : Nat) : QT := Q00 Q1c.tin Q1c.tout fun x => Q1c k x.1
noncomputable def Q1c.ctx (k : Nat) : Ctx := ⟨Tryz.prog, gam [(23, (Q0C.sem k)), (24, (Q0h.sem k)), (25, (Q0s.sem k)), (26, (Q06.sem k))]⟩
theorem Q1c.gok (k : Nat) : ∀ f, QI Tryz.prog f ((Q1c.ctx k).Γ f) := (Ql (Q0C.sem_ok k) (Ql (Q0h.sem_ok k) (Ql (Q0s.sem_ok k) (Ql (Q06.sem_ok k) Q01))))
def Q1c.ann (k : Nat) : Ann := .nil
theorem Q1c.body (k : Nat) : Q0W (Q1c.ctx k) Tryz.f5 (Func.code Tryz.f5) (Q1c.ann k) Q1c.tin Q1c.tout (fun x K => Q1c.c k x.1 K) := by
 intro ρ x K; kernel_rfl
theorem Q1c.sem_ok (k : Nat) : QI Tryz.prog 5 (Q1c.sem k) :=
 QG (C := Q1c.ctx k) (Q1c.gok k) Tryz.mix (c := Func.code Tryz.f5) (ann := Q1c.ann k) (tin := Q1c.tin) (tout := Q1c.tout) (fun x K => Q1c.c k x.1 K) Tryz.func5 (by kernel_rfl) (by kernel_rfl) Q1.nil (Q1c.body k)
abbrev Q0m.τ : Type := (Int × QhA × (List Int) × Unit)
def Q0m.c (k : Nat) {ρ : Type} (b0 : QhA) (b1 : (List Int)) (K : Q0m.τ → Option ρ) : Option ρ :=
 let v0 : Int := (((List.length b1) : Nat) : Int)
 K (v0, ((((), ((), ())), ()), (b1, ())))
def Q0m (k : Nat) (b0 : QhA) (b1 : (List Int)) : Option Q0m.τ := Q0m.c k b0 b1 some
def Q0m.T : Q27 := ⟨[.ptr 0 [0]], [.pair (.pair (.sfp 0 [0] 111) (.pair (.vbs 1) (.dat .unit))) (.dat .unit), .vec (.int .u8)], 1⟩
def Q0m.os : List Out := [⟨.ret, [.freeze (.slot 0), .auto 1], ⟨[.dat (.int .i64)], [.pair (.pair (.sfp 0 [0] 111) (.pair (.vbs 1) (.dat .unit))) (.dat .unit), .vec (.int .u8)]⟩⟩]
def Q0m.sem (k : Nat) : QT := Q2j Q0m.T Q0m.os fun x => Q0m k x.1 x.2.1
noncomputable def Q0m.ctx (k : Nat) : Ctx := ⟨Tryz.prog, gam []⟩
theorem Q0m.gok (k : Nat) : ∀ f, QI Tryz.prog f ((Q0m.ctx k).Γ f) := Q01
def Q0m.ann (k : Nat) : Ann := .nil
theorem Q0m.body (k : Nat) : Q2k (Q0m.ctx k) Tryz.f75 (Func.code Tryz.f75) (Q0m.ann k) Q0m.T Q0m.os (fun x K => Q0m.c k x.1 x.2.1 K) := by
 intro ρ x K; kernel_rfl
theorem Q0m.sem_ok (k : Nat) : QI Tryz.prog 75 (Q0m.sem k) :=
 Q1G (C := Q0m.ctx k) (Q0m.gok k) Tryz.mix (c := Func.code Tryz.f75) (ann := Q0m.ann k) (T := Q0m.T) (os := Q0m.os) (fun x K => Q0m.c k x.1 x.2.1 K) Tryz.func75 (by kernel_rfl) (by kernel_rfl) Q1.nil (Q0m.body k) (by kernel_rfl) (by kernel_rfl) (by kernel_rfl)
abbrev Q0U.τ : Type := (Int × QhA × (List Int) × Unit)
def Q0U.c (k : Nat) {ρ : Type} (b0 : QhA) (b1 : (List Int)) (K : Q0U.τ → Option ρ) : Option ρ :=
 (Q0m k (((), ((), ())), ()) b1).bind fun t0 => K (t0.1, ((((), ((), ())), ()), (t0.2.2.1, ())))
def Q0U (k : Nat) (b0 : QhA) (b1 : (List Int)) : Option Q0U.τ := Q0U.c k b0 b1 some
def Q0U.T : Q27 := ⟨[.ptr 0 []], [.pair (.pair (.sfp 0 [0] 111) (.pair (.vbs 1) (.dat .unit))) (.dat .unit), .vec (.int .u8)], 1⟩
def Q0U.os : List Out := [⟨.ret, [.freeze (.slot 0), .auto 1], ⟨[.dat (.int .i64)], [.pair (.pair (.sfp 0 [0] 111) (.pair (.vbs 1) (.dat .unit))) (.dat .unit), .vec (.int .u8)]⟩⟩]
def Q0U.sem (k : Nat) : QT := Q2j Q0U.T Q0U.os fun x => Q0U k x.1 x.2.1
noncomputable def Q0U.ctx (k : Nat) : Ctx := ⟨Tryz.prog, gam [(75, (Q0m.sem k))]⟩
theorem Q0U.gok (k : Nat) : ∀ f, QI Tryz.prog f ((Q0U.ctx k).Γ f) := (Ql (Q0m.sem_ok k) Q01)
def Q0U.ann (k : Nat) : Ann := .nil
theorem Q0U.body (k : Nat) : Q2k (Q0U.ctx k) Tryz.f43 (Func.code Tryz.f43) (Q0U.ann k) Q0U.T Q0U.os (fun x K => Q0U.c k x.1 x.2.1 K) := by
 intro ρ x K; kernel_rfl
theorem Q0U.sem_ok (k : Nat) : QI Tryz.prog 43 (Q0U.sem k) :=
 Q1G (C := Q0U.ctx k) (Q0U.gok k) Tryz.mix (c := Func.code Tryz.f43) (ann := Q0U.ann k) (T := Q0U.T) (os := Q0U.os) (fun x K => Q0U.c k x.1 x.2.1 K) Tryz.func43 (by kernel_rfl) (by kernel_rfl) Q1.nil (Q0U.body k) (by kernel_rfl) (by kernel_rfl) (by kernel_rfl)
abbrev QR.l0.σ : Type := Qhs × Int × Int × QhA × (List Int) × Unit
abbrev QR.l0.τ : Type := (ByteArray × Int × Unit) ⊕ (QhA × (List Int) × Unit)
def QR.l0.r (k : Nat) {ρ : Type} (x : QR.l0.σ) (kn : QR.l0.σ → Option ρ) (ke : QR.l0.τ → Option ρ) : Option ρ :=
 bif (decide (x.2.2.1 < x.2.1)) then (bif (decide (((0 : Int) ≤ x.2.2.1) ∧ (x.2.2.1 < (((List.length x.1) : Nat) : Int)))) then ((Qm k ((List.getD x.1 (Int.toNat x.2.2.1) ((0 : Int), ([], ([], ((0 : Int), ()))))).1, ((List.getD x.1 (Int.toNat x.2.2.1) ((0 : Int), ([], ([], ((0 : Int), ()))))).2.1, ((List.getD x.1 (Int.toNat x.2.2.1) ((0 : Int), ([], ([], ((0 : Int), ()))))).2.2.1, ((List.getD x.1 (Int.toNat x.2.2.1) ((0 : Int), ([], ([], ((0 : Int), ()))))).2.2.2.1, ()))))).bind fun t8 => let v9 : ByteArray := t8.1
 let v10 : Int := t8.2.1
 bif (v10 != (0 : Int)) then (ke (.inl ((⟨(List.toArray [])⟩ : ByteArray), (v10, ())))) else ((QL k v9 (((), ((), ())), ()) x.2.2.2.2.1).bind fun t11 => let v12 : Int := (IntKind.wrap IntKind.i64 (x.2.2.1 + (1 : Int)))
 kn (x.1, (x.2.1, (v12, ((((), ((), ())), ()), (t11.2.1, ()))))))) else (none)) else (ke (.inr ((((), ((), ())), ()), (x.2.2.2.2.1, ()))))
def QR.l0 (k : Nat) : Nat → QR.l0.σ → Option QR.l0.τ := Q15 (QR.l0.r k)
def QR.l0.T : StT := ⟨us 4 ++ .ptr 0 [] :: us 17 ++ .dat Qho :: .dat (.int .i64) :: .dat (.int .i64) :: us 20, [.pair (.pair (.sfp 0 [0] 111) (.pair (.vbs 1) (.dat .unit))) (.dat .unit), .vec (.int .u8)]⟩
def QR.l0.os : List Out := [⟨.ret, [.mask [2, 3], .auto 0], ⟨us 2 ++ .dat .str :: .dat (.int .i64) :: us 41, []⟩⟩, ⟨(.exit 0), [.mask [4], .auto 0], ⟨us 4 ++ .ptr 0 [] :: us 40, [.pair (.pair (.sfp 0 [0] 111) (.pair (.vbs 1) (.dat .unit))) (.dat .unit), .vec (.int .u8)]⟩⟩]
def QR.c (k : Nat) {ρ : Type} (b : Qhp) (K : ByteArray × Int × Unit → Option ρ) : Option ρ :=
 (Q0C k ).bind fun t0 => (Q1c k (b.1.1, (b.1.2.1, (b.1.2.2.1, (b.1.2.2.2.1, (b.1.2.2.2.2.1, (b.1.2.2.2.2.2.1, ()))))))).bind fun t1 => (QL k t1.1 (((), ((), ())), ()) t0.2.1).bind fun t2 => let v3 : Qhs := b.2.1
 let v4 : Int := (((List.length v3) : Nat) : Int)
 (Q09 k (IntKind.wrap IntKind.u64 v4) (((), ((), ())), ()) t2.2.1).bind fun t5 => let v6 : Qhs := b.2.1
 let v7 : Int := (((List.length v6) : Nat) : Int)
 (QR.l0 k k (v6, (v7, ((0 : Int), ((((), ((), ())), ()), (t5.2.1, ())))))).bind fun t13 => (match t13 with | .inl t14 => (K (t14.1, (t14.2.1, ()))) | .inr (t15) => ((Q0U k (((), ((), ())), ()) t15.2.1).bind fun t16 => bif (decide (t16.1 > (8192 : Int))) then (K ((⟨(List.toArray [])⟩ : ByteArray), ((110 : Int), ()))) else ((Q06 k (((), ((), ())), ()) t16.2.2.1).bind fun t17 => K (t17.1, ((0 : Int), ())))))
def QR (k : Nat) (b : Qhp) : Option (ByteArray × Int × Unit) := QR.c k b some
def QR.tin : List Ty := [Qhn]
def QR.tout : List Ty := [.str, (.int .i64)]
def QR.sem (k : Nat) : QT := Q00 QR.tin QR.tout fun x => QR k x.1
noncomputable def QR.ctx (k : Nat) : Ctx := ⟨Tryz.prog, gam [(23, (Q0C.sem k)), (5, (Q1c.sem k)), (40, (QL.sem k)), (41, (Q09.sem k)), (42, (Qm.sem k)), (43, (Q0U.sem k)), (26, (Q06.sem k))]⟩
theorem QR.gok (k : Nat) : ∀ f, QI Tryz.prog f ((QR.ctx k).Γ f) := (Ql (Q0C.sem_ok k) (Ql (Q1c.sem_ok k) (Ql (QL.sem_ok k) (Ql (Q09.sem_ok k) (Ql (Qm.sem_ok k) (Ql (Q0U.sem_ok k) (Ql (Q06.sem_ok k) Q01)))))))
theorem QR.l0.round (k : Nat) : Q14 (QR.ctx k) (QP (Func.code Tryz.f15) [1, 1, 1, 1, 0, 1, 0, 0]) (.nil) QR.l0.T [.mask [4, 22, 23, 24], .auto 0] QR.l0.os (QR.l0.r k) := by
 intro ρ x kn ke; kernel_rfl
theorem QR.l0.ok (k : Nat) : StOK 0 Tryz.prog (.loop (QP (Func.code Tryz.f15) [1, 1, 1, 1, 0, 1, 0, 0])) (Qp QR.l0.T QR.l0.os (QR.l0 k k)) :=
 Q16 (C := QR.ctx k) (QR.gok k) Tryz.mix Q1.nil (by kernel_rfl) (by kernel_rfl) (by kernel_rfl) (QR.l0.round k) k
def QR.ann (k : Nat) : Ann := .node [] none (.nil) (.node [] none (.nil) (.node [] none (.nil) (.node [] none (.nil) (.node [] none (.node [] none (.nil) (.node [] none (.node [.mask [4, 22, 23, 24], .auto 0] (some (Qp QR.l0.T QR.l0.os (QR.l0 k k))) .nil .nil) (.nil))) (.nil)))))
theorem QR.body (k : Nat) : Q0W (QR.ctx k) Tryz.f15 (Func.code Tryz.f15) (QR.ann k) QR.tin QR.tout (fun x K => QR.c k x.1 K) := by
 intro ρ x K; kernel_rfl
theorem QR.sem_ok (k : Nat) : QI Tryz.prog 15 (QR.sem k) :=
 QG (C := QR.ctx k) (QR.gok k) Tryz.mix (c := Func.code Tryz.f15) (ann := QR.ann k) (tin := QR.tin) (tout := QR.tout) (fun x K => QR.c k x.1 K) Tryz.func15 (by kernel_rfl) (by kernel_rfl) (Q1.seq Q1.nil (Q1.seq Q1.nil (Q1.seq Q1.nil (Q1.seq Q1.nil (Q1.seq (Q1.seq Q1.nil (Q1.block (Q1.loop (by kernel_rfl) (QR.l0.ok k)))) Q1.nil))))) (QR.body k)
def Q1A.c (k : Nat) {ρ : Type} (h : Qhv) (K : (List Int) × Unit → Option ρ) : Option ρ :=
 (Q1c k (h.1, (h.2.1, (h.2.2.1, (h.2.2.2.1, (h.2.2.2.2.1, (h.2.2.2.2.2.1, ()))))))).bind fun t0 => (Q1l k t0.1).bind fun t1 => K (t1.1, ())
def Q1A (k : Nat) (h : Qhv) : Option ((List Int) × Unit) := Q1A.c k h some
def Q1A.tin : List Ty := [Qhr]
def Q1A.tout : List Ty := [QhC]
def Q1A.sem (k : Nat) : QT := Q00 Q1A.tin Q1A.tout fun x => Q1A k x.1
noncomputable def Q1A.ctx (k : Nat) : Ctx := ⟨Tryz.prog, gam [(5, (Q1c.sem k)), (33, (Q1l.sem k))]⟩
theorem Q1A.gok (k : Nat) : ∀ f, QI Tryz.prog f ((Q1A.ctx k).Γ f) := (Ql (Q1c.sem_ok k) (Ql (Q1l.sem_ok k) Q01))
def Q1A.ann (k : Nat) : Ann := .nil
theorem Q1A.body (k : Nat) : Q0W (Q1A.ctx k) Tryz.f8 (Func.code Tryz.f8) (Q1A.ann k) Q1A.tin Q1A.tout (fun x K => Q1A.c k x.1 K) := by
 intro ρ x K; kernel_rfl
theorem Q1A.sem_ok (k : Nat) : QI Tryz.prog 8 (Q1A.sem k) :=
 QG (C := Q1A.ctx k) (Q1A.gok k) Tryz.mix (c := Func.code Tryz.f8) (ann := Q1A.ann k) (tin := Q1A.tin) (tout := Q1A.tout) (fun x K => Q1A.c k x.1 K) Tryz.func8 (by kernel_rfl) (by kernel_rfl) Q1.nil (Q1A.body k)
def Q1d.c (k : Nat) {ρ : Type} (h : Qhv) (K : Bool × Unit → Option ρ) : Option ρ :=
 (Q1A k (h.1, (h.2.1, (h.2.2.1, (h.2.2.2.1, (h.2.2.2.2.1, (h.2.2.2.2.2.1, ()))))))).bind fun t0 => let v1 : Int := h.2.2.2.2.1
 (Q1f k t0.1 v1).bind fun t2 => K (t2.1, ())
def Q1d (k : Nat) (h : Qhv) : Option (Bool × Unit) := Q1d.c k h some
def Q1d.tin : List Ty := [Qhr]
def Q1d.tout : List Ty := [.bool]
def Q1d.sem (k : Nat) : QT := Q00 Q1d.tin Q1d.tout fun x => Q1d k x.1
noncomputable def Q1d.ctx (k : Nat) : Ctx := ⟨Tryz.prog, gam [(8, (Q1A.sem k)), (38, (Q1f.sem k))]⟩
theorem Q1d.gok (k : Nat) : ∀ f, QI Tryz.prog f ((Q1d.ctx k).Γ f) := (Ql (Q1A.sem_ok k) (Ql (Q1f.sem_ok k) Q01))
def Q1d.ann (k : Nat) : Ann := .nil
theorem Q1d.body (k : Nat) : Q0W (Q1d.ctx k) Tryz.f13 (Func.code Tryz.f13) (Q1d.ann k) Q1d.tin Q1d.tout (fun x K => Q1d.c k x.1 K) := by
 intro ρ x K; kernel_rfl
theorem Q1d.sem_ok (k : Nat) : QI Tryz.prog 13 (Q1d.sem k) :=
 QG (C := Q1d.ctx k) (Q1d.gok k) Tryz.mix (c := Func.code Tryz.f13) (ann := Q1d.ann k) (tin := Q1d.tin) (tout := Q1d.tout) (fun x K => Q1d.c k x.1 K) Tryz.func13 (by kernel_rfl) (by kernel_rfl) Q1.nil (Q1d.body k)
abbrev Q0K.l0.σ : Type := Int × Int × Qhv × Qhv × Qhv × Unit
abbrev Q0K.l0.τ : Type := (Bool × Qhv × Unit) ⊕ (Qhv × Qhv × Unit)
def Q0K.l0.r (k : Nat) {ρ : Type} (x : Q0K.l0.σ) (kn : Q0K.l0.σ → Option ρ) (ke : Q0K.l0.τ → Option ρ) : Option ρ :=
 bif (decide (x.2.1 < x.1)) then ((Q1d k (x.2.2.2.2.1.1, (x.2.2.2.2.1.2.1, (x.2.2.2.2.1.2.2.1, (x.2.2.2.2.1.2.2.2.1, (x.2.2.2.2.1.2.2.2.2.1, (x.2.2.2.2.1.2.2.2.2.2.1, ()))))))).bind fun t1 => bif t1.1 then (ke (.inl (true, ((x.2.2.2.2.1.1, (x.2.2.2.2.1.2.1, (x.2.2.2.2.1.2.2.1, (x.2.2.2.2.1.2.2.2.1, (x.2.2.2.2.1.2.2.2.2.1, (x.2.2.2.2.1.2.2.2.2.2.1, ())))))), ())))) else (let v2 : Int := x.2.2.2.2.1.2.2.2.2.2.1
 bif (v2 == (4294967295 : Int)) then (ke (.inr ((x.2.2.1.1, (x.2.2.1.2.1, (x.2.2.1.2.2.1, (x.2.2.1.2.2.2.1, (x.2.2.1.2.2.2.2.1, (x.2.2.1.2.2.2.2.2.1, ())))))), ((x.2.2.2.1.1, (x.2.2.2.1.2.1, (x.2.2.2.1.2.2.1, (x.2.2.2.1.2.2.2.1, (x.2.2.2.1.2.2.2.2.1, (x.2.2.2.1.2.2.2.2.2.1, ())))))), ())))) else (let v3 : Int := x.2.2.2.2.1.2.2.2.2.2.1
 let v4 : Int := (IntKind.wrap IntKind.u32 (v3 + (1 : Int)))
 let v5 : Int := (IntKind.wrap IntKind.u64 (x.2.1 + (1 : Int)))
 kn (x.1, (v5, ((x.2.2.1.1, (x.2.2.1.2.1, (x.2.2.1.2.2.1, (x.2.2.1.2.2.2.1, (x.2.2.1.2.2.2.2.1, (x.2.2.1.2.2.2.2.2.1, ())))))), ((x.2.2.2.1.1, (x.2.2.2.1.2.1, (x.2.2.2.1.2.2.1, (x.2.2.2.1.2.2.2.1, (x.2.2.2.1.2.2.2.2.1, (x.2.2.2.1.2.2.2.2.2.1, ())))))), ((x.2.2.2.2.1.1, (x.2.2.2.2.1.2.1, (x.2.2.2.2.1.2.2.1, (x.2.2.2.2.1.2.2.2.1, (x.2.2.2.2.1.2.2.2.2.1, (v4, ())))))), ())))))))) else (ke (.inr ((x.2.2.1.1, (x.2.2.1.2.1, (x.2.2.1.2.2.1, (x.2.2.1.2.2.2.1, (x.2.2.1.2.2.2.2.1, (x.2.2.1.2.2.2.2.2.1, ())))))), ((x.2.2.2.1.1, (x.2.2.2.1.2.1, (x.2.2.2.1.2.2.1, (x.2.2.2.1.2.2.2.1, (x.2.2.2.1.2.2.2.2.1, (x.2.2.2.1.2.2.2.2.2.1, ())))))), ()))))
def Q0K.l0 (k : Nat) : Nat → Q0K.l0.σ → Option Q0K.l0.τ := Q15 (Q0K.l0.r k)
def Q0K.l0.T : StT := ⟨us 2 ++ .ptr 0 [] :: us 1 ++ .ptr 1 [] :: us 1 ++ .ptr 2 [] :: us 2 ++ .dat (.int .u64) :: .dat (.int .u64) :: us 13, [.dat Qhr, .dat Qhr, .dat Qhr]⟩
def Q0K.l0.os : List Out := [⟨.ret, [.mask [4, 5], .auto 0], ⟨us 4 ++ .ptr 0 [] :: .dat .bool :: us 18, [.dat Qhr]⟩⟩, ⟨(.exit 0), [.mask [2, 4], .auto 0], ⟨us 2 ++ .ptr 0 [] :: us 1 ++ .ptr 1 [] :: us 19, [.dat Qhr, .dat Qhr]⟩⟩]
def Q0K.c (k : Nat) {ρ : Type} (h : Qhv) (tries : Int) (K : Qhv × Bool × Unit → Option ρ) : Option ρ :=
 let v0 : Int := (if ((4294967296 : Int) < tries) then (4294967296 : Int) else tries)
 (Q0K.l0 k k (v0, ((0 : Int), ((h.1, (h.2.1, (h.2.2.1, (h.2.2.2.1, (h.2.2.2.2.1, (h.2.2.2.2.2.1, ())))))), (((0 : Int), ((List.replicate 32 (0 : Int)), ((List.replicate 32 (0 : Int)), ((0 : Int), ((0 : Int), ((0 : Int), ())))))), ((h.1, (h.2.1, (h.2.2.1, (h.2.2.2.1, (h.2.2.2.2.1, (h.2.2.2.2.2.1, ())))))), ())))))).bind fun t6 => (match t6 with | .inl t7 => (K ((t7.2.1.1, (t7.2.1.2.1, (t7.2.1.2.2.1, (t7.2.1.2.2.2.1, (t7.2.1.2.2.2.2.1, (t7.2.1.2.2.2.2.2.1, ())))))), (t7.1, ()))) | .inr (t8) => (K ((t8.1.1, (t8.1.2.1, (t8.1.2.2.1, (t8.1.2.2.2.1, (t8.1.2.2.2.2.1, (t8.1.2.2.2.2.2.1, ())))))), (false, ()))))
def Q0K (k : Nat) (h : Qhv) (tries : Int) : Option (Qhv × Bool × Unit) := Q0K.c k h tries some
def Q0K.tin : List Ty := [Qhr, (.int .u64)]
def Q0K.tout : List Ty := [Qhr, .bool]
def Q0K.sem (k : Nat) : QT := Q00 Q0K.tin Q0K.tout fun x => Q0K k x.1 x.2.1
noncomputable def Q0K.ctx (k : Nat) : Ctx := ⟨Tryz.prog, gam [(13, (Q1d.sem k))]⟩
theorem Q0K.gok (k : Nat) : ∀ f, QI Tryz.prog f ((Q0K.ctx k).Γ f) := (Ql (Q1d.sem_ok k) Q01)
theorem Q0K.l0.round (k : Nat) : Q14 (Q0K.ctx k) (QP (Func.code Tryz.f95) [1, 1, 0, 1, 0, 0]) (.nil) Q0K.l0.T [.mask [2, 4, 6, 9, 10], .auto 0] Q0K.l0.os (Q0K.l0.r k) := by
 intro ρ x kn ke; kernel_rfl
theorem Q0K.l0.ok (k : Nat) : StOK 0 Tryz.prog (.loop (QP (Func.code Tryz.f95) [1, 1, 0, 1, 0, 0])) (Qp Q0K.l0.T Q0K.l0.os (Q0K.l0 k k)) :=
 Q16 (C := Q0K.ctx k) (Q0K.gok k) Tryz.mix Q1.nil (by kernel_rfl) (by kernel_rfl) (by kernel_rfl) (Q0K.l0.round k) k
def Q0K.ann (k : Nat) : Ann := .node [] none (.nil) (.node [] none (.nil) (.node [] none (.node [] none (.nil) (.node [] none (.node [.mask [2, 4, 6, 9, 10], .auto 0] (some (Qp Q0K.l0.T Q0K.l0.os (Q0K.l0 k k))) .nil .nil) (.nil))) (.nil)))
theorem Q0K.body (k : Nat) : Q0W (Q0K.ctx k) Tryz.f95 (Func.code Tryz.f95) (Q0K.ann k) Q0K.tin Q0K.tout (fun x K => Q0K.c k x.1 x.2.1 K) := by
 intro ρ x K; kernel_rfl
theorem Q0K.sem_ok (k : Nat) : QI Tryz.prog 95 (Q0K.sem k) :=
 QG (C := Q0K.ctx k) (Q0K.gok k) Tryz.mix (c := Func.code Tryz.f95) (ann := Q0K.ann k) (tin := Q0K.tin) (tout := Q0K.tout) (fun x K => Q0K.c k x.1 x.2.1 K) Tryz.func95 (by kernel_rfl) (by kernel_rfl) (Q1.seq Q1.nil (Q1.seq Q1.nil (Q1.seq (Q1.seq Q1.nil (Q1.block (Q1.loop (by kernel_rfl) (Q0K.l0.ok k)))) Q1.nil))) (Q0K.body k)
abbrev Q0q.l0.σ : Type := Qhs × Int × Int × Qhu × Qhu × Qhs × Unit
abbrev Q0q.l0.τ : Type := (Qhu × Qhu × Qhs × Unit)
def Q0q.l0.r (k : Nat) {ρ : Type} (x : Q0q.l0.σ) (kn : Q0q.l0.σ → Option ρ) (ke : Q0q.l0.τ → Option ρ) : Option ρ :=
 bif (decide (x.2.2.1 < x.2.1)) then (bif (decide (((0 : Int) ≤ x.2.2.1) ∧ (x.2.2.1 < (((List.length x.1) : Nat) : Int)))) then ((Q1g k ((List.getD x.1 (Int.toNat x.2.2.1) ((0 : Int), ([], ([], ((0 : Int), ()))))).1, ((List.getD x.1 (Int.toNat x.2.2.1) ((0 : Int), ([], ([], ((0 : Int), ()))))).2.1, ((List.getD x.1 (Int.toNat x.2.2.1) ((0 : Int), ([], ([], ((0 : Int), ()))))).2.2.1, ((List.getD x.1 (Int.toNat x.2.2.1) ((0 : Int), ([], ([], ((0 : Int), ()))))).2.2.2.1, ()))))).bind fun t3 => bif (Nat.ble (((List.length x.2.2.2.2.2.1) + (List.length (List.set (List.replicate 1 ((0 : Int), ([], ([], ((0 : Int), ()))))) 0 (t3.1.1, (t3.1.2.1, (t3.1.2.2.1, (t3.1.2.2.2.1, ()))))))) * 64) 140737488355328) then (let v4 : Int := (IntKind.wrap IntKind.i64 (x.2.2.1 + (1 : Int)))
 kn (x.1, (x.2.1, (v4, (((x.2.2.2.1.1.1, (x.2.2.2.1.1.2.1, (x.2.2.2.1.1.2.2.1, (x.2.2.2.1.1.2.2.2.1, (x.2.2.2.1.1.2.2.2.2.1, (x.2.2.2.1.1.2.2.2.2.2.1, ())))))), ((), ())), (((x.2.2.2.2.1.1.1, (x.2.2.2.2.1.1.2.1, (x.2.2.2.2.1.1.2.2.1, (x.2.2.2.2.1.1.2.2.2.1, (x.2.2.2.2.1.1.2.2.2.2.1, (x.2.2.2.2.1.1.2.2.2.2.2.1, ())))))), ((), ())), ((x.2.2.2.2.2.1 ++ (List.set (List.replicate 1 ((0 : Int), ([], ([], ((0 : Int), ()))))) 0 (t3.1.1, (t3.1.2.1, (t3.1.2.2.1, (t3.1.2.2.2.1, ())))))), ()))))))) else (none)) else (none)) else (ke (((x.2.2.2.1.1.1, (x.2.2.2.1.1.2.1, (x.2.2.2.1.1.2.2.1, (x.2.2.2.1.1.2.2.2.1, (x.2.2.2.1.1.2.2.2.2.1, (x.2.2.2.1.1.2.2.2.2.2.1, ())))))), ((), ())), (((x.2.2.2.2.1.1.1, (x.2.2.2.2.1.1.2.1, (x.2.2.2.2.1.1.2.2.1, (x.2.2.2.2.1.1.2.2.2.1, (x.2.2.2.2.1.1.2.2.2.2.1, (x.2.2.2.2.1.1.2.2.2.2.2.1, ())))))), ((), ())), (x.2.2.2.2.2.1, ()))))
def Q0q.l0 (k : Nat) : Nat → Q0q.l0.σ → Option Q0q.l0.τ := Q15 (Q0q.l0.r k)
def Q0q.l0.T : StT := ⟨us 8 ++ .ptr 0 [] :: us 3 ++ .ptr 1 [] :: us 17 ++ .dat Qho :: .dat (.int .i64) :: .dat (.int .i64) :: us 32, [.pair (.dat Qhr) (.pair (.nils) (.dat .unit)), .pair (.dat Qhr) (.pair (.vsl 2) (.dat .unit)), .vec Qhq]⟩
def Q0q.l0.os : List Out := [⟨(.exit 0), [.mask [8, 12], .auto 0], ⟨us 8 ++ .ptr 0 [] :: us 3 ++ .ptr 1 [] :: us 52, [.pair (.dat Qhr) (.pair (.nils) (.dat .unit)), .pair (.dat Qhr) (.pair (.vsl 2) (.dat .unit)), .vec Qhq]⟩⟩]
def Q0q.c (k : Nat) {ρ : Type} (prev : (List Int)) (time : Int) (bits : Int) (txs : Qhs) (K : Qhp × Int × Unit → Option ρ) : Option ρ :=
 (Q0D k txs).bind fun t0 => let v1 : (List Int) := t0.1
 let v2 : Int := (((List.length txs) : Nat) : Int)
 (Q0q.l0 k k (txs, (v2, ((0 : Int), ((((0 : Int), ((List.replicate 32 (0 : Int)), ((List.replicate 32 (0 : Int)), ((0 : Int), ((0 : Int), ((0 : Int), ())))))), ((), ())), ((((1 : Int), (prev, (v1, (time, (bits, ((0 : Int), ())))))), ((), ())), ([], ()))))))).bind fun t5 => (QR k ((t5.2.1.1.1, (t5.2.1.1.2.1, (t5.2.1.1.2.2.1, (t5.2.1.1.2.2.2.1, (t5.2.1.1.2.2.2.2.1, (t5.2.1.1.2.2.2.2.2.1, ())))))), (t5.2.2.1, ()))).bind fun t6 => let v7 : ByteArray := t6.1
 let v8 : Int := t6.2.1
 bif (v8 != (0 : Int)) then (K ((((0 : Int), ((List.replicate 32 (0 : Int)), ((List.replicate 32 (0 : Int)), ((0 : Int), ((0 : Int), ((0 : Int), ())))))), ([], ())), (v8, ()))) else ((Q0K k (t5.2.1.1.1, (t5.2.1.1.2.1, (t5.2.1.1.2.2.1, (t5.2.1.1.2.2.2.1, (t5.2.1.1.2.2.2.2.1, (t5.2.1.1.2.2.2.2.2.1, ())))))) (4294967296 : Int)).bind fun t9 => bif (!t9.2.1) then (K ((((0 : Int), ((List.replicate 32 (0 : Int)), ((List.replicate 32 (0 : Int)), ((0 : Int), ((0 : Int), ((0 : Int), ())))))), ([], ())), ((111 : Int), ()))) else (K (((t9.1.1, (t9.1.2.1, (t9.1.2.2.1, (t9.1.2.2.2.1, (t9.1.2.2.2.2.1, (t9.1.2.2.2.2.2.1, ())))))), (t5.2.2.1, ())), ((0 : Int), ()))))
def Q0q (k : Nat) (prev : (List Int)) (time : Int) (bits : Int) (txs : Qhs) : Option (Qhp × Int × Unit) := Q0q.c k prev time bits txs some
def Q0q.tin : List Ty := [QhC, (.int .u32), (.int .u32), Qho]
def Q0q.tout : List Ty := [Qhn, (.int .i64)]
def Q0q.sem (k : Nat) : QT := Q00 Q0q.tin Q0q.tout fun x => Q0q k x.1 x.2.1 x.2.2.1 x.2.2.2.1
noncomputable def Q0q.ctx (k : Nat) : Ctx := ⟨Tryz.prog, gam [(63, (Q0D.sem k)), (94, (Q1g.sem k)), (15, (QR.sem k)), (95, (Q0K.sem k))]⟩
theorem Q0q.gok (k : Nat) : ∀ f, QI Tryz.prog f ((Q0q.ctx k).Γ f) := (Ql (Q0D.sem_ok k) (Ql (Q1g.sem_ok k) (Ql (QR.sem_ok k) (Ql (Q0K.sem_ok k) Q01))))
theorem Q0q.l0.round (k : Nat) : Q14 (Q0q.ctx k) (QP (Func.code Tryz.f62) [1, 1, 1, 0, 1, 0, 0]) (.nil) Q0q.l0.T [.mask [8, 12, 30, 31, 32], .auto 0] Q0q.l0.os (Q0q.l0.r k) := by
 intro ρ x kn ke; kernel_rfl
theorem Q0q.l0.ok (k : Nat) : StOK 0 Tryz.prog (.loop (QP (Func.code Tryz.f62) [1, 1, 1, 0, 1, 0, 0])) (Qp Q0q.l0.T Q0q.l0.os (Q0q.l0 k k)) :=
 Q16 (C := Q0q.ctx k) (Q0q.gok k) Tryz.mix Q1.nil (by kernel_rfl) (by kernel_rfl) (by kernel_rfl) (Q0q.l0.round k) k
def Q0q.ann (k : Nat) : Ann := .node [] none (.nil) (.node [] none (.nil) (.node [] none (.nil) (.node [] none (.node [] none (.nil) (.node [] none (.node [.mask [8, 12, 30, 31, 32], .auto 0, .own (.blk 1 [1]) Qhq] (some (Qp Q0q.l0.T Q0q.l0.os (Q0q.l0 k k))) .nil .nil) (.nil))) (.nil))))
theorem Q0q.body (k : Nat) : Q0W (Q0q.ctx k) Tryz.f62 (Func.code Tryz.f62) (Q0q.ann k) Q0q.tin Q0q.tout (fun x K => Q0q.c k x.1 x.2.1 x.2.2.1 x.2.2.2.1 K) := by
 intro ρ x K; kernel_rfl
theorem Q0q.sem_ok (k : Nat) : QI Tryz.prog 62 (Q0q.sem k) :=
 QG (C := Q0q.ctx k) (Q0q.gok k) Tryz.mix (c := Func.code Tryz.f62) (ann := Q0q.ann k) (tin := Q0q.tin) (tout := Q0q.tout) (fun x K => Q0q.c k x.1 x.2.1 x.2.2.1 x.2.2.2.1 K) Tryz.func62 (by kernel_rfl) (by kernel_rfl) (Q1.seq Q1.nil (Q1.seq Q1.nil (Q1.seq Q1.nil (Q1.seq (Q1.seq Q1.nil (Q1.block (Q1.loop (by kernel_rfl) (Q0q.l0.ok k)))) Q1.nil)))) (Q0q.body k)
def Q19.c (k : Nat) {ρ : Type}  (K : Qhp × Unit → Option ρ) : Option ρ :=
 (QQ k (0 : Int) (⟨(List.toArray [98, 101, 100, 114, 111, 99, 107])⟩ : ByteArray) (List.set (List.replicate 1 ((0 : Int), (ByteArray.empty, ()))) 0 ((5000 : Int), ((⟨(List.toArray [])⟩ : ByteArray), ())))).bind fun t0 => let v1 : Int := t0.2.1
 let v2 : (List Int) := (List.replicate 32 (0 : Int))
 (Q0q k v2 (1600000000 : Int) (545259519 : Int) (List.set (List.replicate 1 ((0 : Int), ([], ([], ((0 : Int), ()))))) 0 (t0.1.1, (t0.1.2.1, (t0.1.2.2.1, (t0.1.2.2.2.1, ())))))).bind fun t3 => let v4 : Int := t3.2.1
 K (((t3.1.1.1, (t3.1.1.2.1, (t3.1.1.2.2.1, (t3.1.1.2.2.2.1, (t3.1.1.2.2.2.2.1, (t3.1.1.2.2.2.2.2.1, ())))))), (t3.1.2.1, ())), ())
def Q19 (k : Nat)  : Option (Qhp × Unit) := Q19.c k  some
def Q19.tin : List Ty := []
def Q19.tout : List Ty := [Qhn]
def Q19.sem (k : Nat) : QT := Q00 Q19.tin Q19.tout fun x => Q19 k 
noncomputable def Q19.ctx (k : Nat) : Ctx := ⟨Tryz.prog, gam [(61, (Qb2 QQ.tin QQ.tout fun x => QQ k x.1 x.2.1 x.2.2.1)), (62, (Qb2 Q0q.tin Q0q.tout fun x => Q0q k x.1 x.2.1 x.2.2.1 x.2.2.2.1))]⟩
theorem Q19.gok (k : Nat) : ∀ f, QI Tryz.prog f ((Q19.ctx k).Γ f) := (Ql (Qaa (QQ.sem_ok k)) (Ql (Qaa (Q0q.sem_ok k)) Q01))
def Q19.ann (k : Nat) : Ann := .nil
theorem Q19.body (k : Nat) : Q0W (Q19.ctx k) Tryz.f34 (Func.code Tryz.f34) (Q19.ann k) Q19.tin Q19.tout (fun x K => Q19.c k  K) := by
 intro ρ x K; kernel_rfl
theorem Q19.sem_ok (k : Nat) : QI Tryz.prog 34 (Q19.sem k) :=
 QG (C := Q19.ctx k) (Q19.gok k) Tryz.mix (c := Func.code Tryz.f34) (ann := Q19.ann k) (tin := Q19.tin) (tout := Q19.tout) (fun x K => Q19.c k  K) Tryz.func34 (by kernel_rfl) (by kernel_rfl) Q1.nil (Q19.body k)
def Q1n.c (k : Nat) {ρ : Type} (b : Qhp) (K : Bool × Unit → Option ρ) : Option ρ :=
 let v0 : Qhs := b.2.1
 (Q0D k v0).bind fun t1 => let v2 : (List Int) := t1.1
 let v3 : Qhs := b.2.1
 let v4 : Int := (((List.length v3) : Nat) : Int)
 bif (decide (v4 > (0 : Int))) then (let v5 : (List Int) := b.1.2.2.1
 bif (decide (v2 = v5)) then (K ((!t1.2.1), ())) else (K (false, ()))) else (K (false, ()))
def Q1n (k : Nat) (b : Qhp) : Option (Bool × Unit) := Q1n.c k b some
def Q1n.tin : List Ty := [Qhn]
def Q1n.tout : List Ty := [.bool]
def Q1n.sem (k : Nat) : QT := Q00 Q1n.tin Q1n.tout fun x => Q1n k x.1
noncomputable def Q1n.ctx (k : Nat) : Ctx := ⟨Tryz.prog, gam [(63, (Q0D.sem k))]⟩
theorem Q1n.gok (k : Nat) : ∀ f, QI Tryz.prog f ((Q1n.ctx k).Γ f) := (Ql (Q0D.sem_ok k) Q01)
def Q1n.ann (k : Nat) : Ann := .nil
theorem Q1n.body (k : Nat) : Q0W (Q1n.ctx k) Tryz.f35 (Func.code Tryz.f35) (Q1n.ann k) Q1n.tin Q1n.tout (fun x K => Q1n.c k x.1 K) := by
 intro ρ x K; kernel_rfl
theorem Q1n.sem_ok (k : Nat) : QI Tryz.prog 35 (Q1n.sem k) :=
 QG (C := Q1n.ctx k) (Q1n.gok k) Tryz.mix (c := Func.code Tryz.f35) (ann := Q1n.ann k) (tin := Q1n.tin) (tout := Q1n.tout) (fun x K => Q1n.c k x.1 K) Tryz.func35 (by kernel_rfl) (by kernel_rfl) Q1.nil (Q1n.body k)
def Q0g.c (k : Nat) {ρ : Type}  (K : Bool × Unit → Option ρ) : Option ρ :=
 (Q19 k ).bind fun t0 => let v1 : Qhs := t0.1.2.1
 let v2 : Int := (((List.length v1) : Nat) : Int)
 bif (v2 == (1 : Int)) then ((Q1d k (t0.1.1.1, (t0.1.1.2.1, (t0.1.1.2.2.1, (t0.1.1.2.2.2.1, (t0.1.1.2.2.2.2.1, (t0.1.1.2.2.2.2.2.1, ()))))))).bind fun t3 => bif t3.1 then ((Q1n k ((t0.1.1.1, (t0.1.1.2.1, (t0.1.1.2.2.1, (t0.1.1.2.2.2.1, (t0.1.1.2.2.2.2.1, (t0.1.1.2.2.2.2.2.1, ())))))), (t0.1.2.1, ()))).bind fun t4 => K (t4.1, ())) else (K (false, ()))) else (K (false, ()))
def Q0g (k : Nat)  : Option (Bool × Unit) := Q0g.c k  some
def Q0g.tin : List Ty := []
def Q0g.tout : List Ty := [.bool]
def Q0g.sem (k : Nat) : QT := Q00 Q0g.tin Q0g.tout fun x => Q0g k 
noncomputable def Q0g.ctx (k : Nat) : Ctx := ⟨Tryz.prog, gam [(34, (Q19.sem k)), (13, (Q1d.sem k)), (35, (Q1n.sem k))]⟩
theorem Q0g.gok (k : Nat) : ∀ f, QI Tryz.prog f ((Q0g.ctx k).Γ f) := (Ql (Q19.sem_ok k) (Ql (Q1d.sem_ok k) (Ql (Q1n.sem_ok k) Q01)))
def Q0g.ann (k : Nat) : Ann := .nil
theorem Q0g.body (k : Nat) : Q0W (Q0g.ctx k) Tryz.f9 (Func.code Tryz.f9) (Q0g.ann k) Q0g.tin Q0g.tout (fun x K => Q0g.c k  K) := by
 intro ρ x K; kernel_rfl
theorem Q0g.sem_ok (k : Nat) : QI Tryz.prog 9 (Q0g.sem k) :=
 QG (C := Q0g.ctx k) (Q0g.gok k) Tryz.mix (c := Func.code Tryz.f9) (ann := Q0g.ann k) (tin := Q0g.tin) (tout := Q0g.tout) (fun x K => Q0g.c k  K) Tryz.func9 (by kernel_rfl) (by kernel_rfl) Q1.nil (Q0g.body k)
end Go.Am
