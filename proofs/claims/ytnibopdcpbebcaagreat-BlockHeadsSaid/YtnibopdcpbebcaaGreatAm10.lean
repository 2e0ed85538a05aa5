/- A part of a proof: a machine of abstract values that tells what functions of the program compute, and the plain facts on them. -/
import Derived.Test.YtnibopdcpbebcaaGreatAm9
import Derived.KernelRfl
set_option linter.unusedVariables false
set_option linter.unusedSimpArgs false
set_option linter.unnecessarySimpa false
set_option linter.unusedSectionVars false
namespace Go.Am
abbrev Qgg : Ty := (.arr 32 (.int .u8))
abbrev Qgf : Ty := (.sl  Qgg )
abbrev Qge : Type := ((Unit × (Unit × Unit)) × Unit)
abbrev Qgd : Ty := (.sl  Qgf )
abbrev Qgc : Type := (List (Int × (ByteArray × Unit)))
abbrev Qgb : Type := (Int × (Unit × (Unit × (Int × Unit))))
abbrev Qga : Ty := (.sl (.pair (.int .u64) (.pair .str .unit)))
abbrev Qg9 : Type := (Int × ((List Int) × ((List Int) × (Int × (Int × (Int × Unit))))))
abbrev Qg8 : Type := ( Qg9  × (Unit × Unit))
abbrev Qg7 : Type := (Int × ((List (((List Int) × (Int × Unit)) × (ByteArray × (Int × Unit)))) × ( Qgc  × (Int × Unit))))
abbrev Qg6 : Type := (List  Qg7 )
abbrev Qg5 : Ty := (.pair (.int .u32) (.pair  Qgg  (.pair  Qgg  (.pair (.int .u32) (.pair (.int .u32) (.pair (.int .u32) .unit))))))
abbrev Qg4 : Ty := (.pair (.int .u32) (.pair (.sl (.pair (.pair  Qgg  (.pair (.int .u32) .unit)) (.pair .str (.pair (.int .u32) .unit)))) (.pair  Qga  (.pair (.int .u32) .unit))))
abbrev Qg3 : Type := ( Qg9  × ( Qg6  × Unit))
abbrev Qg2 : Ty := (.sl  Qg4 )
abbrev Qg1 : Ty := (.pair  Qg5  (.pair  Qg2  .unit))
end Go.Am
namespace Go.Am
open Go Go.Proofs
set_option maxRecDepth 100000
abbrev QN.p0.σ : Type := Int × ByteArray × Qgc × Qgb × Unit
abbrev QN.p0.τ : Type := (Int × Qgb × Unit) ⊕ (Int × ByteArray × Qgc × Qgb × Unit)
def QN.p0.r (k : Nat) {ρ : Type} (x : QN.p0.σ) (K : QN.p0.τ → Option ρ) : Option ρ :=
 bif (decide (x.1 < (0 : Int))) then (K (.inl ((1 : Int), (((0 : Int), ((), ((), ((0 : Int), ())))), ())))) else (bif (decide (x.1 > (2147483647 : Int))) then (K (.inl ((1 : Int), (((0 : Int), ((), ((), ((0 : Int), ())))), ())))) else (let v0 : Int := (((ByteArray.size x.2.1) : Nat) : Int)
 bif (decide (v0 > (96 : Int))) then (K (.inl ((1 : Int), (((0 : Int), ((), ((), ((0 : Int), ())))), ())))) else (K (.inr (x.1, (x.2.1, (x.2.2.1, ((x.2.2.2.1.1, ((), ((), (x.2.2.2.1.2.2.2.1, ())))), ()))))))))
def QN.p0 (k : Nat) (x : QN.p0.σ) : Option QN.p0.τ := QN.p0.r k x some
def QN.p0.T : StT := ⟨.dat (.int .i64) :: .dat .str :: .dat Qga :: us 3 ++ .ptr 0 [] :: us 32, [.pair (.dat (.int .u32)) (.pair (.nils) (.pair (.nils) (.dat (.pair (.int .u32) .unit))))]⟩
def QN.p0.os : List Out := [⟨.ret, [.mask [6, 7], .auto 0], ⟨us 6 ++ .ptr 0 [] :: .dat (.int .i64) :: us 31, [.pair (.dat (.int .u32)) (.pair (.nils) (.pair (.nils) (.dat (.pair (.int .u32) .unit))))]⟩⟩, ⟨.normal, [.mask [0, 1, 2, 6], .auto 0], ⟨.dat (.int .i64) :: .dat .str :: .dat Qga :: us 3 ++ .ptr 0 [] :: us 32, [.pair (.dat (.int .u32)) (.pair (.nils) (.pair (.nils) (.dat (.pair (.int .u32) .unit))))]⟩⟩]
def QN.c (k : Nat) {ρ : Type} (height : Int) (extra : ByteArray) (outs : Qgc) (K : Qg7 × Int × Unit → Option ρ) : Option ρ :=
 (QN.p0 k (height, (extra, (outs, (((0 : Int), ((), ((), ((0 : Int), ())))), ()))))).bind fun t1 => (match t1 with | .inl t2 => (K ((t2.2.1.1, ([], ([], (t2.2.1.2.2.2.1, ())))), (t2.1, ()))) | .inr (t3) => ((Q0C k ).bind fun t4 => let v5 : Int := (IntKind.wrap IntKind.u32 t3.1)
 (Q0b k v5 (((), ((), ())), ()) t4.2.1).bind fun t6 => (QK k t3.2.1 (((), ((), ())), ()) t6.2.1).bind fun t7 => (Q06 k (((), ((), ())), ()) t7.2.1).bind fun t8 => bif (Nat.ble ((List.length t3.2.2.1) * 24) 140737488355328) then (K (((1 : Int), ((List.set (List.replicate 1 (((List.replicate 32 (0 : Int)), ((0 : Int), ())), (ByteArray.empty, ((0 : Int), ())))) 0 (((List.replicate 32 (0 : Int)), ((4294967295 : Int), ())), (t8.1, ((4294967295 : Int), ())))), (t3.2.2.1, ((0 : Int), ())))), ((0 : Int), ()))) else (none)))
def QN (k : Nat) (height : Int) (extra : ByteArray) (outs : Qgc) : Option (Qg7 × Int × Unit) := QN.c k height extra outs some
def QN.tin : List Ty := [(.int .i64), .str, Qga]
def QN.tout : List Ty := [Qg4, (.int .i64)]
def QN.sem (k : Nat) : QP := QW QN.tin QN.tout fun x => QN k x.1 x.2.1 x.2.2.1
noncomputable def QN.ctx (k : Nat) : Ctx := ⟨Tryz.prog, gam [(23, (Q0C.sem k)), (24, (Q0b.sem k)), (40, (QK.sem k)), (26, (Q06.sem k))]⟩
theorem QN.gok (k : Nat) : ∀ f, QF Tryz.prog f ((QN.ctx k).Γ f) := (Qk (Q0C.sem_ok k) (Qk (Q0b.sem_ok k) (Qk (QK.sem_ok k) (Qk (Q06.sem_ok k) QX))))
theorem QN.p0.is (k : Nat) : Q1O (QN.ctx k) (QM (Func.code Tryz.f61) [1, 0]) (.nil) QN.p0.T QN.p0.os (QN.p0.r k) := by
 intro ρ x K; kernel_rfl
theorem QN.p0.ok (k : Nat) : StOK 0 Tryz.prog (QM (Func.code Tryz.f61) [1, 0]) (Qn QN.p0.T QN.p0.os (QN.p0 k)) :=
 Q1F (C := QN.ctx k) (T := QN.p0.T) (os := QN.p0.os) (QN.gok k) Tryz.mix (fun x K => QN.p0.r k x K) Q1.nil (by kernel_rfl) (by kernel_rfl) (QN.p0.is k)
def QN.ann (k : Nat) : Ann := .node [] none (.nil) (.node [] none (.node [.mask [0, 1, 2, 6], .auto 0] (some (Qn QN.p0.T QN.p0.os (QN.p0 k))) .nil .nil) (.nil))
theorem QN.body (k : Nat) : Q0R (QN.ctx k) Tryz.f61 (Func.code Tryz.f61) (QN.ann k) QN.tin QN.tout (fun x K => QN.c k x.1 x.2.1 x.2.2.1 K) := by
 intro ρ x K; kernel_rfl
theorem QN.sem_ok (k : Nat) : QF Tryz.prog 61 (QN.sem k) :=
 QD (C := QN.ctx k) (QN.gok k) Tryz.mix (c := Func.code Tryz.f61) (ann := QN.ann k) (tin := QN.tin) (tout := QN.tout) (fun x K => QN.c k x.1 x.2.1 x.2.2.1 K) Tryz.func61 (by kernel_rfl) (by kernel_rfl) (Q1.seq Q1.nil (Q1.seq (Q1.loop (by kernel_rfl) (QN.p0.ok k)) Q1.nil)) (QN.body k)
def Q26.c (k : Nat) {ρ : Type} (t : Qg7) (K : (List Int) × Int × Unit → Option ρ) : Option ρ :=
 (Ql k (t.1, (t.2.1, (t.2.2.1, (t.2.2.2.1, ()))))).bind fun t0 => let v1 : ByteArray := t0.1
 let v2 : Int := t0.2.1
 bif (v2 != (0 : Int)) then (let v3 : (List Int) := (List.replicate 32 (0 : Int))
 K (v3, (v2, ()))) else ((Q1k k v1).bind fun t4 => K (t4.1, ((0 : Int), ())))
def Q26 (k : Nat) (t : Qg7) : Option ((List Int) × Int × Unit) := Q26.c k t some
def Q26.tin : List Ty := [Qg4]
def Q26.tout : List Ty := [Qgg, (.int .i64)]
def Q26.sem (k : Nat) : QP := QW Q26.tin Q26.tout fun x => Q26 k x.1
noncomputable def Q26.ctx (k : Nat) : Ctx := ⟨Tryz.prog, gam [(42, (Ql.sem k)), (33, (Q1k.sem k))]⟩
theorem Q26.gok (k : Nat) : ∀ f, QF Tryz.prog f ((Q26.ctx k).Γ f) := (Qk (Ql.sem_ok k) (Qk (Q1k.sem_ok k) QX))
def Q26.ann (k : Nat) : Ann := .nil
theorem Q26.body (k : Nat) : Q0R (Q26.ctx k) Tryz.f96 (Func.code Tryz.f96) (Q26.ann k) Q26.tin Q26.tout (fun x K => Q26.c k x.1 K) := by
 intro ρ x K; kernel_rfl
theorem Q26.sem_ok (k : Nat) : QF Tryz.prog 96 (Q26.sem k) :=
 QD (C := Q26.ctx k) (Q26.gok k) Tryz.mix (c := Func.code Tryz.f96) (ann := Q26.ann k) (tin := Q26.tin) (tout := Q26.tout) (fun x K => Q26.c k x.1 K) Tryz.func96 (by kernel_rfl) (by kernel_rfl) Q1.nil (Q26.body k)
def QC.c (k : Nat) {ρ : Type} (s : (List (List Int))) (K : (List (List Int)) × Unit → Option ρ) : Option ρ :=
 bif (Nat.ble 1 (List.length s)) then (bif (Nat.ble ((0 + (List.length s)) * 32) 140737488355328) then (K (((List.replicate 0 (List.replicate 32 (0 : Int))) ++ s), ())) else (none)) else (none)
def QC (k : Nat) (s : (List (List Int))) : Option ((List (List Int)) × Unit) := QC.c k s some
def QC.tin : List Ty := [Qgf]
def QC.tout : List Ty := [Qgf]
def QC.sem (k : Nat) : QP := QW QC.tin QC.tout fun x => QC k x.1
noncomputable def QC.ctx (k : Nat) : Ctx := ⟨Tryz.prog, gam []⟩
theorem QC.gok (k : Nat) : ∀ f, QF Tryz.prog f ((QC.ctx k).Γ f) := QX
def QC.ann (k : Nat) : Ann := .nil
theorem QC.body (k : Nat) : Q0R (QC.ctx k) Tryz.f126 (Func.code Tryz.f126) (QC.ann k) QC.tin QC.tout (fun x K => QC.c k x.1 K) := by
 intro ρ x K; kernel_rfl
theorem QC.sem_ok (k : Nat) : QF Tryz.prog 126 (QC.sem k) :=
 QD (C := QC.ctx k) (QC.gok k) Tryz.mix (c := Func.code Tryz.f126) (ann := QC.ann k) (tin := QC.tin) (tout := QC.tout) (fun x K => QC.c k x.1 K) Tryz.func126 (by kernel_rfl) (by kernel_rfl) Q1.nil (QC.body k)
def Q1l.c (k : Nat) {ρ : Type} (a : (List Int)) (b : (List Int)) (K : (List Int) × Unit → Option ρ) : Option ρ :=
 let v0 : ByteArray := (bytesOf (List.take 32 (List.drop 0 a)))
 let v1 : ByteArray := (bytesOf (List.take 32 (List.drop 0 b)))
 bif (Nat.ble ((ByteArray.size v0) + (ByteArray.size v1)) 9223372036854775807) then (let v2 : ByteArray := (v0 ++ v1)
 (Q1k k v2).bind fun t3 => K (t3.1, ())) else (none)
def Q1l (k : Nat) (a : (List Int)) (b : (List Int)) : Option ((List Int) × Unit) := Q1l.c k a b some
def Q1l.tin : List Ty := [Qgg, Qgg]
def Q1l.tout : List Ty := [Qgg]
def Q1l.sem (k : Nat) : QP := QW Q1l.tin Q1l.tout fun x => Q1l k x.1 x.2.1
noncomputable def Q1l.ctx (k : Nat) : Ctx := ⟨Tryz.prog, gam [(33, (Q1k.sem k))]⟩
theorem Q1l.gok (k : Nat) : ∀ f, QF Tryz.prog f ((Q1l.ctx k).Γ f) := (Qk (Q1k.sem_ok k) QX)
def Q1l.ann (k : Nat) : Ann := .nil
theorem Q1l.body (k : Nat) : Q0R (Q1l.ctx k) Tryz.f133 (Func.code Tryz.f133) (Q1l.ann k) Q1l.tin Q1l.tout (fun x K => Q1l.c k x.1 x.2.1 K) := by
 intro ρ x K; kernel_rfl
theorem Q1l.sem_ok (k : Nat) : QF Tryz.prog 133 (Q1l.sem k) :=
 QD (C := Q1l.ctx k) (Q1l.gok k) Tryz.mix (c := Func.code Tryz.f133) (ann := Q1l.ann k) (tin := Q1l.tin) (tout := Q1l.tout) (fun x K => Q1l.c k x.1 x.2.1 K) Tryz.func133 (by kernel_rfl) (by kernel_rfl) Q1.nil (Q1l.body k)
abbrev Q09.l0.σ : Type := (List (List Int)) × Int × (List (List Int)) × Unit
abbrev Q09.l0.τ : Type := ((List (List Int)) × Unit)
def Q09.l0.r (k : Nat) {ρ : Type} (x : Q09.l0.σ) (kn : Q09.l0.σ → Option ρ) (ke : Q09.l0.τ → Option ρ) : Option ρ :=
 let v0 : Int := (((List.length x.1) : Nat) : Int)
 bif (decide (x.2.1 < v0)) then (bif (decide (((0 : Int) ≤ x.2.1) ∧ (x.2.1 < (((List.length x.1) : Nat) : Int)))) then (let v1 : (List Int) := (List.getD x.1 (Int.toNat x.2.1) (List.replicate 32 (0 : Int)))
 let v2 : Int := (IntKind.wrap IntKind.i64 (x.2.1 + (1 : Int)))
 let v3 : Int := (((List.length x.1) : Nat) : Int)
 let v4 : Int := (IntKind.wrap IntKind.i64 (v3 - (1 : Int)))
 let v5 : Int := (if (v4 < v2) then v4 else v2)
 bif (decide (((0 : Int) ≤ v5) ∧ (v5 < (((List.length x.1) : Nat) : Int)))) then (let v6 : (List Int) := (List.getD x.1 (Int.toNat v5) (List.replicate 32 (0 : Int)))
 (Q1l k v1 v6).bind fun t7 => bif (Nat.ble (((List.length x.2.2.1) + (List.length (List.set (List.replicate 1 (List.replicate 32 (0 : Int))) 0 t7.1))) * 32) 140737488355328) then (let v8 : Int := (IntKind.wrap IntKind.i64 (x.2.1 + (2 : Int)))
 kn (x.1, (v8, ((x.2.2.1 ++ (List.set (List.replicate 1 (List.replicate 32 (0 : Int))) 0 t7.1)), ())))) else (none)) else (none)) else (none)) else (ke (x.2.2.1, ()))
def Q09.l0 (k : Nat) : Nat → Q09.l0.σ → Option Q09.l0.τ := Q14 (Q09.l0.r k)
def Q09.l0.T : StT := ⟨.dat Qgf :: us 2 ++ .vsl 0 :: .dat (.int .i64) :: us 24, [.vec Qgg]⟩
def Q09.l0.os : List Out := [⟨(.exit 0), [.mask [3], .auto 0], ⟨us 3 ++ .vsl 0 :: us 25, [.vec Qgg]⟩⟩]
def Q09.c (k : Nat) {ρ : Type} (l : (List (List Int))) (K : (List (List Int)) × Unit → Option ρ) : Option ρ :=
 (Q09.l0 k k (l, ((0 : Int), ([], ())))).bind fun t9 => K (t9.1, ())
def Q09 (k : Nat) (l : (List (List Int))) : Option ((List (List Int)) × Unit) := Q09.c k l some
def Q09.tin : List Ty := [Qgf]
def Q09.tout : List Ty := [Qgf]
def Q09.sem (k : Nat) : QP := QW Q09.tin Q09.tout fun x => Q09 k x.1
noncomputable def Q09.ctx (k : Nat) : Ctx := ⟨Tryz.prog, gam [(133, (Q1l.sem k))]⟩
theorem Q09.gok (k : Nat) : ∀ f, QF Tryz.prog f ((Q09.ctx k).Γ f) := (Qk (Q1l.sem_ok k) QX)
theorem Q09.l0.round (k : Nat) : Q10 (Q09.ctx k) (QM (Func.code Tryz.f127) [1, 1, 0, 1, 0, 0]) (.nil) Q09.l0.T [.mask [0, 3, 4], .auto 0] Q09.l0.os (Q09.l0.r k) := by
 intro ρ x kn ke; kernel_rfl
theorem Q09.l0.ok (k : Nat) : StOK 0 Tryz.prog (.loop (QM (Func.code Tryz.f127) [1, 1, 0, 1, 0, 0])) (Qn Q09.l0.T Q09.l0.os (Q09.l0 k k)) :=
 Q11 (C := Q09.ctx k) (Q09.gok k) Tryz.mix Q1.nil (by kernel_rfl) (by kernel_rfl) (by kernel_rfl) (Q09.l0.round k) k
def Q09.ann (k : Nat) : Ann := .node [] none (.nil) (.node [] none (.nil) (.node [] none (.node [] none (.nil) (.node [] none (.node [.own (.slot 3) Qgg] (some (Qn Q09.l0.T Q09.l0.os (Q09.l0 k k))) .nil .nil) (.nil))) (.nil)))
theorem Q09.body (k : Nat) : Q0R (Q09.ctx k) Tryz.f127 (Func.code Tryz.f127) (Q09.ann k) Q09.tin Q09.tout (fun x K => Q09.c k x.1 K) := by
 intro ρ x K; kernel_rfl
theorem Q09.sem_ok (k : Nat) : QF Tryz.prog 127 (Q09.sem k) :=
 QD (C := Q09.ctx k) (Q09.gok k) Tryz.mix (c := Func.code Tryz.f127) (ann := Q09.ann k) (tin := Q09.tin) (tout := Q09.tout) (fun x K => Q09.c k x.1 K) Tryz.func127 (by kernel_rfl) (by kernel_rfl) (Q1.seq Q1.nil (Q1.seq Q1.nil (Q1.seq (Q1.seq Q1.nil (Q1.block (Q1.loop (by kernel_rfl) (Q09.l0.ok k)))) Q1.nil))) (Q09.body k)
abbrev QU.l0.σ : Type := (List (List Int)) × (List (List (List Int))) × Unit
abbrev QU.l0.τ : Type := ((List (List (List Int))) × Unit)
def QU.l0.r (k : Nat) {ρ : Type} (x : QU.l0.σ) (kn : QU.l0.σ → Option ρ) (ke : QU.l0.τ → Option ρ) : Option ρ :=
 let v2 : Int := (((List.length x.1) : Nat) : Int)
 bif (decide (v2 > (1 : Int))) then ((Q09 k x.1).bind fun t3 => bif (Nat.ble (((List.length x.2.1) + (List.length (List.set (List.replicate 1 []) 0 t3.1))) * 24) 140737488355328) then (kn (t3.1, ((x.2.1 ++ (List.set (List.replicate 1 []) 0 t3.1)), ()))) else (none)) else (ke (x.2.1, ()))
def QU.l0 (k : Nat) : Nat → QU.l0.σ → Option QU.l0.τ := Q14 (QU.l0.r k)
def QU.l0.T : StT := ⟨.dat Qgf :: us 2 ++ .vsl 0 :: us 16, [.vec Qgf]⟩
def QU.l0.os : List Out := [⟨(.exit 0), [.mask [3], .auto 0], ⟨us 3 ++ .vsl 0 :: us 16, [.vec Qgf]⟩⟩]
def QU.c (k : Nat) {ρ : Type} (l : (List (List Int))) (K : (List (List (List Int))) × Unit → Option ρ) : Option ρ :=
 let v0 : Int := (((List.length l) : Nat) : Int)
 bif (v0 == (0 : Int)) then (K ([], ())) else ((QC k l).bind fun t1 => (QU.l0 k k (l, ((List.set (List.replicate 1 []) 0 t1.1), ()))).bind fun t4 => K (t4.1, ()))
def QU (k : Nat) (l : (List (List Int))) : Option ((List (List (List Int))) × Unit) := QU.c k l some
def QU.tin : List Ty := [Qgf]
def QU.tout : List Ty := [Qgd]
def QU.sem (k : Nat) : QP := QW QU.tin QU.tout fun x => QU k x.1
noncomputable def QU.ctx (k : Nat) : Ctx := ⟨Tryz.prog, gam [(126, (QC.sem k)), (127, (Q09.sem k))]⟩
theorem QU.gok (k : Nat) : ∀ f, QF Tryz.prog f ((QU.ctx k).Γ f) := (Qk (QC.sem_ok k) (Qk (Q09.sem_ok k) QX))
theorem QU.l0.round (k : Nat) : Q10 (QU.ctx k) (QM (Func.code Tryz.f115) [1, 1, 1, 0, 0, 0]) (.nil) QU.l0.T [.mask [0, 3], .auto 0] QU.l0.os (QU.l0.r k) := by
 intro ρ x kn ke; kernel_rfl
theorem QU.l0.ok (k : Nat) : StOK 0 Tryz.prog (.loop (QM (Func.code Tryz.f115) [1, 1, 1, 0, 0, 0])) (Qn QU.l0.T QU.l0.os (QU.l0 k k)) :=
 Q11 (C := QU.ctx k) (QU.gok k) Tryz.mix Q1.nil (by kernel_rfl) (by kernel_rfl) (by kernel_rfl) (QU.l0.round k) k
def QU.ann (k : Nat) : Ann := .node [] none (.nil) (.node [] none (.nil) (.node [] none (.nil) (.node [] none (.node [] none (.node [.mask [0, 3], .auto 0] (some (Qn QU.l0.T QU.l0.os (QU.l0 k k))) .nil .nil) (.nil)) (.nil))))
theorem QU.body (k : Nat) : Q0R (QU.ctx k) Tryz.f115 (Func.code Tryz.f115) (QU.ann k) QU.tin QU.tout (fun x K => QU.c k x.1 K) := by
 intro ρ x K; kernel_rfl
theorem QU.sem_ok (k : Nat) : QF Tryz.prog 115 (QU.sem k) :=
 QD (C := QU.ctx k) (QU.gok k) Tryz.mix (c := Func.code Tryz.f115) (ann := QU.ann k) (tin := QU.tin) (tout := QU.tout) (fun x K => QU.c k x.1 K) Tryz.func115 (by kernel_rfl) (by kernel_rfl) (Q1.seq Q1.nil (Q1.seq Q1.nil (Q1.seq Q1.nil (Q1.seq (Q1.block (Q1.loop (by kernel_rfl) (QU.l0.ok k))) Q1.nil)))) (QU.body k)
abbrev QL.l1.σ : Type := Bool × (List (List (List Int))) × (List (List Int)) × Int × (List (List (List Int))) × Int × Int × (List Int) × Unit
abbrev QL.l1.τ : Type := (Bool × (List (List (List Int))) × (List (List (List Int))) × Int × Int × (List Int) × Unit)
def QL.l1.r (k : Nat) {ρ : Type} (x : QL.l1.σ) (kn : QL.l1.σ → Option ρ) (ke : QL.l1.τ → Option ρ) : Option ρ :=
 let v3 : Int := (IntKind.wrap IntKind.i64 (x.2.2.2.1 + (1 : Int)))
 let v4 : Int := (((List.length x.2.2.1) : Nat) : Int)
 bif (decide (v3 < v4)) then (bif x.1 then (let v5 : Int := (IntKind.wrap IntKind.i64 (x.2.2.2.1 + (2 : Int)))
 kn (true, (x.2.1, (x.2.2.1, (v5, (x.2.2.2.2.1, (x.2.2.2.2.2.1, (x.2.2.2.2.2.2.1, (x.2.2.2.2.2.2.2.1, ()))))))))) else (bif (decide (((0 : Int) ≤ x.2.2.2.1) ∧ (x.2.2.2.1 < (((List.length x.2.2.1) : Nat) : Int)))) then (let v6 : (List Int) := (List.getD x.2.2.1 (Int.toNat x.2.2.2.1) (List.replicate 32 (0 : Int)))
 let v7 : Int := (IntKind.wrap IntKind.i64 (x.2.2.2.1 + (1 : Int)))
 bif (decide (((0 : Int) ≤ v7) ∧ (v7 < (((List.length x.2.2.1) : Nat) : Int)))) then (let v8 : (List Int) := (List.getD x.2.2.1 (Int.toNat v7) (List.replicate 32 (0 : Int)))
 let v9 : Int := (IntKind.wrap IntKind.i64 (x.2.2.2.1 + (2 : Int)))
 kn ((decide (v6 = v8)), (x.2.1, (x.2.2.1, (v9, (x.2.2.2.2.1, (x.2.2.2.2.2.1, (x.2.2.2.2.2.2.1, (x.2.2.2.2.2.2.2.1, ()))))))))) else (none)) else (none))) else (ke (x.1, (x.2.1, (x.2.2.2.2.1, (x.2.2.2.2.2.1, (x.2.2.2.2.2.2.1, (x.2.2.2.2.2.2.2.1, ())))))))
def QL.l1 (k : Nat) : Nat → QL.l1.σ → Option QL.l1.τ := Q14 (QL.l1.r k)
def QL.l1.T : StT := ⟨us 2 ++ .ptr 0 [] :: us 1 ++ .dat .bool :: .dat Qgd :: us 1 ++ .dat Qgf :: .dat (.int .i64) :: us 2 ++ .dat Qgd :: .dat (.int .i64) :: .dat (.int .i64) :: us 37, [.dat Qgg]⟩
def QL.l1.os : List Out := [⟨(.exit 2), [.mask [2, 4, 5, 11, 12, 13], .auto 0], ⟨us 2 ++ .ptr 0 [] :: us 1 ++ .dat .bool :: .dat Qgd :: us 5 ++ .dat Qgd :: .dat (.int .i64) :: .dat (.int .i64) :: us 37, [.dat Qgg]⟩⟩]
abbrev QL.l0.σ : Type := Bool × (List (List (List Int))) × (List (List (List Int))) × Int × Int × (List Int) × Unit
abbrev QL.l0.τ : Type := (Bool × (List (List (List Int))) × (List Int) × Unit)
def QL.l0.r (k : Nat) {ρ : Type} (x : QL.l0.σ) (kn : QL.l0.σ → Option ρ) (ke : QL.l0.τ → Option ρ) : Option ρ :=
 bif (decide (x.2.2.2.2.1 < x.2.2.2.1)) then (bif (decide (((0 : Int) ≤ x.2.2.2.2.1) ∧ (x.2.2.2.2.1 < (((List.length x.2.2.1) : Nat) : Int)))) then (let v2 : (List (List Int)) := (List.getD x.2.2.1 (Int.toNat x.2.2.2.2.1) [])
 (QL.l1 k k (x.1, (x.2.1, (v2, ((0 : Int), (x.2.2.1, (x.2.2.2.1, (x.2.2.2.2.1, (x.2.2.2.2.2.1, ()))))))))).bind fun t10 => let v11 : Int := (IntKind.wrap IntKind.i64 (t10.2.2.2.2.1 + (1 : Int)))
 kn (t10.1, (t10.2.1, (t10.2.2.1, (t10.2.2.2.1, (v11, (t10.2.2.2.2.2.1, ()))))))) else (none)) else (ke (x.1, (x.2.1, (x.2.2.2.2.2.1, ()))))
def QL.l0 (k : Nat) : Nat → QL.l0.σ → Option QL.l0.τ := Q14 (QL.l0.r k)
def QL.l0.T : StT := ⟨us 2 ++ .ptr 0 [] :: us 1 ++ .dat .bool :: .dat Qgd :: us 5 ++ .dat Qgd :: .dat (.int .i64) :: .dat (.int .i64) :: us 37, [.dat Qgg]⟩
def QL.l0.os : List Out := [⟨(.exit 0), [.mask [2, 4, 5], .auto 0], ⟨us 2 ++ .ptr 0 [] :: us 1 ++ .dat .bool :: .dat Qgd :: us 45, [.dat Qgg]⟩⟩]
def QL.c (k : Nat) {ρ : Type} (l : (List (List Int))) (K : (List Int) × Bool × Unit → Option ρ) : Option ρ :=
 (QU k l).bind fun t0 => let v1 : Int := (((List.length t0.1) : Nat) : Int)
 (QL.l0 k k (false, (t0.1, (t0.1, (v1, ((0 : Int), ((List.replicate 32 (0 : Int)), ()))))))).bind fun t12 => let v13 : Int := (((List.length t12.2.1) : Nat) : Int)
 bif (v13 == (0 : Int)) then (let v14 : (List Int) := (List.replicate 32 (0 : Int))
 K (v14, (false, ()))) else (let v15 : Int := (((List.length t12.2.1) : Nat) : Int)
 let v16 : Int := (IntKind.wrap IntKind.i64 (v15 - (1 : Int)))
 bif (decide (((0 : Int) ≤ v16) ∧ (v16 < (((List.length t12.2.1) : Nat) : Int)))) then (let v17 : (List (List Int)) := (List.getD t12.2.1 (Int.toNat v16) [])
 bif (decide (((0 : Int) ≤ (0 : Int)) ∧ ((0 : Int) < (((List.length v17) : Nat) : Int)))) then (let v18 : (List Int) := (List.getD v17 0 (List.replicate 32 (0 : Int)))
 K (v18, (t12.1, ()))) else (none)) else (none))
def QL (k : Nat) (l : (List (List Int))) : Option ((List Int) × Bool × Unit) := QL.c k l some
def QL.tin : List Ty := [Qgf]
def QL.tout : List Ty := [Qgg, .bool]
def QL.sem (k : Nat) : QP := QW QL.tin QL.tout fun x => QL k x.1
noncomputable def QL.ctx (k : Nat) : Ctx := ⟨Tryz.prog, gam [(115, (QU.sem k))]⟩
theorem QL.gok (k : Nat) : ∀ f, QF Tryz.prog f ((QL.ctx k).Γ f) := (Qk (QU.sem_ok k) QX)
theorem QL.l1.round (k : Nat) : Q10 (QL.ctx k) (QM (Func.code Tryz.f97) [1, 1, 1, 0, 1, 0, 0, 1, 1, 0, 0, 1, 1, 0, 0]) (.nil) QL.l1.T [.mask [2, 4, 5, 7, 8, 11, 12, 13], .auto 0] QL.l1.os (QL.l1.r k) := by
 intro ρ x kn ke; kernel_rfl
theorem QL.l1.ok (k : Nat) : StOK 0 Tryz.prog (.loop (QM (Func.code Tryz.f97) [1, 1, 1, 0, 1, 0, 0, 1, 1, 0, 0, 1, 1, 0, 0])) (Qn QL.l1.T QL.l1.os (QL.l1 k k)) :=
 Q11 (C := QL.ctx k) (QL.gok k) Tryz.mix Q1.nil (by kernel_rfl) (by kernel_rfl) (by kernel_rfl) (QL.l1.round k) k
theorem QL.l0.round (k : Nat) : Q10 (QL.ctx k) (QM (Func.code Tryz.f97) [1, 1, 1, 0, 1, 0, 0]) (.node [] none (.nil) (.node [] none (.nil) (.node [] none (.node [] none (.node [] none (.nil) (.node [] none (.nil) (.node [] none (.node [.mask [2, 4, 5, 7, 8, 11, 12, 13], .auto 0] (some (Qn QL.l1.T QL.l1.os (QL.l1 k k))) .nil .nil) (.nil)))) (.nil)) (.nil)))) QL.l0.T [.mask [2, 4, 5, 11, 12, 13], .auto 0] QL.l0.os (QL.l0.r k) := by
 intro ρ x kn ke; kernel_rfl
theorem QL.l0.ok (k : Nat) : StOK 0 Tryz.prog (.loop (QM (Func.code Tryz.f97) [1, 1, 1, 0, 1, 0, 0])) (Qn QL.l0.T QL.l0.os (QL.l0 k k)) :=
 Q11 (C := QL.ctx k) (QL.gok k) Tryz.mix (Q1.seq Q1.nil (Q1.seq Q1.nil (Q1.seq (Q1.block (Q1.seq Q1.nil (Q1.seq Q1.nil (Q1.block (Q1.loop (by kernel_rfl) (QL.l1.ok k)))))) Q1.nil))) (by kernel_rfl) (by kernel_rfl) (by kernel_rfl) (QL.l0.round k) k
def QL.ann (k : Nat) : Ann := .node [] none (.nil) (.node [] none (.nil) (.node [] none (.nil) (.node [] none (.node [] none (.nil) (.node [] none (.node [.mask [2, 4, 5, 11, 12, 13], .auto 0] (some (Qn QL.l0.T QL.l0.os (QL.l0 k k))) .nil .nil) (.nil))) (.nil))))
theorem QL.body (k : Nat) : Q0R (QL.ctx k) Tryz.f97 (Func.code Tryz.f97) (QL.ann k) QL.tin QL.tout (fun x K => QL.c k x.1 K) := by
 intro ρ x K; kernel_rfl
theorem QL.sem_ok (k : Nat) : QF Tryz.prog 97 (QL.sem k) :=
 QD (C := QL.ctx k) (QL.gok k) Tryz.mix (c := Func.code Tryz.f97) (ann := QL.ann k) (tin := QL.tin) (tout := QL.tout) (fun x K => QL.c k x.1 K) Tryz.func97 (by kernel_rfl) (by kernel_rfl) (Q1.seq Q1.nil (Q1.seq Q1.nil (Q1.seq Q1.nil (Q1.seq (Q1.seq Q1.nil (Q1.block (Q1.loop (by kernel_rfl) (QL.l0.ok k)))) Q1.nil)))) (QL.body k)
abbrev Q0A.l0.σ : Type := Qg6 × Int × Int × (List Int) × (List (List Int)) × Unit
abbrev Q0A.l0.τ : Type := ((List Int) × (List (List Int)) × Unit)
def Q0A.l0.r (k : Nat) {ρ : Type} (x : Q0A.l0.σ) (kn : Q0A.l0.σ → Option ρ) (ke : Q0A.l0.τ → Option ρ) : Option ρ :=
 bif (decide (x.2.2.1 < x.2.1)) then (bif (decide (((0 : Int) ≤ x.2.2.1) ∧ (x.2.2.1 < (((List.length x.1) : Nat) : Int)))) then ((Q26 k ((List.getD x.1 (Int.toNat x.2.2.1) ((0 : Int), ([], ([], ((0 : Int), ()))))).1, ((List.getD x.1 (Int.toNat x.2.2.1) ((0 : Int), ([], ([], ((0 : Int), ()))))).2.1, ((List.getD x.1 (Int.toNat x.2.2.1) ((0 : Int), ([], ([], ((0 : Int), ()))))).2.2.1, ((List.getD x.1 (Int.toNat x.2.2.1) ((0 : Int), ([], ([], ((0 : Int), ()))))).2.2.2.1, ()))))).bind fun t2 => let v3 : (List Int) := t2.1
 let v4 : Int := t2.2.1
 bif (decide (((0 : Int) ≤ x.2.2.1) ∧ (x.2.2.1 < (((List.length x.2.2.2.2.1) : Nat) : Int)))) then (let v5 : Int := (IntKind.wrap IntKind.i64 (x.2.2.1 + (1 : Int)))
 kn (x.1, (x.2.1, (v5, (x.2.2.2.1, ((List.set x.2.2.2.2.1 (Int.toNat x.2.2.1) v3), ())))))) else (none)) else (none)) else (ke (x.2.2.2.1, (x.2.2.2.2.1, ())))
def Q0A.l0 (k : Nat) : Nat → Q0A.l0.σ → Option Q0A.l0.τ := Q14 (Q0A.l0.r k)
def Q0A.l0.T : StT := ⟨us 2 ++ .ptr 0 [] :: us 1 ++ .vsl 1 :: us 5 ++ .dat Qg2 :: .dat (.int .i64) :: .dat (.int .i64) :: us 17, [.dat Qgg, .vec Qgg]⟩
def Q0A.l0.os : List Out := [⟨(.exit 0), [.mask [2, 4], .auto 0], ⟨us 2 ++ .ptr 0 [] :: us 1 ++ .vsl 1 :: us 25, [.dat Qgg, .vec Qgg]⟩⟩]
def Q0A.c (k : Nat) {ρ : Type} (txs : Qg6) (K : (List Int) × Bool × Unit → Option ρ) : Option ρ :=
 let v0 : Int := (((List.length txs) : Nat) : Int)
 bif ((decide (((0 : Int) ≤ v0) ∧ (v0 ≤ v0))) && (Nat.ble ((Int.toNat v0) * 32) 140737488355328)) then (let v1 : Int := (((List.length txs) : Nat) : Int)
 (Q0A.l0 k k (txs, (v1, ((0 : Int), ((List.replicate 32 (0 : Int)), ((List.replicate (Int.toNat v0) (List.replicate 32 (0 : Int))), ())))))).bind fun t6 => (QL k t6.2.1).bind fun t7 => let v8 : (List Int) := t7.1
 K (v8, (t7.2.1, ()))) else (none)
def Q0A (k : Nat) (txs : Qg6) : Option ((List Int) × Bool × Unit) := Q0A.c k txs some
def Q0A.tin : List Ty := [Qg2]
def Q0A.tout : List Ty := [Qgg, .bool]
def Q0A.sem (k : Nat) : QP := QW Q0A.tin Q0A.tout fun x => Q0A k x.1
noncomputable def Q0A.ctx (k : Nat) : Ctx := ⟨Tryz.prog, gam [(96, (Q26.sem k)), (97, (QL.sem k))]⟩
theorem Q0A.gok (k : Nat) : ∀ f, QF Tryz.prog f ((Q0A.ctx k).Γ f) := (Qk (Q26.sem_ok k) (Qk (QL.sem_ok k) QX))
theorem Q0A.l0.round (k : Nat) : Q10 (Q0A.ctx k) (QM (Func.code Tryz.f63) [1, 1, 0, 1, 0, 0]) (.nil) Q0A.l0.T [.mask [2, 4, 10, 11, 12], .auto 0] Q0A.l0.os (Q0A.l0.r k) := by
 intro ρ x kn ke; kernel_rfl
theorem Q0A.l0.ok (k : Nat) : StOK 0 Tryz.prog (.loop (QM (Func.code Tryz.f63) [1, 1, 0, 1, 0, 0])) (Qn Q0A.l0.T Q0A.l0.os (Q0A.l0 k k)) :=
 Q11 (C := Q0A.ctx k) (Q0A.gok k) Tryz.mix Q1.nil (by kernel_rfl) (by kernel_rfl) (by kernel_rfl) (Q0A.l0.round k) k
def Q0A.ann (k : Nat) : Ann := .node [] none (.nil) (.node [] none (.nil) (.node [] none (.node [] none (.nil) (.node [] none (.node [.mask [2, 4, 10, 11, 12], .auto 0] (some (Qn Q0A.l0.T Q0A.l0.os (Q0A.l0 k k))) .nil .nil) (.nil))) (.nil)))
theorem Q0A.body (k : Nat) : Q0R (Q0A.ctx k) Tryz.f63 (Func.code Tryz.f63) (Q0A.ann k) Q0A.tin Q0A.tout (fun x K => Q0A.c k x.1 K) := by
 intro ρ x K; kernel_rfl
theorem Q0A.sem_ok (k : Nat) : QF Tryz.prog 63 (Q0A.sem k) :=
 QD (C := Q0A.ctx k) (Q0A.gok k) Tryz.mix (c := Func.code Tryz.f63) (ann := Q0A.ann k) (tin := Q0A.tin) (tout := Q0A.tout) (fun x K => Q0A.c k x.1 K) Tryz.func63 (by kernel_rfl) (by kernel_rfl) (Q1.seq Q1.nil (Q1.seq Q1.nil (Q1.seq (Q1.seq Q1.nil (Q1.block (Q1.loop (by kernel_rfl) (Q0A.l0.ok k)))) Q1.nil))) (Q0A.body k)
def Q1d.c (k : Nat) {ρ : Type} (t : Qg7) (K : Qg7 × Unit → Option ρ) : Option ρ :=
 let v0 : (List (((List Int) × (Int × Unit)) × (ByteArray × (Int × Unit)))) := t.2.1
 bif (Nat.ble ((List.length v0) * 64) 140737488355328) then (let v1 : Qgc := t.2.2.1
 bif (Nat.ble ((List.length v1) * 24) 140737488355328) then (K ((t.1, (v0, (v1, (t.2.2.2.1, ())))), ())) else (none)) else (none)
def Q1d (k : Nat) (t : Qg7) : Option (Qg7 × Unit) := Q1d.c k t some
def Q1d.tin : List Ty := [Qg4]
def Q1d.tout : List Ty := [Qg4]
def Q1d.sem (k : Nat) : QP := QW Q1d.tin Q1d.tout fun x => Q1d k x.1
noncomputable def Q1d.ctx (k : Nat) : Ctx := ⟨Tryz.prog, gam []⟩
theorem Q1d.gok (k : Nat) : ∀ f, QF Tryz.prog f ((Q1d.ctx k).Γ f) := QX
def Q1d.ann (k : Nat) : Ann := .nil
theorem Q1d.body (k : Nat) : Q0R (Q1d.ctx k) Tryz.f94 (Func.code Tryz.f94) (Q1d.ann k) Q1d.tin Q1d.tout (fun x K => Q1d.c k x.1 K) := by
 intro ρ x K; kernel_rfl
theorem Q1d.sem_ok (k : Nat) : QF Tryz.prog 94 (Q1d.sem k) :=
 QD (C := Q1d.ctx k) (Q1d.gok k) Tryz.mix (c := Func.code Tryz.f94) (ann := Q1d.ann k) (tin := Q1d.tin) (tout := Q1d.tout) (fun x K => Q1d.c k x.1 K) Tryz.func94 (by kernel_rfl) (by kernel_rfl) Q1.nil (Q1d.body k)
def Q18.c (k : Nat) {ρ : Type} (h : Qg9) (K : ByteArray × Unit → Option ρ) : Option ρ :=
 (Q0C k ).bind fun t0 => let v1 : Int := h.1
 (Q0b k v1 (((), ((), ())), ()) t0.2.1).bind fun t2 => let v3 : (List Int) := h.2.1
 (Q0q k v3 (((), ((), ())), ()) t2.2.1).bind fun t4 => let v5 : (List Int) := h.2.2.1
 (Q0q k v5 (((), ((), ())), ()) t4.2.1).bind fun t6 => let v7 : Int := h.2.2.2.1
 (Q0b k v7 (((), ((), ())), ()) t6.2.1).bind fun t8 => let v9 : Int := h.2.2.2.2.1
 (Q0b k v9 (((), ((), ())), ()) t8.2.1).bind fun t10 => let v11 : Int := h.2.2.2.2.2.1
 (Q0b k v11 (((), ((), ())), ()) t10.2.1).bind fun t12 => (Q06 k (((), ((), ())), ()) t12.2.1).bind fun t13 => K (t13.1, ())
def Q18 (k : Nat) (h : Qg9) : Option (ByteArray × Unit) := Q18.c k h some
def Q18.tin : List Ty := [Qg5]
def Q18.tout : List Ty := [.str]
def Q18.sem (k : Nat) : QP := QW Q18.tin Q18.tout fun x => Q18 k x.1
noncomputable def Q18.ctx (k : Nat) : Ctx := ⟨Tryz.prog, gam [(23, (Q0C.sem k)), (24, (Q0b.sem k)), (25, (Q0q.sem k)), (26, (Q06.sem k))]⟩
theorem Q18.gok (k : Nat) : ∀ f, QF Tryz.prog f ((Q18.ctx k).Γ f) := (Qk (Q0C.sem_ok k) (Qk (Q0b.sem_ok k) (Qk (Q0q.sem_ok k) (Qk (Q06.sem_ok k) QX))))
def Q18.ann (k : Nat) : Ann := .nil
theorem Q18.body (k : Nat) : Q0R (Q18.ctx k) Tryz.f5 (Func.code Tryz.f5) (Q18.ann k) Q18.tin Q18.tout (fun x K => Q18.c k x.1 K) := by
 intro ρ x K; kernel_rfl
theorem Q18.sem_ok (k : Nat) : QF Tryz.prog 5 (Q18.sem k) :=
 QD (C := Q18.ctx k) (Q18.gok k) Tryz.mix (c := Func.code Tryz.f5) (ann := Q18.ann k) (tin := Q18.tin) (tout := Q18.tout) (fun x K => Q18.c k x.1 K) Tryz.func5 (by kernel_rfl) (by kernel_rfl) Q1.nil (Q18.body k)
abbrev Q0c.τ : Type := (Int × Qge × (List Int) × Unit)
def Q0c.c (k : Nat) {ρ : Type} (b0 : Qge) (b1 : (List Int)) (K : Q0c.τ → Option ρ) : Option ρ :=
 let v0 : Int := (((List.length b1) : Nat) : Int)
 K (v0, ((((), ((), ())), ()), (b1, ())))
def Q0c (k : Nat) (b0 : Qge) (b1 : (List Int)) : Option Q0c.τ := Q0c.c k b0 b1 some
def Q0c.T : Q1T := ⟨[.ptr 0 [0]], [.pair (.pair (.sfp 0 [0] 111) (.pair (.vbs 1) (.dat .unit))) (.dat .unit), .vec (.int .u8)], 1⟩
def Q0c.os : List Out := [⟨.ret, [.freeze (.slot 0), .auto 1], ⟨[.dat (.int .i64)], [.pair (.pair (.sfp 0 [0] 111) (.pair (.vbs 1) (.dat .unit))) (.dat .unit), .vec (.int .u8)]⟩⟩]
def Q0c.sem (k : Nat) : QP := Q24 Q0c.T Q0c.os fun x => Q0c k x.1 x.2.1
noncomputable def Q0c.ctx (k : Nat) : Ctx := ⟨Tryz.prog, gam []⟩
theorem Q0c.gok (k : Nat) : ∀ f, QF Tryz.prog f ((Q0c.ctx k).Γ f) := QX
def Q0c.ann (k : Nat) : Ann := .nil
theorem Q0c.body (k : Nat) : Q23 (Q0c.ctx k) Tryz.f75 (Func.code Tryz.f75) (Q0c.ann k) Q0c.T Q0c.os (fun x K => Q0c.c k x.1 x.2.1 K) := by
 intro ρ x K; kernel_rfl
theorem Q0c.sem_ok (k : Nat) : QF Tryz.prog 75 (Q0c.sem k) :=
 Q1x (C := Q0c.ctx k) (Q0c.gok k) Tryz.mix (c := Func.code Tryz.f75) (ann := Q0c.ann k) (T := Q0c.T) (os := Q0c.os) (fun x K => Q0c.c k x.1 x.2.1 K) Tryz.func75 (by kernel_rfl) (by kernel_rfl) Q1.nil (Q0c.body k) (by kernel_rfl) (by kernel_rfl) (by kernel_rfl)
abbrev Q0Q.τ : Type := (Int × Qge × (List Int) × Unit)
def Q0Q.c (k : Nat) {ρ : Type} (b0 : Qge) (b1 : (List Int)) (K : Q0Q.τ → Option ρ) : Option ρ :=
 (Q0c k (((), ((), ())), ()) b1).bind fun t0 => K (t0.1, ((((), ((), ())), ()), (t0.2.2.1, ())))
def Q0Q (k : Nat) (b0 : Qge) (b1 : (List Int)) : Option Q0Q.τ := Q0Q.c k b0 b1 some
def Q0Q.T : Q1T := ⟨[.ptr 0 []], [.pair (.pair (.sfp 0 [0] 111) (.pair (.vbs 1) (.dat .unit))) (.dat .unit), .vec (.int .u8)], 1⟩
def Q0Q.os : List Out := [⟨.ret, [.freeze (.slot 0), .auto 1], ⟨[.dat (.int .i64)], [.pair (.pair (.sfp 0 [0] 111) (.pair (.vbs 1) (.dat .unit))) (.dat .unit), .vec (.int .u8)]⟩⟩]
def Q0Q.sem (k : Nat) : QP := Q24 Q0Q.T Q0Q.os fun x => Q0Q k x.1 x.2.1
noncomputable def Q0Q.ctx (k : Nat) : Ctx := ⟨Tryz.prog, gam [(75, (Q0c.sem k))]⟩
theorem Q0Q.gok (k : Nat) : ∀ f, QF Tryz.prog f ((Q0Q.ctx k).Γ f) := (Qk (Q0c.sem_ok k) QX)
def Q0Q.ann (k : Nat) : Ann := .nil
theorem Q0Q.body (k : Nat) : Q23 (Q0Q.ctx k) Tryz.f43 (Func.code Tryz.f43) (Q0Q.ann k) Q0Q.T Q0Q.os (fun x K => Q0Q.c k x.1 x.2.1 K) := by
 intro ρ x K; kernel_rfl
theorem Q0Q.sem_ok (k : Nat) : QF Tryz.prog 43 (Q0Q.sem k) :=
 Q1x (C := Q0Q.ctx k) (Q0Q.gok k) Tryz.mix (c := Func.code Tryz.f43) (ann := Q0Q.ann k) (T := Q0Q.T) (os := Q0Q.os) (fun x K => Q0Q.c k x.1 x.2.1 K) Tryz.func43 (by kernel_rfl) (by kernel_rfl) Q1.nil (Q0Q.body k) (by kernel_rfl) (by kernel_rfl) (by kernel_rfl)
abbrev Q04.l0.σ : Type := Qg6 × Int × Int × Qge × (List Int) × Unit
abbrev Q04.l0.τ : Type := (ByteArray × Int × Unit) ⊕ (Qge × (List Int) × Unit)
def Q04.l0.r (k : Nat) {ρ : Type} (x : Q04.l0.σ) (kn : Q04.l0.σ → Option ρ) (ke : Q04.l0.τ → Option ρ) : Option ρ :=
 bif (decide (x.2.2.1 < x.2.1)) then (bif (decide (((0 : Int) ≤ x.2.2.1) ∧ (x.2.2.1 < (((List.length x.1) : Nat) : Int)))) then ((Ql k ((List.getD x.1 (Int.toNat x.2.2.1) ((0 : Int), ([], ([], ((0 : Int), ()))))).1, ((List.getD x.1 (Int.toNat x.2.2.1) ((0 : Int), ([], ([], ((0 : Int), ()))))).2.1, ((List.getD x.1 (Int.toNat x.2.2.1) ((0 : Int), ([], ([], ((0 : Int), ()))))).2.2.1, ((List.getD x.1 (Int.toNat x.2.2.1) ((0 : Int), ([], ([], ((0 : Int), ()))))).2.2.2.1, ()))))).bind fun t8 => let v9 : ByteArray := t8.1
 let v10 : Int := t8.2.1
 bif (v10 != (0 : Int)) then (ke (.inl ((⟨(List.toArray [])⟩ : ByteArray), (v10, ())))) else ((QK k v9 (((), ((), ())), ()) x.2.2.2.2.1).bind fun t11 => let v12 : Int := (IntKind.wrap IntKind.i64 (x.2.2.1 + (1 : Int)))
 kn (x.1, (x.2.1, (v12, ((((), ((), ())), ()), (t11.2.1, ()))))))) else (none)) else (ke (.inr ((((), ((), ())), ()), (x.2.2.2.2.1, ()))))
def Q04.l0 (k : Nat) : Nat → Q04.l0.σ → Option Q04.l0.τ := Q14 (Q04.l0.r k)
def Q04.l0.T : StT := ⟨us 4 ++ .ptr 0 [] :: us 17 ++ .dat Qg2 :: .dat (.int .i64) :: .dat (.int .i64) :: us 20, [.pair (.pair (.sfp 0 [0] 111) (.pair (.vbs 1) (.dat .unit))) (.dat .unit), .vec (.int .u8)]⟩
def Q04.l0.os : List Out := [⟨.ret, [.mask [2, 3], .auto 0], ⟨us 2 ++ .dat .str :: .dat (.int .i64) :: us 41, []⟩⟩, ⟨(.exit 0), [.mask [4], .auto 0], ⟨us 4 ++ .ptr 0 [] :: us 40, [.pair (.pair (.sfp 0 [0] 111) (.pair (.vbs 1) (.dat .unit))) (.dat .unit), .vec (.int .u8)]⟩⟩]
def Q04.c (k : Nat) {ρ : Type} (b : Qg3) (K : ByteArray × Int × Unit → Option ρ) : Option ρ :=
 (Q0C k ).bind fun t0 => (Q18 k (b.1.1, (b.1.2.1, (b.1.2.2.1, (b.1.2.2.2.1, (b.1.2.2.2.2.1, (b.1.2.2.2.2.2.1, ()))))))).bind fun t1 => (QK k t1.1 (((), ((), ())), ()) t0.2.1).bind fun t2 => let v3 : Qg6 := b.2.1
 let v4 : Int := (((List.length v3) : Nat) : Int)
 (Q01 k (IntKind.wrap IntKind.u64 v4) (((), ((), ())), ()) t2.2.1).bind fun t5 => let v6 : Qg6 := b.2.1
 let v7 : Int := (((List.length v6) : Nat) : Int)
 (Q04.l0 k k (v6, (v7, ((0 : Int), ((((), ((), ())), ()), (t5.2.1, ())))))).bind fun t13 => (match t13 with | .inl t14 => (K (t14.1, (t14.2.1, ()))) | .inr (t15) => ((Q0Q k (((), ((), ())), ()) t15.2.1).bind fun t16 => bif (decide (t16.1 > (8192 : Int))) then (K ((⟨(List.toArray [])⟩ : ByteArray), ((110 : Int), ()))) else ((Q06 k (((), ((), ())), ()) t16.2.2.1).bind fun t17 => K (t17.1, ((0 : Int), ())))))
def Q04 (k : Nat) (b : Qg3) : Option (ByteArray × Int × Unit) := Q04.c k b some
def Q04.tin : List Ty := [Qg1]
def Q04.tout : List Ty := [.str, (.int .i64)]
def Q04.sem (k : Nat) : QP := QW Q04.tin Q04.tout fun x => Q04 k x.1
noncomputable def Q04.ctx (k : Nat) : Ctx := ⟨Tryz.prog, gam [(23, (Q0C.sem k)), (5, (Q18.sem k)), (40, (QK.sem k)), (41, (Q01.sem k)), (42, (Ql.sem k)), (43, (Q0Q.sem k)), (26, (Q06.sem k))]⟩
theorem Q04.gok (k : Nat) : ∀ f, QF Tryz.prog f ((Q04.ctx k).Γ f) := (Qk (Q0C.sem_ok k) (Qk (Q18.sem_ok k) (Qk (QK.sem_ok k) (Qk (Q01.sem_ok k) (Qk (Ql.sem_ok k) (Qk (Q0Q.sem_ok k) (Qk (Q06.sem_ok k) QX)))))))
theorem Q04.l0.round (k : Nat) : Q10 (Q04.ctx k) (QM (Func.code Tryz.f15) [1, 1, 1, 1, 0, 1, 0, 0]) (.nil) Q04.l0.T [.mask [4, 22, 23, 24], .auto 0] Q04.l0.os (Q04.l0.r k) := by
 intro ρ x kn ke; kernel_rfl
theorem Q04.l0.ok (k : Nat) : StOK 0 Tryz.prog (.loop (QM (Func.code Tryz.f15) [1, 1, 1, 1, 0, 1, 0, 0])) (Qn Q04.l0.T Q04.l0.os (Q04.l0 k k)) :=
 Q11 (C := Q04.ctx k) (Q04.gok k) Tryz.mix Q1.nil (by kernel_rfl) (by kernel_rfl) (by kernel_rfl) (Q04.l0.round k) k
def Q04.ann (k : Nat) : Ann := .node [] none (.nil) (.node [] none (.nil) (.node [] none (.nil) (.node [] none (.nil) (.node [] none (.node [] none (.nil) (.node [] none (.node [.mask [4, 22, 23, 24], .auto 0] (some (Qn Q04.l0.T Q04.l0.os (Q04.l0 k k))) .nil .nil) (.nil))) (.nil)))))
theorem Q04.body (k : Nat) : Q0R (Q04.ctx k) Tryz.f15 (Func.code Tryz.f15) (Q04.ann k) Q04.tin Q04.tout (fun x K => Q04.c k x.1 K) := by
 intro ρ x K; kernel_rfl
theorem Q04.sem_ok (k : Nat) : QF Tryz.prog 15 (Q04.sem k) :=
 QD (C := Q04.ctx k) (Q04.gok k) Tryz.mix (c := Func.code Tryz.f15) (ann := Q04.ann k) (tin := Q04.tin) (tout := Q04.tout) (fun x K => Q04.c k x.1 K) Tryz.func15 (by kernel_rfl) (by kernel_rfl) (Q1.seq Q1.nil (Q1.seq Q1.nil (Q1.seq Q1.nil (Q1.seq Q1.nil (Q1.seq (Q1.seq Q1.nil (Q1.block (Q1.loop (by kernel_rfl) (Q04.l0.ok k)))) Q1.nil))))) (Q04.body k)
def Q1p.c (k : Nat) {ρ : Type} (h : Qg9) (K : (List Int) × Unit → Option ρ) : Option ρ :=
 (Q18 k (h.1, (h.2.1, (h.2.2.1, (h.2.2.2.1, (h.2.2.2.2.1, (h.2.2.2.2.2.1, ()))))))).bind fun t0 => (Q1k k t0.1).bind fun t1 => K (t1.1, ())
def Q1p (k : Nat) (h : Qg9) : Option ((List Int) × Unit) := Q1p.c k h some
def Q1p.tin : List Ty := [Qg5]
def Q1p.tout : List Ty := [Qgg]
def Q1p.sem (k : Nat) : QP := QW Q1p.tin Q1p.tout fun x => Q1p k x.1
noncomputable def Q1p.ctx (k : Nat) : Ctx := ⟨Tryz.prog, gam [(5, (Q18.sem k)), (33, (Q1k.sem k))]⟩
theorem Q1p.gok (k : Nat) : ∀ f, QF Tryz.prog f ((Q1p.ctx k).Γ f) := (Qk (Q18.sem_ok k) (Qk (Q1k.sem_ok k) QX))
def Q1p.ann (k : Nat) : Ann := .nil
theorem Q1p.body (k : Nat) : Q0R (Q1p.ctx k) Tryz.f8 (Func.code Tryz.f8) (Q1p.ann k) Q1p.tin Q1p.tout (fun x K => Q1p.c k x.1 K) := by
 intro ρ x K; kernel_rfl
theorem Q1p.sem_ok (k : Nat) : QF Tryz.prog 8 (Q1p.sem k) :=
 QD (C := Q1p.ctx k) (Q1p.gok k) Tryz.mix (c := Func.code Tryz.f8) (ann := Q1p.ann k) (tin := Q1p.tin) (tout := Q1p.tout) (fun x K => Q1p.c k x.1 K) Tryz.func8 (by kernel_rfl) (by kernel_rfl) Q1.nil (Q1p.body k)
def Q0Y.c (k : Nat) {ρ : Type} (h : Qg9) (K : Bool × Unit → Option ρ) : Option ρ :=
 (Q1p k (h.1, (h.2.1, (h.2.2.1, (h.2.2.2.1, (h.2.2.2.2.1, (h.2.2.2.2.2.1, ()))))))).bind fun t0 => let v1 : Int := h.2.2.2.2.1
 (Q17 k t0.1 v1).bind fun t2 => K (t2.1, ())
def Q0Y (k : Nat) (h : Qg9) : Option (Bool × Unit) := Q0Y.c k h some
def Q0Y.tin : List Ty := [Qg5]
def Q0Y.tout : List Ty := [.bool]
def Q0Y.sem (k : Nat) : QP := QW Q0Y.tin Q0Y.tout fun x => Q0Y k x.1
noncomputable def Q0Y.ctx (k : Nat) : Ctx := ⟨Tryz.prog, gam [(8, (Q1p.sem k)), (38, (Q17.sem k))]⟩
theorem Q0Y.gok (k : Nat) : ∀ f, QF Tryz.prog f ((Q0Y.ctx k).Γ f) := (Qk (Q1p.sem_ok k) (Qk (Q17.sem_ok k) QX))
def Q0Y.ann (k : Nat) : Ann := .nil
theorem Q0Y.body (k : Nat) : Q0R (Q0Y.ctx k) Tryz.f13 (Func.code Tryz.f13) (Q0Y.ann k) Q0Y.tin Q0Y.tout (fun x K => Q0Y.c k x.1 K) := by
 intro ρ x K; kernel_rfl
theorem Q0Y.sem_ok (k : Nat) : QF Tryz.prog 13 (Q0Y.sem k) :=
 QD (C := Q0Y.ctx k) (Q0Y.gok k) Tryz.mix (c := Func.code Tryz.f13) (ann := Q0Y.ann k) (tin := Q0Y.tin) (tout := Q0Y.tout) (fun x K => Q0Y.c k x.1 K) Tryz.func13 (by kernel_rfl) (by kernel_rfl) Q1.nil (Q0Y.body k)
abbrev Q0H.l0.σ : Type := Int × Int × Qg9 × Qg9 × Qg9 × Unit
abbrev Q0H.l0.τ : Type := (Bool × Qg9 × Unit) ⊕ (Qg9 × Qg9 × Unit)
def Q0H.l0.r (k : Nat) {ρ : Type} (x : Q0H.l0.σ) (kn : Q0H.l0.σ → Option ρ) (ke : Q0H.l0.τ → Option ρ) : Option ρ :=
 bif (decide (x.2.1 < x.1)) then ((Q0Y k (x.2.2.2.2.1.1, (x.2.2.2.2.1.2.1, (x.2.2.2.2.1.2.2.1, (x.2.2.2.2.1.2.2.2.1, (x.2.2.2.2.1.2.2.2.2.1, (x.2.2.2.2.1.2.2.2.2.2.1, ()))))))).bind fun t1 => bif t1.1 then (ke (.inl (true, ((x.2.2.2.2.1.1, (x.2.2.2.2.1.2.1, (x.2.2.2.2.1.2.2.1, (x.2.2.2.2.1.2.2.2.1, (x.2.2.2.2.1.2.2.2.2.1, (x.2.2.2.2.1.2.2.2.2.2.1, ())))))), ())))) else (let v2 : Int := x.2.2.2.2.1.2.2.2.2.2.1
 bif (v2 == (4294967295 : Int)) then (ke (.inr ((x.2.2.1.1, (x.2.2.1.2.1, (x.2.2.1.2.2.1, (x.2.2.1.2.2.2.1, (x.2.2.1.2.2.2.2.1, (x.2.2.1.2.2.2.2.2.1, ())))))), ((x.2.2.2.1.1, (x.2.2.2.1.2.1, (x.2.2.2.1.2.2.1, (x.2.2.2.1.2.2.2.1, (x.2.2.2.1.2.2.2.2.1, (x.2.2.2.1.2.2.2.2.2.1, ())))))), ())))) else (let v3 : Int := x.2.2.2.2.1.2.2.2.2.2.1
 let v4 : Int := (IntKind.wrap IntKind.u32 (v3 + (1 : Int)))
 let v5 : Int := (IntKind.wrap IntKind.u64 (x.2.1 + (1 : Int)))
 kn (x.1, (v5, ((x.2.2.1.1, (x.2.2.1.2.1, (x.2.2.1.2.2.1, (x.2.2.1.2.2.2.1, (x.2.2.1.2.2.2.2.1, (x.2.2.1.2.2.2.2.2.1, ())))))), ((x.2.2.2.1.1, (x.2.2.2.1.2.1, (x.2.2.2.1.2.2.1, (x.2.2.2.1.2.2.2.1, (x.2.2.2.1.2.2.2.2.1, (x.2.2.2.1.2.2.2.2.2.1, ())))))), ((x.2.2.2.2.1.1, (x.2.2.2.2.1.2.1, (x.2.2.2.2.1.2.2.1, (x.2.2.2.2.1.2.2.2.1, (x.2.2.2.2.1.2.2.2.2.1, (v4, ())))))), ())))))))) else (ke (.inr ((x.2.2.1.1, (x.2.2.1.2.1, (x.2.2.1.2.2.1, (x.2.2.1.2.2.2.1, (x.2.2.1.2.2.2.2.1, (x.2.2.1.2.2.2.2.2.1, ())))))), ((x.2.2.2.1.1, (x.2.2.2.1.2.1, (x.2.2.2.1.2.2.1, (x.2.2.2.1.2.2.2.1, (x.2.2.2.1.2.2.2.2.1, (x.2.2.2.1.2.2.2.2.2.1, ())))))), ()))))
def Q0H.l0 (k : Nat) : Nat → Q0H.l0.σ → Option Q0H.l0.τ := Q14 (Q0H.l0.r k)
def Q0H.l0.T : StT := ⟨us 2 ++ .ptr 0 [] :: us 1 ++ .ptr 1 [] :: us 1 ++ .ptr 2 [] :: us 2 ++ .dat (.int .u64) :: .dat (.int .u64) :: us 13, [.dat Qg5, .dat Qg5, .dat Qg5]⟩
def Q0H.l0.os : List Out := [⟨.ret, [.mask [4, 5], .auto 0], ⟨us 4 ++ .ptr 0 [] :: .dat .bool :: us 18, [.dat Qg5]⟩⟩, ⟨(.exit 0), [.mask [2, 4], .auto 0], ⟨us 2 ++ .ptr 0 [] :: us 1 ++ .ptr 1 [] :: us 19, [.dat Qg5, .dat Qg5]⟩⟩]
def Q0H.c (k : Nat) {ρ : Type} (h : Qg9) (tries : Int) (K : Qg9 × Bool × Unit → Option ρ) : Option ρ :=
 let v0 : Int := (if ((4294967296 : Int) < tries) then (4294967296 : Int) else tries)
 (Q0H.l0 k k (v0, ((0 : Int), ((h.1, (h.2.1, (h.2.2.1, (h.2.2.2.1, (h.2.2.2.2.1, (h.2.2.2.2.2.1, ())))))), (((0 : Int), ((List.replicate 32 (0 : Int)), ((List.replicate 32 (0 : Int)), ((0 : Int), ((0 : Int), ((0 : Int), ())))))), ((h.1, (h.2.1, (h.2.2.1, (h.2.2.2.1, (h.2.2.2.2.1, (h.2.2.2.2.2.1, ())))))), ())))))).bind fun t6 => (match t6 with | .inl t7 => (K ((t7.2.1.1, (t7.2.1.2.1, (t7.2.1.2.2.1, (t7.2.1.2.2.2.1, (t7.2.1.2.2.2.2.1, (t7.2.1.2.2.2.2.2.1, ())))))), (t7.1, ()))) | .inr (t8) => (K ((t8.1.1, (t8.1.2.1, (t8.1.2.2.1, (t8.1.2.2.2.1, (t8.1.2.2.2.2.1, (t8.1.2.2.2.2.2.1, ())))))), (false, ()))))
def Q0H (k : Nat) (h : Qg9) (tries : Int) : Option (Qg9 × Bool × Unit) := Q0H.c k h tries some
def Q0H.tin : List Ty := [Qg5, (.int .u64)]
def Q0H.tout : List Ty := [Qg5, .bool]
def Q0H.sem (k : Nat) : QP := QW Q0H.tin Q0H.tout fun x => Q0H k x.1 x.2.1
noncomputable def Q0H.ctx (k : Nat) : Ctx := ⟨Tryz.prog, gam [(13, (Q0Y.sem k))]⟩
theorem Q0H.gok (k : Nat) : ∀ f, QF Tryz.prog f ((Q0H.ctx k).Γ f) := (Qk (Q0Y.sem_ok k) QX)
theorem Q0H.l0.round (k : Nat) : Q10 (Q0H.ctx k) (QM (Func.code Tryz.f95) [1, 1, 0, 1, 0, 0]) (.nil) Q0H.l0.T [.mask [2, 4, 6, 9, 10], .auto 0] Q0H.l0.os (Q0H.l0.r k) := by
 intro ρ x kn ke; kernel_rfl
theorem Q0H.l0.ok (k : Nat) : StOK 0 Tryz.prog (.loop (QM (Func.code Tryz.f95) [1, 1, 0, 1, 0, 0])) (Qn Q0H.l0.T Q0H.l0.os (Q0H.l0 k k)) :=
 Q11 (C := Q0H.ctx k) (Q0H.gok k) Tryz.mix Q1.nil (by kernel_rfl) (by kernel_rfl) (by kernel_rfl) (Q0H.l0.round k) k
def Q0H.ann (k : Nat) : Ann := .node [] none (.nil) (.node [] none (.nil) (.node [] none (.node [] none (.nil) (.node [] none (.node [.mask [2, 4, 6, 9, 10], .auto 0] (some (Qn Q0H.l0.T Q0H.l0.os (Q0H.l0 k k))) .nil .nil) (.nil))) (.nil)))
theorem Q0H.body (k : Nat) : Q0R (Q0H.ctx k) Tryz.f95 (Func.code Tryz.f95) (Q0H.ann k) Q0H.tin Q0H.tout (fun x K => Q0H.c k x.1 x.2.1 K) := by
 intro ρ x K; kernel_rfl
theorem Q0H.sem_ok (k : Nat) : QF Tryz.prog 95 (Q0H.sem k) :=
 QD (C := Q0H.ctx k) (Q0H.gok k) Tryz.mix (c := Func.code Tryz.f95) (ann := Q0H.ann k) (tin := Q0H.tin) (tout := Q0H.tout) (fun x K => Q0H.c k x.1 x.2.1 K) Tryz.func95 (by kernel_rfl) (by kernel_rfl) (Q1.seq Q1.nil (Q1.seq Q1.nil (Q1.seq (Q1.seq Q1.nil (Q1.block (Q1.loop (by kernel_rfl) (Q0H.l0.ok k)))) Q1.nil))) (Q0H.body k)
abbrev Q0j.l0.σ : Type := Qg6 × Int × Int × Qg8 × Qg8 × Qg6 × Unit
abbrev Q0j.l0.τ : Type := (Qg8 × Qg8 × Qg6 × Unit)
def Q0j.l0.r (k : Nat) {ρ : Type} (x : Q0j.l0.σ) (kn : Q0j.l0.σ → Option ρ) (ke : Q0j.l0.τ → Option ρ) : Option ρ :=
 bif (decide (x.2.2.1 < x.2.1)) then (bif (decide (((0 : Int) ≤ x.2.2.1) ∧ (x.2.2.1 < (((List.length x.1) : Nat) : Int)))) then ((Q1d k ((List.getD x.1 (Int.toNat x.2.2.1) ((0 : Int), ([], ([], ((0 : Int), ()))))).1, ((List.getD x.1 (Int.toNat x.2.2.1) ((0 : Int), ([], ([], ((0 : Int), ()))))).2.1, ((List.getD x.1 (Int.toNat x.2.2.1) ((0 : Int), ([], ([], ((0 : Int), ()))))).2.2.1, ((List.getD x.1 (Int.toNat x.2.2.1) ((0 : Int), ([], ([], ((0 : Int), ()))))).2.2.2.1, ()))))).bind fun t3 => bif (Nat.ble (((List.length x.2.2.2.2.2.1) + (List.length (List.set (List.replicate 1 ((0 : Int), ([], ([], ((0 : Int), ()))))) 0 (t3.1.1, (t3.1.2.1, (t3.1.2.2.1, (t3.1.2.2.2.1, ()))))))) * 64) 140737488355328) then (let v4 : Int := (IntKind.wrap IntKind.i64 (x.2.2.1 + (1 : Int)))
 kn (x.1, (x.2.1, (v4, (((x.2.2.2.1.1.1, (x.2.2.2.1.1.2.1, (x.2.2.2.1.1.2.2.1, (x.2.2.2.1.1.2.2.2.1, (x.2.2.2.1.1.2.2.2.2.1, (x.2.2.2.1.1.2.2.2.2.2.1, ())))))), ((), ())), (((x.2.2.2.2.1.1.1, (x.2.2.2.2.1.1.2.1, (x.2.2.2.2.1.1.2.2.1, (x.2.2.2.2.1.1.2.2.2.1, (x.2.2.2.2.1.1.2.2.2.2.1, (x.2.2.2.2.1.1.2.2.2.2.2.1, ())))))), ((), ())), ((x.2.2.2.2.2.1 ++ (List.set (List.replicate 1 ((0 : Int), ([], ([], ((0 : Int), ()))))) 0 (t3.1.1, (t3.1.2.1, (t3.1.2.2.1, (t3.1.2.2.2.1, ())))))), ()))))))) else (none)) else (none)) else (ke (((x.2.2.2.1.1.1, (x.2.2.2.1.1.2.1, (x.2.2.2.1.1.2.2.1, (x.2.2.2.1.1.2.2.2.1, (x.2.2.2.1.1.2.2.2.2.1, (x.2.2.2.1.1.2.2.2.2.2.1, ())))))), ((), ())), (((x.2.2.2.2.1.1.1, (x.2.2.2.2.1.1.2.1, (x.2.2.2.2.1.1.2.2.1, (x.2.2.2.2.1.1.2.2.2.1, (x.2.2.2.2.1.1.2.2.2.2.1, (x.2.2.2.2.1.1.2.2.2.2.2.1, ())))))), ((), ())), (x.2.2.2.2.2.1, ()))))
def Q0j.l0 (k : Nat) : Nat → Q0j.l0.σ → Option Q0j.l0.τ := Q14 (Q0j.l0.r k)
def Q0j.l0.T : StT := ⟨us 8 ++ .ptr 0 [] :: us 3 ++ .ptr 1 [] :: us 17 ++ .dat Qg2 :: .dat (.int .i64) :: .dat (.int .i64) :: us 32, [.pair (.dat Qg5) (.pair (.nils) (.dat .unit)), .pair (.dat Qg5) (.pair (.vsl 2) (.dat .unit)), .vec Qg4]⟩
def Q0j.l0.os : List Out := [⟨(.exit 0), [.mask [8, 12], .auto 0], ⟨us 8 ++ .ptr 0 [] :: us 3 ++ .ptr 1 [] :: us 52, [.pair (.dat Qg5) (.pair (.nils) (.dat .unit)), .pair (.dat Qg5) (.pair (.vsl 2) (.dat .unit)), .vec Qg4]⟩⟩]
def Q0j.c (k : Nat) {ρ : Type} (prev : (List Int)) (time : Int) (bits : Int) (txs : Qg6) (K : Qg3 × Int × Unit → Option ρ) : Option ρ :=
 (Q0A k txs).bind fun t0 => let v1 : (List Int) := t0.1
 let v2 : Int := (((List.length txs) : Nat) : Int)
 (Q0j.l0 k k (txs, (v2, ((0 : Int), ((((0 : Int), ((List.replicate 32 (0 : Int)), ((List.replicate 32 (0 : Int)), ((0 : Int), ((0 : Int), ((0 : Int), ())))))), ((), ())), ((((1 : Int), (prev, (v1, (time, (bits, ((0 : Int), ())))))), ((), ())), ([], ()))))))).bind fun t5 => (Q04 k ((t5.2.1.1.1, (t5.2.1.1.2.1, (t5.2.1.1.2.2.1, (t5.2.1.1.2.2.2.1, (t5.2.1.1.2.2.2.2.1, (t5.2.1.1.2.2.2.2.2.1, ())))))), (t5.2.2.1, ()))).bind fun t6 => let v7 : ByteArray := t6.1
 let v8 : Int := t6.2.1
 bif (v8 != (0 : Int)) then (K ((((0 : Int), ((List.replicate 32 (0 : Int)), ((List.replicate 32 (0 : Int)), ((0 : Int), ((0 : Int), ((0 : Int), ())))))), ([], ())), (v8, ()))) else ((Q0H k (t5.2.1.1.1, (t5.2.1.1.2.1, (t5.2.1.1.2.2.1, (t5.2.1.1.2.2.2.1, (t5.2.1.1.2.2.2.2.1, (t5.2.1.1.2.2.2.2.2.1, ())))))) (4294967296 : Int)).bind fun t9 => bif (!t9.2.1) then (K ((((0 : Int), ((List.replicate 32 (0 : Int)), ((List.replicate 32 (0 : Int)), ((0 : Int), ((0 : Int), ((0 : Int), ())))))), ([], ())), ((111 : Int), ()))) else (K (((t9.1.1, (t9.1.2.1, (t9.1.2.2.1, (t9.1.2.2.2.1, (t9.1.2.2.2.2.1, (t9.1.2.2.2.2.2.1, ())))))), (t5.2.2.1, ())), ((0 : Int), ()))))
def Q0j (k : Nat) (prev : (List Int)) (time : Int) (bits : Int) (txs : Qg6) : Option (Qg3 × Int × Unit) := Q0j.c k prev time bits txs some
def Q0j.tin : List Ty := [Qgg, (.int .u32), (.int .u32), Qg2]
def Q0j.tout : List Ty := [Qg1, (.int .i64)]
def Q0j.sem (k : Nat) : QP := QW Q0j.tin Q0j.tout fun x => Q0j k x.1 x.2.1 x.2.2.1 x.2.2.2.1
noncomputable def Q0j.ctx (k : Nat) : Ctx := ⟨Tryz.prog, gam [(63, (Q0A.sem k)), (94, (Q1d.sem k)), (15, (Q04.sem k)), (95, (Q0H.sem k))]⟩
theorem Q0j.gok (k : Nat) : ∀ f, QF Tryz.prog f ((Q0j.ctx k).Γ f) := (Qk (Q0A.sem_ok k) (Qk (Q1d.sem_ok k) (Qk (Q04.sem_ok k) (Qk (Q0H.sem_ok k) QX))))
theorem Q0j.l0.round (k : Nat) : Q10 (Q0j.ctx k) (QM (Func.code Tryz.f62) [1, 1, 1, 0, 1, 0, 0]) (.nil) Q0j.l0.T [.mask [8, 12, 30, 31, 32], .auto 0] Q0j.l0.os (Q0j.l0.r k) := by
 intro ρ x kn ke; kernel_rfl
theorem Q0j.l0.ok (k : Nat) : StOK 0 Tryz.prog (.loop (QM (Func.code Tryz.f62) [1, 1, 1, 0, 1, 0, 0])) (Qn Q0j.l0.T Q0j.l0.os (Q0j.l0 k k)) :=
 Q11 (C := Q0j.ctx k) (Q0j.gok k) Tryz.mix Q1.nil (by kernel_rfl) (by kernel_rfl) (by kernel_rfl) (Q0j.l0.round k) k
def Q0j.ann (k : Nat) : Ann := .node [] none (.nil) (.node [] none (.nil) (.node [] none (.nil) (.node [] none (.node [] none (.nil) (.node [] none (.node [.mask [8, 12, 30, 31, 32], .auto 0, .own (.blk 1 [1]) Qg4] (some (Qn Q0j.l0.T Q0j.l0.os (Q0j.l0 k k))) .nil .nil) (.nil))) (.nil))))
theorem Q0j.body (k : Nat) : Q0R (Q0j.ctx k) Tryz.f62 (Func.code Tryz.f62) (Q0j.ann k) Q0j.tin Q0j.tout (fun x K => Q0j.c k x.1 x.2.1 x.2.2.1 x.2.2.2.1 K) := by
 intro ρ x K; kernel_rfl
theorem Q0j.sem_ok (k : Nat) : QF Tryz.prog 62 (Q0j.sem k) :=
 QD (C := Q0j.ctx k) (Q0j.gok k) Tryz.mix (c := Func.code Tryz.f62) (ann := Q0j.ann k) (tin := Q0j.tin) (tout := Q0j.tout) (fun x K => Q0j.c k x.1 x.2.1 x.2.2.1 x.2.2.2.1 K) Tryz.func62 (by kernel_rfl) (by kernel_rfl) (Q1.seq Q1.nil (Q1.seq Q1.nil (Q1.seq Q1.nil (Q1.seq (Q1.seq Q1.nil (Q1.block (Q1.loop (by kernel_rfl) (Q0j.l0.ok k)))) Q1.nil)))) (Q0j.body k)
def Q15.c (k : Nat) {ρ : Type}  (K : Qg3 × Unit → Option ρ) : Option ρ :=
 (QN k (0 : Int) (⟨(List.toArray [98, 101, 100, 114, 111, 99, 107])⟩ : ByteArray) (List.set (List.replicate 1 ((0 : Int), (ByteArray.empty, ()))) 0 ((5000 : Int), ((⟨(List.toArray [])⟩ : ByteArray), ())))).bind fun t0 => let v1 : Int := t0.2.1
 let v2 : (List Int) := (List.replicate 32 (0 : Int))
 (Q0j k v2 (1600000000 : Int) (545259519 : Int) (List.set (List.replicate 1 ((0 : Int), ([], ([], ((0 : Int), ()))))) 0 (t0.1.1, (t0.1.2.1, (t0.1.2.2.1, (t0.1.2.2.2.1, ())))))).bind fun t3 => let v4 : Int := t3.2.1
 K (((t3.1.1.1, (t3.1.1.2.1, (t3.1.1.2.2.1, (t3.1.1.2.2.2.1, (t3.1.1.2.2.2.2.1, (t3.1.1.2.2.2.2.2.1, ())))))), (t3.1.2.1, ())), ())
def Q15 (k : Nat)  : Option (Qg3 × Unit) := Q15.c k  some
def Q15.tin : List Ty := []
def Q15.tout : List Ty := [Qg1]
def Q15.sem (k : Nat) : QP := QW Q15.tin Q15.tout fun x => Q15 k 
noncomputable def Q15.ctx (k : Nat) : Ctx := ⟨Tryz.prog, gam [(61, (Q9x QN.tin QN.tout fun x => QN k x.1 x.2.1 x.2.2.1)), (62, (Q9x Q0j.tin Q0j.tout fun x => Q0j k x.1 x.2.1 x.2.2.1 x.2.2.2.1))]⟩
theorem Q15.gok (k : Nat) : ∀ f, QF Tryz.prog f ((Q15.ctx k).Γ f) := (Qk (Q9o (QN.sem_ok k)) (Qk (Q9o (Q0j.sem_ok k)) QX))
def Q15.ann (k : Nat) : Ann := .nil
theorem Q15.body (k : Nat) : Q0R (Q15.ctx k) Tryz.f34 (Func.code Tryz.f34) (Q15.ann k) Q15.tin Q15.tout (fun x K => Q15.c k  K) := by
 intro ρ x K; kernel_rfl
theorem Q15.sem_ok (k : Nat) : QF Tryz.prog 34 (Q15.sem k) :=
 QD (C := Q15.ctx k) (Q15.gok k) Tryz.mix (c := Func.code Tryz.f34) (ann := Q15.ann k) (tin := Q15.tin) (tout := Q15.tout) (fun x K => Q15.c k  K) Tryz.func34 (by kernel_rfl) (by kernel_rfl) Q1.nil (Q15.body k)
def Q1m.c (k : Nat) {ρ : Type} (b : Qg3) (K : Bool × Unit → Option ρ) : Option ρ :=
 let v0 : Qg6 := b.2.1
 (Q0A k v0).bind fun t1 => let v2 : (List Int) := t1.1
 let v3 : Qg6 := b.2.1
 let v4 : Int := (((List.length v3) : Nat) : Int)
 bif (decide (v4 > (0 : Int))) then (let v5 : (List Int) := b.1.2.2.1
 bif (decide (v2 = v5)) then (K ((!t1.2.1), ())) else (K (false, ()))) else (K (false, ()))
def Q1m (k : Nat) (b : Qg3) : Option (Bool × Unit) := Q1m.c k b some
def Q1m.tin : List Ty := [Qg1]
def Q1m.tout : List Ty := [.bool]
def Q1m.sem (k : Nat) : QP := QW Q1m.tin Q1m.tout fun x => Q1m k x.1
noncomputable def Q1m.ctx (k : Nat) : Ctx := ⟨Tryz.prog, gam [(63, (Q0A.sem k))]⟩
theorem Q1m.gok (k : Nat) : ∀ f, QF Tryz.prog f ((Q1m.ctx k).Γ f) := (Qk (Q0A.sem_ok k) QX)
def Q1m.ann (k : Nat) : Ann := .nil
theorem Q1m.body (k : Nat) : Q0R (Q1m.ctx k) Tryz.f35 (Func.code Tryz.f35) (Q1m.ann k) Q1m.tin Q1m.tout (fun x K => Q1m.c k x.1 K) := by
 intro ρ x K; kernel_rfl
theorem Q1m.sem_ok (k : Nat) : QF Tryz.prog 35 (Q1m.sem k) :=
 QD (C := Q1m.ctx k) (Q1m.gok k) Tryz.mix (c := Func.code Tryz.f35) (ann := Q1m.ann k) (tin := Q1m.tin) (tout := Q1m.tout) (fun x K => Q1m.c k x.1 K) Tryz.func35 (by kernel_rfl) (by kernel_rfl) Q1.nil (Q1m.body k)
def Q0e.c (k : Nat) {ρ : Type}  (K : Bool × Unit → Option ρ) : Option ρ :=
 (Q15 k ).bind fun t0 => let v1 : Qg6 := t0.1.2.1
 let v2 : Int := (((List.length v1) : Nat) : Int)
 bif (v2 == (1 : Int)) then ((Q0Y k (t0.1.1.1, (t0.1.1.2.1, (t0.1.1.2.2.1, (t0.1.1.2.2.2.1, (t0.1.1.2.2.2.2.1, (t0.1.1.2.2.2.2.2.1, ()))))))).bind fun t3 => bif t3.1 then ((Q1m k ((t0.1.1.1, (t0.1.1.2.1, (t0.1.1.2.2.1, (t0.1.1.2.2.2.1, (t0.1.1.2.2.2.2.1, (t0.1.1.2.2.2.2.2.1, ())))))), (t0.1.2.1, ()))).bind fun t4 => K (t4.1, ())) else (K (false, ()))) else (K (false, ()))
def Q0e (k : Nat)  : Option (Bool × Unit) := Q0e.c k  some
def Q0e.tin : List Ty := []
def Q0e.tout : List Ty := [.bool]
def Q0e.sem (k : Nat) : QP := QW Q0e.tin Q0e.tout fun x => Q0e k 
noncomputable def Q0e.ctx (k : Nat) : Ctx := ⟨Tryz.prog, gam [(34, (Q15.sem k)), (13, (Q0Y.sem k)), (35, (Q1m.sem k))]⟩
theorem Q0e.gok (k : Nat) : ∀ f, QF Tryz.prog f ((Q0e.ctx k).Γ f) := (Qk (Q15.sem_ok k) (Qk (Q0Y.sem_ok k) (Qk (Q1m.sem_ok k) QX)))
def Q0e.ann (k : Nat) : Ann := .nil
theorem Q0e.body (k : Nat) : Q0R (Q0e.ctx k) Tryz.f9 (Func.code Tryz.f9) (Q0e.ann k) Q0e.tin Q0e.tout (fun x K => Q0e.c k  K) := by
 intro ρ x K; kernel_rfl
theorem Q0e.sem_ok (k : Nat) : QF Tryz.prog 9 (Q0e.sem k) :=
 QD (C := Q0e.ctx k) (Q0e.gok k) Tryz.mix (c := Func.code Tryz.f9) (ann := Q0e.ann k) (tin := Q0e.tin) (tout := Q0e.tout) (fun x K => Q0e.c k  K) Tryz.func9 (by kernel_rfl) (by kernel_rfl) Q1.nil (Q0e.body k)
end Go.Am
