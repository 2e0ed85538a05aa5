/- A part of a proof: a machine of abstract values that tells what functions of the program compute, and the plain facts on them. -/
import Derived.Test.YtkcoljbmhmbmbaaGreatAm10
import Derived.KernelRfl
set_option linter.unusedVariables false
set_option linter.unusedSimpArgs false
set_option linter.unnecessarySimpa false
set_option linter.unusedSectionVars false
namespace Go.Am
abbrev QeB : Ty := (.sl (.int .u64))
abbrev QeA : Type := ((List Int) × Unit)
abbrev Qez : Ty := (.arr 4 (.int .u64))
abbrev Qey : Ty := (.arr 32 (.int .u8))
abbrev Qex : Type := (ByteArray × Int × Unit)
abbrev Qew : Ty := (.sl  Qey )
abbrev Qev : Type := ((Unit × (Unit × Unit)) × Unit)
abbrev Qeu : Ty := (.sl  Qew )
abbrev Qet : Type := (List (Int × (ByteArray × Unit)))
abbrev Qes : Type := (Int × (Unit × (Unit × (Int × Unit))))
abbrev Qer : Ty := (.sl (.pair (.int .u64) (.pair .str .unit)))
abbrev Qeq : Type := ( Qev  × (List Int) × Unit)
abbrev Qep : Type := (List (((List Int) × (Int × Unit)) × (ByteArray × (Int × Unit))))
abbrev Qeo : Type := (Int × ((List Int) × ((List Int) × (Int × (Int × (Int × Unit))))))
abbrev Qen : Type := ( Qeo  × (Unit × Unit))
abbrev Qem : Ty := (.sl (.pair (.pair  Qey  (.pair (.int .u32) .unit)) (.pair .str (.pair (.int .u32) .unit))))
abbrev Qel : Type := (Int × ( Qep  × ( Qet  × (Int × Unit))))
abbrev Qek : Type := (List  Qel )
abbrev Qej : Type := ( Qel  × Unit)
abbrev Qei : Ty := (.pair (.int .u32) (.pair  Qey  (.pair  Qey  (.pair (.int .u32) (.pair (.int .u32) (.pair (.int .u32) .unit))))))
abbrev Qeh : Type := ( Qel  ×  Qev  × (List Int) × Unit)
abbrev Qeg : Ty := (.pair (.int .u32) (.pair  Qem  (.pair  Qer  (.pair (.int .u32) .unit))))
abbrev Qef : Type := ( Qeo  × ( Qek  × Unit))
abbrev Qee : Ty := (.sl  Qeg )
abbrev Qed : Ty := (.pair  Qei  (.pair  Qee  .unit))
end Go.Am
namespace Go.Am
open Go Go.Proofs
set_option maxRecDepth 100000
abbrev Qi.p0.σ : Type := Int × ByteArray × Qet × Qes × Unit
abbrev Qi.p0.τ : Type := (Int × Qes × Unit) ⊕ (Int × ByteArray × Qet × Qes × Unit)
def Qi.p0.r (k : Nat) {ρ : Type} (x : Qi.p0.σ) (K : Qi.p0.τ → Option ρ) : Option ρ :=
 bif (decide (x.1 < (0 : Int))) then (K (.inl ((1 : Int), (((0 : Int), ((), ((), ((0 : Int), ())))), ())))) else (bif (decide (x.1 > (2147483647 : Int))) then (K (.inl ((1 : Int), (((0 : Int), ((), ((), ((0 : Int), ())))), ())))) else (let v0 : Int := (((ByteArray.size x.2.1) : Nat) : Int)
 bif (decide (v0 > (96 : Int))) then (K (.inl ((1 : Int), (((0 : Int), ((), ((), ((0 : Int), ())))), ())))) else (K (.inr (x.1, (x.2.1, (x.2.2.1, ((x.2.2.2.1.1, ((), ((), (x.2.2.2.1.2.2.2.1, ())))), ()))))))))
def Qi.p0 (k : Nat) (x : Qi.p0.σ) : Option Qi.p0.τ := Qi.p0.r k x some
def Qi.p0.T : StT := ⟨.dat (.int .i64) :: .dat .str :: .dat Qer :: us 3 ++ .ptr 0 [] :: us 32, [.pair (.dat (.int .u32)) (.pair (.nils) (.pair (.nils) (.dat (.pair (.int .u32) .unit))))]⟩
def Qi.p0.os : List Out := [⟨.ret, [.mask [6, 7], .auto 0], ⟨us 6 ++ .ptr 0 [] :: .dat (.int .i64) :: us 31, [.pair (.dat (.int .u32)) (.pair (.nils) (.pair (.nils) (.dat (.pair (.int .u32) .unit))))]⟩⟩, ⟨.normal, [.mask [0, 1, 2, 6], .auto 0], ⟨.dat (.int .i64) :: .dat .str :: .dat Qer :: us 3 ++ .ptr 0 [] :: us 32, [.pair (.dat (.int .u32)) (.pair (.nils) (.pair (.nils) (.dat (.pair (.int .u32) .unit))))]⟩⟩]
def Qi.c (k : Nat) {ρ : Type} (height : Int) (extra : ByteArray) (outs : Qet) (K : Qel × Int × Unit → Option ρ) : Option ρ :=
  (Qi.p0 k (height, (extra, (outs, (((0 : Int), ((), ((), ((0 : Int), ())))), ()))))).bind fun t1 => (match t1 with
 | .inl t2 => (K ((t2.2.1.1, ([], ([], (t2.2.1.2.2.2.1, ())))), (t2.1, ())))
 | .inr (t3) => ((Q00 k ).bind fun t4 => let v5 : Int := (IntKind.wrap IntKind.u32 t3.1)
  (QC k v5 (((), ((), ())), ()) t4.2.1).bind fun t6 => (Ql k t3.2.1 (((), ((), ())), ()) t6.2.1).bind fun t7 => (QA k (((), ((), ())), ()) t7.2.1).bind fun t8 => bif (Nat.ble ((List.length t3.2.2.1) * 24) 140737488355328) then (K (((1 : Int), ((List.set (List.replicate 1 (((List.replicate 32 (0 : Int)), ((0 : Int), ())), (ByteArray.empty, ((0 : Int), ())))) 0 (((List.replicate 32 (0 : Int)), ((4294967295 : Int), ())), (t8.1, ((4294967295 : Int), ())))), (t3.2.2.1, ((0 : Int), ())))), ((0 : Int), ()))) else (none)))
def Qi (k : Nat) (height : Int) (extra : ByteArray) (outs : Qet) : Option (Qel × Int × Unit) := Qi.c k height extra outs some
def Qi.tin : List Ty := [(.int .i64), .str, Qer]
def Qi.tout : List Ty := [Qeg, (.int .i64)]
def Qi.sem (k : Nat) : Qj := Qn Qi.tin Qi.tout fun x => Qi k x.1 x.2.1 x.2.2.1
noncomputable def Qi.ctx (k : Nat) : Ctx := ⟨Tryz.prog, gam [(95, (Q00.sem k)), (96, (QC.sem k)), (99, (Ql.sem k)), (98, (QA.sem k))]⟩
theorem Qi.gok (k : Nat) : ∀ f, Qb Tryz.prog f ((Qi.ctx k).Γ f) := (Q7 (Q00.sem_ok k) (Q7 (QC.sem_ok k) (Q7 (Ql.sem_ok k) (Q7 (QA.sem_ok k) QE))))
theorem Qi.p0.is (k : Nat) : Q45 (Qi.ctx k) (Q0e (Func.code Tryz.f68) [1, 0]) (.nil) Qi.p0.T Qi.p0.os (Qi.p0.r k) := by
 intro ρ x K; kernel_rfl
theorem Qi.p0.ok (k : Nat) : StOK 0 Tryz.prog (Q0e (Func.code Tryz.f68) [1, 0]) (Qv Qi.p0.T Qi.p0.os (Qi.p0 k)) :=
 Q3Z (C := Qi.ctx k) (T := Qi.p0.T) (os := Qi.p0.os) (Qi.gok k) Tryz.mix (fun x K => Qi.p0.r k x K) Q3.nil (by kernel_rfl) (by kernel_rfl) (Qi.p0.is k)
def Qi.ann (k : Nat) : Ann := .node [] none (.nil) (.node [] none (.node [.mask [0, 1, 2, 6], .auto 0] (some (Qv Qi.p0.T Qi.p0.os (Qi.p0 k))) .nil .nil) (.nil))
theorem Qi.body (k : Nat) : Q0M (Qi.ctx k) Tryz.f68 (Func.code Tryz.f68) (Qi.ann k) Qi.tin Qi.tout (fun x K => Qi.c k x.1 x.2.1 x.2.2.1 K) := by
 intro ρ x K; kernel_rfl
theorem Qi.sem_ok (k : Nat) : Qb Tryz.prog 68 (Qi.sem k) :=
 Qs (C := Qi.ctx k) (Qi.gok k) Tryz.mix (c := Func.code Tryz.f68) (ann := Qi.ann k) (tin := Qi.tin) (tout := Qi.tout) (fun x K => Qi.c k x.1 x.2.1 x.2.2.1 K) Tryz.func68 (by kernel_rfl) (by kernel_rfl) (Q3.seq Q3.nil (Q3.seq (Q3.loop (by kernel_rfl) (Qi.p0.ok k)) Q3.nil)) (Qi.body k)
def Q02.c (k : Nat) {ρ : Type} (n : Int) (K : Int × Unit → Option ρ) : Option ρ :=
 bif (decide (n < (253 : Int))) then (K ((1 : Int), ())) else (bif (decide (n < (65536 : Int))) then (K ((3 : Int), ())) else (bif (decide (n < (4294967296 : Int))) then (K ((5 : Int), ())) else (K ((9 : Int), ()))))
def Q02 (k : Nat) (n : Int) : Option (Int × Unit) := Q02.c k n some
def Q02.tin : List Ty := [(.int .u64)]
def Q02.tout : List Ty := [(.int .i64)]
def Q02.sem (k : Nat) : Qj := Qn Q02.tin Q02.tout fun x => Q02 k x.1
noncomputable def Q02.ctx (k : Nat) : Ctx := ⟨Tryz.prog, gam []⟩
theorem Q02.gok (k : Nat) : ∀ f, Qb Tryz.prog f ((Q02.ctx k).Γ f) := QE
def Q02.ann (k : Nat) : Ann := .nil
theorem Q02.body (k : Nat) : Q0M (Q02.ctx k) Tryz.f126 (Func.code Tryz.f126) (Q02.ann k) Q02.tin Q02.tout (fun x K => Q02.c k x.1 K) := by
 intro ρ x K; kernel_rfl
theorem Q02.sem_ok (k : Nat) : Qb Tryz.prog 126 (Q02.sem k) :=
 Qs (C := Q02.ctx k) (Q02.gok k) Tryz.mix (c := Func.code Tryz.f126) (ann := Q02.ann k) (tin := Q02.tin) (tout := Q02.tout) (fun x K => Q02.c k x.1 K) Tryz.func126 (by kernel_rfl) (by kernel_rfl) Q3.nil (Q02.body k)
def Q17.c (k : Nat) {ρ : Type} (n : Int) (K : Int × Unit → Option ρ) : Option ρ :=
 (Q02 k (IntKind.wrap IntKind.u64 n)).bind fun t0 => let v1 : Int := (IntKind.wrap IntKind.i64 (t0.1 + n))
 K (v1, ())
def Q17 (k : Nat) (n : Int) : Option (Int × Unit) := Q17.c k n some
def Q17.tin : List Ty := [(.int .i64)]
def Q17.tout : List Ty := [(.int .i64)]
def Q17.sem (k : Nat) : Qj := Qn Q17.tin Q17.tout fun x => Q17 k x.1
noncomputable def Q17.ctx (k : Nat) : Ctx := ⟨Tryz.prog, gam [(126, (Q02.sem k))]⟩
theorem Q17.gok (k : Nat) : ∀ f, Qb Tryz.prog f ((Q17.ctx k).Γ f) := (Q7 (Q02.sem_ok k) QE)
def Q17.ann (k : Nat) : Ann := .nil
theorem Q17.body (k : Nat) : Q0M (Q17.ctx k) Tryz.f127 (Func.code Tryz.f127) (Q17.ann k) Q17.tin Q17.tout (fun x K => Q17.c k x.1 K) := by
 intro ρ x K; kernel_rfl
theorem Q17.sem_ok (k : Nat) : Qb Tryz.prog 127 (Q17.sem k) :=
 Qs (C := Q17.ctx k) (Q17.gok k) Tryz.mix (c := Func.code Tryz.f127) (ann := Q17.ann k) (tin := Q17.tin) (tout := Q17.tout) (fun x K => Q17.c k x.1 K) Tryz.func127 (by kernel_rfl) (by kernel_rfl) Q3.nil (Q17.body k)
abbrev Q01.l0.σ : Type := Int × Qep × Int × Int × Qel × Unit
abbrev Q01.l0.τ : Type := (Int × Qel × Unit)
def Q01.l0.r (k : Nat) {ρ : Type} (x : Q01.l0.σ) (kn : Q01.l0.σ → Option ρ) (ke : Q01.l0.τ → Option ρ) : Option ρ :=
 bif (decide (x.2.2.2.1 < x.2.2.1)) then (bif (decide (((0 : Int) ≤ x.2.2.2.1) ∧ (x.2.2.2.1 < (((List.length x.2.1) : Nat) : Int)))) then (let v11 : ByteArray := (List.getD x.2.1 (Int.toNat x.2.2.2.1) (((List.replicate 32 (0 : Int)), ((0 : Int), ())), (ByteArray.empty, ((0 : Int), ())))).2.1
 (Q17 k (((ByteArray.size v11) : Nat) : Int)).bind fun t12 => let v13 : Int := (IntKind.wrap IntKind.i64 ((40 : Int) + t12.1))
 let v14 : Int := (IntKind.wrap IntKind.i64 (x.1 + v13))
 let v15 : Int := (IntKind.wrap IntKind.i64 (x.2.2.2.1 + (1 : Int)))
 kn (v14, (x.2.1, (x.2.2.1, (v15, ((x.2.2.2.2.1.1, (x.2.2.2.2.1.2.1, (x.2.2.2.2.1.2.2.1, (x.2.2.2.2.1.2.2.2.1, ())))), ())))))) else (none)) else (ke (x.1, ((x.2.2.2.2.1.1, (x.2.2.2.2.1.2.1, (x.2.2.2.2.1.2.2.1, (x.2.2.2.2.1.2.2.2.1, ())))), ())))
def Q01.l0 (k : Nat) : Nat → Q01.l0.σ → Option Q01.l0.τ := Q15 (Q01.l0.r k)
def Q01.l0.T : StT := ⟨us 1 ++ .ptr 0 [] :: us 1 ++ .dat (.int .i64) :: us 18 ++ .dat Qem :: .dat (.int .i64) :: .dat (.int .i64) :: us 27, [.dat Qeg]⟩
def Q01.l0.os : List Out := [⟨(.exit 0), [.mask [1, 3], .auto 0], ⟨us 1 ++ .ptr 0 [] :: us 1 ++ .dat (.int .i64) :: us 48, [.dat Qeg]⟩⟩]
abbrev Q01.l1.σ : Type := Int × Qet × Int × Int × Unit
abbrev Q01.l1.τ : Type := (Int × Unit)
def Q01.l1.r (k : Nat) {ρ : Type} (x : Q01.l1.σ) (kn : Q01.l1.σ → Option ρ) (ke : Q01.l1.τ → Option ρ) : Option ρ :=
 bif (decide (x.2.2.2.1 < x.2.2.1)) then (bif (decide (((0 : Int) ≤ x.2.2.2.1) ∧ (x.2.2.2.1 < (((List.length x.2.1) : Nat) : Int)))) then (let v19 : ByteArray := (List.getD x.2.1 (Int.toNat x.2.2.2.1) ((0 : Int), (ByteArray.empty, ()))).2.1
 (Q17 k (((ByteArray.size v19) : Nat) : Int)).bind fun t20 => let v21 : Int := (IntKind.wrap IntKind.i64 ((8 : Int) + t20.1))
 let v22 : Int := (IntKind.wrap IntKind.i64 (x.1 + v21))
 let v23 : Int := (IntKind.wrap IntKind.i64 (x.2.2.2.1 + (1 : Int)))
 kn (v22, (x.2.1, (x.2.2.1, (v23, ()))))) else (none)) else (ke (x.1, ()))
def Q01.l1 (k : Nat) : Nat → Q01.l1.σ → Option Q01.l1.τ := Q15 (Q01.l1.r k)
def Q01.l1.T : StT := ⟨us 3 ++ .dat (.int .i64) :: us 33 ++ .dat Qer :: .dat (.int .i64) :: .dat (.int .i64) :: us 12, []⟩
def Q01.l1.os : List Out := [⟨(.exit 2), [.mask [3], .auto 0], ⟨us 3 ++ .dat (.int .i64) :: us 48, []⟩⟩]
def Q01.c (k : Nat) {ρ : Type} (t : Qel) (K : Int × Unit → Option ρ) : Option ρ :=
 let v0 : Qep := t.2.1
 let v1 : Int := (((List.length v0) : Nat) : Int)
 (Q02 k (IntKind.wrap IntKind.u64 v1)).bind fun t2 => let v3 : Int := (IntKind.wrap IntKind.i64 ((4 : Int) + t2.1))
 let v4 : Qet := t.2.2.1
 let v5 : Int := (((List.length v4) : Nat) : Int)
 (Q02 k (IntKind.wrap IntKind.u64 v5)).bind fun t6 => let v7 : Int := (IntKind.wrap IntKind.i64 (v3 + t6.1))
 let v8 : Int := (IntKind.wrap IntKind.i64 (v7 + (4 : Int)))
 let v9 : Qep := t.2.1
 let v10 : Int := (((List.length v9) : Nat) : Int)
 (Q01.l0 k k (v8, (v9, (v10, ((0 : Int), ((t.1, (t.2.1, (t.2.2.1, (t.2.2.2.1, ())))), ())))))).bind fun t16 => let v17 : Qet := t16.2.1.2.2.1
 let v18 : Int := (((List.length v17) : Nat) : Int)
 (Q01.l1 k k (t16.1, (v17, (v18, ((0 : Int), ()))))).bind fun t24 => K (t24.1, ())
def Q01 (k : Nat) (t : Qel) : Option (Int × Unit) := Q01.c k t some
def Q01.tin : List Ty := [Qeg]
def Q01.tout : List Ty := [(.int .i64)]
def Q01.sem (k : Nat) : Qj := Qn Q01.tin Q01.tout fun x => Q01 k x.1
noncomputable def Q01.ctx (k : Nat) : Ctx := ⟨Tryz.prog, gam [(126, (Q02.sem k)), (127, (Q17.sem k))]⟩
theorem Q01.gok (k : Nat) : ∀ f, Qb Tryz.prog f ((Q01.ctx k).Γ f) := (Q7 (Q02.sem_ok k) (Q7 (Q17.sem_ok k) QE))
theorem Q01.l1.round (k : Nat) : Q0V (Q01.ctx k) (Q0e (Func.code Tryz.f92) [1, 1, 1, 0, 1, 0, 0]) (.nil) Q01.l1.T [.mask [3, 37, 38, 39], .auto 0] Q01.l1.os (Q01.l1.r k) := by
 intro ρ x kn ke; kernel_rfl
theorem Q01.l1.ok (k : Nat) : StOK 0 Tryz.prog (.loop (Q0e (Func.code Tryz.f92) [1, 1, 1, 0, 1, 0, 0])) (Qv Q01.l1.T Q01.l1.os (Q01.l1 k k)) :=
 Q0X (C := Q01.ctx k) (Q01.gok k) Tryz.mix Q3.nil (by kernel_rfl) (by kernel_rfl) (by kernel_rfl) (Q01.l1.round k) k
theorem Q01.l0.round (k : Nat) : Q0V (Q01.ctx k) (Q0e (Func.code Tryz.f92) [1, 1, 0, 1, 0, 0]) (.nil) Q01.l0.T [.mask [1, 3, 22, 23, 24], .auto 0] Q01.l0.os (Q01.l0.r k) := by
 intro ρ x kn ke; kernel_rfl
theorem Q01.l0.ok (k : Nat) : StOK 0 Tryz.prog (.loop (Q0e (Func.code Tryz.f92) [1, 1, 0, 1, 0, 0])) (Qv Q01.l0.T Q01.l0.os (Q01.l0 k k)) :=
 Q0X (C := Q01.ctx k) (Q01.gok k) Tryz.mix Q3.nil (by kernel_rfl) (by kernel_rfl) (by kernel_rfl) (Q01.l0.round k) k
def Q01.ann (k : Nat) : Ann := .node [] none (.nil) (.node [] none (.nil) (.node [] none (.node [] none (.nil) (.node [] none (.node [.mask [1, 3, 22, 23, 24], .auto 0] (some (Qv Q01.l0.T Q01.l0.os (Q01.l0 k k))) .nil .nil) (.nil))) (.node [] none (.node [] none (.nil) (.node [] none (.node [.mask [3, 37, 38, 39], .auto 0] (some (Qv Q01.l1.T Q01.l1.os (Q01.l1 k k))) .nil .nil) (.nil))) (.nil))))
theorem Q01.body (k : Nat) : Q0M (Q01.ctx k) Tryz.f92 (Func.code Tryz.f92) (Q01.ann k) Q01.tin Q01.tout (fun x K => Q01.c k x.1 K) := by
 intro ρ x K; kernel_rfl
theorem Q01.sem_ok (k : Nat) : Qb Tryz.prog 92 (Q01.sem k) :=
 Qs (C := Q01.ctx k) (Q01.gok k) Tryz.mix (c := Func.code Tryz.f92) (ann := Q01.ann k) (tin := Q01.tin) (tout := Q01.tout) (fun x K => Q01.c k x.1 K) Tryz.func92 (by kernel_rfl) (by kernel_rfl) (Q3.seq Q3.nil (Q3.seq Q3.nil (Q3.seq (Q3.seq Q3.nil (Q3.block (Q3.loop (by kernel_rfl) (Q01.l0.ok k)))) (Q3.seq (Q3.seq Q3.nil (Q3.block (Q3.loop (by kernel_rfl) (Q01.l1.ok k)))) Q3.nil)))) (Q01.body k)
def Q0U.c (k : Nat) {ρ : Type} (n : Int) (K : ByteArray × Unit → Option ρ) : Option ρ :=
 (Q02 k n).bind fun t0 => bif (t0.1 == (1 : Int)) then ((Q0p k n (1 : Int)).bind fun t1 => K (t1.1, ())) else (bif (t0.1 == (3 : Int)) then ((Q0p k (253 : Int) (1 : Int)).bind fun t2 => (Q0p k n (2 : Int)).bind fun t3 => bif (Nat.ble ((ByteArray.size t2.1) + (ByteArray.size t3.1)) 9223372036854775807) then (let v4 : ByteArray := (t2.1 ++ t3.1)
 K (v4, ())) else (none)) else (bif (t0.1 == (5 : Int)) then ((Q0p k (254 : Int) (1 : Int)).bind fun t5 => (Q0p k n (4 : Int)).bind fun t6 => bif (Nat.ble ((ByteArray.size t5.1) + (ByteArray.size t6.1)) 9223372036854775807) then (let v7 : ByteArray := (t5.1 ++ t6.1)
 K (v7, ())) else (none)) else ((Q0p k (255 : Int) (1 : Int)).bind fun t8 => (Q0p k n (8 : Int)).bind fun t9 => bif (Nat.ble ((ByteArray.size t8.1) + (ByteArray.size t9.1)) 9223372036854775807) then (let v10 : ByteArray := (t8.1 ++ t9.1)
 K (v10, ())) else (none))))
def Q0U (k : Nat) (n : Int) : Option (ByteArray × Unit) := Q0U.c k n some
def Q0U.tin : List Ty := [(.int .u64)]
def Q0U.tout : List Ty := [.str]
def Q0U.sem (k : Nat) : Qj := Qn Q0U.tin Q0U.tout fun x => Q0U k x.1
noncomputable def Q0U.ctx (k : Nat) : Ctx := ⟨Tryz.prog, gam [(126, (Q02.sem k)), (131, (Q0p.sem k))]⟩
theorem Q0U.gok (k : Nat) : ∀ f, Qb Tryz.prog f ((Q0U.ctx k).Γ f) := (Q7 (Q02.sem_ok k) (Q7 (Q0p.sem_ok k) QE))
def Q0U.ann (k : Nat) : Ann := .nil
theorem Q0U.body (k : Nat) : Q0M (Q0U.ctx k) Tryz.f141 (Func.code Tryz.f141) (Q0U.ann k) Q0U.tin Q0U.tout (fun x K => Q0U.c k x.1 K) := by
 intro ρ x K; kernel_rfl
theorem Q0U.sem_ok (k : Nat) : Qb Tryz.prog 141 (Q0U.sem k) :=
 Qs (C := Q0U.ctx k) (Q0U.gok k) Tryz.mix (c := Func.code Tryz.f141) (ann := Q0U.ann k) (tin := Q0U.tin) (tout := Q0U.tout) (fun x K => Q0U.c k x.1 K) Tryz.func141 (by kernel_rfl) (by kernel_rfl) Q3.nil (Q0U.body k)
abbrev Qz.τ : Type := Qeq 
def Qz.c (k : Nat) {ρ : Type} (n : Int) (b0 : Qev) (b1 : (List Int)) (K : Qz.τ → Option ρ) : Option ρ :=
 (Q0U k n).bind fun t0 => (Ql k t0.1 (((), ((), ())), ()) b1).bind fun t1 => K ((((), ((), ())), ()), (t1.2.1, ()))
def Qz (k : Nat) (n : Int) (b0 : Qev) (b1 : (List Int)) : Option Qz.τ := Qz.c k n b0 b1 some
def Qz.T : Q19 := ⟨[.ptr 0 [], .dat (.int .u64)], [.pair (.pair (.sfp 0 [0] 201) (.pair (.vbs 1) (.dat .unit))) (.dat .unit), .vec (.int .u8)], 1⟩
def Qz.os : List Out := [⟨.ret, [.auto 1], ⟨[], [.pair (.pair (.sfp 0 [0] 201) (.pair (.vbs 1) (.dat .unit))) (.dat .unit), .vec (.int .u8)]⟩⟩]
def Qz.sem (k : Nat) : Qj := Q1g Qz.T Qz.os fun x => Qz k x.1 x.2.1 x.2.2.1
noncomputable def Qz.ctx (k : Nat) : Ctx := ⟨Tryz.prog, gam [(141, (Q0U.sem k)), (99, (Ql.sem k))]⟩
theorem Qz.gok (k : Nat) : ∀ f, Qb Tryz.prog f ((Qz.ctx k).Γ f) := (Q7 (Q0U.sem_ok k) (Q7 (Ql.sem_ok k) QE))
def Qz.ann (k : Nat) : Ann := .nil
theorem Qz.body (k : Nat) : Q1l (Qz.ctx k) Tryz.f107 (Func.code Tryz.f107) (Qz.ann k) Qz.T Qz.os (fun x K => Qz.c k x.1 x.2.1 x.2.2.1 K) := by
 intro ρ x K; kernel_rfl
theorem Qz.sem_ok (k : Nat) : Qb Tryz.prog 107 (Qz.sem k) :=
 Q0P (C := Qz.ctx k) (Qz.gok k) Tryz.mix (c := Func.code Tryz.f107) (ann := Qz.ann k) (T := Qz.T) (os := Qz.os) (fun x K => Qz.c k x.1 x.2.1 x.2.2.1 K) Tryz.func107 (by kernel_rfl) (by kernel_rfl) Q3.nil (Qz.body k) (by kernel_rfl) (by kernel_rfl) (by kernel_rfl)
abbrev QH.τ : Type := Qeq 
def QH.c (k : Nat) {ρ : Type} (s : ByteArray) (b0 : Qev) (b1 : (List Int)) (K : QH.τ → Option ρ) : Option ρ :=
 (Qz k (IntKind.wrap IntKind.u64 (((ByteArray.size s) : Nat) : Int)) (((), ((), ())), ()) b1).bind fun t0 => (Ql k s (((), ((), ())), ()) t0.2.1).bind fun t1 => K ((((), ((), ())), ()), (t1.2.1, ()))
def QH (k : Nat) (s : ByteArray) (b0 : Qev) (b1 : (List Int)) : Option QH.τ := QH.c k s b0 b1 some
def QH.T : Q19 := ⟨[.ptr 0 [], .dat .str], [.pair (.pair (.sfp 0 [0] 201) (.pair (.vbs 1) (.dat .unit))) (.dat .unit), .vec (.int .u8)], 1⟩
def QH.os : List Out := [⟨.ret, [.auto 1], ⟨[], [.pair (.pair (.sfp 0 [0] 201) (.pair (.vbs 1) (.dat .unit))) (.dat .unit), .vec (.int .u8)]⟩⟩]
def QH.sem (k : Nat) : Qj := Q1g QH.T QH.os fun x => QH k x.1 x.2.1 x.2.2.1
noncomputable def QH.ctx (k : Nat) : Ctx := ⟨Tryz.prog, gam [(107, (Qz.sem k)), (99, (Ql.sem k))]⟩
theorem QH.gok (k : Nat) : ∀ f, Qb Tryz.prog f ((QH.ctx k).Γ f) := (Q7 (Qz.sem_ok k) (Q7 (Ql.sem_ok k) QE))
def QH.ann (k : Nat) : Ann := .nil
theorem QH.body (k : Nat) : Q1l (QH.ctx k) Tryz.f108 (Func.code Tryz.f108) (QH.ann k) QH.T QH.os (fun x K => QH.c k x.1 x.2.1 x.2.2.1 K) := by
 intro ρ x K; kernel_rfl
theorem QH.sem_ok (k : Nat) : Qb Tryz.prog 108 (QH.sem k) :=
 Q0P (C := QH.ctx k) (QH.gok k) Tryz.mix (c := Func.code Tryz.f108) (ann := QH.ann k) (T := QH.T) (os := QH.os) (fun x K => QH.c k x.1 x.2.1 x.2.2.1 K) Tryz.func108 (by kernel_rfl) (by kernel_rfl) Q3.nil (QH.body k) (by kernel_rfl) (by kernel_rfl) (by kernel_rfl)
abbrev Q0h.τ : Type := Qeq 
def Q0h.c (k : Nat) {ρ : Type} (n : Int) (b0 : Qev) (b1 : (List Int)) (K : Q0h.τ → Option ρ) : Option ρ :=
 (Q0p k n (8 : Int)).bind fun t0 => (Ql k t0.1 (((), ((), ())), ()) b1).bind fun t1 => K ((((), ((), ())), ()), (t1.2.1, ()))
def Q0h (k : Nat) (n : Int) (b0 : Qev) (b1 : (List Int)) : Option Q0h.τ := Q0h.c k n b0 b1 some
def Q0h.T : Q19 := ⟨[.ptr 0 [], .dat (.int .u64)], [.pair (.pair (.sfp 0 [0] 201) (.pair (.vbs 1) (.dat .unit))) (.dat .unit), .vec (.int .u8)], 1⟩
def Q0h.os : List Out := [⟨.ret, [.auto 1], ⟨[], [.pair (.pair (.sfp 0 [0] 201) (.pair (.vbs 1) (.dat .unit))) (.dat .unit), .vec (.int .u8)]⟩⟩]
def Q0h.sem (k : Nat) : Qj := Q1g Q0h.T Q0h.os fun x => Q0h k x.1 x.2.1 x.2.2.1
noncomputable def Q0h.ctx (k : Nat) : Ctx := ⟨Tryz.prog, gam [(131, (Q0p.sem k)), (99, (Ql.sem k))]⟩
theorem Q0h.gok (k : Nat) : ∀ f, Qb Tryz.prog f ((Q0h.ctx k).Γ f) := (Q7 (Q0p.sem_ok k) (Q7 (Ql.sem_ok k) QE))
def Q0h.ann (k : Nat) : Ann := .nil
theorem Q0h.body (k : Nat) : Q1l (Q0h.ctx k) Tryz.f109 (Func.code Tryz.f109) (Q0h.ann k) Q0h.T Q0h.os (fun x K => Q0h.c k x.1 x.2.1 x.2.2.1 K) := by
 intro ρ x K; kernel_rfl
theorem Q0h.sem_ok (k : Nat) : Qb Tryz.prog 109 (Q0h.sem k) :=
 Q0P (C := Q0h.ctx k) (Q0h.gok k) Tryz.mix (c := Func.code Tryz.f109) (ann := Q0h.ann k) (T := Q0h.T) (os := Q0h.os) (fun x K => Q0h.c k x.1 x.2.1 x.2.2.1 K) Tryz.func109 (by kernel_rfl) (by kernel_rfl) Q3.nil (Q0h.body k) (by kernel_rfl) (by kernel_rfl) (by kernel_rfl)
abbrev Q9.l0.σ : Type := Qep × Int × Int × Qel × Unit
abbrev Q9.l0.τ : Type := Qex ⊕ Qej 
def Q9.l0.r (k : Nat) {ρ : Type} (x : Q9.l0.σ) (kn : Q9.l0.σ → Option ρ) (ke : Q9.l0.τ → Option ρ) : Option ρ :=
 bif (decide (x.2.2.1 < x.2.1)) then (bif (decide (((0 : Int) ≤ x.2.2.1) ∧ (x.2.2.1 < (((List.length x.1) : Nat) : Int)))) then (let v2 : ByteArray := (List.getD x.1 (Int.toNat x.2.2.1) (((List.replicate 32 (0 : Int)), ((0 : Int), ())), (ByteArray.empty, ((0 : Int), ())))).2.1
 bif (decide ((((ByteArray.size v2) : Nat) : Int) > (520 : Int))) then (ke (.inl ((⟨(List.toArray [])⟩ : ByteArray), ((100 : Int), ())))) else (let v3 : Int := (IntKind.wrap IntKind.i64 (x.2.2.1 + (1 : Int)))
 kn (x.1, (x.2.1, (v3, ((x.2.2.2.1.1, (x.2.2.2.1.2.1, (x.2.2.2.1.2.2.1, (x.2.2.2.1.2.2.2.1, ())))), ())))))) else (none)) else (ke (.inr ((x.2.2.2.1.1, (x.2.2.2.1.2.1, (x.2.2.2.1.2.2.1, (x.2.2.2.1.2.2.2.1, ())))), ())))
def Q9.l0 (k : Nat) : Nat → Q9.l0.σ → Option Q9.l0.τ := Q15 (Q9.l0.r k)
def Q9.l0.T : StT := ⟨us 1 ++ .ptr 0 [] :: us 12 ++ .dat Qem :: .dat (.int .i64) :: .dat (.int .i64) :: us 88, [.dat Qeg]⟩
def Q9.l0.os : List Out := [⟨.ret, [.mask [2, 3], .auto 0], ⟨us 2 ++ .dat .str :: .dat (.int .i64) :: us 101, []⟩⟩, ⟨(.exit 0), [.mask [1], .auto 0], ⟨us 1 ++ .ptr 0 [] :: us 103, [.dat Qeg]⟩⟩]
abbrev Q9.l1.σ : Type := Qet × Int × Int × Qel × Unit
abbrev Q9.l1.τ : Type := Qex ⊕ Qej 
def Q9.l1.r (k : Nat) {ρ : Type} (x : Q9.l1.σ) (kn : Q9.l1.σ → Option ρ) (ke : Q9.l1.τ → Option ρ) : Option ρ :=
 bif (decide (x.2.2.1 < x.2.1)) then (bif (decide (((0 : Int) ≤ x.2.2.1) ∧ (x.2.2.1 < (((List.length x.1) : Nat) : Int)))) then (let v9 : ByteArray := (List.getD x.1 (Int.toNat x.2.2.1) ((0 : Int), (ByteArray.empty, ()))).2.1
 bif (decide ((((ByteArray.size v9) : Nat) : Int) > (520 : Int))) then (ke (.inl ((⟨(List.toArray [])⟩ : ByteArray), ((100 : Int), ())))) else (let v10 : Int := (IntKind.wrap IntKind.i64 (x.2.2.1 + (1 : Int)))
 kn (x.1, (x.2.1, (v10, ((x.2.2.2.1.1, (x.2.2.2.1.2.1, (x.2.2.2.1.2.2.1, (x.2.2.2.1.2.2.2.1, ())))), ())))))) else (none)) else (ke (.inr ((x.2.2.2.1.1, (x.2.2.2.1.2.1, (x.2.2.2.1.2.2.1, (x.2.2.2.1.2.2.2.1, ())))), ())))
def Q9.l1 (k : Nat) : Nat → Q9.l1.σ → Option Q9.l1.τ := Q15 (Q9.l1.r k)
def Q9.l1.T : StT := ⟨us 1 ++ .ptr 0 [] :: us 24 ++ .dat Qer :: .dat (.int .i64) :: .dat (.int .i64) :: us 76, [.dat Qeg]⟩
def Q9.l1.os : List Out := [⟨.ret, [.mask [2, 3], .auto 0], ⟨us 2 ++ .dat .str :: .dat (.int .i64) :: us 101, []⟩⟩, ⟨(.exit 2), [.mask [1], .auto 0], ⟨us 1 ++ .ptr 0 [] :: us 103, [.dat Qeg]⟩⟩]
abbrev Q9.l2.σ : Type := Qep × Int × Int × Qel × Qev × (List Int) × Unit
abbrev Q9.l2.τ : Type := Qeh 
def Q9.l2.r (k : Nat) {ρ : Type} (x : Q9.l2.σ) (kn : Q9.l2.σ → Option ρ) (ke : Q9.l2.τ → Option ρ) : Option ρ :=
 bif (decide (x.2.2.1 < x.2.1)) then (bif (decide (((0 : Int) ≤ x.2.2.1) ∧ (x.2.2.1 < (((List.length x.1) : Nat) : Int)))) then (let v23 : (List Int) := (List.getD x.1 (Int.toNat x.2.2.1) (((List.replicate 32 (0 : Int)), ((0 : Int), ())), (ByteArray.empty, ((0 : Int), ())))).1.1
 (QN k v23 (((), ((), ())), ()) x.2.2.2.2.2.1).bind fun t24 => let v25 : Int := (List.getD x.1 (Int.toNat x.2.2.1) (((List.replicate 32 (0 : Int)), ((0 : Int), ())), (ByteArray.empty, ((0 : Int), ())))).1.2.1
 (QC k v25 (((), ((), ())), ()) t24.2.1).bind fun t26 => let v27 : ByteArray := (List.getD x.1 (Int.toNat x.2.2.1) (((List.replicate 32 (0 : Int)), ((0 : Int), ())), (ByteArray.empty, ((0 : Int), ())))).2.1
 (QH k v27 (((), ((), ())), ()) t26.2.1).bind fun t28 => let v29 : Int := (List.getD x.1 (Int.toNat x.2.2.1) (((List.replicate 32 (0 : Int)), ((0 : Int), ())), (ByteArray.empty, ((0 : Int), ())))).2.2.1
 (QC k v29 (((), ((), ())), ()) t28.2.1).bind fun t30 => let v31 : Int := (IntKind.wrap IntKind.i64 (x.2.2.1 + (1 : Int)))
 kn (x.1, (x.2.1, (v31, ((x.2.2.2.1.1, (x.2.2.2.1.2.1, (x.2.2.2.1.2.2.1, (x.2.2.2.1.2.2.2.1, ())))), ((((), ((), ())), ()), (t30.2.1, ()))))))) else (none)) else (ke ((x.2.2.2.1.1, (x.2.2.2.1.2.1, (x.2.2.2.1.2.2.1, (x.2.2.2.1.2.2.2.1, ())))), ((((), ((), ())), ()), (x.2.2.2.2.2.1, ()))))
def Q9.l2 (k : Nat) : Nat → Q9.l2.σ → Option Q9.l2.τ := Q15 (Q9.l2.r k)
def Q9.l2.T : StT := ⟨us 1 ++ .ptr 0 [] :: us 6 ++ .ptr 1 [] :: us 43 ++ .dat Qem :: .dat (.int .i64) :: .dat (.int .i64) :: us 50, [.dat Qeg, .pair (.pair (.sfp 1 [0] 201) (.pair (.vbs 2) (.dat .unit))) (.dat .unit), .vec (.int .u8)]⟩
def Q9.l2.os : List Out := [⟨(.exit 4), [.mask [1, 8], .auto 0], ⟨us 1 ++ .ptr 0 [] :: us 6 ++ .ptr 1 [] :: us 96, [.dat Qeg, .pair (.pair (.sfp 1 [0] 201) (.pair (.vbs 2) (.dat .unit))) (.dat .unit), .vec (.int .u8)]⟩⟩]
abbrev Q9.l3.σ : Type := Qet × Int × Int × Qel × Qev × (List Int) × Unit
abbrev Q9.l3.τ : Type := Qeh 
def Q9.l3.r (k : Nat) {ρ : Type} (x : Q9.l3.σ) (kn : Q9.l3.σ → Option ρ) (ke : Q9.l3.τ → Option ρ) : Option ρ :=
 bif (decide (x.2.2.1 < x.2.1)) then (bif (decide (((0 : Int) ≤ x.2.2.1) ∧ (x.2.2.1 < (((List.length x.1) : Nat) : Int)))) then (let v38 : Int := (List.getD x.1 (Int.toNat x.2.2.1) ((0 : Int), (ByteArray.empty, ()))).1
 (Q0h k v38 (((), ((), ())), ()) x.2.2.2.2.2.1).bind fun t39 => let v40 : ByteArray := (List.getD x.1 (Int.toNat x.2.2.1) ((0 : Int), (ByteArray.empty, ()))).2.1
 (QH k v40 (((), ((), ())), ()) t39.2.1).bind fun t41 => let v42 : Int := (IntKind.wrap IntKind.i64 (x.2.2.1 + (1 : Int)))
 kn (x.1, (x.2.1, (v42, ((x.2.2.2.1.1, (x.2.2.2.1.2.1, (x.2.2.2.1.2.2.1, (x.2.2.2.1.2.2.2.1, ())))), ((((), ((), ())), ()), (t41.2.1, ()))))))) else (none)) else (ke ((x.2.2.2.1.1, (x.2.2.2.1.2.1, (x.2.2.2.1.2.2.1, (x.2.2.2.1.2.2.2.1, ())))), ((((), ((), ())), ()), (x.2.2.2.2.2.1, ()))))
def Q9.l3 (k : Nat) : Nat → Q9.l3.σ → Option Q9.l3.τ := Q15 (Q9.l3.r k)
def Q9.l3.T : StT := ⟨us 1 ++ .ptr 0 [] :: us 6 ++ .ptr 1 [] :: us 75 ++ .dat Qer :: .dat (.int .i64) :: .dat (.int .i64) :: us 18, [.dat Qeg, .pair (.pair (.sfp 1 [0] 201) (.pair (.vbs 2) (.dat .unit))) (.dat .unit), .vec (.int .u8)]⟩
def Q9.l3.os : List Out := [⟨(.exit 6), [.mask [1, 8], .auto 0], ⟨us 1 ++ .ptr 0 [] :: us 6 ++ .ptr 1 [] :: us 96, [.dat Qeg, .pair (.pair (.sfp 1 [0] 201) (.pair (.vbs 2) (.dat .unit))) (.dat .unit), .vec (.int .u8)]⟩⟩]
def Q9.c (k : Nat) {ρ : Type} (t : Qel) (K : ByteArray × Int × Unit → Option ρ) : Option ρ :=
  let v0 : Qep := t.2.1
  let v1 : Int := (((List.length v0) : Nat) : Int)
  (Q9.l0 k k (v0, (v1, ((0 : Int), ((t.1, (t.2.1, (t.2.2.1, (t.2.2.2.1, ())))), ()))))).bind fun t4 => (match t4 with
 | .inl t5 => (K (t5.1, (t5.2.1, ())))
 | .inr (t6) => (let v7 : Qet := t6.1.2.2.1
  let v8 : Int := (((List.length v7) : Nat) : Int)
  (Q9.l1 k k (v7, (v8, ((0 : Int), ((t6.1.1, (t6.1.2.1, (t6.1.2.2.1, (t6.1.2.2.2.1, ())))), ()))))).bind fun t11 => (match t11 with
 | .inl t12 => (K (t12.1, (t12.2.1, ())))
 | .inr (t13) => ((Q01 k (t13.1.1, (t13.1.2.1, (t13.1.2.2.1, (t13.1.2.2.2.1, ()))))).bind fun t14 => bif (decide (t14.1 > (4096 : Int))) then (K ((⟨(List.toArray [])⟩ : ByteArray), ((101 : Int), ()))) else ((Q00 k ).bind fun t15 => let v16 : Int := t13.1.1
  (QC k v16 (((), ((), ())), ()) t15.2.1).bind fun t17 => let v18 : Qep := t13.1.2.1
  let v19 : Int := (((List.length v18) : Nat) : Int)
  (Qz k (IntKind.wrap IntKind.u64 v19) (((), ((), ())), ()) t17.2.1).bind fun t20 => let v21 : Qep := t13.1.2.1
  let v22 : Int := (((List.length v21) : Nat) : Int)
  (Q9.l2 k k (v21, (v22, ((0 : Int), ((t13.1.1, (t13.1.2.1, (t13.1.2.2.1, (t13.1.2.2.2.1, ())))), ((((), ((), ())), ()), (t20.2.1, ()))))))).bind fun t32 => let v33 : Qet := t32.1.2.2.1
  let v34 : Int := (((List.length v33) : Nat) : Int)
  (Qz k (IntKind.wrap IntKind.u64 v34) (((), ((), ())), ()) t32.2.2.1).bind fun t35 => let v36 : Qet := t32.1.2.2.1
  let v37 : Int := (((List.length v36) : Nat) : Int)
  (Q9.l3 k k (v36, (v37, ((0 : Int), ((t32.1.1, (t32.1.2.1, (t32.1.2.2.1, (t32.1.2.2.2.1, ())))), ((((), ((), ())), ()), (t35.2.1, ()))))))).bind fun t43 => let v44 : Int := t43.1.2.2.2.1
  (QC k v44 (((), ((), ())), ()) t43.2.2.1).bind fun t45 => (QA k (((), ((), ())), ()) t45.2.1).bind fun t46 => K (t46.1, ((0 : Int), ())))))))
def Q9 (k : Nat) (t : Qel) : Option Qex := Q9.c k t some
def Q9.tin : List Ty := [Qeg]
def Q9.tout : List Ty := [.str, (.int .i64)]
def Q9.sem (k : Nat) : Qj := Qn Q9.tin Q9.tout fun x => Q9 k x.1
noncomputable def Q9.ctx (k : Nat) : Ctx := ⟨Tryz.prog, gam [(92, (Q01.sem k)), (95, (Q00.sem k)), (96, (QC.sem k)), (107, (Qz.sem k)), (97, (QN.sem k)), (108, (QH.sem k)), (109, (Q0h.sem k)), (98, (QA.sem k))]⟩
theorem Q9.gok (k : Nat) : ∀ f, Qb Tryz.prog f ((Q9.ctx k).Γ f) := (Q7 (Q01.sem_ok k) (Q7 (Q00.sem_ok k) (Q7 (QC.sem_ok k) (Q7 (Qz.sem_ok k) (Q7 (QN.sem_ok k) (Q7 (QH.sem_ok k) (Q7 (Q0h.sem_ok k) (Q7 (QA.sem_ok k) QE))))))))
theorem Q9.l3.round (k : Nat) : Q0V (Q9.ctx k) (Q0e (Func.code Tryz.f74) [1, 1, 1, 1, 1, 1, 1, 1, 1, 0, 1, 0, 0]) (.nil) Q9.l3.T [.mask [1, 8, 84, 85, 86], .auto 0] Q9.l3.os (Q9.l3.r k) := by
 intro ρ x kn ke; kernel_rfl
theorem Q9.l3.ok (k : Nat) : StOK 0 Tryz.prog (.loop (Q0e (Func.code Tryz.f74) [1, 1, 1, 1, 1, 1, 1, 1, 1, 0, 1, 0, 0])) (Qv Q9.l3.T Q9.l3.os (Q9.l3 k k)) :=
 Q0X (C := Q9.ctx k) (Q9.gok k) Tryz.mix Q3.nil (by kernel_rfl) (by kernel_rfl) (by kernel_rfl) (Q9.l3.round k) k
theorem Q9.l2.round (k : Nat) : Q0V (Q9.ctx k) (Q0e (Func.code Tryz.f74) [1, 1, 1, 1, 1, 1, 1, 0, 1, 0, 0]) (.nil) Q9.l2.T [.mask [1, 8, 52, 53, 54], .auto 0] Q9.l2.os (Q9.l2.r k) := by
 intro ρ x kn ke; kernel_rfl
theorem Q9.l2.ok (k : Nat) : StOK 0 Tryz.prog (.loop (Q0e (Func.code Tryz.f74) [1, 1, 1, 1, 1, 1, 1, 0, 1, 0, 0])) (Qv Q9.l2.T Q9.l2.os (Q9.l2 k k)) :=
 Q0X (C := Q9.ctx k) (Q9.gok k) Tryz.mix Q3.nil (by kernel_rfl) (by kernel_rfl) (by kernel_rfl) (Q9.l2.round k) k
theorem Q9.l1.round (k : Nat) : Q0V (Q9.ctx k) (Q0e (Func.code Tryz.f74) [1, 1, 0, 1, 0, 0]) (.nil) Q9.l1.T [.mask [1, 26, 27, 28], .auto 0] Q9.l1.os (Q9.l1.r k) := by
 intro ρ x kn ke; kernel_rfl
theorem Q9.l1.ok (k : Nat) : StOK 0 Tryz.prog (.loop (Q0e (Func.code Tryz.f74) [1, 1, 0, 1, 0, 0])) (Qv Q9.l1.T Q9.l1.os (Q9.l1 k k)) :=
 Q0X (C := Q9.ctx k) (Q9.gok k) Tryz.mix Q3.nil (by kernel_rfl) (by kernel_rfl) (by kernel_rfl) (Q9.l1.round k) k
theorem Q9.l0.round (k : Nat) : Q0V (Q9.ctx k) (Q0e (Func.code Tryz.f74) [1, 0, 1, 0, 0]) (.nil) Q9.l0.T [.mask [1, 14, 15, 16], .auto 0] Q9.l0.os (Q9.l0.r k) := by
 intro ρ x kn ke; kernel_rfl
theorem Q9.l0.ok (k : Nat) : StOK 0 Tryz.prog (.loop (Q0e (Func.code Tryz.f74) [1, 0, 1, 0, 0])) (Qv Q9.l0.T Q9.l0.os (Q9.l0 k k)) :=
 Q0X (C := Q9.ctx k) (Q9.gok k) Tryz.mix Q3.nil (by kernel_rfl) (by kernel_rfl) (by kernel_rfl) (Q9.l0.round k) k
def Q9.ann (k : Nat) : Ann := .node [] none (.nil) (.node [] none (.node [] none (.nil) (.node [] none (.node [.mask [1, 14, 15, 16], .auto 0] (some (Qv Q9.l0.T Q9.l0.os (Q9.l0 k k))) .nil .nil) (.nil))) (.node [] none (.node [] none (.nil) (.node [] none (.node [.mask [1, 26, 27, 28], .auto 0] (some (Qv Q9.l1.T Q9.l1.os (Q9.l1 k k))) .nil .nil) (.nil))) (.node [] none (.nil) (.node [] none (.nil) (.node [] none (.nil) (.node [] none (.nil) (.node [] none (.node [] none (.nil) (.node [] none (.node [.mask [1, 8, 52, 53, 54], .auto 0] (some (Qv Q9.l2.T Q9.l2.os (Q9.l2 k k))) .nil .nil) (.nil))) (.node [] none (.nil) (.node [] none (.node [] none (.nil) (.node [] none (.node [.mask [1, 8, 84, 85, 86], .auto 0] (some (Qv Q9.l3.T Q9.l3.os (Q9.l3 k k))) .nil .nil) (.nil))) (.nil))))))))))
theorem Q9.body (k : Nat) : Q0M (Q9.ctx k) Tryz.f74 (Func.code Tryz.f74) (Q9.ann k) Q9.tin Q9.tout (fun x K => Q9.c k x.1 K) := by
 intro ρ x K; kernel_rfl
theorem Q9.sem_ok (k : Nat) : Qb Tryz.prog 74 (Q9.sem k) :=
 Qs (C := Q9.ctx k) (Q9.gok k) Tryz.mix (c := Func.code Tryz.f74) (ann := Q9.ann k) (tin := Q9.tin) (tout := Q9.tout) (fun x K => Q9.c k x.1 K) Tryz.func74 (by kernel_rfl) (by kernel_rfl) (Q3.seq Q3.nil (Q3.seq (Q3.seq Q3.nil (Q3.block (Q3.loop (by kernel_rfl) (Q9.l0.ok k)))) (Q3.seq (Q3.seq Q3.nil (Q3.block (Q3.loop (by kernel_rfl) (Q9.l1.ok k)))) (Q3.seq Q3.nil (Q3.seq Q3.nil (Q3.seq Q3.nil (Q3.seq Q3.nil (Q3.seq (Q3.seq Q3.nil (Q3.block (Q3.loop (by kernel_rfl) (Q9.l2.ok k)))) (Q3.seq Q3.nil (Q3.seq (Q3.seq Q3.nil (Q3.block (Q3.loop (by kernel_rfl) (Q9.l3.ok k)))) Q3.nil)))))))))) (Q9.body k)
def Q0L.c (k : Nat) {ρ : Type} (t : Qel) (K : (List Int) × Int × Unit → Option ρ) : Option ρ :=
 (Q9 k (t.1, (t.2.1, (t.2.2.1, (t.2.2.2.1, ()))))).bind fun t0 => let v1 : ByteArray := t0.1
 let v2 : Int := t0.2.1
 bif (v2 != (0 : Int)) then (let v3 : (List Int) := (List.replicate 32 (0 : Int))
 K (v3, (v2, ()))) else ((Q0D k v1).bind fun t4 => K (t4.1, ((0 : Int), ())))
def Q0L (k : Nat) (t : Qel) : Option ((List Int) × Int × Unit) := Q0L.c k t some
def Q0L.tin : List Ty := [Qeg]
def Q0L.tout : List Ty := [Qey, (.int .i64)]
def Q0L.sem (k : Nat) : Qj := Qn Q0L.tin Q0L.tout fun x => Q0L k x.1
noncomputable def Q0L.ctx (k : Nat) : Ctx := ⟨Tryz.prog, gam [(74, (Q9.sem k)), (66, (Q0D.sem k))]⟩
theorem Q0L.gok (k : Nat) : ∀ f, Qb Tryz.prog f ((Q0L.ctx k).Γ f) := (Q7 (Q9.sem_ok k) (Q7 (Q0D.sem_ok k) QE))
def Q0L.ann (k : Nat) : Ann := .nil
theorem Q0L.body (k : Nat) : Q0M (Q0L.ctx k) Tryz.f35 (Func.code Tryz.f35) (Q0L.ann k) Q0L.tin Q0L.tout (fun x K => Q0L.c k x.1 K) := by
 intro ρ x K; kernel_rfl
theorem Q0L.sem_ok (k : Nat) : Qb Tryz.prog 35 (Q0L.sem k) :=
 Qs (C := Q0L.ctx k) (Q0L.gok k) Tryz.mix (c := Func.code Tryz.f35) (ann := Q0L.ann k) (tin := Q0L.tin) (tout := Q0L.tout) (fun x K => Q0L.c k x.1 K) Tryz.func35 (by kernel_rfl) (by kernel_rfl) Q3.nil (Q0L.body k)
def Qd.c (k : Nat) {ρ : Type} (s : (List (List Int))) (K : (List (List Int)) × Unit → Option ρ) : Option ρ :=
 bif (Nat.ble 1 (List.length s)) then (bif (Nat.ble ((0 + (List.length s)) * 32) 140737488355328) then (K (((List.replicate 0 (List.replicate 32 (0 : Int))) ++ s), ())) else (none)) else (none)
def Qd (k : Nat) (s : (List (List Int))) : Option ((List (List Int)) × Unit) := Qd.c k s some
def Qd.tin : List Ty := [Qew]
def Qd.tout : List Ty := [Qew]
def Qd.sem (k : Nat) : Qj := Qn Qd.tin Qd.tout fun x => Qd k x.1
noncomputable def Qd.ctx (k : Nat) : Ctx := ⟨Tryz.prog, gam []⟩
theorem Qd.gok (k : Nat) : ∀ f, Qb Tryz.prog f ((Qd.ctx k).Γ f) := QE
def Qd.ann (k : Nat) : Ann := .nil
theorem Qd.body (k : Nat) : Q0M (Qd.ctx k) Tryz.f158 (Func.code Tryz.f158) (Qd.ann k) Qd.tin Qd.tout (fun x K => Qd.c k x.1 K) := by
 intro ρ x K; kernel_rfl
theorem Qd.sem_ok (k : Nat) : Qb Tryz.prog 158 (Qd.sem k) :=
 Qs (C := Qd.ctx k) (Qd.gok k) Tryz.mix (c := Func.code Tryz.f158) (ann := Qd.ann k) (tin := Qd.tin) (tout := Qd.tout) (fun x K => Qd.c k x.1 K) Tryz.func158 (by kernel_rfl) (by kernel_rfl) Q3.nil (Qd.body k)
def Q0G.c (k : Nat) {ρ : Type} (a : (List Int)) (b : (List Int)) (K : (List Int) × Unit → Option ρ) : Option ρ :=
 let v0 : ByteArray := (bytesOf (List.take 32 (List.drop 0 a)))
 let v1 : ByteArray := (bytesOf (List.take 32 (List.drop 0 b)))
 bif (Nat.ble ((ByteArray.size v0) + (ByteArray.size v1)) 9223372036854775807) then (let v2 : ByteArray := (v0 ++ v1)
 (Q0D k v2).bind fun t3 => K (t3.1, ())) else (none)
def Q0G (k : Nat) (a : (List Int)) (b : (List Int)) : Option QeA := Q0G.c k a b some
def Q0G.tin : List Ty := [Qey, Qey]
def Q0G.tout : List Ty := [Qey]
def Q0G.sem (k : Nat) : Qj := Qn Q0G.tin Q0G.tout fun x => Q0G k x.1 x.2.1
noncomputable def Q0G.ctx (k : Nat) : Ctx := ⟨Tryz.prog, gam [(66, (Q0D.sem k))]⟩
theorem Q0G.gok (k : Nat) : ∀ f, Qb Tryz.prog f ((Q0G.ctx k).Γ f) := (Q7 (Q0D.sem_ok k) QE)
def Q0G.ann (k : Nat) : Ann := .nil
theorem Q0G.body (k : Nat) : Q0M (Q0G.ctx k) Tryz.f177 (Func.code Tryz.f177) (Q0G.ann k) Q0G.tin Q0G.tout (fun x K => Q0G.c k x.1 x.2.1 K) := by
 intro ρ x K; kernel_rfl
theorem Q0G.sem_ok (k : Nat) : Qb Tryz.prog 177 (Q0G.sem k) :=
 Qs (C := Q0G.ctx k) (Q0G.gok k) Tryz.mix (c := Func.code Tryz.f177) (ann := Q0G.ann k) (tin := Q0G.tin) (tout := Q0G.tout) (fun x K => Q0G.c k x.1 x.2.1 K) Tryz.func177 (by kernel_rfl) (by kernel_rfl) Q3.nil (Q0G.body k)
abbrev Qt.l0.σ : Type := (List (List Int)) × Int × (List (List Int)) × Unit
abbrev Qt.l0.τ : Type := ((List (List Int)) × Unit)
def Qt.l0.r (k : Nat) {ρ : Type} (x : Qt.l0.σ) (kn : Qt.l0.σ → Option ρ) (ke : Qt.l0.τ → Option ρ) : Option ρ :=
 let v0 : Int := (((List.length x.1) : Nat) : Int)
 bif (decide (x.2.1 < v0)) then (bif (decide (((0 : Int) ≤ x.2.1) ∧ (x.2.1 < (((List.length x.1) : Nat) : Int)))) then (let v1 : (List Int) := (List.getD x.1 (Int.toNat x.2.1) (List.replicate 32 (0 : Int)))
 let v2 : Int := (IntKind.wrap IntKind.i64 (x.2.1 + (1 : Int)))
 let v3 : Int := (((List.length x.1) : Nat) : Int)
 let v4 : Int := (IntKind.wrap IntKind.i64 (v3 - (1 : Int)))
 let v5 : Int := (if (v4 < v2) then v4 else v2)
 bif (decide (((0 : Int) ≤ v5) ∧ (v5 < (((List.length x.1) : Nat) : Int)))) then (let v6 : (List Int) := (List.getD x.1 (Int.toNat v5) (List.replicate 32 (0 : Int)))
 (Q0G k v1 v6).bind fun t7 => bif (Nat.ble (((List.length x.2.2.1) + (List.length (List.set (List.replicate 1 (List.replicate 32 (0 : Int))) 0 t7.1))) * 32) 140737488355328) then (let v8 : Int := (IntKind.wrap IntKind.i64 (x.2.1 + (2 : Int)))
 kn (x.1, (v8, ((x.2.2.1 ++ (List.set (List.replicate 1 (List.replicate 32 (0 : Int))) 0 t7.1)), ())))) else (none)) else (none)) else (none)) else (ke (x.2.2.1, ()))
def Qt.l0 (k : Nat) : Nat → Qt.l0.σ → Option Qt.l0.τ := Q15 (Qt.l0.r k)
def Qt.l0.T : StT := ⟨.dat Qew :: us 2 ++ .vsl 0 :: .dat (.int .i64) :: us 24, [.vec Qey]⟩
def Qt.l0.os : List Out := [⟨(.exit 0), [.mask [3], .auto 0], ⟨us 3 ++ .vsl 0 :: us 25, [.vec Qey]⟩⟩]
def Qt.c (k : Nat) {ρ : Type} (l : (List (List Int))) (K : (List (List Int)) × Unit → Option ρ) : Option ρ :=
 (Qt.l0 k k (l, ((0 : Int), ([], ())))).bind fun t9 => K (t9.1, ())
def Qt (k : Nat) (l : (List (List Int))) : Option ((List (List Int)) × Unit) := Qt.c k l some
def Qt.tin : List Ty := [Qew]
def Qt.tout : List Ty := [Qew]
def Qt.sem (k : Nat) : Qj := Qn Qt.tin Qt.tout fun x => Qt k x.1
noncomputable def Qt.ctx (k : Nat) : Ctx := ⟨Tryz.prog, gam [(177, (Q0G.sem k))]⟩
theorem Qt.gok (k : Nat) : ∀ f, Qb Tryz.prog f ((Qt.ctx k).Γ f) := (Q7 (Q0G.sem_ok k) QE)
theorem Qt.l0.round (k : Nat) : Q0V (Qt.ctx k) (Q0e (Func.code Tryz.f159) [1, 1, 0, 1, 0, 0]) (.nil) Qt.l0.T [.mask [0, 3, 4], .auto 0] Qt.l0.os (Qt.l0.r k) := by
 intro ρ x kn ke; kernel_rfl
theorem Qt.l0.ok (k : Nat) : StOK 0 Tryz.prog (.loop (Q0e (Func.code Tryz.f159) [1, 1, 0, 1, 0, 0])) (Qv Qt.l0.T Qt.l0.os (Qt.l0 k k)) :=
 Q0X (C := Qt.ctx k) (Qt.gok k) Tryz.mix Q3.nil (by kernel_rfl) (by kernel_rfl) (by kernel_rfl) (Qt.l0.round k) k
def Qt.ann (k : Nat) : Ann := .node [] none (.nil) (.node [] none (.nil) (.node [] none (.node [] none (.nil) (.node [] none (.node [.own (.slot 3) Qey] (some (Qv Qt.l0.T Qt.l0.os (Qt.l0 k k))) .nil .nil) (.nil))) (.nil)))
theorem Qt.body (k : Nat) : Q0M (Qt.ctx k) Tryz.f159 (Func.code Tryz.f159) (Qt.ann k) Qt.tin Qt.tout (fun x K => Qt.c k x.1 K) := by
 intro ρ x K; kernel_rfl
theorem Qt.sem_ok (k : Nat) : Qb Tryz.prog 159 (Qt.sem k) :=
 Qs (C := Qt.ctx k) (Qt.gok k) Tryz.mix (c := Func.code Tryz.f159) (ann := Qt.ann k) (tin := Qt.tin) (tout := Qt.tout) (fun x K => Qt.c k x.1 K) Tryz.func159 (by kernel_rfl) (by kernel_rfl) (Q3.seq Q3.nil (Q3.seq Q3.nil (Q3.seq (Q3.seq Q3.nil (Q3.block (Q3.loop (by kernel_rfl) (Qt.l0.ok k)))) Q3.nil))) (Qt.body k)
abbrev Qp.l0.σ : Type := (List (List Int)) × (List (List (List Int))) × Unit
abbrev Qp.l0.τ : Type := ((List (List (List Int))) × Unit)
def Qp.l0.r (k : Nat) {ρ : Type} (x : Qp.l0.σ) (kn : Qp.l0.σ → Option ρ) (ke : Qp.l0.τ → Option ρ) : Option ρ :=
 let v2 : Int := (((List.length x.1) : Nat) : Int)
 bif (decide (v2 > (1 : Int))) then ((Qt k x.1).bind fun t3 => bif (Nat.ble (((List.length x.2.1) + (List.length (List.set (List.replicate 1 []) 0 t3.1))) * 24) 140737488355328) then (kn (t3.1, ((x.2.1 ++ (List.set (List.replicate 1 []) 0 t3.1)), ()))) else (none)) else (ke (x.2.1, ()))
def Qp.l0 (k : Nat) : Nat → Qp.l0.σ → Option Qp.l0.τ := Q15 (Qp.l0.r k)
def Qp.l0.T : StT := ⟨.dat Qew :: us 2 ++ .vsl 0 :: us 16, [.vec Qew]⟩
def Qp.l0.os : List Out := [⟨(.exit 0), [.mask [3], .auto 0], ⟨us 3 ++ .vsl 0 :: us 16, [.vec Qew]⟩⟩]
def Qp.c (k : Nat) {ρ : Type} (l : (List (List Int))) (K : (List (List (List Int))) × Unit → Option ρ) : Option ρ :=
 let v0 : Int := (((List.length l) : Nat) : Int)
 bif (v0 == (0 : Int)) then (K ([], ())) else ((Qd k l).bind fun t1 => (Qp.l0 k k (l, ((List.set (List.replicate 1 []) 0 t1.1), ()))).bind fun t4 => K (t4.1, ()))
def Qp (k : Nat) (l : (List (List Int))) : Option ((List (List (List Int))) × Unit) := Qp.c k l some
def Qp.tin : List Ty := [Qew]
def Qp.tout : List Ty := [Qeu]
def Qp.sem (k : Nat) : Qj := Qn Qp.tin Qp.tout fun x => Qp k x.1
noncomputable def Qp.ctx (k : Nat) : Ctx := ⟨Tryz.prog, gam [(158, (Qd.sem k)), (159, (Qt.sem k))]⟩
theorem Qp.gok (k : Nat) : ∀ f, Qb Tryz.prog f ((Qp.ctx k).Γ f) := (Q7 (Qd.sem_ok k) (Q7 (Qt.sem_ok k) QE))
theorem Qp.l0.round (k : Nat) : Q0V (Qp.ctx k) (Q0e (Func.code Tryz.f136) [1, 1, 1, 0, 0, 0]) (.nil) Qp.l0.T [.mask [0, 3], .auto 0] Qp.l0.os (Qp.l0.r k) := by
 intro ρ x kn ke; kernel_rfl
theorem Qp.l0.ok (k : Nat) : StOK 0 Tryz.prog (.loop (Q0e (Func.code Tryz.f136) [1, 1, 1, 0, 0, 0])) (Qv Qp.l0.T Qp.l0.os (Qp.l0 k k)) :=
 Q0X (C := Qp.ctx k) (Qp.gok k) Tryz.mix Q3.nil (by kernel_rfl) (by kernel_rfl) (by kernel_rfl) (Qp.l0.round k) k
def Qp.ann (k : Nat) : Ann := .node [] none (.nil) (.node [] none (.nil) (.node [] none (.nil) (.node [] none (.node [] none (.node [.mask [0, 3], .auto 0] (some (Qv Qp.l0.T Qp.l0.os (Qp.l0 k k))) .nil .nil) (.nil)) (.nil))))
theorem Qp.body (k : Nat) : Q0M (Qp.ctx k) Tryz.f136 (Func.code Tryz.f136) (Qp.ann k) Qp.tin Qp.tout (fun x K => Qp.c k x.1 K) := by
 intro ρ x K; kernel_rfl
theorem Qp.sem_ok (k : Nat) : Qb Tryz.prog 136 (Qp.sem k) :=
 Qs (C := Qp.ctx k) (Qp.gok k) Tryz.mix (c := Func.code Tryz.f136) (ann := Qp.ann k) (tin := Qp.tin) (tout := Qp.tout) (fun x K => Qp.c k x.1 K) Tryz.func136 (by kernel_rfl) (by kernel_rfl) (Q3.seq Q3.nil (Q3.seq Q3.nil (Q3.seq Q3.nil (Q3.seq (Q3.block (Q3.loop (by kernel_rfl) (Qp.l0.ok k))) Q3.nil)))) (Qp.body k)
abbrev Qk.l1.σ : Type := Bool × (List (List (List Int))) × (List (List Int)) × Int × (List (List (List Int))) × Int × Int × (List Int) × Unit
abbrev Qk.l1.τ : Type := (Bool × (List (List (List Int))) × (List (List (List Int))) × Int × Int × (List Int) × Unit)
def Qk.l1.r (k : Nat) {ρ : Type} (x : Qk.l1.σ) (kn : Qk.l1.σ → Option ρ) (ke : Qk.l1.τ → Option ρ) : Option ρ :=
 let v3 : Int := (IntKind.wrap IntKind.i64 (x.2.2.2.1 + (1 : Int)))
 let v4 : Int := (((List.length x.2.2.1) : Nat) : Int)
 bif (decide (v3 < v4)) then (bif x.1 then (let v5 : Int := (IntKind.wrap IntKind.i64 (x.2.2.2.1 + (2 : Int)))
 kn (true, (x.2.1, (x.2.2.1, (v5, (x.2.2.2.2.1, (x.2.2.2.2.2.1, (x.2.2.2.2.2.2.1, (x.2.2.2.2.2.2.2.1, ()))))))))) else (bif (decide (((0 : Int) ≤ x.2.2.2.1) ∧ (x.2.2.2.1 < (((List.length x.2.2.1) : Nat) : Int)))) then (let v6 : (List Int) := (List.getD x.2.2.1 (Int.toNat x.2.2.2.1) (List.replicate 32 (0 : Int)))
 let v7 : Int := (IntKind.wrap IntKind.i64 (x.2.2.2.1 + (1 : Int)))
 bif (decide (((0 : Int) ≤ v7) ∧ (v7 < (((List.length x.2.2.1) : Nat) : Int)))) then (let v8 : (List Int) := (List.getD x.2.2.1 (Int.toNat v7) (List.replicate 32 (0 : Int)))
 let v9 : Int := (IntKind.wrap IntKind.i64 (x.2.2.2.1 + (2 : Int)))
 kn ((decide (v6 = v8)), (x.2.1, (x.2.2.1, (v9, (x.2.2.2.2.1, (x.2.2.2.2.2.1, (x.2.2.2.2.2.2.1, (x.2.2.2.2.2.2.2.1, ()))))))))) else (none)) else (none))) else (ke (x.1, (x.2.1, (x.2.2.2.2.1, (x.2.2.2.2.2.1, (x.2.2.2.2.2.2.1, (x.2.2.2.2.2.2.2.1, ())))))))
def Qk.l1 (k : Nat) : Nat → Qk.l1.σ → Option Qk.l1.τ := Q15 (Qk.l1.r k)
def Qk.l1.T : StT := ⟨us 2 ++ .ptr 0 [] :: us 1 ++ .dat .bool :: .dat Qeu :: us 1 ++ .dat Qew :: .dat (.int .i64) :: us 2 ++ .dat Qeu :: .dat (.int .i64) :: .dat (.int .i64) :: us 37, [.dat Qey]⟩
def Qk.l1.os : List Out := [⟨(.exit 2), [.mask [2, 4, 5, 11, 12, 13], .auto 0], ⟨us 2 ++ .ptr 0 [] :: us 1 ++ .dat .bool :: .dat Qeu :: us 5 ++ .dat Qeu :: .dat (.int .i64) :: .dat (.int .i64) :: us 37, [.dat Qey]⟩⟩]
abbrev Qk.l0.σ : Type := Bool × (List (List (List Int))) × (List (List (List Int))) × Int × Int × (List Int) × Unit
abbrev Qk.l0.τ : Type := (Bool × (List (List (List Int))) × (List Int) × Unit)
def Qk.l0.r (k : Nat) {ρ : Type} (x : Qk.l0.σ) (kn : Qk.l0.σ → Option ρ) (ke : Qk.l0.τ → Option ρ) : Option ρ :=
 bif (decide (x.2.2.2.2.1 < x.2.2.2.1)) then (bif (decide (((0 : Int) ≤ x.2.2.2.2.1) ∧ (x.2.2.2.2.1 < (((List.length x.2.2.1) : Nat) : Int)))) then (let v2 : (List (List Int)) := (List.getD x.2.2.1 (Int.toNat x.2.2.2.2.1) [])
 (Qk.l1 k k (x.1, (x.2.1, (v2, ((0 : Int), (x.2.2.1, (x.2.2.2.1, (x.2.2.2.2.1, (x.2.2.2.2.2.1, ()))))))))).bind fun t10 => let v11 : Int := (IntKind.wrap IntKind.i64 (t10.2.2.2.2.1 + (1 : Int)))
 kn (t10.1, (t10.2.1, (t10.2.2.1, (t10.2.2.2.1, (v11, (t10.2.2.2.2.2.1, ()))))))) else (none)) else (ke (x.1, (x.2.1, (x.2.2.2.2.2.1, ()))))
def Qk.l0 (k : Nat) : Nat → Qk.l0.σ → Option Qk.l0.τ := Q15 (Qk.l0.r k)
def Qk.l0.T : StT := ⟨us 2 ++ .ptr 0 [] :: us 1 ++ .dat .bool :: .dat Qeu :: us 5 ++ .dat Qeu :: .dat (.int .i64) :: .dat (.int .i64) :: us 37, [.dat Qey]⟩
def Qk.l0.os : List Out := [⟨(.exit 0), [.mask [2, 4, 5], .auto 0], ⟨us 2 ++ .ptr 0 [] :: us 1 ++ .dat .bool :: .dat Qeu :: us 45, [.dat Qey]⟩⟩]
def Qk.c (k : Nat) {ρ : Type} (l : (List (List Int))) (K : (List Int) × Bool × Unit → Option ρ) : Option ρ :=
 (Qp k l).bind fun t0 => let v1 : Int := (((List.length t0.1) : Nat) : Int)
 (Qk.l0 k k (false, (t0.1, (t0.1, (v1, ((0 : Int), ((List.replicate 32 (0 : Int)), ()))))))).bind fun t12 => let v13 : Int := (((List.length t12.2.1) : Nat) : Int)
 bif (v13 == (0 : Int)) then (let v14 : (List Int) := (List.replicate 32 (0 : Int))
 K (v14, (false, ()))) else (let v15 : Int := (((List.length t12.2.1) : Nat) : Int)
 let v16 : Int := (IntKind.wrap IntKind.i64 (v15 - (1 : Int)))
 bif (decide (((0 : Int) ≤ v16) ∧ (v16 < (((List.length t12.2.1) : Nat) : Int)))) then (let v17 : (List (List Int)) := (List.getD t12.2.1 (Int.toNat v16) [])
 bif (decide (((0 : Int) ≤ (0 : Int)) ∧ ((0 : Int) < (((List.length v17) : Nat) : Int)))) then (let v18 : (List Int) := (List.getD v17 0 (List.replicate 32 (0 : Int)))
 K (v18, (t12.1, ()))) else (none)) else (none))
def Qk (k : Nat) (l : (List (List Int))) : Option ((List Int) × Bool × Unit) := Qk.c k l some
def Qk.tin : List Ty := [Qew]
def Qk.tout : List Ty := [Qey, .bool]
def Qk.sem (k : Nat) : Qj := Qn Qk.tin Qk.tout fun x => Qk k x.1
noncomputable def Qk.ctx (k : Nat) : Ctx := ⟨Tryz.prog, gam [(136, (Qp.sem k))]⟩
theorem Qk.gok (k : Nat) : ∀ f, Qb Tryz.prog f ((Qk.ctx k).Γ f) := (Q7 (Qp.sem_ok k) QE)
theorem Qk.l1.round (k : Nat) : Q0V (Qk.ctx k) (Q0e (Func.code Tryz.f103) [1, 1, 1, 0, 1, 0, 0, 1, 1, 0, 0, 1, 1, 0, 0]) (.nil) Qk.l1.T [.mask [2, 4, 5, 7, 8, 11, 12, 13], .auto 0] Qk.l1.os (Qk.l1.r k) := by
 intro ρ x kn ke; kernel_rfl
theorem Qk.l1.ok (k : Nat) : StOK 0 Tryz.prog (.loop (Q0e (Func.code Tryz.f103) [1, 1, 1, 0, 1, 0, 0, 1, 1, 0, 0, 1, 1, 0, 0])) (Qv Qk.l1.T Qk.l1.os (Qk.l1 k k)) :=
 Q0X (C := Qk.ctx k) (Qk.gok k) Tryz.mix Q3.nil (by kernel_rfl) (by kernel_rfl) (by kernel_rfl) (Qk.l1.round k) k
theorem Qk.l0.round (k : Nat) : Q0V (Qk.ctx k) (Q0e (Func.code Tryz.f103) [1, 1, 1, 0, 1, 0, 0]) (.node [] none (.nil) (.node [] none (.nil) (.node [] none (.node [] none (.node [] none (.nil) (.node [] none (.nil) (.node [] none (.node [.mask [2, 4, 5, 7, 8, 11, 12, 13], .auto 0] (some (Qv Qk.l1.T Qk.l1.os (Qk.l1 k k))) .nil .nil) (.nil)))) (.nil)) (.nil)))) Qk.l0.T [.mask [2, 4, 5, 11, 12, 13], .auto 0] Qk.l0.os (Qk.l0.r k) := by
 intro ρ x kn ke; kernel_rfl
theorem Qk.l0.ok (k : Nat) : StOK 0 Tryz.prog (.loop (Q0e (Func.code Tryz.f103) [1, 1, 1, 0, 1, 0, 0])) (Qv Qk.l0.T Qk.l0.os (Qk.l0 k k)) :=
 Q0X (C := Qk.ctx k) (Qk.gok k) Tryz.mix (Q3.seq Q3.nil (Q3.seq Q3.nil (Q3.seq (Q3.block (Q3.seq Q3.nil (Q3.seq Q3.nil (Q3.block (Q3.loop (by kernel_rfl) (Qk.l1.ok k)))))) Q3.nil))) (by kernel_rfl) (by kernel_rfl) (by kernel_rfl) (Qk.l0.round k) k
def Qk.ann (k : Nat) : Ann := .node [] none (.nil) (.node [] none (.nil) (.node [] none (.nil) (.node [] none (.node [] none (.nil) (.node [] none (.node [.mask [2, 4, 5, 11, 12, 13], .auto 0] (some (Qv Qk.l0.T Qk.l0.os (Qk.l0 k k))) .nil .nil) (.nil))) (.nil))))
theorem Qk.body (k : Nat) : Q0M (Qk.ctx k) Tryz.f103 (Func.code Tryz.f103) (Qk.ann k) Qk.tin Qk.tout (fun x K => Qk.c k x.1 K) := by
 intro ρ x K; kernel_rfl
theorem Qk.sem_ok (k : Nat) : Qb Tryz.prog 103 (Qk.sem k) :=
 Qs (C := Qk.ctx k) (Qk.gok k) Tryz.mix (c := Func.code Tryz.f103) (ann := Qk.ann k) (tin := Qk.tin) (tout := Qk.tout) (fun x K => Qk.c k x.1 K) Tryz.func103 (by kernel_rfl) (by kernel_rfl) (Q3.seq Q3.nil (Q3.seq Q3.nil (Q3.seq Q3.nil (Q3.seq (Q3.seq Q3.nil (Q3.block (Q3.loop (by kernel_rfl) (Qk.l0.ok k)))) Q3.nil)))) (Qk.body k)
abbrev Qe.l0.σ : Type := Qek × Int × Int × (List Int) × (List (List Int)) × Unit
abbrev Qe.l0.τ : Type := ((List Int) × (List (List Int)) × Unit)
def Qe.l0.r (k : Nat) {ρ : Type} (x : Qe.l0.σ) (kn : Qe.l0.σ → Option ρ) (ke : Qe.l0.τ → Option ρ) : Option ρ :=
 bif (decide (x.2.2.1 < x.2.1)) then (bif (decide (((0 : Int) ≤ x.2.2.1) ∧ (x.2.2.1 < (((List.length x.1) : Nat) : Int)))) then ((Q0L k ((List.getD x.1 (Int.toNat x.2.2.1) ((0 : Int), ([], ([], ((0 : Int), ()))))).1, ((List.getD x.1 (Int.toNat x.2.2.1) ((0 : Int), ([], ([], ((0 : Int), ()))))).2.1, ((List.getD x.1 (Int.toNat x.2.2.1) ((0 : Int), ([], ([], ((0 : Int), ()))))).2.2.1, ((List.getD x.1 (Int.toNat x.2.2.1) ((0 : Int), ([], ([], ((0 : Int), ()))))).2.2.2.1, ()))))).bind fun t2 => let v3 : (List Int) := t2.1
 let v4 : Int := t2.2.1
 bif (decide (((0 : Int) ≤ x.2.2.1) ∧ (x.2.2.1 < (((List.length x.2.2.2.2.1) : Nat) : Int)))) then (let v5 : Int := (IntKind.wrap IntKind.i64 (x.2.2.1 + (1 : Int)))
 kn (x.1, (x.2.1, (v5, (x.2.2.2.1, ((List.set x.2.2.2.2.1 (Int.toNat x.2.2.1) v3), ())))))) else (none)) else (none)) else (ke (x.2.2.2.1, (x.2.2.2.2.1, ())))
def Qe.l0 (k : Nat) : Nat → Qe.l0.σ → Option Qe.l0.τ := Q15 (Qe.l0.r k)
def Qe.l0.T : StT := ⟨us 2 ++ .ptr 0 [] :: us 1 ++ .vsl 1 :: us 5 ++ .dat Qee :: .dat (.int .i64) :: .dat (.int .i64) :: us 17, [.dat Qey, .vec Qey]⟩
def Qe.l0.os : List Out := [⟨(.exit 0), [.mask [2, 4], .auto 0], ⟨us 2 ++ .ptr 0 [] :: us 1 ++ .vsl 1 :: us 25, [.dat Qey, .vec Qey]⟩⟩]
def Qe.c (k : Nat) {ρ : Type} (txs : Qek) (K : (List Int) × Bool × Unit → Option ρ) : Option ρ :=
 let v0 : Int := (((List.length txs) : Nat) : Int)
 bif ((decide (((0 : Int) ≤ v0) ∧ (v0 ≤ v0))) && (Nat.ble ((Int.toNat v0) * 32) 140737488355328)) then (let v1 : Int := (((List.length txs) : Nat) : Int)
 (Qe.l0 k k (txs, (v1, ((0 : Int), ((List.replicate 32 (0 : Int)), ((List.replicate (Int.toNat v0) (List.replicate 32 (0 : Int))), ())))))).bind fun t6 => (Qk k t6.2.1).bind fun t7 => let v8 : (List Int) := t7.1
 K (v8, (t7.2.1, ()))) else (none)
def Qe (k : Nat) (txs : Qek) : Option ((List Int) × Bool × Unit) := Qe.c k txs some
def Qe.tin : List Ty := [Qee]
def Qe.tout : List Ty := [Qey, .bool]
def Qe.sem (k : Nat) : Qj := Qn Qe.tin Qe.tout fun x => Qe k x.1
noncomputable def Qe.ctx (k : Nat) : Ctx := ⟨Tryz.prog, gam [(35, (Q0L.sem k)), (103, (Qk.sem k))]⟩
theorem Qe.gok (k : Nat) : ∀ f, Qb Tryz.prog f ((Qe.ctx k).Γ f) := (Q7 (Q0L.sem_ok k) (Q7 (Qk.sem_ok k) QE))
theorem Qe.l0.round (k : Nat) : Q0V (Qe.ctx k) (Q0e (Func.code Tryz.f72) [1, 1, 0, 1, 0, 0]) (.nil) Qe.l0.T [.mask [2, 4, 10, 11, 12], .auto 0] Qe.l0.os (Qe.l0.r k) := by
 intro ρ x kn ke; kernel_rfl
theorem Qe.l0.ok (k : Nat) : StOK 0 Tryz.prog (.loop (Q0e (Func.code Tryz.f72) [1, 1, 0, 1, 0, 0])) (Qv Qe.l0.T Qe.l0.os (Qe.l0 k k)) :=
 Q0X (C := Qe.ctx k) (Qe.gok k) Tryz.mix Q3.nil (by kernel_rfl) (by kernel_rfl) (by kernel_rfl) (Qe.l0.round k) k
def Qe.ann (k : Nat) : Ann := .node [] none (.nil) (.node [] none (.nil) (.node [] none (.node [] none (.nil) (.node [] none (.node [.mask [2, 4, 10, 11, 12], .auto 0] (some (Qv Qe.l0.T Qe.l0.os (Qe.l0 k k))) .nil .nil) (.nil))) (.nil)))
theorem Qe.body (k : Nat) : Q0M (Qe.ctx k) Tryz.f72 (Func.code Tryz.f72) (Qe.ann k) Qe.tin Qe.tout (fun x K => Qe.c k x.1 K) := by
 intro ρ x K; kernel_rfl
theorem Qe.sem_ok (k : Nat) : Qb Tryz.prog 72 (Qe.sem k) :=
 Qs (C := Qe.ctx k) (Qe.gok k) Tryz.mix (c := Func.code Tryz.f72) (ann := Qe.ann k) (tin := Qe.tin) (tout := Qe.tout) (fun x K => Qe.c k x.1 K) Tryz.func72 (by kernel_rfl) (by kernel_rfl) (Q3.seq Q3.nil (Q3.seq Q3.nil (Q3.seq (Q3.seq Q3.nil (Q3.block (Q3.loop (by kernel_rfl) (Qe.l0.ok k)))) Q3.nil))) (Qe.body k)
def Q0B.c (k : Nat) {ρ : Type} (t : Qel) (K : Qel × Unit → Option ρ) : Option ρ :=
 let v0 : Qep := t.2.1
 bif (Nat.ble ((List.length v0) * 64) 140737488355328) then (let v1 : Qet := t.2.2.1
 bif (Nat.ble ((List.length v1) * 24) 140737488355328) then (K ((t.1, (v0, (v1, (t.2.2.2.1, ())))), ())) else (none)) else (none)
def Q0B (k : Nat) (t : Qel) : Option Qej := Q0B.c k t some
def Q0B.tin : List Ty := [Qeg]
def Q0B.tout : List Ty := [Qeg]
def Q0B.sem (k : Nat) : Qj := Qn Q0B.tin Q0B.tout fun x => Q0B k x.1
noncomputable def Q0B.ctx (k : Nat) : Ctx := ⟨Tryz.prog, gam []⟩
theorem Q0B.gok (k : Nat) : ∀ f, Qb Tryz.prog f ((Q0B.ctx k).Γ f) := QE
def Q0B.ann (k : Nat) : Ann := .nil
theorem Q0B.body (k : Nat) : Q0M (Q0B.ctx k) Tryz.f100 (Func.code Tryz.f100) (Q0B.ann k) Q0B.tin Q0B.tout (fun x K => Q0B.c k x.1 K) := by
 intro ρ x K; kernel_rfl
theorem Q0B.sem_ok (k : Nat) : Qb Tryz.prog 100 (Q0B.sem k) :=
 Qs (C := Q0B.ctx k) (Q0B.gok k) Tryz.mix (c := Func.code Tryz.f100) (ann := Q0B.ann k) (tin := Q0B.tin) (tout := Q0B.tout) (fun x K => Q0B.c k x.1 K) Tryz.func100 (by kernel_rfl) (by kernel_rfl) Q3.nil (Q0B.body k)
abbrev Qw.τ : Type := (Int × Qev × (List Int) × Unit)
def Qw.c (k : Nat) {ρ : Type} (b0 : Qev) (b1 : (List Int)) (K : Qw.τ → Option ρ) : Option ρ :=
 let v0 : Int := (((List.length b1) : Nat) : Int)
 K (v0, ((((), ((), ())), ()), (b1, ())))
def Qw (k : Nat) (b0 : Qev) (b1 : (List Int)) : Option Qw.τ := Qw.c k b0 b1 some
def Qw.T : Q19 := ⟨[.ptr 0 [0]], [.pair (.pair (.sfp 0 [0] 201) (.pair (.vbs 1) (.dat .unit))) (.dat .unit), .vec (.int .u8)], 1⟩
def Qw.os : List Out := [⟨.ret, [.freeze (.slot 0), .auto 1], ⟨[.dat (.int .i64)], [.pair (.pair (.sfp 0 [0] 201) (.pair (.vbs 1) (.dat .unit))) (.dat .unit), .vec (.int .u8)]⟩⟩]
def Qw.sem (k : Nat) : Qj := Q1g Qw.T Qw.os fun x => Qw k x.1 x.2.1
noncomputable def Qw.ctx (k : Nat) : Ctx := ⟨Tryz.prog, gam []⟩
theorem Qw.gok (k : Nat) : ∀ f, Qb Tryz.prog f ((Qw.ctx k).Γ f) := QE
def Qw.ann (k : Nat) : Ann := .nil
theorem Qw.body (k : Nat) : Q1l (Qw.ctx k) Tryz.f156 (Func.code Tryz.f156) (Qw.ann k) Qw.T Qw.os (fun x K => Qw.c k x.1 x.2.1 K) := by
 intro ρ x K; kernel_rfl
theorem Qw.sem_ok (k : Nat) : Qb Tryz.prog 156 (Qw.sem k) :=
 Q0P (C := Qw.ctx k) (Qw.gok k) Tryz.mix (c := Func.code Tryz.f156) (ann := Qw.ann k) (T := Qw.T) (os := Qw.os) (fun x K => Qw.c k x.1 x.2.1 K) Tryz.func156 (by kernel_rfl) (by kernel_rfl) Q3.nil (Qw.body k) (by kernel_rfl) (by kernel_rfl) (by kernel_rfl)
abbrev Q0g.τ : Type := (Int × Qev × (List Int) × Unit)
def Q0g.c (k : Nat) {ρ : Type} (b0 : Qev) (b1 : (List Int)) (K : Q0g.τ → Option ρ) : Option ρ :=
 (Qw k (((), ((), ())), ()) b1).bind fun t0 => K (t0.1, ((((), ((), ())), ()), (t0.2.2.1, ())))
def Q0g (k : Nat) (b0 : Qev) (b1 : (List Int)) : Option Q0g.τ := Q0g.c k b0 b1 some
def Q0g.T : Q19 := ⟨[.ptr 0 []], [.pair (.pair (.sfp 0 [0] 201) (.pair (.vbs 1) (.dat .unit))) (.dat .unit), .vec (.int .u8)], 1⟩
def Q0g.os : List Out := [⟨.ret, [.freeze (.slot 0), .auto 1], ⟨[.dat (.int .i64)], [.pair (.pair (.sfp 0 [0] 201) (.pair (.vbs 1) (.dat .unit))) (.dat .unit), .vec (.int .u8)]⟩⟩]
def Q0g.sem (k : Nat) : Qj := Q1g Q0g.T Q0g.os fun x => Q0g k x.1 x.2.1
noncomputable def Q0g.ctx (k : Nat) : Ctx := ⟨Tryz.prog, gam [(156, (Qw.sem k))]⟩
theorem Q0g.gok (k : Nat) : ∀ f, Qb Tryz.prog f ((Q0g.ctx k).Γ f) := (Q7 (Qw.sem_ok k) QE)
def Q0g.ann (k : Nat) : Ann := .nil
theorem Q0g.body (k : Nat) : Q1l (Q0g.ctx k) Tryz.f134 (Func.code Tryz.f134) (Q0g.ann k) Q0g.T Q0g.os (fun x K => Q0g.c k x.1 x.2.1 K) := by
 intro ρ x K; kernel_rfl
theorem Q0g.sem_ok (k : Nat) : Qb Tryz.prog 134 (Q0g.sem k) :=
 Q0P (C := Q0g.ctx k) (Q0g.gok k) Tryz.mix (c := Func.code Tryz.f134) (ann := Q0g.ann k) (T := Q0g.T) (os := Q0g.os) (fun x K => Q0g.c k x.1 x.2.1 K) Tryz.func134 (by kernel_rfl) (by kernel_rfl) Q3.nil (Q0g.body k) (by kernel_rfl) (by kernel_rfl) (by kernel_rfl)
abbrev Qu.l0.σ : Type := Qek × Int × Int × Qev × (List Int) × Unit
abbrev Qu.l0.τ : Type := Qex ⊕ Qeq 
def Qu.l0.r (k : Nat) {ρ : Type} (x : Qu.l0.σ) (kn : Qu.l0.σ → Option ρ) (ke : Qu.l0.τ → Option ρ) : Option ρ :=
 bif (decide (x.2.2.1 < x.2.1)) then (bif (decide (((0 : Int) ≤ x.2.2.1) ∧ (x.2.2.1 < (((List.length x.1) : Nat) : Int)))) then ((Q9 k ((List.getD x.1 (Int.toNat x.2.2.1) ((0 : Int), ([], ([], ((0 : Int), ()))))).1, ((List.getD x.1 (Int.toNat x.2.2.1) ((0 : Int), ([], ([], ((0 : Int), ()))))).2.1, ((List.getD x.1 (Int.toNat x.2.2.1) ((0 : Int), ([], ([], ((0 : Int), ()))))).2.2.1, ((List.getD x.1 (Int.toNat x.2.2.1) ((0 : Int), ([], ([], ((0 : Int), ()))))).2.2.2.1, ()))))).bind fun t8 => let v9 : ByteArray := t8.1
 let v10 : Int := t8.2.1
 bif (v10 != (0 : Int)) then (ke (.inl ((⟨(List.toArray [])⟩ : ByteArray), (v10, ())))) else ((Ql k v9 (((), ((), ())), ()) x.2.2.2.2.1).bind fun t11 => let v12 : Int := (IntKind.wrap IntKind.i64 (x.2.2.1 + (1 : Int)))
 kn (x.1, (x.2.1, (v12, ((((), ((), ())), ()), (t11.2.1, ()))))))) else (none)) else (ke (.inr ((((), ((), ())), ()), (x.2.2.2.2.1, ()))))
def Qu.l0 (k : Nat) : Nat → Qu.l0.σ → Option Qu.l0.τ := Q15 (Qu.l0.r k)
def Qu.l0.T : StT := ⟨us 4 ++ .ptr 0 [] :: us 17 ++ .dat Qee :: .dat (.int .i64) :: .dat (.int .i64) :: us 20, [.pair (.pair (.sfp 0 [0] 201) (.pair (.vbs 1) (.dat .unit))) (.dat .unit), .vec (.int .u8)]⟩
def Qu.l0.os : List Out := [⟨.ret, [.mask [2, 3], .auto 0], ⟨us 2 ++ .dat .str :: .dat (.int .i64) :: us 41, []⟩⟩, ⟨(.exit 0), [.mask [4], .auto 0], ⟨us 4 ++ .ptr 0 [] :: us 40, [.pair (.pair (.sfp 0 [0] 201) (.pair (.vbs 1) (.dat .unit))) (.dat .unit), .vec (.int .u8)]⟩⟩]
def Qu.c (k : Nat) {ρ : Type} (b : Qef) (K : ByteArray × Int × Unit → Option ρ) : Option ρ :=
  (Q00 k ).bind fun t0 => (Q0K k (b.1.1, (b.1.2.1, (b.1.2.2.1, (b.1.2.2.2.1, (b.1.2.2.2.2.1, (b.1.2.2.2.2.2.1, ()))))))).bind fun t1 => (Ql k t1.1 (((), ((), ())), ()) t0.2.1).bind fun t2 => let v3 : Qek := b.2.1
  let v4 : Int := (((List.length v3) : Nat) : Int)
  (Qz k (IntKind.wrap IntKind.u64 v4) (((), ((), ())), ()) t2.2.1).bind fun t5 => let v6 : Qek := b.2.1
  let v7 : Int := (((List.length v6) : Nat) : Int)
  (Qu.l0 k k (v6, (v7, ((0 : Int), ((((), ((), ())), ()), (t5.2.1, ())))))).bind fun t13 => (match t13 with
 | .inl t14 => (K (t14.1, (t14.2.1, ())))
 | .inr (t15) => ((Q0g k (((), ((), ())), ()) t15.2.1).bind fun t16 => bif (decide (t16.1 > (8192 : Int))) then (K ((⟨(List.toArray [])⟩ : ByteArray), ((110 : Int), ()))) else ((QA k (((), ((), ())), ()) t16.2.2.1).bind fun t17 => K (t17.1, ((0 : Int), ())))))
def Qu (k : Nat) (b : Qef) : Option Qex := Qu.c k b some
def Qu.tin : List Ty := [Qed]
def Qu.tout : List Ty := [.str, (.int .i64)]
def Qu.sem (k : Nat) : Qj := Qn Qu.tin Qu.tout fun x => Qu k x.1
noncomputable def Qu.ctx (k : Nat) : Ctx := ⟨Tryz.prog, gam [(95, (Q00.sem k)), (67, (Q0K.sem k)), (99, (Ql.sem k)), (107, (Qz.sem k)), (74, (Q9.sem k)), (134, (Q0g.sem k)), (98, (QA.sem k))]⟩
theorem Qu.gok (k : Nat) : ∀ f, Qb Tryz.prog f ((Qu.ctx k).Γ f) := (Q7 (Q00.sem_ok k) (Q7 (Q0K.sem_ok k) (Q7 (Ql.sem_ok k) (Q7 (Qz.sem_ok k) (Q7 (Q9.sem_ok k) (Q7 (Q0g.sem_ok k) (Q7 (QA.sem_ok k) QE)))))))
theorem Qu.l0.round (k : Nat) : Q0V (Qu.ctx k) (Q0e (Func.code Tryz.f101) [1, 1, 1, 1, 0, 1, 0, 0]) (.nil) Qu.l0.T [.mask [4, 22, 23, 24], .auto 0] Qu.l0.os (Qu.l0.r k) := by
 intro ρ x kn ke; kernel_rfl
theorem Qu.l0.ok (k : Nat) : StOK 0 Tryz.prog (.loop (Q0e (Func.code Tryz.f101) [1, 1, 1, 1, 0, 1, 0, 0])) (Qv Qu.l0.T Qu.l0.os (Qu.l0 k k)) :=
 Q0X (C := Qu.ctx k) (Qu.gok k) Tryz.mix Q3.nil (by kernel_rfl) (by kernel_rfl) (by kernel_rfl) (Qu.l0.round k) k
def Qu.ann (k : Nat) : Ann := .node [] none (.nil) (.node [] none (.nil) (.node [] none (.nil) (.node [] none (.nil) (.node [] none (.node [] none (.nil) (.node [] none (.node [.mask [4, 22, 23, 24], .auto 0] (some (Qv Qu.l0.T Qu.l0.os (Qu.l0 k k))) .nil .nil) (.nil))) (.nil)))))
theorem Qu.body (k : Nat) : Q0M (Qu.ctx k) Tryz.f101 (Func.code Tryz.f101) (Qu.ann k) Qu.tin Qu.tout (fun x K => Qu.c k x.1 K) := by
 intro ρ x K; kernel_rfl
theorem Qu.sem_ok (k : Nat) : Qb Tryz.prog 101 (Qu.sem k) :=
 Qs (C := Qu.ctx k) (Qu.gok k) Tryz.mix (c := Func.code Tryz.f101) (ann := Qu.ann k) (tin := Qu.tin) (tout := Qu.tout) (fun x K => Qu.c k x.1 K) Tryz.func101 (by kernel_rfl) (by kernel_rfl) (Q3.seq Q3.nil (Q3.seq Q3.nil (Q3.seq Q3.nil (Q3.seq Q3.nil (Q3.seq (Q3.seq Q3.nil (Q3.block (Q3.loop (by kernel_rfl) (Qu.l0.ok k)))) Q3.nil))))) (Qu.body k)
def Q0T.c (k : Nat) {ρ : Type} (n : Int) (K : (List Int) × Unit → Option ρ) : Option ρ :=
 let v0 : (List Int) := (List.set (List.replicate 4 (0 : Int)) 0 n)
 K (v0, ())
def Q0T (k : Nat) (n : Int) : Option QeA := Q0T.c k n some
def Q0T.tin : List Ty := [(.int .u64)]
def Q0T.tout : List Ty := [Qez]
def Q0T.sem (k : Nat) : Qj := Qn Q0T.tin Q0T.tout fun x => Q0T k x.1
noncomputable def Q0T.ctx (k : Nat) : Ctx := ⟨Tryz.prog, gam []⟩
theorem Q0T.gok (k : Nat) : ∀ f, Qb Tryz.prog f ((Q0T.ctx k).Γ f) := QE
def Q0T.ann (k : Nat) : Ann := .nil
theorem Q0T.body (k : Nat) : Q0M (Q0T.ctx k) Tryz.f189 (Func.code Tryz.f189) (Q0T.ann k) Q0T.tin Q0T.tout (fun x K => Q0T.c k x.1 K) := by
 intro ρ x K; kernel_rfl
theorem Q0T.sem_ok (k : Nat) : Qb Tryz.prog 189 (Q0T.sem k) :=
 Qs (C := Q0T.ctx k) (Q0T.gok k) Tryz.mix (c := Func.code Tryz.f189) (ann := Q0T.ann k) (tin := Q0T.tin) (tout := Q0T.tout) (fun x K => Q0T.c k x.1 K) Tryz.func189 (by kernel_rfl) (by kernel_rfl) Q3.nil (Q0T.body k)
def Q1d (k : Nat) (a0 : (List Int)) (a1 : Int) : Option QeA := none
def Q1d.tin : List Ty := [Qez, (.int .i64)]
def Q1d.tout : List Ty := [Qez]
def Q1d.sem (k : Nat) : Qj := Qn Q1d.tin Q1d.tout fun x => Q1d k x.1 x.2.1
theorem Q1d.sem_ok (k : Nat) : Qb Tryz.prog 193 (Q1d.sem k) := Q9E fun _ => rfl
def Q0O.c (k : Nat) {ρ : Type} (a : (List Int)) (K : Bool × Unit → Option ρ) : Option ρ :=
 let v0 : (List Int) := (List.replicate 4 (0 : Int))
 K ((decide (a = v0)), ())
def Q0O (k : Nat) (a : (List Int)) : Option (Bool × Unit) := Q0O.c k a some
def Q0O.tin : List Ty := [Qez]
def Q0O.tout : List Ty := [.bool]
def Q0O.sem (k : Nat) : Qj := Qn Q0O.tin Q0O.tout fun x => Q0O k x.1
noncomputable def Q0O.ctx (k : Nat) : Ctx := ⟨Tryz.prog, gam []⟩
theorem Q0O.gok (k : Nat) : ∀ f, Qb Tryz.prog f ((Q0O.ctx k).Γ f) := QE
def Q0O.ann (k : Nat) : Ann := .nil
theorem Q0O.body (k : Nat) : Q0M (Q0O.ctx k) Tryz.f184 (Func.code Tryz.f184) (Q0O.ann k) Q0O.tin Q0O.tout (fun x K => Q0O.c k x.1 K) := by
 intro ρ x K; kernel_rfl
theorem Q0O.sem_ok (k : Nat) : Qb Tryz.prog 184 (Q0O.sem k) :=
 Qs (C := Q0O.ctx k) (Q0O.gok k) Tryz.mix (c := Func.code Tryz.f184) (ann := Q0O.ann k) (tin := Q0O.tin) (tout := Q0O.tout) (fun x K => Q0O.c k x.1 K) Tryz.func184 (by kernel_rfl) (by kernel_rfl) Q3.nil (Q0O.body k)
abbrev Q5.p0.σ : Type := Int × Int × Unit
abbrev Q5.p0.τ : Type := (Int × Int × Unit)
def Q5.p0.r (k : Nat) {ρ : Type} (x : Q5.p0.σ) (K : Q5.p0.τ → Option ρ) : Option ρ :=
 bif (decide (x.1 ≥ (4294967296 : Int))) then (let v0 : Int := (Q2H IntKind.u64 x.1 (32 : Int))
 K (v0, ((32 : Int), ()))) else (K (x.1, (x.2.1, ())))
def Q5.p0 (k : Nat) (x : Q5.p0.σ) : Option Q5.p0.τ := Q5.p0.r k x some
def Q5.p0.T : StT := ⟨.dat (.int .u64) :: us 1 ++ .dat (.int .i64) :: us 22, []⟩
def Q5.p0.os : List Out := [⟨.normal, [.mask [0, 2], .auto 0], ⟨.dat (.int .u64) :: us 1 ++ .dat (.int .i64) :: us 22, []⟩⟩]
abbrev Q5.p1.σ : Type := Int × Int × Unit
abbrev Q5.p1.τ : Type := (Int × Int × Unit)
def Q5.p1.r (k : Nat) {ρ : Type} (x : Q5.p1.σ) (K : Q5.p1.τ → Option ρ) : Option ρ :=
 bif (decide (x.1 ≥ (65536 : Int))) then (let v2 : Int := (Q2H IntKind.u64 x.1 (16 : Int))
 let v3 : Int := (IntKind.wrap IntKind.i64 (x.2.1 + (16 : Int)))
 K (v2, (v3, ()))) else (K (x.1, (x.2.1, ())))
def Q5.p1 (k : Nat) (x : Q5.p1.σ) : Option Q5.p1.τ := Q5.p1.r k x some
def Q5.p1.T : StT := ⟨.dat (.int .u64) :: us 1 ++ .dat (.int .i64) :: us 22, []⟩
def Q5.p1.os : List Out := [⟨.normal, [.mask [0, 2], .auto 0], ⟨.dat (.int .u64) :: us 1 ++ .dat (.int .i64) :: us 22, []⟩⟩]
def Q5.c (k : Nat) {ρ : Type} (x_0 : Int) (K : Int × Unit → Option ρ) : Option ρ :=
 (Q5.p0 k (x_0, ((0 : Int), ()))).bind fun t1 => (Q5.p1 k (t1.1, (t1.2.1, ()))).bind fun t4 => bif (decide (t4.1 ≥ (256 : Int))) then (let v5 : Int := (Q2H IntKind.u64 t4.1 (8 : Int))
 let v6 : Int := (IntKind.wrap IntKind.i64 (t4.2.1 + (8 : Int)))
 bif (decide (((0 : Int) ≤ (IntKind.wrap IntKind.u8 v5)) ∧ ((IntKind.wrap IntKind.u8 v5) < ((256 : Nat) : Int)))) then (let v7 : Int := (Q7q (⟨(List.toArray (List.append (List.append [0, 1, 2, 2, 3, 3, 3, 3, 4, 4, 4, 4, 4, 4, 4, 4, 5, 5, 5, 5, 5, 5, 5, 5, 5, 5, 5, 5, 5, 5, 5, 5, 6, 6, 6, 6, 6, 6, 6, 6, 6, 6, 6, 6, 6, 6, 6, 6, 6, 6, 6, 6, 6, 6, 6, 6, 6, 6, 6, 6, 6, 6, 6, 6] [7, 7, 7, 7, 7, 7, 7, 7, 7, 7, 7, 7, 7, 7, 7, 7, 7, 7, 7, 7, 7, 7, 7, 7, 7, 7, 7, 7, 7, 7, 7, 7, 7, 7, 7, 7, 7, 7, 7, 7, 7, 7, 7, 7, 7, 7, 7, 7, 7, 7, 7, 7, 7, 7, 7, 7, 7, 7, 7, 7, 7, 7, 7, 7]) (List.append [8, 8, 8, 8, 8, 8, 8, 8, 8, 8, 8, 8, 8, 8, 8, 8, 8, 8, 8, 8, 8, 8, 8, 8, 8, 8, 8, 8, 8, 8, 8, 8, 8, 8, 8, 8, 8, 8, 8, 8, 8, 8, 8, 8, 8, 8, 8, 8, 8, 8, 8, 8, 8, 8, 8, 8, 8, 8, 8, 8, 8, 8, 8, 8] [8, 8, 8, 8, 8, 8, 8, 8, 8, 8, 8, 8, 8, 8, 8, 8, 8, 8, 8, 8, 8, 8, 8, 8, 8, 8, 8, 8, 8, 8, 8, 8, 8, 8, 8, 8, 8, 8, 8, 8, 8, 8, 8, 8, 8, 8, 8, 8, 8, 8, 8, 8, 8, 8, 8, 8, 8, 8, 8, 8, 8, 8, 8, 8])))⟩ : ByteArray) (Int.toNat (IntKind.wrap IntKind.u8 v5)))
 let v8 : Int := (IntKind.wrap IntKind.i64 (v6 + (IntKind.wrap IntKind.i64 v7)))
 K (v8, ())) else (none)) else (let v9 : Int := (IntKind.wrap IntKind.u8 t4.1)
 bif (decide (((0 : Int) ≤ v9) ∧ (v9 < ((256 : Nat) : Int)))) then (let v10 : Int := (Q7q (⟨(List.toArray (List.append (List.append [0, 1, 2, 2, 3, 3, 3, 3, 4, 4, 4, 4, 4, 4, 4, 4, 5, 5, 5, 5, 5, 5, 5, 5, 5, 5, 5, 5, 5, 5, 5, 5, 6, 6, 6, 6, 6, 6, 6, 6, 6, 6, 6, 6, 6, 6, 6, 6, 6, 6, 6, 6, 6, 6, 6, 6, 6, 6, 6, 6, 6, 6, 6, 6] [7, 7, 7, 7, 7, 7, 7, 7, 7, 7, 7, 7, 7, 7, 7, 7, 7, 7, 7, 7, 7, 7, 7, 7, 7, 7, 7, 7, 7, 7, 7, 7, 7, 7, 7, 7, 7, 7, 7, 7, 7, 7, 7, 7, 7, 7, 7, 7, 7, 7, 7, 7, 7, 7, 7, 7, 7, 7, 7, 7, 7, 7, 7, 7]) (List.append [8, 8, 8, 8, 8, 8, 8, 8, 8, 8, 8, 8, 8, 8, 8, 8, 8, 8, 8, 8, 8, 8, 8, 8, 8, 8, 8, 8, 8, 8, 8, 8, 8, 8, 8, 8, 8, 8, 8, 8, 8, 8, 8, 8, 8, 8, 8, 8, 8, 8, 8, 8, 8, 8, 8, 8, 8, 8, 8, 8, 8, 8, 8, 8] [8, 8, 8, 8, 8, 8, 8, 8, 8, 8, 8, 8, 8, 8, 8, 8, 8, 8, 8, 8, 8, 8, 8, 8, 8, 8, 8, 8, 8, 8, 8, 8, 8, 8, 8, 8, 8, 8, 8, 8, 8, 8, 8, 8, 8, 8, 8, 8, 8, 8, 8, 8, 8, 8, 8, 8, 8, 8, 8, 8, 8, 8, 8, 8])))⟩ : ByteArray) (Int.toNat v9))
 let v11 : Int := (IntKind.wrap IntKind.i64 (t4.2.1 + (IntKind.wrap IntKind.i64 v10)))
 K (v11, ())) else (none))
def Q5 (k : Nat) (x_0 : Int) : Option (Int × Unit) := Q5.c k x_0 some
def Q5.tin : List Ty := [(.int .u64)]
def Q5.tout : List Ty := [(.int .i64)]
def Q5.sem (k : Nat) : Qj := Qn Q5.tin Q5.tout fun x => Q5 k x.1
noncomputable def Q5.ctx (k : Nat) : Ctx := ⟨Tryz.prog, gam []⟩
theorem Q5.gok (k : Nat) : ∀ f, Qb Tryz.prog f ((Q5.ctx k).Γ f) := QE
theorem Q5.p1.is (k : Nat) : Q45 (Q5.ctx k) (Q0e (Func.code Tryz.f125) [1, 1, 0]) (.nil) Q5.p1.T Q5.p1.os (Q5.p1.r k) := by
 intro ρ x K; kernel_rfl
theorem Q5.p1.ok (k : Nat) : StOK 0 Tryz.prog (Q0e (Func.code Tryz.f125) [1, 1, 0]) (Qv Q5.p1.T Q5.p1.os (Q5.p1 k)) :=
 Q3Z (C := Q5.ctx k) (T := Q5.p1.T) (os := Q5.p1.os) (Q5.gok k) Tryz.mix (fun x K => Q5.p1.r k x K) Q3.nil (by kernel_rfl) (by kernel_rfl) (Q5.p1.is k)
theorem Q5.p0.is (k : Nat) : Q45 (Q5.ctx k) (Q0e (Func.code Tryz.f125) [1, 0]) (.nil) Q5.p0.T Q5.p0.os (Q5.p0.r k) := by
 intro ρ x K; kernel_rfl
theorem Q5.p0.ok (k : Nat) : StOK 0 Tryz.prog (Q0e (Func.code Tryz.f125) [1, 0]) (Qv Q5.p0.T Q5.p0.os (Q5.p0 k)) :=
 Q3Z (C := Q5.ctx k) (T := Q5.p0.T) (os := Q5.p0.os) (Q5.gok k) Tryz.mix (fun x K => Q5.p0.r k x K) Q3.nil (by kernel_rfl) (by kernel_rfl) (Q5.p0.is k)
def Q5.ann (k : Nat) : Ann := .node [] none (.nil) (.node [] none (.node [] (some (Qv Q5.p0.T Q5.p0.os (Q5.p0 k))) .nil .nil) (.node [] none (.node [] (some (Qv Q5.p1.T Q5.p1.os (Q5.p1 k))) .nil .nil) (.nil)))
theorem Q5.body (k : Nat) : Q0M (Q5.ctx k) Tryz.f125 (Func.code Tryz.f125) (Q5.ann k) Q5.tin Q5.tout (fun x K => Q5.c k x.1 K) := by
 intro ρ x K; kernel_rfl
theorem Q5.sem_ok (k : Nat) : Qb Tryz.prog 125 (Q5.sem k) :=
 Qs (C := Q5.ctx k) (Q5.gok k) Tryz.mix (c := Func.code Tryz.f125) (ann := Q5.ann k) (tin := Q5.tin) (tout := Q5.tout) (fun x K => Q5.c k x.1 K) Tryz.func125 (by kernel_rfl) (by kernel_rfl) (Q3.seq Q3.nil (Q3.seq (Q3.loop (by kernel_rfl) (Q5.p0.ok k)) (Q3.seq (Q3.loop (by kernel_rfl) (Q5.p1.ok k)) Q3.nil))) (Q5.body k)
abbrev Q0c.l0.σ : Type := Int × (List Int) × Unit
abbrev Q0c.l0.τ : Type := (Int × Unit) ⊕ (Unit)
def Q0c.l0.r (k : Nat) {ρ : Type} (x : Q0c.l0.σ) (kn : Q0c.l0.σ → Option ρ) (ke : Q0c.l0.τ → Option ρ) : Option ρ :=
 bif (decide (x.1 ≥ (0 : Int))) then (bif (decide (((0 : Int) ≤ x.1) ∧ (x.1 < ((4 : Nat) : Int)))) then (let v0 : Int := (List.getD x.2.1 (Int.toNat x.1) (0 : Int))
 bif (v0 != (0 : Int)) then (let v1 : Int := (IntKind.wrap IntKind.i64 (x.1 * (64 : Int)))
 bif (decide (((0 : Int) ≤ x.1) ∧ (x.1 < ((4 : Nat) : Int)))) then (let v2 : Int := (List.getD x.2.1 (Int.toNat x.1) (0 : Int))
 (Q5 k v2).bind fun t3 => let v4 : Int := (IntKind.wrap IntKind.i64 (v1 + t3.1))
 ke (.inl (v4, ()))) else (none)) else (let v5 : Int := (IntKind.wrap IntKind.i64 (x.1 - (1 : Int)))
 kn (v5, (x.2.1, ())))) else (none)) else (ke (.inr ()))
def Q0c.l0 (k : Nat) : Nat → Q0c.l0.σ → Option Q0c.l0.τ := Q15 (Q0c.l0.r k)
def Q0c.l0.T : StT := ⟨us 1 ++ .ptr 0 [] :: us 1 ++ .dat (.int .i64) :: us 15, [.dat Qez]⟩
def Q0c.l0.os : List Out := [⟨.ret, [.mask [2], .auto 0], ⟨us 2 ++ .dat (.int .i64) :: us 16, []⟩⟩, ⟨(.exit 0), [.mask [], .auto 0], ⟨us 19, []⟩⟩]
def Q0c.c (k : Nat) {ρ : Type} (a : (List Int)) (K : Int × Unit → Option ρ) : Option ρ :=
  (Q0c.l0 k k ((3 : Int), (a, ()))).bind fun t6 => (match t6 with
 | .inl t7 => (K (t7.1, ()))
 | .inr (t8) => (K ((0 : Int), ())))
def Q0c (k : Nat) (a : (List Int)) : Option (Int × Unit) := Q0c.c k a some
def Q0c.tin : List Ty := [Qez]
def Q0c.tout : List Ty := [(.int .i64)]
def Q0c.sem (k : Nat) : Qj := Qn Q0c.tin Q0c.tout fun x => Q0c k x.1
noncomputable def Q0c.ctx (k : Nat) : Ctx := ⟨Tryz.prog, gam [(125, (Q5.sem k))]⟩
theorem Q0c.gok (k : Nat) : ∀ f, Qb Tryz.prog f ((Q0c.ctx k).Γ f) := (Q7 (Q5.sem_ok k) QE)
theorem Q0c.l0.round (k : Nat) : Q0V (Q0c.ctx k) (Q0e (Func.code Tryz.f191) [1, 0, 1, 0, 0]) (.nil) Q0c.l0.T [.mask [1, 3], .auto 0] Q0c.l0.os (Q0c.l0.r k) := by
 intro ρ x kn ke; kernel_rfl
theorem Q0c.l0.ok (k : Nat) : StOK 0 Tryz.prog (.loop (Q0e (Func.code Tryz.f191) [1, 0, 1, 0, 0])) (Qv Q0c.l0.T Q0c.l0.os (Q0c.l0 k k)) :=
 Q0X (C := Q0c.ctx k) (Q0c.gok k) Tryz.mix Q3.nil (by kernel_rfl) (by kernel_rfl) (by kernel_rfl) (Q0c.l0.round k) k
def Q0c.ann (k : Nat) : Ann := .node [] none (.nil) (.node [] none (.node [] none (.nil) (.node [] none (.node [.mask [1, 3], .auto 0] (some (Qv Q0c.l0.T Q0c.l0.os (Q0c.l0 k k))) .nil .nil) (.nil))) (.nil))
theorem Q0c.body (k : Nat) : Q0M (Q0c.ctx k) Tryz.f191 (Func.code Tryz.f191) (Q0c.ann k) Q0c.tin Q0c.tout (fun x K => Q0c.c k x.1 K) := by
 intro ρ x K; kernel_rfl
theorem Q0c.sem_ok (k : Nat) : Qb Tryz.prog 191 (Q0c.sem k) :=
 Qs (C := Q0c.ctx k) (Q0c.gok k) Tryz.mix (c := Func.code Tryz.f191) (ann := Q0c.ann k) (tin := Q0c.tin) (tout := Q0c.tout) (fun x K => Q0c.c k x.1 K) Tryz.func191 (by kernel_rfl) (by kernel_rfl) (Q3.seq Q3.nil (Q3.seq (Q3.seq Q3.nil (Q3.block (Q3.loop (by kernel_rfl) (Q0c.l0.ok k)))) Q3.nil)) (Q0c.body k)
abbrev Q0b.l0.σ : Type := Int × Int × (List Int) × (List Int) × (List Int) × Unit
abbrev Q0b.l0.τ : Type := (Int × (List Int) × (List Int) × (List Int) × Unit)
def Q0b.l0.r (k : Nat) {ρ : Type} (x : Q0b.l0.σ) (kn : Q0b.l0.σ → Option ρ) (ke : Q0b.l0.τ → Option ρ) : Option ρ :=
 let v5 : Int := (IntKind.wrap IntKind.i64 (Int.tdiv x.1 (64 : Int)))
 bif (decide (x.2.1 ≥ v5)) then (let v6 : Int := (IntKind.wrap IntKind.i64 (Int.tdiv x.1 (64 : Int)))
 let v7 : Int := (IntKind.wrap IntKind.i64 (x.2.1 - v6))
 bif (decide (((0 : Int) ≤ v7) ∧ (v7 < ((4 : Nat) : Int)))) then (let v8 : Int := (List.getD x.2.2.1 (Int.toNat v7) (0 : Int))
 let v9 : Int := (Int.tmod x.1 (64 : Int))
 bif (decide ((0 : Int) ≤ v9)) then (bif (decide (((0 : Int) ≤ x.2.1) ∧ (x.2.1 < ((4 : Nat) : Int)))) then (bif (decide (v7 > (0 : Int))) then (bif (decide (((0 : Int) ≤ x.2.1) ∧ (x.2.1 < ((4 : Nat) : Int)))) then (let v10 : Int := (List.getD (List.set x.2.2.2.2.1 (Int.toNat x.2.1) (Q4p IntKind.u64 v8 v9)) (Int.toNat x.2.1) (0 : Int))
 let v11 : Int := (IntKind.wrap IntKind.i64 (v7 - (1 : Int)))
 bif (decide (((0 : Int) ≤ v11) ∧ (v11 < ((4 : Nat) : Int)))) then (let v12 : Int := (List.getD x.2.2.1 (Int.toNat v11) (0 : Int))
 let v13 : Int := (Int.tmod x.1 (64 : Int))
 let v14 : Int := (IntKind.wrap IntKind.i64 ((64 : Int) - v13))
 bif (decide ((0 : Int) ≤ v14)) then (let v15 : Int := (Q1o BinOp.or IntKind.u64 v10 (Q2H IntKind.u64 v12 v14))
 bif (decide (((0 : Int) ≤ x.2.1) ∧ (x.2.1 < ((4 : Nat) : Int)))) then (let v16 : Int := (IntKind.wrap IntKind.i64 (x.2.1 - (1 : Int)))
 kn (x.1, (v16, (x.2.2.1, (x.2.2.2.1, ((List.set (List.set x.2.2.2.2.1 (Int.toNat x.2.1) (Q4p IntKind.u64 v8 v9)) (Int.toNat x.2.1) v15), ())))))) else (none)) else (none)) else (none)) else (none)) else (let v17 : Int := (IntKind.wrap IntKind.i64 (x.2.1 - (1 : Int)))
 kn (x.1, (v17, (x.2.2.1, (x.2.2.2.1, ((List.set x.2.2.2.2.1 (Int.toNat x.2.1) (Q4p IntKind.u64 v8 v9)), ()))))))) else (none)) else (none)) else (none)) else (ke (x.1, (x.2.2.1, (x.2.2.2.1, (x.2.2.2.2.1, ())))))
def Q0b.l0 (k : Nat) : Nat → Q0b.l0.σ → Option Q0b.l0.τ := Q15 (Q0b.l0.r k)
def Q0b.l0.T : StT := ⟨us 1 ++ .dat (.int .i64) :: .ptr 0 [] :: us 1 ++ .ptr 1 [] :: us 1 ++ .ptr 2 [] :: .dat (.int .i64) :: us 55, [.dat Qez, .dat Qez, .dat Qez]⟩
def Q0b.l0.os : List Out := [⟨(.exit 1), [.mask [1, 2, 4, 6], .auto 0], ⟨us 1 ++ .dat (.int .i64) :: .ptr 0 [] :: us 1 ++ .ptr 1 [] :: us 1 ++ .ptr 2 [] :: us 56, [.dat Qez, .dat Qez, .dat Qez]⟩⟩]
def Q0b.c (k : Nat) {ρ : Type} (a : (List Int)) (n : Int) (K : (List Int) × Bool × Unit → Option ρ) : Option ρ :=
 bif (decide (n < (0 : Int))) then (let v0 : Int := (if ((-(256 : Int)) > n) then (-(256 : Int)) else n)
 let v1 : Int := (IntKind.wrap IntKind.i64 ((0 : Int) - v0))
 (Q1d k a v1).bind fun t2 => K (t2.1, (false, ()))) else (bif (decide (n ≥ (256 : Int))) then (let v3 : (List Int) := (List.replicate 4 (0 : Int))
 (Q0O k a).bind fun t4 => K (v3, ((!t4.1), ()))) else ((Q0b.l0 k k (n, ((3 : Int), (a, ((List.replicate 4 (0 : Int)), ((List.replicate 4 (0 : Int)), ())))))).bind fun t18 => let v19 : (List Int) := t18.2.2.2.1
 let v20 : (List Int) := t18.2.1
 (Q0c k v20).bind fun t21 => let v22 : Int := (IntKind.wrap IntKind.i64 (t21.1 + t18.1))
 K (v19, ((decide (v22 > (256 : Int))), ()))))
def Q0b (k : Nat) (a : (List Int)) (n : Int) : Option ((List Int) × Bool × Unit) := Q0b.c k a n some
def Q0b.tin : List Ty := [Qez, (.int .i64)]
def Q0b.tout : List Ty := [Qez, .bool]
def Q0b.sem (k : Nat) : Qj := Qn Q0b.tin Q0b.tout fun x => Q0b k x.1 x.2.1
noncomputable def Q0b.ctx (k : Nat) : Ctx := ⟨Tryz.prog, gam [(193, (Q1d.sem k)), (184, (Q0O.sem k)), (191, (Q0c.sem k))]⟩
theorem Q0b.gok (k : Nat) : ∀ f, Qb Tryz.prog f ((Q0b.ctx k).Γ f) := (Q7 (Q1d.sem_ok k) (Q7 (Q0O.sem_ok k) (Q7 (Q0c.sem_ok k) QE)))
theorem Q0b.l0.round (k : Nat) : Q0V (Q0b.ctx k) (Q0e (Func.code Tryz.f194) [1, 1, 1, 0, 1, 0, 0]) (.nil) Q0b.l0.T [.mask [1, 2, 4, 6, 7], .auto 0] Q0b.l0.os (Q0b.l0.r k) := by
 intro ρ x kn ke; kernel_rfl
theorem Q0b.l0.ok (k : Nat) : StOK 0 Tryz.prog (.loop (Q0e (Func.code Tryz.f194) [1, 1, 1, 0, 1, 0, 0])) (Qv Q0b.l0.T Q0b.l0.os (Q0b.l0 k k)) :=
 Q0X (C := Q0b.ctx k) (Q0b.gok k) Tryz.mix Q3.nil (by kernel_rfl) (by kernel_rfl) (by kernel_rfl) (Q0b.l0.round k) k
def Q0b.ann (k : Nat) : Ann := .node [] none (.nil) (.node [] none (.nil) (.node [] none (.nil) (.node [] none (.node [] none (.nil) (.node [] none (.node [.mask [1, 2, 4, 6, 7], .auto 0] (some (Qv Q0b.l0.T Q0b.l0.os (Q0b.l0 k k))) .nil .nil) (.nil))) (.nil))))
theorem Q0b.body (k : Nat) : Q0M (Q0b.ctx k) Tryz.f194 (Func.code Tryz.f194) (Q0b.ann k) Q0b.tin Q0b.tout (fun x K => Q0b.c k x.1 x.2.1 K) := by
 intro ρ x K; kernel_rfl
theorem Q0b.sem_ok (k : Nat) : Qb Tryz.prog 194 (Q0b.sem k) :=
 Qs (C := Q0b.ctx k) (Q0b.gok k) Tryz.mix (c := Func.code Tryz.f194) (ann := Q0b.ann k) (tin := Q0b.tin) (tout := Q0b.tout) (fun x K => Q0b.c k x.1 x.2.1 K) Tryz.func194 (by kernel_rfl) (by kernel_rfl) (Q3.seq Q3.nil (Q3.seq Q3.nil (Q3.seq Q3.nil (Q3.seq (Q3.seq Q3.nil (Q3.block (Q3.loop (by kernel_rfl) (Q0b.l0.ok k)))) Q3.nil)))) (Q0b.body k)
abbrev QR.l0.σ : Type := Int × Int × (List Int) × (List Int) × (List Int) × Unit
abbrev QR.l0.τ : Type := ((List Int) × (List Int) × Unit)
def QR.l0.r (k : Nat) {ρ : Type} (x : QR.l0.σ) (kn : QR.l0.σ → Option ρ) (ke : QR.l0.τ → Option ρ) : Option ρ :=
 let v5 : Int := (IntKind.wrap IntKind.i64 (Int.tdiv x.1 (64 : Int)))
 let v6 : Int := (IntKind.wrap IntKind.i64 (x.2.1 + v5))
 bif (decide (v6 < (4 : Int))) then (let v7 : Int := (IntKind.wrap IntKind.i64 (Int.tdiv x.1 (64 : Int)))
 let v8 : Int := (IntKind.wrap IntKind.i64 (x.2.1 + v7))
 bif (decide (((0 : Int) ≤ v8) ∧ (v8 < ((4 : Nat) : Int)))) then (let v9 : Int := (List.getD x.2.2.1 (Int.toNat v8) (0 : Int))
 let v10 : Int := (Int.tmod x.1 (64 : Int))
 bif (decide ((0 : Int) ≤ v10)) then (bif (decide (((0 : Int) ≤ x.2.1) ∧ (x.2.1 < ((4 : Nat) : Int)))) then (let v11 : Int := (IntKind.wrap IntKind.i64 (v8 + (1 : Int)))
 bif (decide (v11 < (4 : Int))) then (bif (decide (((0 : Int) ≤ x.2.1) ∧ (x.2.1 < ((4 : Nat) : Int)))) then (let v12 : Int := (List.getD (List.set x.2.2.2.2.1 (Int.toNat x.2.1) (Q2H IntKind.u64 v9 v10)) (Int.toNat x.2.1) (0 : Int))
 let v13 : Int := (IntKind.wrap IntKind.i64 (v8 + (1 : Int)))
 bif (decide (((0 : Int) ≤ v13) ∧ (v13 < ((4 : Nat) : Int)))) then (let v14 : Int := (List.getD x.2.2.1 (Int.toNat v13) (0 : Int))
 let v15 : Int := (Int.tmod x.1 (64 : Int))
 let v16 : Int := (IntKind.wrap IntKind.i64 ((64 : Int) - v15))
 bif (decide ((0 : Int) ≤ v16)) then (let v17 : Int := (Q1o BinOp.or IntKind.u64 v12 (Q4p IntKind.u64 v14 v16))
 bif (decide (((0 : Int) ≤ x.2.1) ∧ (x.2.1 < ((4 : Nat) : Int)))) then (let v18 : Int := (IntKind.wrap IntKind.i64 (x.2.1 + (1 : Int)))
 kn (x.1, (v18, (x.2.2.1, (x.2.2.2.1, ((List.set (List.set x.2.2.2.2.1 (Int.toNat x.2.1) (Q2H IntKind.u64 v9 v10)) (Int.toNat x.2.1) v17), ())))))) else (none)) else (none)) else (none)) else (none)) else (let v19 : Int := (IntKind.wrap IntKind.i64 (x.2.1 + (1 : Int)))
 kn (x.1, (v19, (x.2.2.1, (x.2.2.2.1, ((List.set x.2.2.2.2.1 (Int.toNat x.2.1) (Q2H IntKind.u64 v9 v10)), ()))))))) else (none)) else (none)) else (none)) else (ke (x.2.2.2.1, (x.2.2.2.2.1, ())))
def QR.l0 (k : Nat) : Nat → QR.l0.σ → Option QR.l0.τ := Q15 (QR.l0.r k)
def QR.l0.T : StT := ⟨us 1 ++ .dat (.int .i64) :: .ptr 0 [] :: us 1 ++ .ptr 1 [] :: us 2 ++ .ptr 2 [] :: .dat (.int .i64) :: us 53, [.dat Qez, .dat Qez, .dat Qez]⟩
def QR.l0.os : List Out := [⟨(.exit 1), [.mask [4, 7], .auto 0], ⟨us 4 ++ .ptr 0 [] :: us 2 ++ .ptr 1 [] :: us 54, [.dat Qez, .dat Qez]⟩⟩]
def QR.c (k : Nat) {ρ : Type} (a : (List Int)) (n : Int) (K : (List Int) × Unit → Option ρ) : Option ρ :=
 bif (decide (n < (0 : Int))) then (let v0 : Int := (if ((-(256 : Int)) > n) then (-(256 : Int)) else n)
 let v1 : Int := (IntKind.wrap IntKind.i64 ((0 : Int) - v0))
 (Q0b k a v1).bind fun t2 => let v3 : (List Int) := t2.1
 K (v3, ())) else (bif (decide (n ≥ (256 : Int))) then (let v4 : (List Int) := (List.replicate 4 (0 : Int))
 K (v4, ())) else ((QR.l0 k k (n, ((0 : Int), (a, ((List.replicate 4 (0 : Int)), ((List.replicate 4 (0 : Int)), ())))))).bind fun t20 => let v21 : (List Int) := t20.2.1
 K (v21, ())))
def QR (k : Nat) (a : (List Int)) (n : Int) : Option QeA := QR.c k a n some
def QR.tin : List Ty := [Qez, (.int .i64)]
def QR.tout : List Ty := [Qez]
def QR.sem (k : Nat) : Qj := Qn QR.tin QR.tout fun x => QR k x.1 x.2.1
noncomputable def QR.ctx (k : Nat) : Ctx := ⟨Tryz.prog, gam [(194, (Q0b.sem k))]⟩
theorem QR.gok (k : Nat) : ∀ f, Qb Tryz.prog f ((QR.ctx k).Γ f) := (Q7 (Q0b.sem_ok k) QE)
theorem QR.l0.round (k : Nat) : Q0V (QR.ctx k) (Q0e (Func.code Tryz.f193) [1, 1, 1, 0, 1, 0, 0]) (.nil) QR.l0.T [.mask [1, 2, 4, 7, 8], .auto 0] QR.l0.os (QR.l0.r k) := by
 intro ρ x kn ke; kernel_rfl
theorem QR.l0.ok (k : Nat) : StOK 0 Tryz.prog (.loop (Q0e (Func.code Tryz.f193) [1, 1, 1, 0, 1, 0, 0])) (Qv QR.l0.T QR.l0.os (QR.l0 k k)) :=
 Q0X (C := QR.ctx k) (QR.gok k) Tryz.mix Q3.nil (by kernel_rfl) (by kernel_rfl) (by kernel_rfl) (QR.l0.round k) k
def QR.ann (k : Nat) : Ann := .node [] none (.nil) (.node [] none (.nil) (.node [] none (.nil) (.node [] none (.node [] none (.nil) (.node [] none (.node [.mask [1, 2, 4, 7, 8], .auto 0] (some (Qv QR.l0.T QR.l0.os (QR.l0 k k))) .nil .nil) (.nil))) (.nil))))
theorem QR.body (k : Nat) : Q0M (QR.ctx k) Tryz.f193 (Func.code Tryz.f193) (QR.ann k) QR.tin QR.tout (fun x K => QR.c k x.1 x.2.1 K) := by
 intro ρ x K; kernel_rfl
theorem QR.sem_ok (k : Nat) : Qb Tryz.prog 193 (QR.sem k) :=
 Qs (C := QR.ctx k) (QR.gok k) Tryz.mix (c := Func.code Tryz.f193) (ann := QR.ann k) (tin := QR.tin) (tout := QR.tout) (fun x K => QR.c k x.1 x.2.1 K) Tryz.func193 (by kernel_rfl) (by kernel_rfl) (Q3.seq Q3.nil (Q3.seq Q3.nil (Q3.seq Q3.nil (Q3.seq (Q3.seq Q3.nil (Q3.block (Q3.loop (by kernel_rfl) (QR.l0.ok k)))) Q3.nil)))) (QR.body k)
def Q0j.c (k : Nat) {ρ : Type} (w : (List Int)) (bytes : Int) (K : (List Int) × Unit → Option ρ) : Option ρ :=
 bif (decide (bytes < (0 : Int))) then (let v0 : Int := (IntKind.wrap IntKind.i64 ((0 : Int) - bytes))
 let v1 : Int := (IntKind.wrap IntKind.i64 (v0 * (8 : Int)))
 (QR k w v1).bind fun t2 => K (t2.1, ())) else (let v3 : Int := (IntKind.wrap IntKind.i64 (bytes * (8 : Int)))
 (Q0b k w v3).bind fun t4 => let v5 : (List Int) := t4.1
 K (v5, ()))
def Q0j (k : Nat) (w : (List Int)) (bytes : Int) : Option QeA := Q0j.c k w bytes some
def Q0j.tin : List Ty := [Qez, (.int .i64)]
def Q0j.tout : List Ty := [Qez]
def Q0j.sem (k : Nat) : Qj := Qn Q0j.tin Q0j.tout fun x => Q0j k x.1 x.2.1
noncomputable def Q0j.ctx (k : Nat) : Ctx := ⟨Tryz.prog, gam [(193, (QR.sem k)), (194, (Q0b.sem k))]⟩
theorem Q0j.gok (k : Nat) : ∀ f, Qb Tryz.prog f ((Q0j.ctx k).Γ f) := (Q7 (QR.sem_ok k) (Q7 (Q0b.sem_ok k) QE))
def Q0j.ann (k : Nat) : Ann := .nil
theorem Q0j.body (k : Nat) : Q0M (Q0j.ctx k) Tryz.f190 (Func.code Tryz.f190) (Q0j.ann k) Q0j.tin Q0j.tout (fun x K => Q0j.c k x.1 x.2.1 K) := by
 intro ρ x K; kernel_rfl
theorem Q0j.sem_ok (k : Nat) : Qb Tryz.prog 190 (Q0j.sem k) :=
 Qs (C := Q0j.ctx k) (Q0j.gok k) Tryz.mix (c := Func.code Tryz.f190) (ann := Q0j.ann k) (tin := Q0j.tin) (tout := Q0j.tout) (fun x K => Q0j.c k x.1 x.2.1 K) Tryz.func190 (by kernel_rfl) (by kernel_rfl) Q3.nil (Q0j.body k)
def Q0J.c (k : Nat) {ρ : Type} (bits : Int) (K : (List Int) × Bool × Unit → Option ρ) : Option ρ :=
 let v0 : Int := (Q2H IntKind.u32 bits (24 : Int))
 let v1 : Int := (Q1o BinOp.and IntKind.u32 bits (8388607 : Int))
 (Q0T k (IntKind.wrap IntKind.u64 v1)).bind fun t2 => bif (decide ((IntKind.wrap IntKind.i64 v0) ≤ (3 : Int))) then (let v3 : (List Int) := t2.1
 let v4 : Int := (IntKind.wrap IntKind.i64 ((IntKind.wrap IntKind.i64 v0) - (3 : Int)))
 (Q0j k v3 v4).bind fun t5 => K (t5.1, (true, ()))) else (let v6 : (List Int) := t2.1
 (Q0O k v6).bind fun t7 => bif t7.1 then (let v8 : (List Int) := t2.1
 K (v8, (true, ()))) else (let v9 : (List Int) := t2.1
 (Q0c k v9).bind fun t10 => let v11 : Int := (IntKind.wrap IntKind.i64 ((IntKind.wrap IntKind.i64 v0) - (3 : Int)))
 let v12 : Int := (IntKind.wrap IntKind.i64 (v11 * (8 : Int)))
 let v13 : Int := (IntKind.wrap IntKind.i64 (t10.1 + v12))
 bif (decide (v13 > (256 : Int))) then (let v14 : (List Int) := (List.replicate 4 (0 : Int))
 K (v14, (false, ()))) else (let v15 : (List Int) := t2.1
 let v16 : Int := (IntKind.wrap IntKind.i64 ((IntKind.wrap IntKind.i64 v0) - (3 : Int)))
 (Q0j k v15 v16).bind fun t17 => K (t17.1, (true, ())))))
def Q0J (k : Nat) (bits : Int) : Option ((List Int) × Bool × Unit) := Q0J.c k bits some
def Q0J.tin : List Ty := [(.int .u32)]
def Q0J.tout : List Ty := [Qez, .bool]
def Q0J.sem (k : Nat) : Qj := Qn Q0J.tin Q0J.tout fun x => Q0J k x.1
noncomputable def Q0J.ctx (k : Nat) : Ctx := ⟨Tryz.prog, gam [(189, (Q0T.sem k)), (190, (Q0j.sem k)), (184, (Q0O.sem k)), (191, (Q0c.sem k))]⟩
theorem Q0J.gok (k : Nat) : ∀ f, Qb Tryz.prog f ((Q0J.ctx k).Γ f) := (Q7 (Q0T.sem_ok k) (Q7 (Q0j.sem_ok k) (Q7 (Q0O.sem_ok k) (Q7 (Q0c.sem_ok k) QE))))
def Q0J.ann (k : Nat) : Ann := .nil
theorem Q0J.body (k : Nat) : Q0M (Q0J.ctx k) Tryz.f183 (Func.code Tryz.f183) (Q0J.ann k) Q0J.tin Q0J.tout (fun x K => Q0J.c k x.1 K) := by
 intro ρ x K; kernel_rfl
theorem Q0J.sem_ok (k : Nat) : Qb Tryz.prog 183 (Q0J.sem k) :=
 Qs (C := Q0J.ctx k) (Q0J.gok k) Tryz.mix (c := Func.code Tryz.f183) (ann := Q0J.ann k) (tin := Q0J.tin) (tout := Q0J.tout) (fun x K => Q0J.c k x.1 K) Tryz.func183 (by kernel_rfl) (by kernel_rfl) Q3.nil (Q0J.body k)
def Q0C.c (k : Nat) {ρ : Type}  (K : (List Int) × Unit → Option ρ) : Option ρ :=
 (Q0J k (545259519 : Int)).bind fun t0 => let v1 : (List Int) := t0.1
 K (v1, ())
def Q0C (k : Nat)  : Option QeA := Q0C.c k  some
def Q0C.tin : List Ty := []
def Q0C.tout : List Ty := [Qez]
def Q0C.sem (k : Nat) : Qj := Qn Q0C.tin Q0C.tout fun x => Q0C k 
noncomputable def Q0C.ctx (k : Nat) : Ctx := ⟨Tryz.prog, gam [(183, (Q0J.sem k))]⟩
theorem Q0C.gok (k : Nat) : ∀ f, Qb Tryz.prog f ((Q0C.ctx k).Γ f) := (Q7 (Q0J.sem_ok k) QE)
def Q0C.ann (k : Nat) : Ann := .nil
theorem Q0C.body (k : Nat) : Q0M (Q0C.ctx k) Tryz.f185 (Func.code Tryz.f185) (Q0C.ann k) Q0C.tin Q0C.tout (fun x K => Q0C.c k  K) := by
 intro ρ x K; kernel_rfl
theorem Q0C.sem_ok (k : Nat) : Qb Tryz.prog 185 (Q0C.sem k) :=
 Qs (C := Q0C.ctx k) (Q0C.gok k) Tryz.mix (c := Func.code Tryz.f185) (ann := Q0C.ann k) (tin := Q0C.tin) (tout := Q0C.tout) (fun x K => Q0C.c k  K) Tryz.func185 (by kernel_rfl) (by kernel_rfl) Q3.nil (Q0C.body k)
abbrev Q1.l0.σ : Type := (Nat × Nat) × Int × Int × (List Int) × Unit
abbrev Q1.l0.τ : Type := QeA 
def Q1.l0.r (k : Nat) {ρ : Type} (x : Q1.l0.σ) (kn : Q1.l0.σ → Option ρ) (ke : Q1.l0.τ → Option ρ) : Option ρ :=
 bif (decide (x.2.1 < x.2.2.1)) then (bif (decide (((0 : Int) ≤ x.2.2.1) ∧ (x.2.2.1 < ((x.1.2 : Nat) : Int)))) then (let v1 : Int := (List.getD x.2.2.2.1 (x.1.1 + (Int.toNat x.2.2.1)) (0 : Int))
 bif (decide (((0 : Int) ≤ x.2.1) ∧ (x.2.1 < ((x.1.2 : Nat) : Int)))) then (let v2 : Int := (List.getD x.2.2.2.1 (x.1.1 + (Int.toNat x.2.1)) (0 : Int))
 bif (decide (((0 : Int) ≤ x.2.1) ∧ (x.2.1 < ((x.1.2 : Nat) : Int)))) then (bif (decide (((0 : Int) ≤ x.2.2.1) ∧ (x.2.2.1 < ((x.1.2 : Nat) : Int)))) then (let v3 : Int := (IntKind.wrap IntKind.i64 (x.2.1 + (1 : Int)))
 let v4 : Int := (IntKind.wrap IntKind.i64 (x.2.2.1 - (1 : Int)))
 kn ((x.1.1, x.1.2), (v3, (v4, ((List.set (List.set x.2.2.2.1 (x.1.1 + (Int.toNat x.2.1)) v1) (x.1.1 + (Int.toNat x.2.2.1)) v2), ()))))) else (none)) else (none)) else (none)) else (none)) else (ke (x.2.2.2.1, ()))
def Q1.l0 (k : Nat) : Nat → Q1.l0.σ → Option Q1.l0.τ := Q15 (Q1.l0.r k)
def Q1.l0.T : StT := ⟨.slr 0 [] :: us 1 ++ .dat (.int .i64) :: .dat (.int .i64) :: us 24, [.dat Qez]⟩
def Q1.l0.os : List Out := [⟨(.exit 0), [.mask [], .auto 1], ⟨us 28, [.dat Qez]⟩⟩]
abbrev Q1.τ : Type := QeA 
def Q1.c (k : Nat) {ρ : Type} (s : (Nat × Nat)) (b0 : (List Int)) (K : Q1.τ → Option ρ) : Option ρ :=
 let v0 : Int := (IntKind.wrap IntKind.i64 (((s.2 : Nat) : Int) - (1 : Int)))
 (Q1.l0 k k ((s.1, s.2), ((0 : Int), (v0, (b0, ()))))).bind fun t5 => K (t5.1, ())
def Q1 (k : Nat) (s : (Nat × Nat)) (b0 : (List Int)) : Option Q1.τ := Q1.c k s b0 some
def Q1.T : Q19 := ⟨[.slr 0 []], [.dat Qez], 1⟩
def Q1.os : List Out := [⟨.ret, [.auto 1], ⟨[], [.dat Qez]⟩⟩]
def Q1.sem (k : Nat) : Qj := Q1g Q1.T Q1.os fun x => Q1 k x.1 x.2.1
noncomputable def Q1.ctx (k : Nat) : Ctx := ⟨Tryz.prog, gam []⟩
theorem Q1.gok (k : Nat) : ∀ f, Qb Tryz.prog f ((Q1.ctx k).Γ f) := QE
theorem Q1.l0.round (k : Nat) : Q0V (Q1.ctx k) (Q0e (Func.code Tryz.f186) [1, 0, 0]) (.nil) Q1.l0.T [.mask [0, 2, 3], .auto 1] Q1.l0.os (Q1.l0.r k) := by
 intro ρ x kn ke; kernel_rfl
theorem Q1.l0.ok (k : Nat) : StOK 1 Tryz.prog (.loop (Q0e (Func.code Tryz.f186) [1, 0, 0])) (Qv Q1.l0.T Q1.l0.os (Q1.l0 k k)) :=
 Q0X (C := Q1.ctx k) (Q1.gok k) Tryz.mix Q3.nil (by kernel_rfl) (by kernel_rfl) (by kernel_rfl) (Q1.l0.round k) k
def Q1.ann (k : Nat) : Ann := .node [] none (.nil) (.node [] none (.node [.mask [0, 2, 3], .auto 1] (some (Qv Q1.l0.T Q1.l0.os (Q1.l0 k k))) .nil .nil) (.nil))
theorem Q1.body (k : Nat) : Q1l (Q1.ctx k) Tryz.f186 (Func.code Tryz.f186) (Q1.ann k) Q1.T Q1.os (fun x K => Q1.c k x.1 x.2.1 K) := by
 intro ρ x K; kernel_rfl
theorem Q1.sem_ok (k : Nat) : Qb Tryz.prog 186 (Q1.sem k) :=
 Q0P (C := Q1.ctx k) (Q1.gok k) Tryz.mix (c := Func.code Tryz.f186) (ann := Q1.ann k) (T := Q1.T) (os := Q1.os) (fun x K => Q1.c k x.1 x.2.1 K) Tryz.func186 (by kernel_rfl) (by kernel_rfl) (Q3.seq Q3.nil (Q3.block (Q3.loop (by kernel_rfl) (Q1.l0.ok k)))) (Q1.body k) (by kernel_rfl) (by kernel_rfl) (by kernel_rfl)
def Q03.c (k : Nat) {ρ : Type} (x_0 : Int) (K : Bool × Unit → Option ρ) : Option ρ :=
 K ((x_0 != x_0), ())
def Q03 (k : Nat) (x_0 : Int) : Option (Bool × Unit) := Q03.c k x_0 some
def Q03.tin : List Ty := [(.int .u64)]
def Q03.tout : List Ty := [.bool]
def Q03.sem (k : Nat) : Qj := Qn Q03.tin Q03.tout fun x => Q03 k x.1
noncomputable def Q03.ctx (k : Nat) : Ctx := ⟨Tryz.prog, gam []⟩
theorem Q03.gok (k : Nat) : ∀ f, Qb Tryz.prog f ((Q03.ctx k).Γ f) := QE
def Q03.ann (k : Nat) : Ann := .nil
theorem Q03.body (k : Nat) : Q0M (Q03.ctx k) Tryz.f195 (Func.code Tryz.f195) (Q03.ann k) Q03.tin Q03.tout (fun x K => Q03.c k x.1 K) := by
 intro ρ x K; kernel_rfl
theorem Q03.sem_ok (k : Nat) : Qb Tryz.prog 195 (Q03.sem k) :=
 Qs (C := Q03.ctx k) (Q03.gok k) Tryz.mix (c := Func.code Tryz.f195) (ann := Q03.ann k) (tin := Q03.tin) (tout := Q03.tout) (fun x K => Q03.c k x.1 K) Tryz.func195 (by kernel_rfl) (by kernel_rfl) Q3.nil (Q03.body k)
def QL.c (k : Nat) {ρ : Type} (x_0 : Int) (y : Int) (K : Int × Unit → Option ρ) : Option ρ :=
 (Q03 k x_0).bind fun t0 => (Q03 k y).bind fun t1 => bif t0.1 then (bif t1.1 then (K ((0 : Int), ())) else (K ((-(1 : Int)), ()))) else (bif t1.1 then (K ((1 : Int), ())) else (bif (decide (x_0 < y)) then (K ((-(1 : Int)), ())) else (bif (decide (x_0 > y)) then (K ((1 : Int), ())) else (K ((0 : Int), ())))))
def QL (k : Nat) (x_0 : Int) (y : Int) : Option (Int × Unit) := QL.c k x_0 y some
def QL.tin : List Ty := [(.int .u64), (.int .u64)]
def QL.tout : List Ty := [(.int .i64)]
def QL.sem (k : Nat) : Qj := Qn QL.tin QL.tout fun x => QL k x.1 x.2.1
noncomputable def QL.ctx (k : Nat) : Ctx := ⟨Tryz.prog, gam [(195, (Q03.sem k))]⟩
theorem QL.gok (k : Nat) : ∀ f, Qb Tryz.prog f ((QL.ctx k).Γ f) := (Q7 (Q03.sem_ok k) QE)
def QL.ann (k : Nat) : Ann := .nil
theorem QL.body (k : Nat) : Q0M (QL.ctx k) Tryz.f192 (Func.code Tryz.f192) (QL.ann k) QL.tin QL.tout (fun x K => QL.c k x.1 x.2.1 K) := by
 intro ρ x K; kernel_rfl
theorem QL.sem_ok (k : Nat) : Qb Tryz.prog 192 (QL.sem k) :=
 Qs (C := QL.ctx k) (QL.gok k) Tryz.mix (c := Func.code Tryz.f192) (ann := QL.ann k) (tin := QL.tin) (tout := QL.tout) (fun x K => QL.c k x.1 x.2.1 K) Tryz.func192 (by kernel_rfl) (by kernel_rfl) Q3.nil (QL.body k)
abbrev Q4.l0.σ : Type := (List Int) × (List Int) × (List Int) × Int × Int × Unit
abbrev Q4.l0.τ : Type := (Int × Unit) ⊕ ((List Int) × (List Int) × Unit)
def Q4.l0.r (k : Nat) {ρ : Type} (x : Q4.l0.σ) (kn : Q4.l0.σ → Option ρ) (ke : Q4.l0.τ → Option ρ) : Option ρ :=
 bif (decide (x.2.2.2.2.1 < x.2.2.2.1)) then (bif (decide (((0 : Int) ≤ x.2.2.2.2.1) ∧ (x.2.2.2.2.1 < (((List.length x.2.2.1) : Nat) : Int)))) then (let v1 : Int := (List.getD x.2.2.1 (Int.toNat x.2.2.2.2.1) (0 : Int))
 let v2 : Int := (((List.length x.2.1) : Nat) : Int)
 bif (decide (x.2.2.2.2.1 ≥ v2)) then (ke (.inl ((1 : Int), ()))) else (bif (decide (((0 : Int) ≤ x.2.2.2.2.1) ∧ (x.2.2.2.2.1 < (((List.length x.2.1) : Nat) : Int)))) then (let v3 : Int := (List.getD x.2.1 (Int.toNat x.2.2.2.2.1) (0 : Int))
 (QL k v1 v3).bind fun t4 => bif (t4.1 != (0 : Int)) then (ke (.inl (t4.1, ()))) else (let v5 : Int := (IntKind.wrap IntKind.i64 (x.2.2.2.2.1 + (1 : Int)))
 kn (x.1, (x.2.1, (x.2.2.1, (x.2.2.2.1, (v5, ()))))))) else (none))) else (none)) else (ke (.inr (x.1, (x.2.1, ()))))
def Q4.l0 (k : Nat) : Nat → Q4.l0.σ → Option Q4.l0.τ := Q15 (Q4.l0.r k)
def Q4.l0.T : StT := ⟨.dat QeB :: .dat QeB :: us 7 ++ .dat QeB :: .dat (.int .i64) :: .dat (.int .i64) :: us 24, []⟩
def Q4.l0.os : List Out := [⟨.ret, [.mask [4], .auto 0], ⟨us 4 ++ .dat (.int .i64) :: us 31, []⟩⟩, ⟨(.exit 0), [.mask [0, 1], .auto 0], ⟨.dat QeB :: .dat QeB :: us 34, []⟩⟩]
def Q4.c (k : Nat) {ρ : Type} (s1 : (List Int)) (s2 : (List Int)) (K : Int × Unit → Option ρ) : Option ρ :=
  let v0 : Int := (((List.length s1) : Nat) : Int)
  (Q4.l0 k k (s1, (s2, (s1, (v0, ((0 : Int), ())))))).bind fun t6 => (match t6 with
 | .inl t7 => (K (t7.1, ()))
 | .inr (t8) => (let v9 : Int := (((List.length t8.1) : Nat) : Int)
  let v10 : Int := (((List.length t8.2.1) : Nat) : Int)
  bif (decide (v9 < v10)) then (K ((-(1 : Int)), ())) else (K ((0 : Int), ()))))
def Q4 (k : Nat) (s1 : (List Int)) (s2 : (List Int)) : Option (Int × Unit) := Q4.c k s1 s2 some
def Q4.tin : List Ty := [QeB, QeB]
def Q4.tout : List Ty := [(.int .i64)]
def Q4.sem (k : Nat) : Qj := Qn Q4.tin Q4.tout fun x => Q4 k x.1 x.2.1
noncomputable def Q4.ctx (k : Nat) : Ctx := ⟨Tryz.prog, gam [(192, (QL.sem k))]⟩
theorem Q4.gok (k : Nat) : ∀ f, Qb Tryz.prog f ((Q4.ctx k).Γ f) := (Q7 (QL.sem_ok k) QE)
theorem Q4.l0.round (k : Nat) : Q0V (Q4.ctx k) (Q0e (Func.code Tryz.f187) [1, 0, 1, 0, 0]) (.nil) Q4.l0.T [.mask [0, 1, 9, 10, 11], .auto 0] Q4.l0.os (Q4.l0.r k) := by
 intro ρ x kn ke; kernel_rfl
theorem Q4.l0.ok (k : Nat) : StOK 0 Tryz.prog (.loop (Q0e (Func.code Tryz.f187) [1, 0, 1, 0, 0])) (Qv Q4.l0.T Q4.l0.os (Q4.l0 k k)) :=
 Q0X (C := Q4.ctx k) (Q4.gok k) Tryz.mix Q3.nil (by kernel_rfl) (by kernel_rfl) (by kernel_rfl) (Q4.l0.round k) k
def Q4.ann (k : Nat) : Ann := .node [] none (.nil) (.node [] none (.node [] none (.nil) (.node [] none (.node [] (some (Qv Q4.l0.T Q4.l0.os (Q4.l0 k k))) .nil .nil) (.nil))) (.nil))
theorem Q4.body (k : Nat) : Q0M (Q4.ctx k) Tryz.f187 (Func.code Tryz.f187) (Q4.ann k) Q4.tin Q4.tout (fun x K => Q4.c k x.1 x.2.1 K) := by
 intro ρ x K; kernel_rfl
theorem Q4.sem_ok (k : Nat) : Qb Tryz.prog 187 (Q4.sem k) :=
 Qs (C := Q4.ctx k) (Q4.gok k) Tryz.mix (c := Func.code Tryz.f187) (ann := Q4.ann k) (tin := Q4.tin) (tout := Q4.tout) (fun x K => Q4.c k x.1 x.2.1 K) Tryz.func187 (by kernel_rfl) (by kernel_rfl) (Q3.seq Q3.nil (Q3.seq (Q3.seq Q3.nil (Q3.block (Q3.loop (by kernel_rfl) (Q4.l0.ok k)))) Q3.nil)) (Q4.body k)
def Q0s.c (k : Nat) {ρ : Type} (a : (List Int)) (b : (List Int)) (K : Int × Unit → Option ρ) : Option ρ :=
 (Q1 k (0, 4) a).bind fun t0 => (Q1 k (0, 4) b).bind fun t1 => (Q4 k (List.take 4 (List.drop 0 t0.1)) (List.take 4 (List.drop 0 t1.1))).bind fun t2 => K (t2.1, ())
def Q0s (k : Nat) (a : (List Int)) (b : (List Int)) : Option (Int × Unit) := Q0s.c k a b some
def Q0s.tin : List Ty := [Qez, Qez]
def Q0s.tout : List Ty := [(.int .i64)]
def Q0s.sem (k : Nat) : Qj := Qn Q0s.tin Q0s.tout fun x => Q0s k x.1 x.2.1
noncomputable def Q0s.ctx (k : Nat) : Ctx := ⟨Tryz.prog, gam [(186, (Q1.sem k)), (187, (Q4.sem k))]⟩
theorem Q0s.gok (k : Nat) : ∀ f, Qb Tryz.prog f ((Q0s.ctx k).Γ f) := (Q7 (Q1.sem_ok k) (Q7 (Q4.sem_ok k) QE))
def Q0s.ann (k : Nat) : Ann := .nil
theorem Q0s.body (k : Nat) : Q0M (Q0s.ctx k) Tryz.f175 (Func.code Tryz.f175) (Q0s.ann k) Q0s.tin Q0s.tout (fun x K => Q0s.c k x.1 x.2.1 K) := by
 intro ρ x K; kernel_rfl
theorem Q0s.sem_ok (k : Nat) : Qb Tryz.prog 175 (Q0s.sem k) :=
 Qs (C := Q0s.ctx k) (Q0s.gok k) Tryz.mix (c := Func.code Tryz.f175) (ann := Q0s.ann k) (tin := Q0s.tin) (tout := Q0s.tout) (fun x K => Q0s.c k x.1 x.2.1 K) Tryz.func175 (by kernel_rfl) (by kernel_rfl) Q3.nil (Q0s.body k)
def Q0q.c (k : Nat) {ρ : Type} (bits : Int) (K : (List Int) × Int × Unit → Option ρ) : Option ρ :=
 (Q0J k bits).bind fun t0 => let v1 : (List Int) := t0.1
 bif (!t0.2.1) then (let v2 : (List Int) := (List.replicate 4 (0 : Int))
 K (v2, ((50 : Int), ()))) else (let v3 : Int := (Q1o BinOp.and IntKind.u32 bits (8388608 : Int))
 bif (v3 != (0 : Int)) then (let v4 : (List Int) := (List.replicate 4 (0 : Int))
 K (v4, ((50 : Int), ()))) else ((Q0O k v1).bind fun t5 => bif t5.1 then (let v6 : (List Int) := (List.replicate 4 (0 : Int))
 K (v6, ((50 : Int), ()))) else ((Q0C k ).bind fun t7 => (Q0s k v1 t7.1).bind fun t8 => bif (decide (t8.1 > (0 : Int))) then (let v9 : (List Int) := (List.replicate 4 (0 : Int))
 K (v9, ((50 : Int), ()))) else (K (v1, ((0 : Int), ()))))))
def Q0q (k : Nat) (bits : Int) : Option ((List Int) × Int × Unit) := Q0q.c k bits some
def Q0q.tin : List Ty := [(.int .u32)]
def Q0q.tout : List Ty := [Qez, (.int .i64)]
def Q0q.sem (k : Nat) : Qj := Qn Q0q.tin Q0q.tout fun x => Q0q k x.1
noncomputable def Q0q.ctx (k : Nat) : Ctx := ⟨Tryz.prog, gam [(183, (Q0J.sem k)), (184, (Q0O.sem k)), (185, (Q0C.sem k)), (175, (Q0s.sem k))]⟩
theorem Q0q.gok (k : Nat) : ∀ f, Qb Tryz.prog f ((Q0q.ctx k).Γ f) := (Q7 (Q0J.sem_ok k) (Q7 (Q0O.sem_ok k) (Q7 (Q0C.sem_ok k) (Q7 (Q0s.sem_ok k) QE))))
def Q0q.ann (k : Nat) : Ann := .nil
theorem Q0q.body (k : Nat) : Q0M (Q0q.ctx k) Tryz.f174 (Func.code Tryz.f174) (Q0q.ann k) Q0q.tin Q0q.tout (fun x K => Q0q.c k x.1 K) := by
 intro ρ x K; kernel_rfl
theorem Q0q.sem_ok (k : Nat) : Qb Tryz.prog 174 (Q0q.sem k) :=
 Qs (C := Q0q.ctx k) (Q0q.gok k) Tryz.mix (c := Func.code Tryz.f174) (ann := Q0q.ann k) (tin := Q0q.tin) (tout := Q0q.tout) (fun x K => Q0q.c k x.1 K) Tryz.func174 (by kernel_rfl) (by kernel_rfl) Q3.nil (Q0q.body k)
abbrev Q0F.l0.σ : Type := (List Int) × Int × (List Int) × (List Int) × Unit
abbrev Q0F.l0.τ : Type := ((List Int) × (List Int) × Unit)
def Q0F.l0.r (k : Nat) {ρ : Type} (x : Q0F.l0.σ) (kn : Q0F.l0.σ → Option ρ) (ke : Q0F.l0.τ → Option ρ) : Option ρ :=
 bif (decide (x.2.1 < (32 : Int))) then (bif (decide (((0 : Int) ≤ x.2.1) ∧ (x.2.1 < ((32 : Nat) : Int)))) then (let v0 : Int := (List.getD x.1 (Int.toNat x.2.1) (0 : Int))
 let v1 : Int := (IntKind.wrap IntKind.i64 (Int.tdiv x.2.1 (8 : Int)))
 bif (decide (((0 : Int) ≤ v1) ∧ (v1 < ((4 : Nat) : Int)))) then (let v2 : Int := (List.getD x.2.2.2.1 (Int.toNat v1) (0 : Int))
 let v3 : Int := (Int.tmod x.2.1 (8 : Int))
 let v4 : Int := (IntKind.wrap IntKind.i64 ((8 : Int) * v3))
 bif (decide ((0 : Int) ≤ v4)) then (let v5 : Int := (Q1o BinOp.or IntKind.u64 v2 (Q4p IntKind.u64 (IntKind.wrap IntKind.u64 v0) v4))
 bif (decide (((0 : Int) ≤ v1) ∧ (v1 < ((4 : Nat) : Int)))) then (let v6 : Int := (IntKind.wrap IntKind.i64 (x.2.1 + (1 : Int)))
 kn (x.1, (v6, (x.2.2.1, ((List.set x.2.2.2.1 (Int.toNat v1) v5), ()))))) else (none)) else (none)) else (none)) else (none)) else (ke (x.2.2.1, (x.2.2.2.1, ())))
def Q0F.l0 (k : Nat) : Nat → Q0F.l0.σ → Option Q0F.l0.τ := Q15 (Q0F.l0.r k)
def Q0F.l0.T : StT := ⟨us 2 ++ .ptr 0 [] :: .ptr 1 [] :: us 2 ++ .dat Qey :: .dat (.int .i64) :: us 17, [.dat Qez, .dat Qez]⟩
def Q0F.l0.os : List Out := [⟨(.exit 0), [.mask [2, 3], .auto 0], ⟨us 2 ++ .ptr 0 [] :: .ptr 1 [] :: us 21, [.dat Qez, .dat Qez]⟩⟩]
def Q0F.c (k : Nat) {ρ : Type} (h : (List Int)) (K : (List Int) × Unit → Option ρ) : Option ρ :=
 (Q0F.l0 k k (h, ((0 : Int), ((List.replicate 4 (0 : Int)), ((List.replicate 4 (0 : Int)), ()))))).bind fun t7 => let v8 : (List Int) := t7.2.1
 K (v8, ())
def Q0F (k : Nat) (h : (List Int)) : Option QeA := Q0F.c k h some
def Q0F.tin : List Ty := [Qey]
def Q0F.tout : List Ty := [Qez]
def Q0F.sem (k : Nat) : Qj := Qn Q0F.tin Q0F.tout fun x => Q0F k x.1
noncomputable def Q0F.ctx (k : Nat) : Ctx := ⟨Tryz.prog, gam []⟩
theorem Q0F.gok (k : Nat) : ∀ f, Qb Tryz.prog f ((Q0F.ctx k).Γ f) := QE
theorem Q0F.l0.round (k : Nat) : Q0V (Q0F.ctx k) (Q0e (Func.code Tryz.f176) [1, 1, 0, 1, 0, 0]) (.nil) Q0F.l0.T [.mask [2, 3, 6, 7], .auto 0] Q0F.l0.os (Q0F.l0.r k) := by
 intro ρ x kn ke; kernel_rfl
theorem Q0F.l0.ok (k : Nat) : StOK 0 Tryz.prog (.loop (Q0e (Func.code Tryz.f176) [1, 1, 0, 1, 0, 0])) (Qv Q0F.l0.T Q0F.l0.os (Q0F.l0 k k)) :=
 Q0X (C := Q0F.ctx k) (Q0F.gok k) Tryz.mix Q3.nil (by kernel_rfl) (by kernel_rfl) (by kernel_rfl) (Q0F.l0.round k) k
def Q0F.ann (k : Nat) : Ann := .node [] none (.nil) (.node [] none (.nil) (.node [] none (.node [] none (.nil) (.node [] none (.node [.mask [2, 3, 6, 7], .auto 0] (some (Qv Q0F.l0.T Q0F.l0.os (Q0F.l0 k k))) .nil .nil) (.nil))) (.nil)))
theorem Q0F.body (k : Nat) : Q0M (Q0F.ctx k) Tryz.f176 (Func.code Tryz.f176) (Q0F.ann k) Q0F.tin Q0F.tout (fun x K => Q0F.c k x.1 K) := by
 intro ρ x K; kernel_rfl
theorem Q0F.sem_ok (k : Nat) : Qb Tryz.prog 176 (Q0F.sem k) :=
 Qs (C := Q0F.ctx k) (Q0F.gok k) Tryz.mix (c := Func.code Tryz.f176) (ann := Q0F.ann k) (tin := Q0F.tin) (tout := Q0F.tout) (fun x K => Q0F.c k x.1 K) Tryz.func176 (by kernel_rfl) (by kernel_rfl) (Q3.seq Q3.nil (Q3.seq Q3.nil (Q3.seq (Q3.seq Q3.nil (Q3.block (Q3.loop (by kernel_rfl) (Q0F.l0.ok k)))) Q3.nil))) (Q0F.body k)
def Q0A.c (k : Nat) {ρ : Type} (id : (List Int)) (bits : Int) (K : Bool × Unit → Option ρ) : Option ρ :=
 (Q0q k bits).bind fun t0 => let v1 : (List Int) := t0.1
 let v2 : Int := t0.2.1
 bif (v2 == (0 : Int)) then ((Q0F k id).bind fun t3 => (Q0s k t3.1 v1).bind fun t4 => K ((decide (t4.1 ≤ (0 : Int))), ())) else (K (false, ()))
def Q0A (k : Nat) (id : (List Int)) (bits : Int) : Option (Bool × Unit) := Q0A.c k id bits some
def Q0A.tin : List Ty := [Qey, (.int .u32)]
def Q0A.tout : List Ty := [.bool]
def Q0A.sem (k : Nat) : Qj := Qn Q0A.tin Q0A.tout fun x => Q0A k x.1 x.2.1
noncomputable def Q0A.ctx (k : Nat) : Ctx := ⟨Tryz.prog, gam [(174, (Q0q.sem k)), (176, (Q0F.sem k)), (175, (Q0s.sem k))]⟩
theorem Q0A.gok (k : Nat) : ∀ f, Qb Tryz.prog f ((Q0A.ctx k).Γ f) := (Q7 (Q0q.sem_ok k) (Q7 (Q0F.sem_ok k) (Q7 (Q0s.sem_ok k) QE)))
def Q0A.ann (k : Nat) : Ann := .nil
theorem Q0A.body (k : Nat) : Q0M (Q0A.ctx k) Tryz.f157 (Func.code Tryz.f157) (Q0A.ann k) Q0A.tin Q0A.tout (fun x K => Q0A.c k x.1 x.2.1 K) := by
 intro ρ x K; kernel_rfl
theorem Q0A.sem_ok (k : Nat) : Qb Tryz.prog 157 (Q0A.sem k) :=
 Qs (C := Q0A.ctx k) (Q0A.gok k) Tryz.mix (c := Func.code Tryz.f157) (ann := Q0A.ann k) (tin := Q0A.tin) (tout := Q0A.tout) (fun x K => Q0A.c k x.1 x.2.1 K) Tryz.func157 (by kernel_rfl) (by kernel_rfl) Q3.nil (Q0A.body k)
def Q0I.c (k : Nat) {ρ : Type} (h : Qeo) (K : Bool × Unit → Option ρ) : Option ρ :=
 (QI k (h.1, (h.2.1, (h.2.2.1, (h.2.2.2.1, (h.2.2.2.2.1, (h.2.2.2.2.2.1, ()))))))).bind fun t0 => let v1 : Int := h.2.2.2.2.1
 (Q0A k t0.1 v1).bind fun t2 => K (t2.1, ())
def Q0I (k : Nat) (h : Qeo) : Option (Bool × Unit) := Q0I.c k h some
def Q0I.tin : List Ty := [Qei]
def Q0I.tout : List Ty := [.bool]
def Q0I.sem (k : Nat) : Qj := Qn Q0I.tin Q0I.tout fun x => Q0I k x.1
noncomputable def Q0I.ctx (k : Nat) : Ctx := ⟨Tryz.prog, gam [(31, (QI.sem k)), (157, (Q0A.sem k))]⟩
theorem Q0I.gok (k : Nat) : ∀ f, Qb Tryz.prog f ((Q0I.ctx k).Γ f) := (Q7 (QI.sem_ok k) (Q7 (Q0A.sem_ok k) QE))
def Q0I.ann (k : Nat) : Ann := .nil
theorem Q0I.body (k : Nat) : Q0M (Q0I.ctx k) Tryz.f135 (Func.code Tryz.f135) (Q0I.ann k) Q0I.tin Q0I.tout (fun x K => Q0I.c k x.1 K) := by
 intro ρ x K; kernel_rfl
theorem Q0I.sem_ok (k : Nat) : Qb Tryz.prog 135 (Q0I.sem k) :=
 Qs (C := Q0I.ctx k) (Q0I.gok k) Tryz.mix (c := Func.code Tryz.f135) (ann := Q0I.ann k) (tin := Q0I.tin) (tout := Q0I.tout) (fun x K => Q0I.c k x.1 K) Tryz.func135 (by kernel_rfl) (by kernel_rfl) Q3.nil (Q0I.body k)
abbrev QS.l0.σ : Type := Int × Int × Qeo × Qeo × Qeo × Unit
abbrev QS.l0.τ : Type := (Bool × Qeo × Unit) ⊕ (Qeo × Qeo × Unit)
def QS.l0.r (k : Nat) {ρ : Type} (x : QS.l0.σ) (kn : QS.l0.σ → Option ρ) (ke : QS.l0.τ → Option ρ) : Option ρ :=
 bif (decide (x.2.1 < x.1)) then ((Q0I k (x.2.2.2.2.1.1, (x.2.2.2.2.1.2.1, (x.2.2.2.2.1.2.2.1, (x.2.2.2.2.1.2.2.2.1, (x.2.2.2.2.1.2.2.2.2.1, (x.2.2.2.2.1.2.2.2.2.2.1, ()))))))).bind fun t1 => bif t1.1 then (ke (.inl (true, ((x.2.2.2.2.1.1, (x.2.2.2.2.1.2.1, (x.2.2.2.2.1.2.2.1, (x.2.2.2.2.1.2.2.2.1, (x.2.2.2.2.1.2.2.2.2.1, (x.2.2.2.2.1.2.2.2.2.2.1, ())))))), ())))) else (let v2 : Int := x.2.2.2.2.1.2.2.2.2.2.1
 bif (v2 == (4294967295 : Int)) then (ke (.inr ((x.2.2.1.1, (x.2.2.1.2.1, (x.2.2.1.2.2.1, (x.2.2.1.2.2.2.1, (x.2.2.1.2.2.2.2.1, (x.2.2.1.2.2.2.2.2.1, ())))))), ((x.2.2.2.1.1, (x.2.2.2.1.2.1, (x.2.2.2.1.2.2.1, (x.2.2.2.1.2.2.2.1, (x.2.2.2.1.2.2.2.2.1, (x.2.2.2.1.2.2.2.2.2.1, ())))))), ())))) else (let v3 : Int := x.2.2.2.2.1.2.2.2.2.2.1
 let v4 : Int := (IntKind.wrap IntKind.u32 (v3 + (1 : Int)))
 let v5 : Int := (IntKind.wrap IntKind.u64 (x.2.1 + (1 : Int)))
 kn (x.1, (v5, ((x.2.2.1.1, (x.2.2.1.2.1, (x.2.2.1.2.2.1, (x.2.2.1.2.2.2.1, (x.2.2.1.2.2.2.2.1, (x.2.2.1.2.2.2.2.2.1, ())))))), ((x.2.2.2.1.1, (x.2.2.2.1.2.1, (x.2.2.2.1.2.2.1, (x.2.2.2.1.2.2.2.1, (x.2.2.2.1.2.2.2.2.1, (x.2.2.2.1.2.2.2.2.2.1, ())))))), ((x.2.2.2.2.1.1, (x.2.2.2.2.1.2.1, (x.2.2.2.2.1.2.2.1, (x.2.2.2.2.1.2.2.2.1, (x.2.2.2.2.1.2.2.2.2.1, (v4, ())))))), ())))))))) else (ke (.inr ((x.2.2.1.1, (x.2.2.1.2.1, (x.2.2.1.2.2.1, (x.2.2.1.2.2.2.1, (x.2.2.1.2.2.2.2.1, (x.2.2.1.2.2.2.2.2.1, ())))))), ((x.2.2.2.1.1, (x.2.2.2.1.2.1, (x.2.2.2.1.2.2.1, (x.2.2.2.1.2.2.2.1, (x.2.2.2.1.2.2.2.2.1, (x.2.2.2.1.2.2.2.2.2.1, ())))))), ()))))
def QS.l0 (k : Nat) : Nat → QS.l0.σ → Option QS.l0.τ := Q15 (QS.l0.r k)
def QS.l0.T : StT := ⟨us 2 ++ .ptr 0 [] :: us 1 ++ .ptr 1 [] :: us 1 ++ .ptr 2 [] :: us 2 ++ .dat (.int .u64) :: .dat (.int .u64) :: us 13, [.dat Qei, .dat Qei, .dat Qei]⟩
def QS.l0.os : List Out := [⟨.ret, [.mask [4, 5], .auto 0], ⟨us 4 ++ .ptr 0 [] :: .dat .bool :: us 18, [.dat Qei]⟩⟩, ⟨(.exit 0), [.mask [2, 4], .auto 0], ⟨us 2 ++ .ptr 0 [] :: us 1 ++ .ptr 1 [] :: us 19, [.dat Qei, .dat Qei]⟩⟩]
def QS.c (k : Nat) {ρ : Type} (h : Qeo) (tries : Int) (K : Qeo × Bool × Unit → Option ρ) : Option ρ :=
  let v0 : Int := (if ((4294967296 : Int) < tries) then (4294967296 : Int) else tries)
  (QS.l0 k k (v0, ((0 : Int), ((h.1, (h.2.1, (h.2.2.1, (h.2.2.2.1, (h.2.2.2.2.1, (h.2.2.2.2.2.1, ())))))), (((0 : Int), ((List.replicate 32 (0 : Int)), ((List.replicate 32 (0 : Int)), ((0 : Int), ((0 : Int), ((0 : Int), ())))))), ((h.1, (h.2.1, (h.2.2.1, (h.2.2.2.1, (h.2.2.2.2.1, (h.2.2.2.2.2.1, ())))))), ())))))).bind fun t6 => (match t6 with
 | .inl t7 => (K ((t7.2.1.1, (t7.2.1.2.1, (t7.2.1.2.2.1, (t7.2.1.2.2.2.1, (t7.2.1.2.2.2.2.1, (t7.2.1.2.2.2.2.2.1, ())))))), (t7.1, ())))
 | .inr (t8) => (K ((t8.1.1, (t8.1.2.1, (t8.1.2.2.1, (t8.1.2.2.2.1, (t8.1.2.2.2.2.1, (t8.1.2.2.2.2.2.1, ())))))), (false, ()))))
def QS (k : Nat) (h : Qeo) (tries : Int) : Option (Qeo × Bool × Unit) := QS.c k h tries some
def QS.tin : List Ty := [Qei, (.int .u64)]
def QS.tout : List Ty := [Qei, .bool]
def QS.sem (k : Nat) : Qj := Qn QS.tin QS.tout fun x => QS k x.1 x.2.1
noncomputable def QS.ctx (k : Nat) : Ctx := ⟨Tryz.prog, gam [(135, (Q0I.sem k))]⟩
theorem QS.gok (k : Nat) : ∀ f, Qb Tryz.prog f ((QS.ctx k).Γ f) := (Q7 (Q0I.sem_ok k) QE)
theorem QS.l0.round (k : Nat) : Q0V (QS.ctx k) (Q0e (Func.code Tryz.f102) [1, 1, 0, 1, 0, 0]) (.nil) QS.l0.T [.mask [2, 4, 6, 9, 10], .auto 0] QS.l0.os (QS.l0.r k) := by
 intro ρ x kn ke; kernel_rfl
theorem QS.l0.ok (k : Nat) : StOK 0 Tryz.prog (.loop (Q0e (Func.code Tryz.f102) [1, 1, 0, 1, 0, 0])) (Qv QS.l0.T QS.l0.os (QS.l0 k k)) :=
 Q0X (C := QS.ctx k) (QS.gok k) Tryz.mix Q3.nil (by kernel_rfl) (by kernel_rfl) (by kernel_rfl) (QS.l0.round k) k
def QS.ann (k : Nat) : Ann := .node [] none (.nil) (.node [] none (.nil) (.node [] none (.node [] none (.nil) (.node [] none (.node [.mask [2, 4, 6, 9, 10], .auto 0] (some (Qv QS.l0.T QS.l0.os (QS.l0 k k))) .nil .nil) (.nil))) (.nil)))
theorem QS.body (k : Nat) : Q0M (QS.ctx k) Tryz.f102 (Func.code Tryz.f102) (QS.ann k) QS.tin QS.tout (fun x K => QS.c k x.1 x.2.1 K) := by
 intro ρ x K; kernel_rfl
theorem QS.sem_ok (k : Nat) : Qb Tryz.prog 102 (QS.sem k) :=
 Qs (C := QS.ctx k) (QS.gok k) Tryz.mix (c := Func.code Tryz.f102) (ann := QS.ann k) (tin := QS.tin) (tout := QS.tout) (fun x K => QS.c k x.1 x.2.1 K) Tryz.func102 (by kernel_rfl) (by kernel_rfl) (Q3.seq Q3.nil (Q3.seq Q3.nil (Q3.seq (Q3.seq Q3.nil (Q3.block (Q3.loop (by kernel_rfl) (QS.l0.ok k)))) Q3.nil))) (QS.body k)
abbrev QB.l0.σ : Type := Qek × Int × Int × Qen × Qen × Qek × Unit
abbrev QB.l0.τ : Type := (Qen × Qen × Qek × Unit)
def QB.l0.r (k : Nat) {ρ : Type} (x : QB.l0.σ) (kn : QB.l0.σ → Option ρ) (ke : QB.l0.τ → Option ρ) : Option ρ :=
 bif (decide (x.2.2.1 < x.2.1)) then (bif (decide (((0 : Int) ≤ x.2.2.1) ∧ (x.2.2.1 < (((List.length x.1) : Nat) : Int)))) then ((Q0B k ((List.getD x.1 (Int.toNat x.2.2.1) ((0 : Int), ([], ([], ((0 : Int), ()))))).1, ((List.getD x.1 (Int.toNat x.2.2.1) ((0 : Int), ([], ([], ((0 : Int), ()))))).2.1, ((List.getD x.1 (Int.toNat x.2.2.1) ((0 : Int), ([], ([], ((0 : Int), ()))))).2.2.1, ((List.getD x.1 (Int.toNat x.2.2.1) ((0 : Int), ([], ([], ((0 : Int), ()))))).2.2.2.1, ()))))).bind fun t3 => bif (Nat.ble (((List.length x.2.2.2.2.2.1) + (List.length (List.set (List.replicate 1 ((0 : Int), ([], ([], ((0 : Int), ()))))) 0 (t3.1.1, (t3.1.2.1, (t3.1.2.2.1, (t3.1.2.2.2.1, ()))))))) * 64) 140737488355328) then (let v4 : Int := (IntKind.wrap IntKind.i64 (x.2.2.1 + (1 : Int)))
 kn (x.1, (x.2.1, (v4, (((x.2.2.2.1.1.1, (x.2.2.2.1.1.2.1, (x.2.2.2.1.1.2.2.1, (x.2.2.2.1.1.2.2.2.1, (x.2.2.2.1.1.2.2.2.2.1, (x.2.2.2.1.1.2.2.2.2.2.1, ())))))), ((), ())), (((x.2.2.2.2.1.1.1, (x.2.2.2.2.1.1.2.1, (x.2.2.2.2.1.1.2.2.1, (x.2.2.2.2.1.1.2.2.2.1, (x.2.2.2.2.1.1.2.2.2.2.1, (x.2.2.2.2.1.1.2.2.2.2.2.1, ())))))), ((), ())), ((x.2.2.2.2.2.1 ++ (List.set (List.replicate 1 ((0 : Int), ([], ([], ((0 : Int), ()))))) 0 (t3.1.1, (t3.1.2.1, (t3.1.2.2.1, (t3.1.2.2.2.1, ())))))), ()))))))) else (none)) else (none)) else (ke (((x.2.2.2.1.1.1, (x.2.2.2.1.1.2.1, (x.2.2.2.1.1.2.2.1, (x.2.2.2.1.1.2.2.2.1, (x.2.2.2.1.1.2.2.2.2.1, (x.2.2.2.1.1.2.2.2.2.2.1, ())))))), ((), ())), (((x.2.2.2.2.1.1.1, (x.2.2.2.2.1.1.2.1, (x.2.2.2.2.1.1.2.2.1, (x.2.2.2.2.1.1.2.2.2.1, (x.2.2.2.2.1.1.2.2.2.2.1, (x.2.2.2.2.1.1.2.2.2.2.2.1, ())))))), ((), ())), (x.2.2.2.2.2.1, ()))))
def QB.l0 (k : Nat) : Nat → QB.l0.σ → Option QB.l0.τ := Q15 (QB.l0.r k)
def QB.l0.T : StT := ⟨us 8 ++ .ptr 0 [] :: us 3 ++ .ptr 1 [] :: us 17 ++ .dat Qee :: .dat (.int .i64) :: .dat (.int .i64) :: us 32, [.pair (.dat Qei) (.pair (.nils) (.dat .unit)), .pair (.dat Qei) (.pair (.vsl 2) (.dat .unit)), .vec Qeg]⟩
def QB.l0.os : List Out := [⟨(.exit 0), [.mask [8, 12], .auto 0], ⟨us 8 ++ .ptr 0 [] :: us 3 ++ .ptr 1 [] :: us 52, [.pair (.dat Qei) (.pair (.nils) (.dat .unit)), .pair (.dat Qei) (.pair (.vsl 2) (.dat .unit)), .vec Qeg]⟩⟩]
def QB.c (k : Nat) {ρ : Type} (prev : (List Int)) (time : Int) (bits : Int) (txs : Qek) (K : Qef × Int × Unit → Option ρ) : Option ρ :=
 (Qe k txs).bind fun t0 => let v1 : (List Int) := t0.1
 let v2 : Int := (((List.length txs) : Nat) : Int)
 (QB.l0 k k (txs, (v2, ((0 : Int), ((((0 : Int), ((List.replicate 32 (0 : Int)), ((List.replicate 32 (0 : Int)), ((0 : Int), ((0 : Int), ((0 : Int), ())))))), ((), ())), ((((1 : Int), (prev, (v1, (time, (bits, ((0 : Int), ())))))), ((), ())), ([], ()))))))).bind fun t5 => (Qu k ((t5.2.1.1.1, (t5.2.1.1.2.1, (t5.2.1.1.2.2.1, (t5.2.1.1.2.2.2.1, (t5.2.1.1.2.2.2.2.1, (t5.2.1.1.2.2.2.2.2.1, ())))))), (t5.2.2.1, ()))).bind fun t6 => let v7 : ByteArray := t6.1
 let v8 : Int := t6.2.1
 bif (v8 != (0 : Int)) then (K ((((0 : Int), ((List.replicate 32 (0 : Int)), ((List.replicate 32 (0 : Int)), ((0 : Int), ((0 : Int), ((0 : Int), ())))))), ([], ())), (v8, ()))) else ((QS k (t5.2.1.1.1, (t5.2.1.1.2.1, (t5.2.1.1.2.2.1, (t5.2.1.1.2.2.2.1, (t5.2.1.1.2.2.2.2.1, (t5.2.1.1.2.2.2.2.2.1, ())))))) (4294967296 : Int)).bind fun t9 => bif (!t9.2.1) then (K ((((0 : Int), ((List.replicate 32 (0 : Int)), ((List.replicate 32 (0 : Int)), ((0 : Int), ((0 : Int), ((0 : Int), ())))))), ([], ())), ((111 : Int), ()))) else (K (((t9.1.1, (t9.1.2.1, (t9.1.2.2.1, (t9.1.2.2.2.1, (t9.1.2.2.2.2.1, (t9.1.2.2.2.2.2.1, ())))))), (t5.2.2.1, ())), ((0 : Int), ()))))
def QB (k : Nat) (prev : (List Int)) (time : Int) (bits : Int) (txs : Qek) : Option (Qef × Int × Unit) := QB.c k prev time bits txs some
def QB.tin : List Ty := [Qey, (.int .u32), (.int .u32), Qee]
def QB.tout : List Ty := [Qed, (.int .i64)]
def QB.sem (k : Nat) : Qj := Qn QB.tin QB.tout fun x => QB k x.1 x.2.1 x.2.2.1 x.2.2.2.1
noncomputable def QB.ctx (k : Nat) : Ctx := ⟨Tryz.prog, gam [(72, (Qe.sem k)), (100, (Q0B.sem k)), (101, (Qu.sem k)), (102, (QS.sem k))]⟩
theorem QB.gok (k : Nat) : ∀ f, Qb Tryz.prog f ((QB.ctx k).Γ f) := (Q7 (Qe.sem_ok k) (Q7 (Q0B.sem_ok k) (Q7 (Qu.sem_ok k) (Q7 (QS.sem_ok k) QE))))
theorem QB.l0.round (k : Nat) : Q0V (QB.ctx k) (Q0e (Func.code Tryz.f69) [1, 1, 1, 0, 1, 0, 0]) (.nil) QB.l0.T [.mask [8, 12, 30, 31, 32], .auto 0] QB.l0.os (QB.l0.r k) := by
 intro ρ x kn ke; kernel_rfl
theorem QB.l0.ok (k : Nat) : StOK 0 Tryz.prog (.loop (Q0e (Func.code Tryz.f69) [1, 1, 1, 0, 1, 0, 0])) (Qv QB.l0.T QB.l0.os (QB.l0 k k)) :=
 Q0X (C := QB.ctx k) (QB.gok k) Tryz.mix Q3.nil (by kernel_rfl) (by kernel_rfl) (by kernel_rfl) (QB.l0.round k) k
def QB.ann (k : Nat) : Ann := .node [] none (.nil) (.node [] none (.nil) (.node [] none (.nil) (.node [] none (.node [] none (.nil) (.node [] none (.node [.mask [8, 12, 30, 31, 32], .auto 0, .own (.blk 1 [1]) Qeg] (some (Qv QB.l0.T QB.l0.os (QB.l0 k k))) .nil .nil) (.nil))) (.nil))))
theorem QB.body (k : Nat) : Q0M (QB.ctx k) Tryz.f69 (Func.code Tryz.f69) (QB.ann k) QB.tin QB.tout (fun x K => QB.c k x.1 x.2.1 x.2.2.1 x.2.2.2.1 K) := by
 intro ρ x K; kernel_rfl
theorem QB.sem_ok (k : Nat) : Qb Tryz.prog 69 (QB.sem k) :=
 Qs (C := QB.ctx k) (QB.gok k) Tryz.mix (c := Func.code Tryz.f69) (ann := QB.ann k) (tin := QB.tin) (tout := QB.tout) (fun x K => QB.c k x.1 x.2.1 x.2.2.1 x.2.2.2.1 K) Tryz.func69 (by kernel_rfl) (by kernel_rfl) (Q3.seq Q3.nil (Q3.seq Q3.nil (Q3.seq Q3.nil (Q3.seq (Q3.seq Q3.nil (Q3.block (Q3.loop (by kernel_rfl) (QB.l0.ok k)))) Q3.nil)))) (QB.body k)
def QM.c (k : Nat) {ρ : Type}  (K : Qef × Unit → Option ρ) : Option ρ :=
 (Qi k (0 : Int) (⟨(List.toArray [98, 101, 100, 114, 111, 99, 107])⟩ : ByteArray) (List.set (List.replicate 1 ((0 : Int), (ByteArray.empty, ()))) 0 ((5000 : Int), ((⟨(List.toArray [])⟩ : ByteArray), ())))).bind fun t0 => let v1 : Int := t0.2.1
 let v2 : (List Int) := (List.replicate 32 (0 : Int))
 (QB k v2 (1600000000 : Int) (545259519 : Int) (List.set (List.replicate 1 ((0 : Int), ([], ([], ((0 : Int), ()))))) 0 (t0.1.1, (t0.1.2.1, (t0.1.2.2.1, (t0.1.2.2.2.1, ())))))).bind fun t3 => let v4 : Int := t3.2.1
 K (((t3.1.1.1, (t3.1.1.2.1, (t3.1.1.2.2.1, (t3.1.1.2.2.2.1, (t3.1.1.2.2.2.2.1, (t3.1.1.2.2.2.2.2.1, ())))))), (t3.1.2.1, ())), ())
def QM (k : Nat)  : Option (Qef × Unit) := QM.c k  some
def QM.tin : List Ty := []
def QM.tout : List Ty := [Qed]
def QM.sem (k : Nat) : Qj := Qn QM.tin QM.tout fun x => QM k 
noncomputable def QM.ctx (k : Nat) : Ctx := ⟨Tryz.prog, gam [(68, (Q81 Qi.tin Qi.tout fun x => Qi k x.1 x.2.1 x.2.2.1)), (69, (Q81 QB.tin QB.tout fun x => QB k x.1 x.2.1 x.2.2.1 x.2.2.2.1))]⟩
theorem QM.gok (k : Nat) : ∀ f, Qb Tryz.prog f ((QM.ctx k).Γ f) := (Q7 (Q6I (Qi.sem_ok k)) (Q7 (Q6I (QB.sem_ok k)) QE))
def QM.ann (k : Nat) : Ann := .nil
theorem QM.body (k : Nat) : Q0M (QM.ctx k) Tryz.f32 (Func.code Tryz.f32) (QM.ann k) QM.tin QM.tout (fun x K => QM.c k  K) := by
 intro ρ x K; kernel_rfl
theorem QM.sem_ok (k : Nat) : Qb Tryz.prog 32 (QM.sem k) :=
 Qs (C := QM.ctx k) (QM.gok k) Tryz.mix (c := Func.code Tryz.f32) (ann := QM.ann k) (tin := QM.tin) (tout := QM.tout) (fun x K => QM.c k  K) Tryz.func32 (by kernel_rfl) (by kernel_rfl) Q3.nil (QM.body k)
end Go.Am
