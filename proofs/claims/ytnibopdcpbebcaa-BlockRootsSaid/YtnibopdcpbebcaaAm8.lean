/- A part of a proof: a machine of abstract values that tells what functions of the program compute, and the plain facts on them. -/
import Derived.Test.YtnibopdcpbebcaaAm7
import Derived.KernelRfl
set_option linter.unusedVariables false
set_option linter.unusedSimpArgs false
set_option linter.unnecessarySimpa false
set_option linter.unusedSectionVars false
namespace Go.Am
open Go Go.Proofs
set_option maxRecDepth 100000
/-! 59 bedrock/bedrockref10.lay -/
abbrev bedrockref10_lay.l0.σ : Type := Int × Int × Int × (List Int) × Unit
abbrev bedrockref10_lay.l0.τ : Type := ((List Int) × Unit)
def bedrockref10_lay.l0.r (k : Nat) {ρ : Type} (x : bedrockref10_lay.l0.σ) (kn : bedrockref10_lay.l0.σ → Option ρ) (ke : bedrockref10_lay.l0.τ → Option ρ) : Option ρ :=
  bif (decide (x.2.2.1 < x.2.1)) then (let v0 : Int := (Int.tmod x.1 (256 : Int))
  bif (Nat.ble (((List.length x.2.2.2.1) + (List.length (List.set (List.replicate 1 (0 : Int)) 0 (IntKind.wrap IntKind.u8 v0)))) * 1) 140737488355328) then (let v1 : Int := (IntKind.wrap IntKind.u64 (Int.tdiv x.1 (256 : Int)))
  let v2 : Int := (IntKind.wrap IntKind.i64 (x.2.2.1 + (1 : Int)))
  kn (v1, (x.2.1, (v2, ((x.2.2.2.1 ++ (List.set (List.replicate 1 (0 : Int)) 0 (IntKind.wrap IntKind.u8 v0))), ()))))) else (none)) else (ke (x.2.2.2.1, ()))
def bedrockref10_lay.l0 (k : Nat) : Nat → bedrockref10_lay.l0.σ → Option bedrockref10_lay.l0.τ := loopJ (bedrockref10_lay.l0.r k)
def bedrockref10_lay.l0.T : StT := ⟨.dat (.int .u64) :: .dat (.int .i64) :: us 3 ++ .vsl 0 :: .dat (.int .i64) :: us 16, [.vec (.int .u8)]⟩
def bedrockref10_lay.l0.os : List Out := [⟨(.exit 0), [.mask [5], .auto 0], ⟨us 5 ++ .vsl 0 :: us 17, [.vec (.int .u8)]⟩⟩]
def bedrockref10_lay.c (k : Nat) {ρ : Type} (n : Int) (bytes : Int) (K : ByteArray × Unit → Option ρ) : Option ρ :=
  (bedrockref10_lay.l0 k k (n, (bytes, ((0 : Int), ((List.replicate 0 (0 : Int)), ()))))).bind fun t3 => K ((bytesOf t3.1), ())
def bedrockref10_lay (k : Nat) (n : Int) (bytes : Int) : Option (ByteArray × Unit) := bedrockref10_lay.c k n bytes some
def bedrockref10_lay.tin : List Ty := [(.int .u64), (.int .i64)]
def bedrockref10_lay.tout : List Ty := [.str]
def bedrockref10_lay.sem (k : Nat) : CallSem := callPure bedrockref10_lay.tin bedrockref10_lay.tout fun x => bedrockref10_lay k x.1 x.2.1
noncomputable def bedrockref10_lay.ctx (k : Nat) : Ctx := ⟨Try.prog, gam []⟩
theorem bedrockref10_lay.gok (k : Nat) : ∀ f, SemOK Try.prog f ((bedrockref10_lay.ctx k).Γ f) := gam_nil
theorem bedrockref10_lay.l0.round (k : Nat) : RoundIs (bedrockref10_lay.ctx k) (codeAt (Func.code Try.f59) [1, 1, 0, 1, 0, 0]) (.nil) bedrockref10_lay.l0.T [.mask [0, 1, 5, 6], .auto 0] bedrockref10_lay.l0.os (bedrockref10_lay.l0.r k) := by
  intro ρ x kn ke; kernel_rfl
theorem bedrockref10_lay.l0.ok (k : Nat) : StOK 0 Try.prog (.loop (codeAt (Func.code Try.f59) [1, 1, 0, 1, 0, 0])) (pieceSem bedrockref10_lay.l0.T bedrockref10_lay.l0.os (bedrockref10_lay.l0 k k)) :=
  loop_ok (C := bedrockref10_lay.ctx k) (bedrockref10_lay.gok k) Try.mix AnnOK.nil (by kernel_rfl) (by kernel_rfl) (by kernel_rfl) (bedrockref10_lay.l0.round k) k
def bedrockref10_lay.ann (k : Nat) : Ann := .node [] none (.nil) (.node [] none (.nil) (.node [] none (.node [] none (.nil) (.node [] none (.node [.mask [0, 1, 5, 6], .auto 0] (some (pieceSem bedrockref10_lay.l0.T bedrockref10_lay.l0.os (bedrockref10_lay.l0 k k))) .nil .nil) (.nil))) (.nil)))
theorem bedrockref10_lay.body (k : Nat) : BodyIs (bedrockref10_lay.ctx k) Try.f59 (Func.code Try.f59) (bedrockref10_lay.ann k) bedrockref10_lay.tin bedrockref10_lay.tout (fun x K => bedrockref10_lay.c k x.1 x.2.1 K) := by
  intro ρ x K; kernel_rfl
theorem bedrockref10_lay.sem_ok (k : Nat) : SemOK Try.prog 59 (bedrockref10_lay.sem k) :=
  callPure_ok (C := bedrockref10_lay.ctx k) (bedrockref10_lay.gok k) Try.mix (c := Func.code Try.f59) (ann := bedrockref10_lay.ann k) (tin := bedrockref10_lay.tin) (tout := bedrockref10_lay.tout) (fun x K => bedrockref10_lay.c k x.1 x.2.1 K) Try.func59 (by kernel_rfl) (by kernel_rfl) (AnnOK.seq AnnOK.nil (AnnOK.seq AnnOK.nil (AnnOK.seq (AnnOK.seq AnnOK.nil (AnnOK.block (AnnOK.loop (by kernel_rfl) (bedrockref10_lay.l0.ok k)))) AnnOK.nil))) (bedrockref10_lay.body k)

/-! 60 bedrock/bedrockref10.Count -/
def bedrockref10_Count.c (k : Nat) {ρ : Type} (n : Int) (K : ByteArray × Unit → Option ρ) : Option ρ :=
  bif (decide (n < (253 : Int))) then ((bedrockref10_lay k n (1 : Int)).bind fun t0 => K (t0.1, ())) else (bif (decide (n < (65536 : Int))) then ((bedrockref10_lay k n (2 : Int)).bind fun t1 => bif (Nat.ble (1 + (ByteArray.size t1.1)) 9223372036854775807) then (let v2 : ByteArray := ((⟨(List.toArray [253])⟩ : ByteArray) ++ t1.1)
  K (v2, ())) else (none)) else (bif (decide (n < (4294967296 : Int))) then ((bedrockref10_lay k n (4 : Int)).bind fun t3 => bif (Nat.ble (1 + (ByteArray.size t3.1)) 9223372036854775807) then (let v4 : ByteArray := ((⟨(List.toArray [254])⟩ : ByteArray) ++ t3.1)
  K (v4, ())) else (none)) else ((bedrockref10_lay k n (8 : Int)).bind fun t5 => bif (Nat.ble (1 + (ByteArray.size t5.1)) 9223372036854775807) then (let v6 : ByteArray := ((⟨(List.toArray [255])⟩ : ByteArray) ++ t5.1)
  K (v6, ())) else (none))))
def bedrockref10_Count (k : Nat) (n : Int) : Option (ByteArray × Unit) := bedrockref10_Count.c k n some
def bedrockref10_Count.tin : List Ty := [(.int .u64)]
def bedrockref10_Count.tout : List Ty := [.str]
def bedrockref10_Count.sem (k : Nat) : CallSem := callPure bedrockref10_Count.tin bedrockref10_Count.tout fun x => bedrockref10_Count k x.1
noncomputable def bedrockref10_Count.ctx (k : Nat) : Ctx := ⟨Try.prog, gam [(59, (bedrockref10_lay.sem k))]⟩
theorem bedrockref10_Count.gok (k : Nat) : ∀ f, SemOK Try.prog f ((bedrockref10_Count.ctx k).Γ f) := (gam_cons (bedrockref10_lay.sem_ok k) gam_nil)
def bedrockref10_Count.ann (k : Nat) : Ann := .nil
theorem bedrockref10_Count.body (k : Nat) : BodyIs (bedrockref10_Count.ctx k) Try.f60 (Func.code Try.f60) (bedrockref10_Count.ann k) bedrockref10_Count.tin bedrockref10_Count.tout (fun x K => bedrockref10_Count.c k x.1 K) := by
  intro ρ x K; kernel_rfl
theorem bedrockref10_Count.sem_ok (k : Nat) : SemOK Try.prog 60 (bedrockref10_Count.sem k) :=
  callPure_ok (C := bedrockref10_Count.ctx k) (bedrockref10_Count.gok k) Try.mix (c := Func.code Try.f60) (ann := bedrockref10_Count.ann k) (tin := bedrockref10_Count.tin) (tout := bedrockref10_Count.tout) (fun x K => bedrockref10_Count.c k x.1 K) Try.func60 (by kernel_rfl) (by kernel_rfl) AnnOK.nil (bedrockref10_Count.body k)

/-! 40 bedrock/bedrockref10.Bytes -/
abbrev bedrockref10_Bytes.l0.σ : Type := ByteArray × (List ((List Int) × (Int × (ByteArray × (Int × Unit))))) × Int × Int × (Int × ((List ((List Int) × (Int × (ByteArray × (Int × Unit))))) × ((List (Int × (ByteArray × Unit))) × (Int × Unit)))) × Unit
abbrev bedrockref10_Bytes.l0.τ : Type := (ByteArray × (Int × ((List ((List Int) × (Int × (ByteArray × (Int × Unit))))) × ((List (Int × (ByteArray × Unit))) × (Int × Unit)))) × Unit)
def bedrockref10_Bytes.l0.r (k : Nat) {ρ : Type} (x : bedrockref10_Bytes.l0.σ) (kn : bedrockref10_Bytes.l0.σ → Option ρ) (ke : bedrockref10_Bytes.l0.τ → Option ρ) : Option ρ :=
  bif (decide (x.2.2.2.1 < x.2.2.1)) then (bif (decide (((0 : Int) ≤ x.2.2.2.1) ∧ (x.2.2.2.1 < (((List.length x.2.1) : Nat) : Int)))) then (let v8 : ByteArray := (bytesOf (List.take 32 (List.drop 0 (List.getD x.2.1 (Int.toNat x.2.2.2.1) ((List.replicate 32 (0 : Int)), ((0 : Int), (ByteArray.empty, ((0 : Int), ()))))).1)))
  let v9 : Int := (List.getD x.2.1 (Int.toNat x.2.2.2.1) ((List.replicate 32 (0 : Int)), ((0 : Int), (ByteArray.empty, ((0 : Int), ()))))).2.1
  (bedrockref10_lay k (IntKind.wrap IntKind.u64 v9) (4 : Int)).bind fun t10 => bif (Nat.ble ((ByteArray.size v8) + (ByteArray.size t10.1)) 9223372036854775807) then (let v11 : ByteArray := (v8 ++ t10.1)
  let v12 : ByteArray := (List.getD x.2.1 (Int.toNat x.2.2.2.1) ((List.replicate 32 (0 : Int)), ((0 : Int), (ByteArray.empty, ((0 : Int), ()))))).2.2.1
  (bedrockref10_Count k (IntKind.wrap IntKind.u64 (((ByteArray.size v12) : Nat) : Int))).bind fun t13 => bif (Nat.ble ((ByteArray.size v11) + (ByteArray.size t13.1)) 9223372036854775807) then (let v14 : ByteArray := (v11 ++ t13.1)
  let v15 : ByteArray := (List.getD x.2.1 (Int.toNat x.2.2.2.1) ((List.replicate 32 (0 : Int)), ((0 : Int), (ByteArray.empty, ((0 : Int), ()))))).2.2.1
  bif (Nat.ble ((ByteArray.size v14) + (ByteArray.size v15)) 9223372036854775807) then (let v16 : ByteArray := (v14 ++ v15)
  let v17 : Int := (List.getD x.2.1 (Int.toNat x.2.2.2.1) ((List.replicate 32 (0 : Int)), ((0 : Int), (ByteArray.empty, ((0 : Int), ()))))).2.2.2.1
  (bedrockref10_lay k (IntKind.wrap IntKind.u64 v17) (4 : Int)).bind fun t18 => bif (Nat.ble ((ByteArray.size v16) + (ByteArray.size t18.1)) 9223372036854775807) then (let v19 : ByteArray := (v16 ++ t18.1)
  bif (Nat.ble ((ByteArray.size x.1) + (ByteArray.size v19)) 9223372036854775807) then (let v20 : ByteArray := (x.1 ++ v19)
  let v21 : Int := (IntKind.wrap IntKind.i64 (x.2.2.2.1 + (1 : Int)))
  kn (v20, (x.2.1, (x.2.2.1, (v21, ((x.2.2.2.2.1.1, (x.2.2.2.2.1.2.1, (x.2.2.2.2.1.2.2.1, (x.2.2.2.2.1.2.2.2.1, ())))), ())))))) else (none)) else (none)) else (none)) else (none)) else (none)) else (none)) else (ke (x.1, ((x.2.2.2.2.1.1, (x.2.2.2.2.1.2.1, (x.2.2.2.2.1.2.2.1, (x.2.2.2.2.1.2.2.2.1, ())))), ())))
def bedrockref10_Bytes.l0 (k : Nat) : Nat → bedrockref10_Bytes.l0.σ → Option bedrockref10_Bytes.l0.τ := loopJ (bedrockref10_Bytes.l0.r k)
def bedrockref10_Bytes.l0.T : StT := ⟨us 1 ++ .ptr 0 [] :: us 1 ++ .dat .str :: us 15 ++ .dat (.sl (.pair (.arr 32 (.int .u8)) (.pair (.int .u32) (.pair .str (.pair (.int .u32) .unit))))) :: .dat (.int .i64) :: .dat (.int .i64) :: us 63, [.dat (.pair (.int .u32) (.pair (.sl (.pair (.arr 32 (.int .u8)) (.pair (.int .u32) (.pair .str (.pair (.int .u32) .unit))))) (.pair (.sl (.pair (.int .u64) (.pair .str .unit))) (.pair (.int .u32) .unit))))]⟩
def bedrockref10_Bytes.l0.os : List Out := [⟨(.exit 0), [.mask [1, 3], .auto 0], ⟨us 1 ++ .ptr 0 [] :: us 1 ++ .dat .str :: us 81, [.dat (.pair (.int .u32) (.pair (.sl (.pair (.arr 32 (.int .u8)) (.pair (.int .u32) (.pair .str (.pair (.int .u32) .unit))))) (.pair (.sl (.pair (.int .u64) (.pair .str .unit))) (.pair (.int .u32) .unit))))]⟩⟩]
abbrev bedrockref10_Bytes.l1.σ : Type := ByteArray × (List (Int × (ByteArray × Unit))) × Int × Int × (Int × ((List ((List Int) × (Int × (ByteArray × (Int × Unit))))) × ((List (Int × (ByteArray × Unit))) × (Int × Unit)))) × Unit
abbrev bedrockref10_Bytes.l1.τ : Type := (ByteArray × (Int × ((List ((List Int) × (Int × (ByteArray × (Int × Unit))))) × ((List (Int × (ByteArray × Unit))) × (Int × Unit)))) × Unit)
def bedrockref10_Bytes.l1.r (k : Nat) {ρ : Type} (x : bedrockref10_Bytes.l1.σ) (kn : bedrockref10_Bytes.l1.σ → Option ρ) (ke : bedrockref10_Bytes.l1.τ → Option ρ) : Option ρ :=
  bif (decide (x.2.2.2.1 < x.2.2.1)) then (bif (decide (((0 : Int) ≤ x.2.2.2.1) ∧ (x.2.2.2.1 < (((List.length x.2.1) : Nat) : Int)))) then (let v29 : Int := (List.getD x.2.1 (Int.toNat x.2.2.2.1) ((0 : Int), (ByteArray.empty, ()))).1
  (bedrockref10_lay k v29 (8 : Int)).bind fun t30 => let v31 : ByteArray := (List.getD x.2.1 (Int.toNat x.2.2.2.1) ((0 : Int), (ByteArray.empty, ()))).2.1
  (bedrockref10_Count k (IntKind.wrap IntKind.u64 (((ByteArray.size v31) : Nat) : Int))).bind fun t32 => bif (Nat.ble ((ByteArray.size t30.1) + (ByteArray.size t32.1)) 9223372036854775807) then (let v33 : ByteArray := (t30.1 ++ t32.1)
  let v34 : ByteArray := (List.getD x.2.1 (Int.toNat x.2.2.2.1) ((0 : Int), (ByteArray.empty, ()))).2.1
  bif (Nat.ble ((ByteArray.size v33) + (ByteArray.size v34)) 9223372036854775807) then (let v35 : ByteArray := (v33 ++ v34)
  bif (Nat.ble ((ByteArray.size x.1) + (ByteArray.size v35)) 9223372036854775807) then (let v36 : ByteArray := (x.1 ++ v35)
  let v37 : Int := (IntKind.wrap IntKind.i64 (x.2.2.2.1 + (1 : Int)))
  kn (v36, (x.2.1, (x.2.2.1, (v37, ((x.2.2.2.2.1.1, (x.2.2.2.2.1.2.1, (x.2.2.2.2.1.2.2.1, (x.2.2.2.2.1.2.2.2.1, ())))), ())))))) else (none)) else (none)) else (none)) else (none)) else (ke (x.1, ((x.2.2.2.2.1.1, (x.2.2.2.2.1.2.1, (x.2.2.2.2.1.2.2.1, (x.2.2.2.2.1.2.2.2.1, ())))), ())))
def bedrockref10_Bytes.l1 (k : Nat) : Nat → bedrockref10_Bytes.l1.σ → Option bedrockref10_Bytes.l1.τ := loopJ (bedrockref10_Bytes.l1.r k)
def bedrockref10_Bytes.l1.T : StT := ⟨us 1 ++ .ptr 0 [] :: us 1 ++ .dat .str :: us 54 ++ .dat (.sl (.pair (.int .u64) (.pair .str .unit))) :: .dat (.int .i64) :: .dat (.int .i64) :: us 24, [.dat (.pair (.int .u32) (.pair (.sl (.pair (.arr 32 (.int .u8)) (.pair (.int .u32) (.pair .str (.pair (.int .u32) .unit))))) (.pair (.sl (.pair (.int .u64) (.pair .str .unit))) (.pair (.int .u32) .unit))))]⟩
def bedrockref10_Bytes.l1.os : List Out := [⟨(.exit 2), [.mask [1, 3], .auto 0], ⟨us 1 ++ .ptr 0 [] :: us 1 ++ .dat .str :: us 81, [.dat (.pair (.int .u32) (.pair (.sl (.pair (.arr 32 (.int .u8)) (.pair (.int .u32) (.pair .str (.pair (.int .u32) .unit))))) (.pair (.sl (.pair (.int .u64) (.pair .str .unit))) (.pair (.int .u32) .unit))))]⟩⟩]
def bedrockref10_Bytes.c (k : Nat) {ρ : Type} (t : (Int × ((List ((List Int) × (Int × (ByteArray × (Int × Unit))))) × ((List (Int × (ByteArray × Unit))) × (Int × Unit))))) (K : ByteArray × Unit → Option ρ) : Option ρ :=
  let v0 : Int := t.1
  (bedrockref10_lay k (IntKind.wrap IntKind.u64 v0) (4 : Int)).bind fun t1 => let v2 : (List ((List Int) × (Int × (ByteArray × (Int × Unit))))) := t.2.1
  let v3 : Int := (((List.length v2) : Nat) : Int)
  (bedrockref10_Count k (IntKind.wrap IntKind.u64 v3)).bind fun t4 => bif (Nat.ble ((ByteArray.size t1.1) + (ByteArray.size t4.1)) 9223372036854775807) then (let v5 : ByteArray := (t1.1 ++ t4.1)
  let v6 : (List ((List Int) × (Int × (ByteArray × (Int × Unit))))) := t.2.1
  let v7 : Int := (((List.length v6) : Nat) : Int)
  (bedrockref10_Bytes.l0 k k (v5, (v6, (v7, ((0 : Int), ((t.1, (t.2.1, (t.2.2.1, (t.2.2.2.1, ())))), ())))))).bind fun t22 => let v23 : (List (Int × (ByteArray × Unit))) := t22.2.1.2.2.1
  let v24 : Int := (((List.length v23) : Nat) : Int)
  (bedrockref10_Count k (IntKind.wrap IntKind.u64 v24)).bind fun t25 => bif (Nat.ble ((ByteArray.size t22.1) + (ByteArray.size t25.1)) 9223372036854775807) then (let v26 : ByteArray := (t22.1 ++ t25.1)
  let v27 : (List (Int × (ByteArray × Unit))) := t22.2.1.2.2.1
  let v28 : Int := (((List.length v27) : Nat) : Int)
  (bedrockref10_Bytes.l1 k k (v26, (v27, (v28, ((0 : Int), ((t22.2.1.1, (t22.2.1.2.1, (t22.2.1.2.2.1, (t22.2.1.2.2.2.1, ())))), ())))))).bind fun t38 => let v39 : Int := t38.2.1.2.2.2.1
  (bedrockref10_lay k (IntKind.wrap IntKind.u64 v39) (4 : Int)).bind fun t40 => bif (Nat.ble ((ByteArray.size t38.1) + (ByteArray.size t40.1)) 9223372036854775807) then (let v41 : ByteArray := (t38.1 ++ t40.1)
  K (v41, ())) else (none)) else (none)) else (none)
def bedrockref10_Bytes (k : Nat) (t : (Int × ((List ((List Int) × (Int × (ByteArray × (Int × Unit))))) × ((List (Int × (ByteArray × Unit))) × (Int × Unit))))) : Option (ByteArray × Unit) := bedrockref10_Bytes.c k t some
def bedrockref10_Bytes.tin : List Ty := [(.pair (.int .u32) (.pair (.sl (.pair (.arr 32 (.int .u8)) (.pair (.int .u32) (.pair .str (.pair (.int .u32) .unit))))) (.pair (.sl (.pair (.int .u64) (.pair .str .unit))) (.pair (.int .u32) .unit))))]
def bedrockref10_Bytes.tout : List Ty := [.str]
def bedrockref10_Bytes.sem (k : Nat) : CallSem := callPure bedrockref10_Bytes.tin bedrockref10_Bytes.tout fun x => bedrockref10_Bytes k x.1
noncomputable def bedrockref10_Bytes.ctx (k : Nat) : Ctx := ⟨Try.prog, gam [(59, (bedrockref10_lay.sem k)), (60, (bedrockref10_Count.sem k))]⟩
theorem bedrockref10_Bytes.gok (k : Nat) : ∀ f, SemOK Try.prog f ((bedrockref10_Bytes.ctx k).Γ f) := (gam_cons (bedrockref10_lay.sem_ok k) (gam_cons (bedrockref10_Count.sem_ok k) gam_nil))
theorem bedrockref10_Bytes.l0.round (k : Nat) : RoundIs (bedrockref10_Bytes.ctx k) (codeAt (Func.code Try.f40) [1, 1, 0, 1, 0, 0]) (.nil) bedrockref10_Bytes.l0.T [.mask [1, 3, 19, 20, 21], .auto 0] bedrockref10_Bytes.l0.os (bedrockref10_Bytes.l0.r k) := by
  intro ρ x kn ke; kernel_rfl
theorem bedrockref10_Bytes.l0.ok (k : Nat) : StOK 0 Try.prog (.loop (codeAt (Func.code Try.f40) [1, 1, 0, 1, 0, 0])) (pieceSem bedrockref10_Bytes.l0.T bedrockref10_Bytes.l0.os (bedrockref10_Bytes.l0 k k)) :=
  loop_ok (C := bedrockref10_Bytes.ctx k) (bedrockref10_Bytes.gok k) Try.mix AnnOK.nil (by kernel_rfl) (by kernel_rfl) (by kernel_rfl) (bedrockref10_Bytes.l0.round k) k
theorem bedrockref10_Bytes.l1.round (k : Nat) : RoundIs (bedrockref10_Bytes.ctx k) (codeAt (Func.code Try.f40) [1, 1, 1, 1, 0, 1, 0, 0]) (.nil) bedrockref10_Bytes.l1.T [.mask [1, 3, 58, 59, 60], .auto 0] bedrockref10_Bytes.l1.os (bedrockref10_Bytes.l1.r k) := by
  intro ρ x kn ke; kernel_rfl
theorem bedrockref10_Bytes.l1.ok (k : Nat) : StOK 0 Try.prog (.loop (codeAt (Func.code Try.f40) [1, 1, 1, 1, 0, 1, 0, 0])) (pieceSem bedrockref10_Bytes.l1.T bedrockref10_Bytes.l1.os (bedrockref10_Bytes.l1 k k)) :=
  loop_ok (C := bedrockref10_Bytes.ctx k) (bedrockref10_Bytes.gok k) Try.mix AnnOK.nil (by kernel_rfl) (by kernel_rfl) (by kernel_rfl) (bedrockref10_Bytes.l1.round k) k
def bedrockref10_Bytes.ann (k : Nat) : Ann := .node [] none (.nil) (.node [] none (.nil) (.node [] none (.node [] none (.nil) (.node [] none (.node [.mask [1, 3, 19, 20, 21], .auto 0] (some (pieceSem bedrockref10_Bytes.l0.T bedrockref10_Bytes.l0.os (bedrockref10_Bytes.l0 k k))) .nil .nil) (.nil))) (.node [] none (.nil) (.node [] none (.node [] none (.nil) (.node [] none (.node [.mask [1, 3, 58, 59, 60], .auto 0] (some (pieceSem bedrockref10_Bytes.l1.T bedrockref10_Bytes.l1.os (bedrockref10_Bytes.l1 k k))) .nil .nil) (.nil))) (.nil)))))
theorem bedrockref10_Bytes.body (k : Nat) : BodyIs (bedrockref10_Bytes.ctx k) Try.f40 (Func.code Try.f40) (bedrockref10_Bytes.ann k) bedrockref10_Bytes.tin bedrockref10_Bytes.tout (fun x K => bedrockref10_Bytes.c k x.1 K) := by
  intro ρ x K; kernel_rfl
theorem bedrockref10_Bytes.sem_ok (k : Nat) : SemOK Try.prog 40 (bedrockref10_Bytes.sem k) :=
  callPure_ok (C := bedrockref10_Bytes.ctx k) (bedrockref10_Bytes.gok k) Try.mix (c := Func.code Try.f40) (ann := bedrockref10_Bytes.ann k) (tin := bedrockref10_Bytes.tin) (tout := bedrockref10_Bytes.tout) (fun x K => bedrockref10_Bytes.c k x.1 K) Try.func40 (by kernel_rfl) (by kernel_rfl) (AnnOK.seq AnnOK.nil (AnnOK.seq AnnOK.nil (AnnOK.seq (AnnOK.seq AnnOK.nil (AnnOK.block (AnnOK.loop (by kernel_rfl) (bedrockref10_Bytes.l0.ok k)))) (AnnOK.seq AnnOK.nil (AnnOK.seq (AnnOK.seq AnnOK.nil (AnnOK.block (AnnOK.loop (by kernel_rfl) (bedrockref10_Bytes.l1.ok k)))) AnnOK.nil))))) (bedrockref10_Bytes.body k)

/-! 38 bedrock/bedrockref10.Told -/
abbrev bedrockref10_Told.l0.σ : Type := (List ((List Int) × (Int × (ByteArray × (Int × Unit))))) × Int × Int × (Int × ((List ((List Int) × (Int × (ByteArray × (Int × Unit))))) × ((List (Int × (ByteArray × Unit))) × (Int × Unit)))) × Unit
abbrev bedrockref10_Told.l0.τ : Type := (Int × Unit) ⊕ ((Int × ((List ((List Int) × (Int × (ByteArray × (Int × Unit))))) × ((List (Int × (ByteArray × Unit))) × (Int × Unit)))) × Unit)
def bedrockref10_Told.l0.r (k : Nat) {ρ : Type} (x : bedrockref10_Told.l0.σ) (kn : bedrockref10_Told.l0.σ → Option ρ) (ke : bedrockref10_Told.l0.τ → Option ρ) : Option ρ :=
  bif (decide (x.2.2.1 < x.2.1)) then (bif (decide (((0 : Int) ≤ x.2.2.1) ∧ (x.2.2.1 < (((List.length x.1) : Nat) : Int)))) then (let v2 : ByteArray := (List.getD x.1 (Int.toNat x.2.2.1) ((List.replicate 32 (0 : Int)), ((0 : Int), (ByteArray.empty, ((0 : Int), ()))))).2.2.1
  bif (decide ((((ByteArray.size v2) : Nat) : Int) > (520 : Int))) then (ke (.inl ((100 : Int), ()))) else (let v3 : Int := (IntKind.wrap IntKind.i64 (x.2.2.1 + (1 : Int)))
  kn (x.1, (x.2.1, (v3, ((x.2.2.2.1.1, (x.2.2.2.1.2.1, (x.2.2.2.1.2.2.1, (x.2.2.2.1.2.2.2.1, ())))), ())))))) else (none)) else (ke (.inr ((x.2.2.2.1.1, (x.2.2.2.1.2.1, (x.2.2.2.1.2.2.1, (x.2.2.2.1.2.2.2.1, ())))), ())))
def bedrockref10_Told.l0 (k : Nat) : Nat → bedrockref10_Told.l0.σ → Option bedrockref10_Told.l0.τ := loopJ (bedrockref10_Told.l0.r k)
def bedrockref10_Told.l0.T : StT := ⟨us 1 ++ .ptr 0 [] :: us 6 ++ .dat (.sl (.pair (.arr 32 (.int .u8)) (.pair (.int .u32) (.pair .str (.pair (.int .u32) .unit))))) :: .dat (.int .i64) :: .dat (.int .i64) :: us 24, [.dat (.pair (.int .u32) (.pair (.sl (.pair (.arr 32 (.int .u8)) (.pair (.int .u32) (.pair .str (.pair (.int .u32) .unit))))) (.pair (.sl (.pair (.int .u64) (.pair .str .unit))) (.pair (.int .u32) .unit))))]⟩
def bedrockref10_Told.l0.os : List Out := [⟨.ret, [.mask [2], .auto 0], ⟨us 2 ++ .dat (.int .i64) :: us 32, []⟩⟩, ⟨(.exit 0), [.mask [1], .auto 0], ⟨us 1 ++ .ptr 0 [] :: us 33, [.dat (.pair (.int .u32) (.pair (.sl (.pair (.arr 32 (.int .u8)) (.pair (.int .u32) (.pair .str (.pair (.int .u32) .unit))))) (.pair (.sl (.pair (.int .u64) (.pair .str .unit))) (.pair (.int .u32) .unit))))]⟩⟩]
abbrev bedrockref10_Told.l1.σ : Type := (List (Int × (ByteArray × Unit))) × Int × Int × (Int × ((List ((List Int) × (Int × (ByteArray × (Int × Unit))))) × ((List (Int × (ByteArray × Unit))) × (Int × Unit)))) × Unit
abbrev bedrockref10_Told.l1.τ : Type := (Int × Unit) ⊕ ((Int × ((List ((List Int) × (Int × (ByteArray × (Int × Unit))))) × ((List (Int × (ByteArray × Unit))) × (Int × Unit)))) × Unit)
def bedrockref10_Told.l1.r (k : Nat) {ρ : Type} (x : bedrockref10_Told.l1.σ) (kn : bedrockref10_Told.l1.σ → Option ρ) (ke : bedrockref10_Told.l1.τ → Option ρ) : Option ρ :=
  bif (decide (x.2.2.1 < x.2.1)) then (bif (decide (((0 : Int) ≤ x.2.2.1) ∧ (x.2.2.1 < (((List.length x.1) : Nat) : Int)))) then (let v9 : ByteArray := (List.getD x.1 (Int.toNat x.2.2.1) ((0 : Int), (ByteArray.empty, ()))).2.1
  bif (decide ((((ByteArray.size v9) : Nat) : Int) > (520 : Int))) then (ke (.inl ((100 : Int), ()))) else (let v10 : Int := (IntKind.wrap IntKind.i64 (x.2.2.1 + (1 : Int)))
  kn (x.1, (x.2.1, (v10, ((x.2.2.2.1.1, (x.2.2.2.1.2.1, (x.2.2.2.1.2.2.1, (x.2.2.2.1.2.2.2.1, ())))), ())))))) else (none)) else (ke (.inr ((x.2.2.2.1.1, (x.2.2.2.1.2.1, (x.2.2.2.1.2.2.1, (x.2.2.2.1.2.2.2.1, ())))), ())))
def bedrockref10_Told.l1 (k : Nat) : Nat → bedrockref10_Told.l1.σ → Option bedrockref10_Told.l1.τ := loopJ (bedrockref10_Told.l1.r k)
def bedrockref10_Told.l1.T : StT := ⟨us 1 ++ .ptr 0 [] :: us 18 ++ .dat (.sl (.pair (.int .u64) (.pair .str .unit))) :: .dat (.int .i64) :: .dat (.int .i64) :: us 12, [.dat (.pair (.int .u32) (.pair (.sl (.pair (.arr 32 (.int .u8)) (.pair (.int .u32) (.pair .str (.pair (.int .u32) .unit))))) (.pair (.sl (.pair (.int .u64) (.pair .str .unit))) (.pair (.int .u32) .unit))))]⟩
def bedrockref10_Told.l1.os : List Out := [⟨.ret, [.mask [2], .auto 0], ⟨us 2 ++ .dat (.int .i64) :: us 32, []⟩⟩, ⟨(.exit 2), [.mask [1], .auto 0], ⟨us 1 ++ .ptr 0 [] :: us 33, [.dat (.pair (.int .u32) (.pair (.sl (.pair (.arr 32 (.int .u8)) (.pair (.int .u32) (.pair .str (.pair (.int .u32) .unit))))) (.pair (.sl (.pair (.int .u64) (.pair .str .unit))) (.pair (.int .u32) .unit))))]⟩⟩]
def bedrockref10_Told.c (k : Nat) {ρ : Type} (t : (Int × ((List ((List Int) × (Int × (ByteArray × (Int × Unit))))) × ((List (Int × (ByteArray × Unit))) × (Int × Unit))))) (K : Int × Unit → Option ρ) : Option ρ :=
  let v0 : (List ((List Int) × (Int × (ByteArray × (Int × Unit))))) := t.2.1
  let v1 : Int := (((List.length v0) : Nat) : Int)
  (bedrockref10_Told.l0 k k (v0, (v1, ((0 : Int), ((t.1, (t.2.1, (t.2.2.1, (t.2.2.2.1, ())))), ()))))).bind fun t4 => (match t4 with | .inl t5 => (K (t5.1, ())) | .inr (t6) => (let v7 : (List (Int × (ByteArray × Unit))) := t6.1.2.2.1
  let v8 : Int := (((List.length v7) : Nat) : Int)
  (bedrockref10_Told.l1 k k (v7, (v8, ((0 : Int), ((t6.1.1, (t6.1.2.1, (t6.1.2.2.1, (t6.1.2.2.2.1, ())))), ()))))).bind fun t11 => (match t11 with | .inl t12 => (K (t12.1, ())) | .inr (t13) => ((bedrockref10_Bytes k (t13.1.1, (t13.1.2.1, (t13.1.2.2.1, (t13.1.2.2.2.1, ()))))).bind fun t14 => let v15 : Int := (((ByteArray.size t14.1) : Nat) : Int)
  bif (decide (v15 > (4096 : Int))) then (K ((101 : Int), ())) else (K ((0 : Int), ()))))))
def bedrockref10_Told (k : Nat) (t : (Int × ((List ((List Int) × (Int × (ByteArray × (Int × Unit))))) × ((List (Int × (ByteArray × Unit))) × (Int × Unit))))) : Option (Int × Unit) := bedrockref10_Told.c k t some
def bedrockref10_Told.tin : List Ty := [(.pair (.int .u32) (.pair (.sl (.pair (.arr 32 (.int .u8)) (.pair (.int .u32) (.pair .str (.pair (.int .u32) .unit))))) (.pair (.sl (.pair (.int .u64) (.pair .str .unit))) (.pair (.int .u32) .unit))))]
def bedrockref10_Told.tout : List Ty := [(.int .i64)]
def bedrockref10_Told.sem (k : Nat) : CallSem := callPure bedrockref10_Told.tin bedrockref10_Told.tout fun x => bedrockref10_Told k x.1
noncomputable def bedrockref10_Told.ctx (k : Nat) : Ctx := ⟨Try.prog, gam [(40, (bedrockref10_Bytes.sem k))]⟩
theorem bedrockref10_Told.gok (k : Nat) : ∀ f, SemOK Try.prog f ((bedrockref10_Told.ctx k).Γ f) := (gam_cons (bedrockref10_Bytes.sem_ok k) gam_nil)
theorem bedrockref10_Told.l0.round (k : Nat) : RoundIs (bedrockref10_Told.ctx k) (codeAt (Func.code Try.f38) [1, 0, 1, 0, 0]) (.nil) bedrockref10_Told.l0.T [.mask [1, 8, 9, 10], .auto 0] bedrockref10_Told.l0.os (bedrockref10_Told.l0.r k) := by
  intro ρ x kn ke; kernel_rfl
theorem bedrockref10_Told.l0.ok (k : Nat) : StOK 0 Try.prog (.loop (codeAt (Func.code Try.f38) [1, 0, 1, 0, 0])) (pieceSem bedrockref10_Told.l0.T bedrockref10_Told.l0.os (bedrockref10_Told.l0 k k)) :=
  loop_ok (C := bedrockref10_Told.ctx k) (bedrockref10_Told.gok k) Try.mix AnnOK.nil (by kernel_rfl) (by kernel_rfl) (by kernel_rfl) (bedrockref10_Told.l0.round k) k
theorem bedrockref10_Told.l1.round (k : Nat) : RoundIs (bedrockref10_Told.ctx k) (codeAt (Func.code Try.f38) [1, 1, 0, 1, 0, 0]) (.nil) bedrockref10_Told.l1.T [.mask [1, 20, 21, 22], .auto 0] bedrockref10_Told.l1.os (bedrockref10_Told.l1.r k) := by
  intro ρ x kn ke; kernel_rfl
theorem bedrockref10_Told.l1.ok (k : Nat) : StOK 0 Try.prog (.loop (codeAt (Func.code Try.f38) [1, 1, 0, 1, 0, 0])) (pieceSem bedrockref10_Told.l1.T bedrockref10_Told.l1.os (bedrockref10_Told.l1 k k)) :=
  loop_ok (C := bedrockref10_Told.ctx k) (bedrockref10_Told.gok k) Try.mix AnnOK.nil (by kernel_rfl) (by kernel_rfl) (by kernel_rfl) (bedrockref10_Told.l1.round k) k
def bedrockref10_Told.ann (k : Nat) : Ann := .node [] none (.nil) (.node [] none (.node [] none (.nil) (.node [] none (.node [.mask [1, 8, 9, 10], .auto 0] (some (pieceSem bedrockref10_Told.l0.T bedrockref10_Told.l0.os (bedrockref10_Told.l0 k k))) .nil .nil) (.nil))) (.node [] none (.node [] none (.nil) (.node [] none (.node [.mask [1, 20, 21, 22], .auto 0] (some (pieceSem bedrockref10_Told.l1.T bedrockref10_Told.l1.os (bedrockref10_Told.l1 k k))) .nil .nil) (.nil))) (.nil)))
theorem bedrockref10_Told.body (k : Nat) : BodyIs (bedrockref10_Told.ctx k) Try.f38 (Func.code Try.f38) (bedrockref10_Told.ann k) bedrockref10_Told.tin bedrockref10_Told.tout (fun x K => bedrockref10_Told.c k x.1 K) := by
  intro ρ x K; kernel_rfl
theorem bedrockref10_Told.sem_ok (k : Nat) : SemOK Try.prog 38 (bedrockref10_Told.sem k) :=
  callPure_ok (C := bedrockref10_Told.ctx k) (bedrockref10_Told.gok k) Try.mix (c := Func.code Try.f38) (ann := bedrockref10_Told.ann k) (tin := bedrockref10_Told.tin) (tout := bedrockref10_Told.tout) (fun x K => bedrockref10_Told.c k x.1 K) Try.func38 (by kernel_rfl) (by kernel_rfl) (AnnOK.seq AnnOK.nil (AnnOK.seq (AnnOK.seq AnnOK.nil (AnnOK.block (AnnOK.loop (by kernel_rfl) (bedrockref10_Told.l0.ok k)))) (AnnOK.seq (AnnOK.seq AnnOK.nil (AnnOK.block (AnnOK.loop (by kernel_rfl) (bedrockref10_Told.l1.ok k)))) AnnOK.nil))) (bedrockref10_Told.body k)

/-! 23 bedrock/bedrockref10.ID -/
def bedrockref10_ID.c (k : Nat) {ρ : Type} (t : (Int × ((List ((List Int) × (Int × (ByteArray × (Int × Unit))))) × ((List (Int × (ByteArray × Unit))) × (Int × Unit))))) (K : (List Int) × Bool × Unit → Option ρ) : Option ρ :=
  (bedrockref10_Told k (t.1, (t.2.1, (t.2.2.1, (t.2.2.2.1, ()))))).bind fun t0 => bif (t0.1 != (0 : Int)) then (let v1 : (List Int) := (List.replicate 32 (0 : Int))
  K (v1, (false, ()))) else ((bedrockref10_Bytes k (t.1, (t.2.1, (t.2.2.1, (t.2.2.2.1, ()))))).bind fun t2 => (bedrockref02_Twice k t2.1).bind fun t3 => K (t3.1, (true, ())))
def bedrockref10_ID (k : Nat) (t : (Int × ((List ((List Int) × (Int × (ByteArray × (Int × Unit))))) × ((List (Int × (ByteArray × Unit))) × (Int × Unit))))) : Option ((List Int) × Bool × Unit) := bedrockref10_ID.c k t some
def bedrockref10_ID.tin : List Ty := [(.pair (.int .u32) (.pair (.sl (.pair (.arr 32 (.int .u8)) (.pair (.int .u32) (.pair .str (.pair (.int .u32) .unit))))) (.pair (.sl (.pair (.int .u64) (.pair .str .unit))) (.pair (.int .u32) .unit))))]
def bedrockref10_ID.tout : List Ty := [(.arr 32 (.int .u8)), .bool]
def bedrockref10_ID.sem (k : Nat) : CallSem := callPure bedrockref10_ID.tin bedrockref10_ID.tout fun x => bedrockref10_ID k x.1
noncomputable def bedrockref10_ID.ctx (k : Nat) : Ctx := ⟨Try.prog, gam [(38, (bedrockref10_Told.sem k)), (40, (bedrockref10_Bytes.sem k)), (39, (bedrockref02_Twice.sem k))]⟩
theorem bedrockref10_ID.gok (k : Nat) : ∀ f, SemOK Try.prog f ((bedrockref10_ID.ctx k).Γ f) := (gam_cons (bedrockref10_Told.sem_ok k) (gam_cons (bedrockref10_Bytes.sem_ok k) (gam_cons (bedrockref02_Twice.sem_ok k) gam_nil)))
def bedrockref10_ID.ann (k : Nat) : Ann := .nil
theorem bedrockref10_ID.body (k : Nat) : BodyIs (bedrockref10_ID.ctx k) Try.f23 (Func.code Try.f23) (bedrockref10_ID.ann k) bedrockref10_ID.tin bedrockref10_ID.tout (fun x K => bedrockref10_ID.c k x.1 K) := by
  intro ρ x K; kernel_rfl
theorem bedrockref10_ID.sem_ok (k : Nat) : SemOK Try.prog 23 (bedrockref10_ID.sem k) :=
  callPure_ok (C := bedrockref10_ID.ctx k) (bedrockref10_ID.gok k) Try.mix (c := Func.code Try.f23) (ann := bedrockref10_ID.ann k) (tin := bedrockref10_ID.tin) (tout := bedrockref10_ID.tout) (fun x K => bedrockref10_ID.c k x.1 K) Try.func23 (by kernel_rfl) (by kernel_rfl) AnnOK.nil (bedrockref10_ID.body k)

end Go.Am
namespace Go.Am
open Go Go.Proofs
set_option maxRecDepth 100000
/-! 61 bedrock/bedrockref06.Pair -/
def bedrockref06_Pair.c (k : Nat) {ρ : Type} (a : (List Int)) (b : (List Int)) (K : (List Int) × Unit → Option ρ) : Option ρ :=
  let v0 : ByteArray := (bytesOf (List.take 32 (List.drop 0 a)))
  let v1 : ByteArray := (bytesOf (List.take 32 (List.drop 0 b)))
  bif (Nat.ble ((ByteArray.size v0) + (ByteArray.size v1)) 9223372036854775807) then (let v2 : ByteArray := (v0 ++ v1)
  (bedrockref02_Twice k v2).bind fun t3 => K (t3.1, ())) else (none)
def bedrockref06_Pair (k : Nat) (a : (List Int)) (b : (List Int)) : Option ((List Int) × Unit) := bedrockref06_Pair.c k a b some
def bedrockref06_Pair.tin : List Ty := [(.arr 32 (.int .u8)), (.arr 32 (.int .u8))]
def bedrockref06_Pair.tout : List Ty := [(.arr 32 (.int .u8))]
def bedrockref06_Pair.sem (k : Nat) : CallSem := callPure bedrockref06_Pair.tin bedrockref06_Pair.tout fun x => bedrockref06_Pair k x.1 x.2.1
noncomputable def bedrockref06_Pair.ctx (k : Nat) : Ctx := ⟨Try.prog, gam [(39, (bedrockref02_Twice.sem k))]⟩
theorem bedrockref06_Pair.gok (k : Nat) : ∀ f, SemOK Try.prog f ((bedrockref06_Pair.ctx k).Γ f) := (gam_cons (bedrockref02_Twice.sem_ok k) gam_nil)
def bedrockref06_Pair.ann (k : Nat) : Ann := .nil
theorem bedrockref06_Pair.body (k : Nat) : BodyIs (bedrockref06_Pair.ctx k) Try.f61 (Func.code Try.f61) (bedrockref06_Pair.ann k) bedrockref06_Pair.tin bedrockref06_Pair.tout (fun x K => bedrockref06_Pair.c k x.1 x.2.1 K) := by
  intro ρ x K; kernel_rfl
theorem bedrockref06_Pair.sem_ok (k : Nat) : SemOK Try.prog 61 (bedrockref06_Pair.sem k) :=
  callPure_ok (C := bedrockref06_Pair.ctx k) (bedrockref06_Pair.gok k) Try.mix (c := Func.code Try.f61) (ann := bedrockref06_Pair.ann k) (tin := bedrockref06_Pair.tin) (tout := bedrockref06_Pair.tout) (fun x K => bedrockref06_Pair.c k x.1 x.2.1 K) Try.func61 (by kernel_rfl) (by kernel_rfl) AnnOK.nil (bedrockref06_Pair.body k)

/-! 41 bedrock/bedrockref06.Next -/
abbrev bedrockref06_Next.l0.σ : Type := (List (List Int)) × Bool × Int × (List (List Int)) × Unit
abbrev bedrockref06_Next.l0.τ : Type := (Bool × (List (List Int)) × Unit)
def bedrockref06_Next.l0.r (k : Nat) {ρ : Type} (x : bedrockref06_Next.l0.σ) (kn : bedrockref06_Next.l0.σ → Option ρ) (ke : bedrockref06_Next.l0.τ → Option ρ) : Option ρ :=
  let v0 : Int := (((List.length x.1) : Nat) : Int)
  bif (decide (x.2.2.1 < v0)) then (let v1 : Int := (IntKind.wrap IntKind.i64 (x.2.2.1 + (1 : Int)))
  let v2 : Int := (((List.length x.1) : Nat) : Int)
  bif (v1 == v2) then (bif (decide (((0 : Int) ≤ x.2.2.1) ∧ (x.2.2.1 < (((List.length x.1) : Nat) : Int)))) then (let v3 : (List Int) := (List.getD x.1 (Int.toNat x.2.2.1) (List.replicate 32 (0 : Int)))
  bif (decide (((0 : Int) ≤ x.2.2.1) ∧ (x.2.2.1 < (((List.length x.1) : Nat) : Int)))) then (let v4 : (List Int) := (List.getD x.1 (Int.toNat x.2.2.1) (List.replicate 32 (0 : Int)))
  (bedrockref06_Pair k v3 v4).bind fun t5 => bif (Nat.ble (((List.length x.2.2.2.1) + (List.length (List.set (List.replicate 1 (List.replicate 32 (0 : Int))) 0 t5.1))) * 32) 140737488355328) then (let v6 : Int := (IntKind.wrap IntKind.i64 (x.2.2.1 + (2 : Int)))
  kn (x.1, (x.2.1, (v6, ((x.2.2.2.1 ++ (List.set (List.replicate 1 (List.replicate 32 (0 : Int))) 0 t5.1)), ()))))) else (none)) else (none)) else (none)) else (bif x.2.1 then (bif (decide (((0 : Int) ≤ x.2.2.1) ∧ (x.2.2.1 < (((List.length x.1) : Nat) : Int)))) then (let v7 : (List Int) := (List.getD x.1 (Int.toNat x.2.2.1) (List.replicate 32 (0 : Int)))
  let v8 : Int := (IntKind.wrap IntKind.i64 (x.2.2.1 + (1 : Int)))
  bif (decide (((0 : Int) ≤ v8) ∧ (v8 < (((List.length x.1) : Nat) : Int)))) then (let v9 : (List Int) := (List.getD x.1 (Int.toNat v8) (List.replicate 32 (0 : Int)))
  (bedrockref06_Pair k v7 v9).bind fun t10 => bif (Nat.ble (((List.length x.2.2.2.1) + (List.length (List.set (List.replicate 1 (List.replicate 32 (0 : Int))) 0 t10.1))) * 32) 140737488355328) then (let v11 : Int := (IntKind.wrap IntKind.i64 (x.2.2.1 + (2 : Int)))
  kn (x.1, (true, (v11, ((x.2.2.2.1 ++ (List.set (List.replicate 1 (List.replicate 32 (0 : Int))) 0 t10.1)), ()))))) else (none)) else (none)) else (none)) else (bif (decide (((0 : Int) ≤ x.2.2.1) ∧ (x.2.2.1 < (((List.length x.1) : Nat) : Int)))) then (let v12 : (List Int) := (List.getD x.1 (Int.toNat x.2.2.1) (List.replicate 32 (0 : Int)))
  let v13 : Int := (IntKind.wrap IntKind.i64 (x.2.2.1 + (1 : Int)))
  bif (decide (((0 : Int) ≤ v13) ∧ (v13 < (((List.length x.1) : Nat) : Int)))) then (let v14 : (List Int) := (List.getD x.1 (Int.toNat v13) (List.replicate 32 (0 : Int)))
  bif (decide (((0 : Int) ≤ x.2.2.1) ∧ (x.2.2.1 < (((List.length x.1) : Nat) : Int)))) then (let v15 : (List Int) := (List.getD x.1 (Int.toNat x.2.2.1) (List.replicate 32 (0 : Int)))
  let v16 : Int := (IntKind.wrap IntKind.i64 (x.2.2.1 + (1 : Int)))
  bif (decide (((0 : Int) ≤ v16) ∧ (v16 < (((List.length x.1) : Nat) : Int)))) then (let v17 : (List Int) := (List.getD x.1 (Int.toNat v16) (List.replicate 32 (0 : Int)))
  (bedrockref06_Pair k v15 v17).bind fun t18 => bif (Nat.ble (((List.length x.2.2.2.1) + (List.length (List.set (List.replicate 1 (List.replicate 32 (0 : Int))) 0 t18.1))) * 32) 140737488355328) then (let v19 : Int := (IntKind.wrap IntKind.i64 (x.2.2.1 + (2 : Int)))
  kn (x.1, ((decide (v12 = v14)), (v19, ((x.2.2.2.1 ++ (List.set (List.replicate 1 (List.replicate 32 (0 : Int))) 0 t18.1)), ()))))) else (none)) else (none)) else (none)) else (none)) else (none)))) else (ke (x.2.1, (x.2.2.2.1, ())))
def bedrockref06_Next.l0 (k : Nat) : Nat → bedrockref06_Next.l0.σ → Option bedrockref06_Next.l0.τ := loopJ (bedrockref06_Next.l0.r k)
def bedrockref06_Next.l0.T : StT := ⟨.dat (.sl (.arr 32 (.int .u8))) :: us 3 ++ .vsl 0 :: .dat .bool :: .dat (.int .i64) :: us 52, [.vec (.arr 32 (.int .u8))]⟩
def bedrockref06_Next.l0.os : List Out := [⟨(.exit 0), [.mask [4, 5], .auto 0], ⟨us 4 ++ .vsl 0 :: .dat .bool :: us 53, [.vec (.arr 32 (.int .u8))]⟩⟩]
def bedrockref06_Next.c (k : Nat) {ρ : Type} (l : (List (List Int))) (K : (List (List Int)) × Bool × Unit → Option ρ) : Option ρ :=
  (bedrockref06_Next.l0 k k (l, (false, ((0 : Int), ((List.replicate 0 (List.replicate 32 (0 : Int))), ()))))).bind fun t20 => K (t20.2.1, (t20.1, ()))
def bedrockref06_Next (k : Nat) (l : (List (List Int))) : Option ((List (List Int)) × Bool × Unit) := bedrockref06_Next.c k l some
def bedrockref06_Next.tin : List Ty := [(.sl (.arr 32 (.int .u8)))]
def bedrockref06_Next.tout : List Ty := [(.sl (.arr 32 (.int .u8))), .bool]
def bedrockref06_Next.sem (k : Nat) : CallSem := callPure bedrockref06_Next.tin bedrockref06_Next.tout fun x => bedrockref06_Next k x.1
noncomputable def bedrockref06_Next.ctx (k : Nat) : Ctx := ⟨Try.prog, gam [(61, (bedrockref06_Pair.sem k))]⟩
theorem bedrockref06_Next.gok (k : Nat) : ∀ f, SemOK Try.prog f ((bedrockref06_Next.ctx k).Γ f) := (gam_cons (bedrockref06_Pair.sem_ok k) gam_nil)
theorem bedrockref06_Next.l0.round (k : Nat) : RoundIs (bedrockref06_Next.ctx k) (codeAt (Func.code Try.f41) [1, 1, 0, 1, 0, 0]) (.nil) bedrockref06_Next.l0.T [.mask [0, 4, 5, 6], .auto 0] bedrockref06_Next.l0.os (bedrockref06_Next.l0.r k) := by
  intro ρ x kn ke; kernel_rfl
theorem bedrockref06_Next.l0.ok (k : Nat) : StOK 0 Try.prog (.loop (codeAt (Func.code Try.f41) [1, 1, 0, 1, 0, 0])) (pieceSem bedrockref06_Next.l0.T bedrockref06_Next.l0.os (bedrockref06_Next.l0 k k)) :=
  loop_ok (C := bedrockref06_Next.ctx k) (bedrockref06_Next.gok k) Try.mix AnnOK.nil (by kernel_rfl) (by kernel_rfl) (by kernel_rfl) (bedrockref06_Next.l0.round k) k
def bedrockref06_Next.ann (k : Nat) : Ann := .node [] none (.nil) (.node [] none (.nil) (.node [] none (.node [] none (.nil) (.node [] none (.node [.mask [0, 4, 5, 6], .auto 0] (some (pieceSem bedrockref06_Next.l0.T bedrockref06_Next.l0.os (bedrockref06_Next.l0 k k))) .nil .nil) (.nil))) (.nil)))
theorem bedrockref06_Next.body (k : Nat) : BodyIs (bedrockref06_Next.ctx k) Try.f41 (Func.code Try.f41) (bedrockref06_Next.ann k) bedrockref06_Next.tin bedrockref06_Next.tout (fun x K => bedrockref06_Next.c k x.1 K) := by
  intro ρ x K; kernel_rfl
theorem bedrockref06_Next.sem_ok (k : Nat) : SemOK Try.prog 41 (bedrockref06_Next.sem k) :=
  callPure_ok (C := bedrockref06_Next.ctx k) (bedrockref06_Next.gok k) Try.mix (c := Func.code Try.f41) (ann := bedrockref06_Next.ann k) (tin := bedrockref06_Next.tin) (tout := bedrockref06_Next.tout) (fun x K => bedrockref06_Next.c k x.1 K) Try.func41 (by kernel_rfl) (by kernel_rfl) (AnnOK.seq AnnOK.nil (AnnOK.seq AnnOK.nil (AnnOK.seq (AnnOK.seq AnnOK.nil (AnnOK.block (AnnOK.loop (by kernel_rfl) (bedrockref06_Next.l0.ok k)))) AnnOK.nil))) (bedrockref06_Next.body k)

/-! 24 bedrock/bedrockref06.Root -/
abbrev bedrockref06_Root.l0.σ : Type := (List (List Int)) × Bool × (List Int) × Unit
abbrev bedrockref06_Root.l0.τ : Type := ((List (List Int)) × Bool × (List Int) × Unit)
def bedrockref06_Root.l0.r (k : Nat) {ρ : Type} (x : bedrockref06_Root.l0.σ) (kn : bedrockref06_Root.l0.σ → Option ρ) (ke : bedrockref06_Root.l0.τ → Option ρ) : Option ρ :=
  let v2 : Int := (((List.length x.1) : Nat) : Int)
  bif (decide (v2 > (1 : Int))) then ((bedrockref06_Next k x.1).bind fun t3 => let v4 : (List (List Int)) := t3.1
  bif x.2.1 then (kn (v4, (true, (x.2.2.1, ())))) else (kn (v4, (t3.2.1, (x.2.2.1, ()))))) else (ke (x.1, (x.2.1, (x.2.2.1, ()))))
def bedrockref06_Root.l0 (k : Nat) : Nat → bedrockref06_Root.l0.σ → Option bedrockref06_Root.l0.τ := loopJ (bedrockref06_Root.l0.r k)
def bedrockref06_Root.l0.T : StT := ⟨.dat (.sl (.arr 32 (.int .u8))) :: us 1 ++ .ptr 0 [] :: us 1 ++ .dat .bool :: us 23, [.dat (.arr 32 (.int .u8))]⟩
def bedrockref06_Root.l0.os : List Out := [⟨(.exit 0), [.mask [0, 2, 4], .auto 0], ⟨.dat (.sl (.arr 32 (.int .u8))) :: us 1 ++ .ptr 0 [] :: us 1 ++ .dat .bool :: us 23, [.dat (.arr 32 (.int .u8))]⟩⟩]
def bedrockref06_Root.c (k : Nat) {ρ : Type} (l : (List (List Int))) (K : (List Int) × Bool × Unit → Option ρ) : Option ρ :=
  let v0 : Int := (((List.length l) : Nat) : Int)
  bif (v0 == (0 : Int)) then (let v1 : (List Int) := (List.replicate 32 (0 : Int))
  K (v1, (false, ()))) else ((bedrockref06_Root.l0 k k (l, (false, ((List.replicate 32 (0 : Int)), ())))).bind fun t5 => bif (decide (((0 : Int) ≤ (0 : Int)) ∧ ((0 : Int) < (((List.length t5.1) : Nat) : Int)))) then (let v6 : (List Int) := (List.getD t5.1 0 (List.replicate 32 (0 : Int)))
  K (v6, (t5.2.1, ()))) else (none))
def bedrockref06_Root (k : Nat) (l : (List (List Int))) : Option ((List Int) × Bool × Unit) := bedrockref06_Root.c k l some
def bedrockref06_Root.tin : List Ty := [(.sl (.arr 32 (.int .u8)))]
def bedrockref06_Root.tout : List Ty := [(.arr 32 (.int .u8)), .bool]
def bedrockref06_Root.sem (k : Nat) : CallSem := callPure bedrockref06_Root.tin bedrockref06_Root.tout fun x => bedrockref06_Root k x.1
noncomputable def bedrockref06_Root.ctx (k : Nat) : Ctx := ⟨Try.prog, gam [(41, (bedrockref06_Next.sem k))]⟩
theorem bedrockref06_Root.gok (k : Nat) : ∀ f, SemOK Try.prog f ((bedrockref06_Root.ctx k).Γ f) := (gam_cons (bedrockref06_Next.sem_ok k) gam_nil)
theorem bedrockref06_Root.l0.round (k : Nat) : RoundIs (bedrockref06_Root.ctx k) (codeAt (Func.code Try.f24) [1, 1, 1, 0, 0, 0]) (.nil) bedrockref06_Root.l0.T [.mask [0, 2, 4], .auto 0] bedrockref06_Root.l0.os (bedrockref06_Root.l0.r k) := by
  intro ρ x kn ke; kernel_rfl
theorem bedrockref06_Root.l0.ok (k : Nat) : StOK 0 Try.prog (.loop (codeAt (Func.code Try.f24) [1, 1, 1, 0, 0, 0])) (pieceSem bedrockref06_Root.l0.T bedrockref06_Root.l0.os (bedrockref06_Root.l0 k k)) :=
  loop_ok (C := bedrockref06_Root.ctx k) (bedrockref06_Root.gok k) Try.mix AnnOK.nil (by kernel_rfl) (by kernel_rfl) (by kernel_rfl) (bedrockref06_Root.l0.round k) k
def bedrockref06_Root.ann (k : Nat) : Ann := .node [] none (.nil) (.node [] none (.nil) (.node [] none (.nil) (.node [] none (.node [] none (.node [.mask [0, 2, 4], .auto 0] (some (pieceSem bedrockref06_Root.l0.T bedrockref06_Root.l0.os (bedrockref06_Root.l0 k k))) .nil .nil) (.nil)) (.nil))))
theorem bedrockref06_Root.body (k : Nat) : BodyIs (bedrockref06_Root.ctx k) Try.f24 (Func.code Try.f24) (bedrockref06_Root.ann k) bedrockref06_Root.tin bedrockref06_Root.tout (fun x K => bedrockref06_Root.c k x.1 K) := by
  intro ρ x K; kernel_rfl
theorem bedrockref06_Root.sem_ok (k : Nat) : SemOK Try.prog 24 (bedrockref06_Root.sem k) :=
  callPure_ok (C := bedrockref06_Root.ctx k) (bedrockref06_Root.gok k) Try.mix (c := Func.code Try.f24) (ann := bedrockref06_Root.ann k) (tin := bedrockref06_Root.tin) (tout := bedrockref06_Root.tout) (fun x K => bedrockref06_Root.c k x.1 K) Try.func24 (by kernel_rfl) (by kernel_rfl) (AnnOK.seq AnnOK.nil (AnnOK.seq AnnOK.nil (AnnOK.seq AnnOK.nil (AnnOK.seq (AnnOK.block (AnnOK.loop (by kernel_rfl) (bedrockref06_Root.l0.ok k))) AnnOK.nil)))) (bedrockref06_Root.body k)

end Go.Am
namespace Go.Am
open Go Go.Proofs
set_option maxRecDepth 100000
/-! 56 slices.Clone[[]bedrock/api.Hash,bedrock/api.Hash] -/
def slices_Clone__api_Hash_api_Hash.c (k : Nat) {ρ : Type} (s : (List (List Int))) (K : (List (List Int)) × Unit → Option ρ) : Option ρ :=
  bif (Nat.ble 1 (List.length s)) then (bif (Nat.ble ((0 + (List.length s)) * 32) 140737488355328) then (K (((List.replicate 0 (List.replicate 32 (0 : Int))) ++ s), ())) else (none)) else (none)
def slices_Clone__api_Hash_api_Hash (k : Nat) (s : (List (List Int))) : Option ((List (List Int)) × Unit) := slices_Clone__api_Hash_api_Hash.c k s some
def slices_Clone__api_Hash_api_Hash.tin : List Ty := [(.sl (.arr 32 (.int .u8)))]
def slices_Clone__api_Hash_api_Hash.tout : List Ty := [(.sl (.arr 32 (.int .u8)))]
def slices_Clone__api_Hash_api_Hash.sem (k : Nat) : CallSem := callPure slices_Clone__api_Hash_api_Hash.tin slices_Clone__api_Hash_api_Hash.tout fun x => slices_Clone__api_Hash_api_Hash k x.1
noncomputable def slices_Clone__api_Hash_api_Hash.ctx (k : Nat) : Ctx := ⟨Try.prog, gam []⟩
theorem slices_Clone__api_Hash_api_Hash.gok (k : Nat) : ∀ f, SemOK Try.prog f ((slices_Clone__api_Hash_api_Hash.ctx k).Γ f) := gam_nil
def slices_Clone__api_Hash_api_Hash.ann (k : Nat) : Ann := .nil
theorem slices_Clone__api_Hash_api_Hash.body (k : Nat) : BodyIs (slices_Clone__api_Hash_api_Hash.ctx k) Try.f56 (Func.code Try.f56) (slices_Clone__api_Hash_api_Hash.ann k) slices_Clone__api_Hash_api_Hash.tin slices_Clone__api_Hash_api_Hash.tout (fun x K => slices_Clone__api_Hash_api_Hash.c k x.1 K) := by
  intro ρ x K; kernel_rfl
theorem slices_Clone__api_Hash_api_Hash.sem_ok (k : Nat) : SemOK Try.prog 56 (slices_Clone__api_Hash_api_Hash.sem k) :=
  callPure_ok (C := slices_Clone__api_Hash_api_Hash.ctx k) (slices_Clone__api_Hash_api_Hash.gok k) Try.mix (c := Func.code Try.f56) (ann := slices_Clone__api_Hash_api_Hash.ann k) (tin := slices_Clone__api_Hash_api_Hash.tin) (tout := slices_Clone__api_Hash_api_Hash.tout) (fun x K => slices_Clone__api_Hash_api_Hash.c k x.1 K) Try.func56 (by kernel_rfl) (by kernel_rfl) AnnOK.nil (slices_Clone__api_Hash_api_Hash.body k)

/-! 77 bedrock/merkle.Pair -/
def merkle_Pair.c (k : Nat) {ρ : Type} (a : (List Int)) (b : (List Int)) (K : (List Int) × Unit → Option ρ) : Option ρ :=
  let v0 : ByteArray := (bytesOf (List.take 32 (List.drop 0 a)))
  let v1 : ByteArray := (bytesOf (List.take 32 (List.drop 0 b)))
  bif (Nat.ble ((ByteArray.size v0) + (ByteArray.size v1)) 9223372036854775807) then (let v2 : ByteArray := (v0 ++ v1)
  (sha_Twice k v2).bind fun t3 => K (t3.1, ())) else (none)
def merkle_Pair (k : Nat) (a : (List Int)) (b : (List Int)) : Option ((List Int) × Unit) := merkle_Pair.c k a b some
def merkle_Pair.tin : List Ty := [(.arr 32 (.int .u8)), (.arr 32 (.int .u8))]
def merkle_Pair.tout : List Ty := [(.arr 32 (.int .u8))]
def merkle_Pair.sem (k : Nat) : CallSem := callPure merkle_Pair.tin merkle_Pair.tout fun x => merkle_Pair k x.1 x.2.1
noncomputable def merkle_Pair.ctx (k : Nat) : Ctx := ⟨Try.prog, gam [(36, (sha_Twice.sem k))]⟩
theorem merkle_Pair.gok (k : Nat) : ∀ f, SemOK Try.prog f ((merkle_Pair.ctx k).Γ f) := (gam_cons (sha_Twice.sem_ok k) gam_nil)
def merkle_Pair.ann (k : Nat) : Ann := .nil
theorem merkle_Pair.body (k : Nat) : BodyIs (merkle_Pair.ctx k) Try.f77 (Func.code Try.f77) (merkle_Pair.ann k) merkle_Pair.tin merkle_Pair.tout (fun x K => merkle_Pair.c k x.1 x.2.1 K) := by
  intro ρ x K; kernel_rfl
theorem merkle_Pair.sem_ok (k : Nat) : SemOK Try.prog 77 (merkle_Pair.sem k) :=
  callPure_ok (C := merkle_Pair.ctx k) (merkle_Pair.gok k) Try.mix (c := Func.code Try.f77) (ann := merkle_Pair.ann k) (tin := merkle_Pair.tin) (tout := merkle_Pair.tout) (fun x K => merkle_Pair.c k x.1 x.2.1 K) Try.func77 (by kernel_rfl) (by kernel_rfl) AnnOK.nil (merkle_Pair.body k)

/-! 57 bedrock/merkle.above -/
abbrev merkle_above.l0.σ : Type := (List (List Int)) × Int × (List (List Int)) × Unit
abbrev merkle_above.l0.τ : Type := ((List (List Int)) × Unit)
def merkle_above.l0.r (k : Nat) {ρ : Type} (x : merkle_above.l0.σ) (kn : merkle_above.l0.σ → Option ρ) (ke : merkle_above.l0.τ → Option ρ) : Option ρ :=
  let v0 : Int := (((List.length x.1) : Nat) : Int)
  bif (decide (x.2.1 < v0)) then (bif (decide (((0 : Int) ≤ x.2.1) ∧ (x.2.1 < (((List.length x.1) : Nat) : Int)))) then (let v1 : (List Int) := (List.getD x.1 (Int.toNat x.2.1) (List.replicate 32 (0 : Int)))
  let v2 : Int := (IntKind.wrap IntKind.i64 (x.2.1 + (1 : Int)))
  let v3 : Int := (((List.length x.1) : Nat) : Int)
  let v4 : Int := (IntKind.wrap IntKind.i64 (v3 - (1 : Int)))
  let v5 : Int := (if (v4 < v2) then v4 else v2)
  bif (decide (((0 : Int) ≤ v5) ∧ (v5 < (((List.length x.1) : Nat) : Int)))) then (let v6 : (List Int) := (List.getD x.1 (Int.toNat v5) (List.replicate 32 (0 : Int)))
  (merkle_Pair k v1 v6).bind fun t7 => bif (Nat.ble (((List.length x.2.2.1) + (List.length (List.set (List.replicate 1 (List.replicate 32 (0 : Int))) 0 t7.1))) * 32) 140737488355328) then (let v8 : Int := (IntKind.wrap IntKind.i64 (x.2.1 + (2 : Int)))
  kn (x.1, (v8, ((x.2.2.1 ++ (List.set (List.replicate 1 (List.replicate 32 (0 : Int))) 0 t7.1)), ())))) else (none)) else (none)) else (none)) else (ke (x.2.2.1, ()))
def merkle_above.l0 (k : Nat) : Nat → merkle_above.l0.σ → Option merkle_above.l0.τ := loopJ (merkle_above.l0.r k)
def merkle_above.l0.T : StT := ⟨.dat (.sl (.arr 32 (.int .u8))) :: us 2 ++ .vsl 0 :: .dat (.int .i64) :: us 24, [.vec (.arr 32 (.int .u8))]⟩
def merkle_above.l0.os : List Out := [⟨(.exit 0), [.mask [3], .auto 0], ⟨us 3 ++ .vsl 0 :: us 25, [.vec (.arr 32 (.int .u8))]⟩⟩]
def merkle_above.c (k : Nat) {ρ : Type} (l : (List (List Int))) (K : (List (List Int)) × Unit → Option ρ) : Option ρ :=
  (merkle_above.l0 k k (l, ((0 : Int), ([], ())))).bind fun t9 => K (t9.1, ())
def merkle_above (k : Nat) (l : (List (List Int))) : Option ((List (List Int)) × Unit) := merkle_above.c k l some
def merkle_above.tin : List Ty := [(.sl (.arr 32 (.int .u8)))]
def merkle_above.tout : List Ty := [(.sl (.arr 32 (.int .u8)))]
def merkle_above.sem (k : Nat) : CallSem := callPure merkle_above.tin merkle_above.tout fun x => merkle_above k x.1
noncomputable def merkle_above.ctx (k : Nat) : Ctx := ⟨Try.prog, gam [(77, (merkle_Pair.sem k))]⟩
theorem merkle_above.gok (k : Nat) : ∀ f, SemOK Try.prog f ((merkle_above.ctx k).Γ f) := (gam_cons (merkle_Pair.sem_ok k) gam_nil)
theorem merkle_above.l0.round (k : Nat) : RoundIs (merkle_above.ctx k) (codeAt (Func.code Try.f57) [1, 1, 0, 1, 0, 0]) (.nil) merkle_above.l0.T [.mask [0, 3, 4], .auto 0] merkle_above.l0.os (merkle_above.l0.r k) := by
  intro ρ x kn ke; kernel_rfl
theorem merkle_above.l0.ok (k : Nat) : StOK 0 Try.prog (.loop (codeAt (Func.code Try.f57) [1, 1, 0, 1, 0, 0])) (pieceSem merkle_above.l0.T merkle_above.l0.os (merkle_above.l0 k k)) :=
  loop_ok (C := merkle_above.ctx k) (merkle_above.gok k) Try.mix AnnOK.nil (by kernel_rfl) (by kernel_rfl) (by kernel_rfl) (merkle_above.l0.round k) k
def merkle_above.ann (k : Nat) : Ann := .node [] none (.nil) (.node [] none (.nil) (.node [] none (.node [] none (.nil) (.node [] none (.node [.own (.slot 3) (.arr 32 (.int .u8))] (some (pieceSem merkle_above.l0.T merkle_above.l0.os (merkle_above.l0 k k))) .nil .nil) (.nil))) (.nil)))
theorem merkle_above.body (k : Nat) : BodyIs (merkle_above.ctx k) Try.f57 (Func.code Try.f57) (merkle_above.ann k) merkle_above.tin merkle_above.tout (fun x K => merkle_above.c k x.1 K) := by
  intro ρ x K; kernel_rfl
theorem merkle_above.sem_ok (k : Nat) : SemOK Try.prog 57 (merkle_above.sem k) :=
  callPure_ok (C := merkle_above.ctx k) (merkle_above.gok k) Try.mix (c := Func.code Try.f57) (ann := merkle_above.ann k) (tin := merkle_above.tin) (tout := merkle_above.tout) (fun x K => merkle_above.c k x.1 K) Try.func57 (by kernel_rfl) (by kernel_rfl) (AnnOK.seq AnnOK.nil (AnnOK.seq AnnOK.nil (AnnOK.seq (AnnOK.seq AnnOK.nil (AnnOK.block (AnnOK.loop (by kernel_rfl) (merkle_above.l0.ok k)))) AnnOK.nil))) (merkle_above.body k)

/-! 37 bedrock/merkle.Levels -/
abbrev merkle_Levels.l0.σ : Type := (List (List Int)) × (List (List (List Int))) × Unit
abbrev merkle_Levels.l0.τ : Type := ((List (List (List Int))) × Unit)
def merkle_Levels.l0.r (k : Nat) {ρ : Type} (x : merkle_Levels.l0.σ) (kn : merkle_Levels.l0.σ → Option ρ) (ke : merkle_Levels.l0.τ → Option ρ) : Option ρ :=
  let v2 : Int := (((List.length x.1) : Nat) : Int)
  bif (decide (v2 > (1 : Int))) then ((merkle_above k x.1).bind fun t3 => bif (Nat.ble (((List.length x.2.1) + (List.length (List.set (List.replicate 1 []) 0 t3.1))) * 24) 140737488355328) then (kn (t3.1, ((x.2.1 ++ (List.set (List.replicate 1 []) 0 t3.1)), ()))) else (none)) else (ke (x.2.1, ()))
def merkle_Levels.l0 (k : Nat) : Nat → merkle_Levels.l0.σ → Option merkle_Levels.l0.τ := loopJ (merkle_Levels.l0.r k)
def merkle_Levels.l0.T : StT := ⟨.dat (.sl (.arr 32 (.int .u8))) :: us 2 ++ .vsl 0 :: us 16, [.vec (.sl (.arr 32 (.int .u8)))]⟩
def merkle_Levels.l0.os : List Out := [⟨(.exit 0), [.mask [3], .auto 0], ⟨us 3 ++ .vsl 0 :: us 16, [.vec (.sl (.arr 32 (.int .u8)))]⟩⟩]
def merkle_Levels.c (k : Nat) {ρ : Type} (l : (List (List Int))) (K : (List (List (List Int))) × Unit → Option ρ) : Option ρ :=
  let v0 : Int := (((List.length l) : Nat) : Int)
  bif (v0 == (0 : Int)) then (K ([], ())) else ((slices_Clone__api_Hash_api_Hash k l).bind fun t1 => (merkle_Levels.l0 k k (l, ((List.set (List.replicate 1 []) 0 t1.1), ()))).bind fun t4 => K (t4.1, ()))
def merkle_Levels (k : Nat) (l : (List (List Int))) : Option ((List (List (List Int))) × Unit) := merkle_Levels.c k l some
def merkle_Levels.tin : List Ty := [(.sl (.arr 32 (.int .u8)))]
def merkle_Levels.tout : List Ty := [(.sl (.sl (.arr 32 (.int .u8))))]
def merkle_Levels.sem (k : Nat) : CallSem := callPure merkle_Levels.tin merkle_Levels.tout fun x => merkle_Levels k x.1
noncomputable def merkle_Levels.ctx (k : Nat) : Ctx := ⟨Try.prog, gam [(56, (slices_Clone__api_Hash_api_Hash.sem k)), (57, (merkle_above.sem k))]⟩
theorem merkle_Levels.gok (k : Nat) : ∀ f, SemOK Try.prog f ((merkle_Levels.ctx k).Γ f) := (gam_cons (slices_Clone__api_Hash_api_Hash.sem_ok k) (gam_cons (merkle_above.sem_ok k) gam_nil))
theorem merkle_Levels.l0.round (k : Nat) : RoundIs (merkle_Levels.ctx k) (codeAt (Func.code Try.f37) [1, 1, 1, 0, 0, 0]) (.nil) merkle_Levels.l0.T [.mask [0, 3], .auto 0] merkle_Levels.l0.os (merkle_Levels.l0.r k) := by
  intro ρ x kn ke; kernel_rfl
theorem merkle_Levels.l0.ok (k : Nat) : StOK 0 Try.prog (.loop (codeAt (Func.code Try.f37) [1, 1, 1, 0, 0, 0])) (pieceSem merkle_Levels.l0.T merkle_Levels.l0.os (merkle_Levels.l0 k k)) :=
  loop_ok (C := merkle_Levels.ctx k) (merkle_Levels.gok k) Try.mix AnnOK.nil (by kernel_rfl) (by kernel_rfl) (by kernel_rfl) (merkle_Levels.l0.round k) k
def merkle_Levels.ann (k : Nat) : Ann := .node [] none (.nil) (.node [] none (.nil) (.node [] none (.nil) (.node [] none (.node [] none (.node [.mask [0, 3], .auto 0] (some (pieceSem merkle_Levels.l0.T merkle_Levels.l0.os (merkle_Levels.l0 k k))) .nil .nil) (.nil)) (.nil))))
theorem merkle_Levels.body (k : Nat) : BodyIs (merkle_Levels.ctx k) Try.f37 (Func.code Try.f37) (merkle_Levels.ann k) merkle_Levels.tin merkle_Levels.tout (fun x K => merkle_Levels.c k x.1 K) := by
  intro ρ x K; kernel_rfl
theorem merkle_Levels.sem_ok (k : Nat) : SemOK Try.prog 37 (merkle_Levels.sem k) :=
  callPure_ok (C := merkle_Levels.ctx k) (merkle_Levels.gok k) Try.mix (c := Func.code Try.f37) (ann := merkle_Levels.ann k) (tin := merkle_Levels.tin) (tout := merkle_Levels.tout) (fun x K => merkle_Levels.c k x.1 K) Try.func37 (by kernel_rfl) (by kernel_rfl) (AnnOK.seq AnnOK.nil (AnnOK.seq AnnOK.nil (AnnOK.seq AnnOK.nil (AnnOK.seq (AnnOK.block (AnnOK.loop (by kernel_rfl) (merkle_Levels.l0.ok k))) AnnOK.nil)))) (merkle_Levels.body k)

/-! 21 bedrock/merkle.Root -/
abbrev merkle_Root.l1.σ : Type := Bool × (List (List (List Int))) × (List (List Int)) × Int × (List (List (List Int))) × Int × Int × (List Int) × Unit
abbrev merkle_Root.l1.τ : Type := (Bool × (List (List (List Int))) × (List (List (List Int))) × Int × Int × (List Int) × Unit)
def merkle_Root.l1.r (k : Nat) {ρ : Type} (x : merkle_Root.l1.σ) (kn : merkle_Root.l1.σ → Option ρ) (ke : merkle_Root.l1.τ → Option ρ) : Option ρ :=
  let v3 : Int := (IntKind.wrap IntKind.i64 (x.2.2.2.1 + (1 : Int)))
  let v4 : Int := (((List.length x.2.2.1) : Nat) : Int)
  bif (decide (v3 < v4)) then (bif x.1 then (let v5 : Int := (IntKind.wrap IntKind.i64 (x.2.2.2.1 + (2 : Int)))
  kn (true, (x.2.1, (x.2.2.1, (v5, (x.2.2.2.2.1, (x.2.2.2.2.2.1, (x.2.2.2.2.2.2.1, (x.2.2.2.2.2.2.2.1, ()))))))))) else (bif (decide (((0 : Int) ≤ x.2.2.2.1) ∧ (x.2.2.2.1 < (((List.length x.2.2.1) : Nat) : Int)))) then (let v6 : (List Int) := (List.getD x.2.2.1 (Int.toNat x.2.2.2.1) (List.replicate 32 (0 : Int)))
  let v7 : Int := (IntKind.wrap IntKind.i64 (x.2.2.2.1 + (1 : Int)))
  bif (decide (((0 : Int) ≤ v7) ∧ (v7 < (((List.length x.2.2.1) : Nat) : Int)))) then (let v8 : (List Int) := (List.getD x.2.2.1 (Int.toNat v7) (List.replicate 32 (0 : Int)))
  let v9 : Int := (IntKind.wrap IntKind.i64 (x.2.2.2.1 + (2 : Int)))
  kn ((decide (v6 = v8)), (x.2.1, (x.2.2.1, (v9, (x.2.2.2.2.1, (x.2.2.2.2.2.1, (x.2.2.2.2.2.2.1, (x.2.2.2.2.2.2.2.1, ()))))))))) else (none)) else (none))) else (ke (x.1, (x.2.1, (x.2.2.2.2.1, (x.2.2.2.2.2.1, (x.2.2.2.2.2.2.1, (x.2.2.2.2.2.2.2.1, ())))))))
def merkle_Root.l1 (k : Nat) : Nat → merkle_Root.l1.σ → Option merkle_Root.l1.τ := loopJ (merkle_Root.l1.r k)
def merkle_Root.l1.T : StT := ⟨us 2 ++ .ptr 0 [] :: us 1 ++ .dat .bool :: .dat (.sl (.sl (.arr 32 (.int .u8)))) :: us 1 ++ .dat (.sl (.arr 32 (.int .u8))) :: .dat (.int .i64) :: us 2 ++ .dat (.sl (.sl (.arr 32 (.int .u8)))) :: .dat (.int .i64) :: .dat (.int .i64) :: us 37, [.dat (.arr 32 (.int .u8))]⟩
def merkle_Root.l1.os : List Out := [⟨(.exit 2), [.mask [2, 4, 5, 11, 12, 13], .auto 0], ⟨us 2 ++ .ptr 0 [] :: us 1 ++ .dat .bool :: .dat (.sl (.sl (.arr 32 (.int .u8)))) :: us 5 ++ .dat (.sl (.sl (.arr 32 (.int .u8)))) :: .dat (.int .i64) :: .dat (.int .i64) :: us 37, [.dat (.arr 32 (.int .u8))]⟩⟩]
abbrev merkle_Root.l0.σ : Type := Bool × (List (List (List Int))) × (List (List (List Int))) × Int × Int × (List Int) × Unit
abbrev merkle_Root.l0.τ : Type := (Bool × (List (List (List Int))) × (List Int) × Unit)
def merkle_Root.l0.r (k : Nat) {ρ : Type} (x : merkle_Root.l0.σ) (kn : merkle_Root.l0.σ → Option ρ) (ke : merkle_Root.l0.τ → Option ρ) : Option ρ :=
  bif (decide (x.2.2.2.2.1 < x.2.2.2.1)) then (bif (decide (((0 : Int) ≤ x.2.2.2.2.1) ∧ (x.2.2.2.2.1 < (((List.length x.2.2.1) : Nat) : Int)))) then (let v2 : (List (List Int)) := (List.getD x.2.2.1 (Int.toNat x.2.2.2.2.1) [])
  (merkle_Root.l1 k k (x.1, (x.2.1, (v2, ((0 : Int), (x.2.2.1, (x.2.2.2.1, (x.2.2.2.2.1, (x.2.2.2.2.2.1, ()))))))))).bind fun t10 => let v11 : Int := (IntKind.wrap IntKind.i64 (t10.2.2.2.2.1 + (1 : Int)))
  kn (t10.1, (t10.2.1, (t10.2.2.1, (t10.2.2.2.1, (v11, (t10.2.2.2.2.2.1, ()))))))) else (none)) else (ke (x.1, (x.2.1, (x.2.2.2.2.2.1, ()))))
def merkle_Root.l0 (k : Nat) : Nat → merkle_Root.l0.σ → Option merkle_Root.l0.τ := loopJ (merkle_Root.l0.r k)
def merkle_Root.l0.T : StT := ⟨us 2 ++ .ptr 0 [] :: us 1 ++ .dat .bool :: .dat (.sl (.sl (.arr 32 (.int .u8)))) :: us 5 ++ .dat (.sl (.sl (.arr 32 (.int .u8)))) :: .dat (.int .i64) :: .dat (.int .i64) :: us 37, [.dat (.arr 32 (.int .u8))]⟩
def merkle_Root.l0.os : List Out := [⟨(.exit 0), [.mask [2, 4, 5], .auto 0], ⟨us 2 ++ .ptr 0 [] :: us 1 ++ .dat .bool :: .dat (.sl (.sl (.arr 32 (.int .u8)))) :: us 45, [.dat (.arr 32 (.int .u8))]⟩⟩]
def merkle_Root.c (k : Nat) {ρ : Type} (l : (List (List Int))) (K : (List Int) × Bool × Unit → Option ρ) : Option ρ :=
  (merkle_Levels k l).bind fun t0 => let v1 : Int := (((List.length t0.1) : Nat) : Int)
  (merkle_Root.l0 k k (false, (t0.1, (t0.1, (v1, ((0 : Int), ((List.replicate 32 (0 : Int)), ()))))))).bind fun t12 => let v13 : Int := (((List.length t12.2.1) : Nat) : Int)
  bif (v13 == (0 : Int)) then (let v14 : (List Int) := (List.replicate 32 (0 : Int))
  K (v14, (false, ()))) else (let v15 : Int := (((List.length t12.2.1) : Nat) : Int)
  let v16 : Int := (IntKind.wrap IntKind.i64 (v15 - (1 : Int)))
  bif (decide (((0 : Int) ≤ v16) ∧ (v16 < (((List.length t12.2.1) : Nat) : Int)))) then (let v17 : (List (List Int)) := (List.getD t12.2.1 (Int.toNat v16) [])
  bif (decide (((0 : Int) ≤ (0 : Int)) ∧ ((0 : Int) < (((List.length v17) : Nat) : Int)))) then (let v18 : (List Int) := (List.getD v17 0 (List.replicate 32 (0 : Int)))
  K (v18, (t12.1, ()))) else (none)) else (none))
def merkle_Root (k : Nat) (l : (List (List Int))) : Option ((List Int) × Bool × Unit) := merkle_Root.c k l some
def merkle_Root.tin : List Ty := [(.sl (.arr 32 (.int .u8)))]
def merkle_Root.tout : List Ty := [(.arr 32 (.int .u8)), .bool]
def merkle_Root.sem (k : Nat) : CallSem := callPure merkle_Root.tin merkle_Root.tout fun x => merkle_Root k x.1
noncomputable def merkle_Root.ctx (k : Nat) : Ctx := ⟨Try.prog, gam [(37, (merkle_Levels.sem k))]⟩
theorem merkle_Root.gok (k : Nat) : ∀ f, SemOK Try.prog f ((merkle_Root.ctx k).Γ f) := (gam_cons (merkle_Levels.sem_ok k) gam_nil)
theorem merkle_Root.l1.round (k : Nat) : RoundIs (merkle_Root.ctx k) (codeAt (Func.code Try.f21) [1, 1, 1, 0, 1, 0, 0, 1, 1, 0, 0, 1, 1, 0, 0]) (.nil) merkle_Root.l1.T [.mask [2, 4, 5, 7, 8, 11, 12, 13], .auto 0] merkle_Root.l1.os (merkle_Root.l1.r k) := by
  intro ρ x kn ke; kernel_rfl
theorem merkle_Root.l1.ok (k : Nat) : StOK 0 Try.prog (.loop (codeAt (Func.code Try.f21) [1, 1, 1, 0, 1, 0, 0, 1, 1, 0, 0, 1, 1, 0, 0])) (pieceSem merkle_Root.l1.T merkle_Root.l1.os (merkle_Root.l1 k k)) :=
  loop_ok (C := merkle_Root.ctx k) (merkle_Root.gok k) Try.mix AnnOK.nil (by kernel_rfl) (by kernel_rfl) (by kernel_rfl) (merkle_Root.l1.round k) k
theorem merkle_Root.l0.round (k : Nat) : RoundIs (merkle_Root.ctx k) (codeAt (Func.code Try.f21) [1, 1, 1, 0, 1, 0, 0]) (.node [] none (.nil) (.node [] none (.nil) (.node [] none (.node [] none (.node [] none (.nil) (.node [] none (.nil) (.node [] none (.node [.mask [2, 4, 5, 7, 8, 11, 12, 13], .auto 0] (some (pieceSem merkle_Root.l1.T merkle_Root.l1.os (merkle_Root.l1 k k))) .nil .nil) (.nil)))) (.nil)) (.nil)))) merkle_Root.l0.T [.mask [2, 4, 5, 11, 12, 13], .auto 0] merkle_Root.l0.os (merkle_Root.l0.r k) := by
  intro ρ x kn ke; kernel_rfl
theorem merkle_Root.l0.ok (k : Nat) : StOK 0 Try.prog (.loop (codeAt (Func.code Try.f21) [1, 1, 1, 0, 1, 0, 0])) (pieceSem merkle_Root.l0.T merkle_Root.l0.os (merkle_Root.l0 k k)) :=
  loop_ok (C := merkle_Root.ctx k) (merkle_Root.gok k) Try.mix (AnnOK.seq AnnOK.nil (AnnOK.seq AnnOK.nil (AnnOK.seq (AnnOK.block (AnnOK.seq AnnOK.nil (AnnOK.seq AnnOK.nil (AnnOK.block (AnnOK.loop (by kernel_rfl) (merkle_Root.l1.ok k)))))) AnnOK.nil))) (by kernel_rfl) (by kernel_rfl) (by kernel_rfl) (merkle_Root.l0.round k) k
def merkle_Root.ann (k : Nat) : Ann := .node [] none (.nil) (.node [] none (.nil) (.node [] none (.nil) (.node [] none (.node [] none (.nil) (.node [] none (.node [.mask [2, 4, 5, 11, 12, 13], .auto 0] (some (pieceSem merkle_Root.l0.T merkle_Root.l0.os (merkle_Root.l0 k k))) .nil .nil) (.nil))) (.nil))))
theorem merkle_Root.body (k : Nat) : BodyIs (merkle_Root.ctx k) Try.f21 (Func.code Try.f21) (merkle_Root.ann k) merkle_Root.tin merkle_Root.tout (fun x K => merkle_Root.c k x.1 K) := by
  intro ρ x K; kernel_rfl
theorem merkle_Root.sem_ok (k : Nat) : SemOK Try.prog 21 (merkle_Root.sem k) :=
  callPure_ok (C := merkle_Root.ctx k) (merkle_Root.gok k) Try.mix (c := Func.code Try.f21) (ann := merkle_Root.ann k) (tin := merkle_Root.tin) (tout := merkle_Root.tout) (fun x K => merkle_Root.c k x.1 K) Try.func21 (by kernel_rfl) (by kernel_rfl) (AnnOK.seq AnnOK.nil (AnnOK.seq AnnOK.nil (AnnOK.seq AnnOK.nil (AnnOK.seq (AnnOK.seq AnnOK.nil (AnnOK.block (AnnOK.loop (by kernel_rfl) (merkle_Root.l0.ok k)))) AnnOK.nil)))) (merkle_Root.body k)

end Go.Am
namespace Go.Am
open Go Go.Proofs
set_option maxRecDepth 100000
/-! 96 bedrock/wide.From -/
def wide_From.c (k : Nat) {ρ : Type} (n : Int) (K : (List Int) × Unit → Option ρ) : Option ρ :=
  let v0 : (List Int) := (List.set (List.replicate 4 (0 : Int)) 0 n)
  K (v0, ())
def wide_From (k : Nat) (n : Int) : Option ((List Int) × Unit) := wide_From.c k n some
def wide_From.tin : List Ty := [(.int .u64)]
def wide_From.tout : List Ty := [(.arr 4 (.int .u64))]
def wide_From.sem (k : Nat) : CallSem := callPure wide_From.tin wide_From.tout fun x => wide_From k x.1
noncomputable def wide_From.ctx (k : Nat) : Ctx := ⟨Try.prog, gam []⟩
theorem wide_From.gok (k : Nat) : ∀ f, SemOK Try.prog f ((wide_From.ctx k).Γ f) := gam_nil
def wide_From.ann (k : Nat) : Ann := .nil
theorem wide_From.body (k : Nat) : BodyIs (wide_From.ctx k) Try.f96 (Func.code Try.f96) (wide_From.ann k) wide_From.tin wide_From.tout (fun x K => wide_From.c k x.1 K) := by
  intro ρ x K; kernel_rfl
theorem wide_From.sem_ok (k : Nat) : SemOK Try.prog 96 (wide_From.sem k) :=
  callPure_ok (C := wide_From.ctx k) (wide_From.gok k) Try.mix (c := Func.code Try.f96) (ann := wide_From.ann k) (tin := wide_From.tin) (tout := wide_From.tout) (fun x K => wide_From.c k x.1 K) Try.func96 (by kernel_rfl) (by kernel_rfl) AnnOK.nil (wide_From.body k)

/-! 103 bedrock/wide.Right: an inner call, told by nothing -/
def wide_Right_nul (k : Nat) (a0 : (List Int)) (a1 : Int) : Option ((List Int) × Unit) := none
def wide_Right_nul.tin : List Ty := [(.arr 4 (.int .u64)), (.int .i64)]
def wide_Right_nul.tout : List Ty := [(.arr 4 (.int .u64))]
def wide_Right_nul.sem (k : Nat) : CallSem := callPure wide_Right_nul.tin wide_Right_nul.tout fun x => wide_Right_nul k x.1 x.2.1
theorem wide_Right_nul.sem_ok (k : Nat) : SemOK Try.prog 103 (wide_Right_nul.sem k) := callNone_ok fun _ => rfl

/-! 84 bedrock/wide.Zero -/
def wide_Zero.c (k : Nat) {ρ : Type} (a : (List Int)) (K : Bool × Unit → Option ρ) : Option ρ :=
  let v0 : (List Int) := (List.replicate 4 (0 : Int))
  K ((decide (a = v0)), ())
def wide_Zero (k : Nat) (a : (List Int)) : Option (Bool × Unit) := wide_Zero.c k a some
def wide_Zero.tin : List Ty := [(.arr 4 (.int .u64))]
def wide_Zero.tout : List Ty := [.bool]
def wide_Zero.sem (k : Nat) : CallSem := callPure wide_Zero.tin wide_Zero.tout fun x => wide_Zero k x.1
noncomputable def wide_Zero.ctx (k : Nat) : Ctx := ⟨Try.prog, gam []⟩
theorem wide_Zero.gok (k : Nat) : ∀ f, SemOK Try.prog f ((wide_Zero.ctx k).Γ f) := gam_nil
def wide_Zero.ann (k : Nat) : Ann := .nil
theorem wide_Zero.body (k : Nat) : BodyIs (wide_Zero.ctx k) Try.f84 (Func.code Try.f84) (wide_Zero.ann k) wide_Zero.tin wide_Zero.tout (fun x K => wide_Zero.c k x.1 K) := by
  intro ρ x K; kernel_rfl
theorem wide_Zero.sem_ok (k : Nat) : SemOK Try.prog 84 (wide_Zero.sem k) :=
  callPure_ok (C := wide_Zero.ctx k) (wide_Zero.gok k) Try.mix (c := Func.code Try.f84) (ann := wide_Zero.ann k) (tin := wide_Zero.tin) (tout := wide_Zero.tout) (fun x K => wide_Zero.c k x.1 K) Try.func84 (by kernel_rfl) (by kernel_rfl) AnnOK.nil (wide_Zero.body k)

/-! 105 math/bits.Len64 -/
abbrev math_bits_Len64.p0.σ : Type := Int × Int × Unit
abbrev math_bits_Len64.p0.τ : Type := (Int × Int × Unit)
def math_bits_Len64.p0.r (k : Nat) {ρ : Type} (x : math_bits_Len64.p0.σ) (K : math_bits_Len64.p0.τ → Option ρ) : Option ρ :=
  bif (decide (x.1 ≥ (4294967296 : Int))) then (let v0 : Int := (shrOp IntKind.u64 x.1 (32 : Int))
  K (v0, ((32 : Int), ()))) else (K (x.1, (x.2.1, ())))
def math_bits_Len64.p0 (k : Nat) (x : math_bits_Len64.p0.σ) : Option math_bits_Len64.p0.τ := math_bits_Len64.p0.r k x some
def math_bits_Len64.p0.T : StT := ⟨.dat (.int .u64) :: us 1 ++ .dat (.int .i64) :: us 22, []⟩
def math_bits_Len64.p0.os : List Out := [⟨.normal, [.mask [0, 2], .auto 0], ⟨.dat (.int .u64) :: us 1 ++ .dat (.int .i64) :: us 22, []⟩⟩]
abbrev math_bits_Len64.p1.σ : Type := Int × Int × Unit
abbrev math_bits_Len64.p1.τ : Type := (Int × Int × Unit)
def math_bits_Len64.p1.r (k : Nat) {ρ : Type} (x : math_bits_Len64.p1.σ) (K : math_bits_Len64.p1.τ → Option ρ) : Option ρ :=
  bif (decide (x.1 ≥ (65536 : Int))) then (let v2 : Int := (shrOp IntKind.u64 x.1 (16 : Int))
  let v3 : Int := (IntKind.wrap IntKind.i64 (x.2.1 + (16 : Int)))
  K (v2, (v3, ()))) else (K (x.1, (x.2.1, ())))
def math_bits_Len64.p1 (k : Nat) (x : math_bits_Len64.p1.σ) : Option math_bits_Len64.p1.τ := math_bits_Len64.p1.r k x some
def math_bits_Len64.p1.T : StT := ⟨.dat (.int .u64) :: us 1 ++ .dat (.int .i64) :: us 22, []⟩
def math_bits_Len64.p1.os : List Out := [⟨.normal, [.mask [0, 2], .auto 0], ⟨.dat (.int .u64) :: us 1 ++ .dat (.int .i64) :: us 22, []⟩⟩]
def math_bits_Len64.c (k : Nat) {ρ : Type} (x_0 : Int) (K : Int × Unit → Option ρ) : Option ρ :=
  (math_bits_Len64.p0 k (x_0, ((0 : Int), ()))).bind fun t1 => (math_bits_Len64.p1 k (t1.1, (t1.2.1, ()))).bind fun t4 => bif (decide (t4.1 ≥ (256 : Int))) then (let v5 : Int := (shrOp IntKind.u64 t4.1 (8 : Int))
  let v6 : Int := (IntKind.wrap IntKind.i64 (t4.2.1 + (8 : Int)))
  bif (decide (((0 : Int) ≤ (IntKind.wrap IntKind.u8 v5)) ∧ ((IntKind.wrap IntKind.u8 v5) < ((256 : Nat) : Int)))) then (let v7 : Int := (byteAt (⟨(List.toArray (List.append (List.append [0, 1, 2, 2, 3, 3, 3, 3, 4, 4, 4, 4, 4, 4, 4, 4, 5, 5, 5, 5, 5, 5, 5, 5, 5, 5, 5, 5, 5, 5, 5, 5, 6, 6, 6, 6, 6, 6, 6, 6, 6, 6, 6, 6, 6, 6, 6, 6, 6, 6, 6, 6, 6, 6, 6, 6, 6, 6, 6, 6, 6, 6, 6, 6] [7, 7, 7, 7, 7, 7, 7, 7, 7, 7, 7, 7, 7, 7, 7, 7, 7, 7, 7, 7, 7, 7, 7, 7, 7, 7, 7, 7, 7, 7, 7, 7, 7, 7, 7, 7, 7, 7, 7, 7, 7, 7, 7, 7, 7, 7, 7, 7, 7, 7, 7, 7, 7, 7, 7, 7, 7, 7, 7, 7, 7, 7, 7, 7]) (List.append [8, 8, 8, 8, 8, 8, 8, 8, 8, 8, 8, 8, 8, 8, 8, 8, 8, 8, 8, 8, 8, 8, 8, 8, 8, 8, 8, 8, 8, 8, 8, 8, 8, 8, 8, 8, 8, 8, 8, 8, 8, 8, 8, 8, 8, 8, 8, 8, 8, 8, 8, 8, 8, 8, 8, 8, 8, 8, 8, 8, 8, 8, 8, 8] [8, 8, 8, 8, 8, 8, 8, 8, 8, 8, 8, 8, 8, 8, 8, 8, 8, 8, 8, 8, 8, 8, 8, 8, 8, 8, 8, 8, 8, 8, 8, 8, 8, 8, 8, 8, 8, 8, 8, 8, 8, 8, 8, 8, 8, 8, 8, 8, 8, 8, 8, 8, 8, 8, 8, 8, 8, 8, 8, 8, 8, 8, 8, 8])))⟩ : ByteArray) (Int.toNat (IntKind.wrap IntKind.u8 v5)))
  let v8 : Int := (IntKind.wrap IntKind.i64 (v6 + (IntKind.wrap IntKind.i64 v7)))
  K (v8, ())) else (none)) else (let v9 : Int := (IntKind.wrap IntKind.u8 t4.1)
  bif (decide (((0 : Int) ≤ v9) ∧ (v9 < ((256 : Nat) : Int)))) then (let v10 : Int := (byteAt (⟨(List.toArray (List.append (List.append [0, 1, 2, 2, 3, 3, 3, 3, 4, 4, 4, 4, 4, 4, 4, 4, 5, 5, 5, 5, 5, 5, 5, 5, 5, 5, 5, 5, 5, 5, 5, 5, 6, 6, 6, 6, 6, 6, 6, 6, 6, 6, 6, 6, 6, 6, 6, 6, 6, 6, 6, 6, 6, 6, 6, 6, 6, 6, 6, 6, 6, 6, 6, 6] [7, 7, 7, 7, 7, 7, 7, 7, 7, 7, 7, 7, 7, 7, 7, 7, 7, 7, 7, 7, 7, 7, 7, 7, 7, 7, 7, 7, 7, 7, 7, 7, 7, 7, 7, 7, 7, 7, 7, 7, 7, 7, 7, 7, 7, 7, 7, 7, 7, 7, 7, 7, 7, 7, 7, 7, 7, 7, 7, 7, 7, 7, 7, 7]) (List.append [8, 8, 8, 8, 8, 8, 8, 8, 8, 8, 8, 8, 8, 8, 8, 8, 8, 8, 8, 8, 8, 8, 8, 8, 8, 8, 8, 8, 8, 8, 8, 8, 8, 8, 8, 8, 8, 8, 8, 8, 8, 8, 8, 8, 8, 8, 8, 8, 8, 8, 8, 8, 8, 8, 8, 8, 8, 8, 8, 8, 8, 8, 8, 8] [8, 8, 8, 8, 8, 8, 8, 8, 8, 8, 8, 8, 8, 8, 8, 8, 8, 8, 8, 8, 8, 8, 8, 8, 8, 8, 8, 8, 8, 8, 8, 8, 8, 8, 8, 8, 8, 8, 8, 8, 8, 8, 8, 8, 8, 8, 8, 8, 8, 8, 8, 8, 8, 8, 8, 8, 8, 8, 8, 8, 8, 8, 8, 8])))⟩ : ByteArray) (Int.toNat v9))
  let v11 : Int := (IntKind.wrap IntKind.i64 (t4.2.1 + (IntKind.wrap IntKind.i64 v10)))
  K (v11, ())) else (none))
def math_bits_Len64 (k : Nat) (x_0 : Int) : Option (Int × Unit) := math_bits_Len64.c k x_0 some
def math_bits_Len64.tin : List Ty := [(.int .u64)]
def math_bits_Len64.tout : List Ty := [(.int .i64)]
def math_bits_Len64.sem (k : Nat) : CallSem := callPure math_bits_Len64.tin math_bits_Len64.tout fun x => math_bits_Len64 k x.1
noncomputable def math_bits_Len64.ctx (k : Nat) : Ctx := ⟨Try.prog, gam []⟩
theorem math_bits_Len64.gok (k : Nat) : ∀ f, SemOK Try.prog f ((math_bits_Len64.ctx k).Γ f) := gam_nil
theorem math_bits_Len64.p0.is (k : Nat) : PieceIs (math_bits_Len64.ctx k) (codeAt (Func.code Try.f105) [1, 0]) (.nil) math_bits_Len64.p0.T math_bits_Len64.p0.os (math_bits_Len64.p0.r k) := by
  intro ρ x K; kernel_rfl
theorem math_bits_Len64.p0.ok (k : Nat) : StOK 0 Try.prog (codeAt (Func.code Try.f105) [1, 0]) (pieceSem math_bits_Len64.p0.T math_bits_Len64.p0.os (math_bits_Len64.p0 k)) :=
  piece_ok (C := math_bits_Len64.ctx k) (T := math_bits_Len64.p0.T) (os := math_bits_Len64.p0.os) (math_bits_Len64.gok k) Try.mix (fun x K => math_bits_Len64.p0.r k x K) AnnOK.nil (by kernel_rfl) (by kernel_rfl) (math_bits_Len64.p0.is k)
theorem math_bits_Len64.p1.is (k : Nat) : PieceIs (math_bits_Len64.ctx k) (codeAt (Func.code Try.f105) [1, 1, 0]) (.nil) math_bits_Len64.p1.T math_bits_Len64.p1.os (math_bits_Len64.p1.r k) := by
  intro ρ x K; kernel_rfl
theorem math_bits_Len64.p1.ok (k : Nat) : StOK 0 Try.prog (codeAt (Func.code Try.f105) [1, 1, 0]) (pieceSem math_bits_Len64.p1.T math_bits_Len64.p1.os (math_bits_Len64.p1 k)) :=
  piece_ok (C := math_bits_Len64.ctx k) (T := math_bits_Len64.p1.T) (os := math_bits_Len64.p1.os) (math_bits_Len64.gok k) Try.mix (fun x K => math_bits_Len64.p1.r k x K) AnnOK.nil (by kernel_rfl) (by kernel_rfl) (math_bits_Len64.p1.is k)
def math_bits_Len64.ann (k : Nat) : Ann := .node [] none (.nil) (.node [] none (.node [] (some (pieceSem math_bits_Len64.p0.T math_bits_Len64.p0.os (math_bits_Len64.p0 k))) .nil .nil) (.node [] none (.node [] (some (pieceSem math_bits_Len64.p1.T math_bits_Len64.p1.os (math_bits_Len64.p1 k))) .nil .nil) (.nil)))
theorem math_bits_Len64.body (k : Nat) : BodyIs (math_bits_Len64.ctx k) Try.f105 (Func.code Try.f105) (math_bits_Len64.ann k) math_bits_Len64.tin math_bits_Len64.tout (fun x K => math_bits_Len64.c k x.1 K) := by
  intro ρ x K; kernel_rfl
theorem math_bits_Len64.sem_ok (k : Nat) : SemOK Try.prog 105 (math_bits_Len64.sem k) :=
  callPure_ok (C := math_bits_Len64.ctx k) (math_bits_Len64.gok k) Try.mix (c := Func.code Try.f105) (ann := math_bits_Len64.ann k) (tin := math_bits_Len64.tin) (tout := math_bits_Len64.tout) (fun x K => math_bits_Len64.c k x.1 K) Try.func105 (by kernel_rfl) (by kernel_rfl) (AnnOK.seq AnnOK.nil (AnnOK.seq (AnnOK.loop (by kernel_rfl) (math_bits_Len64.p0.ok k)) (AnnOK.seq (AnnOK.loop (by kernel_rfl) (math_bits_Len64.p1.ok k)) AnnOK.nil))) (math_bits_Len64.body k)

/-! 98 bedrock/wide.Bits -/
abbrev wide_Bits.l0.σ : Type := Int × (List Int) × Unit
abbrev wide_Bits.l0.τ : Type := (Int × Unit) ⊕ (Unit)
def wide_Bits.l0.r (k : Nat) {ρ : Type} (x : wide_Bits.l0.σ) (kn : wide_Bits.l0.σ → Option ρ) (ke : wide_Bits.l0.τ → Option ρ) : Option ρ :=
  bif (decide (x.1 ≥ (0 : Int))) then (bif (decide (((0 : Int) ≤ x.1) ∧ (x.1 < ((4 : Nat) : Int)))) then (let v0 : Int := (List.getD x.2.1 (Int.toNat x.1) (0 : Int))
  bif (v0 != (0 : Int)) then (let v1 : Int := (IntKind.wrap IntKind.i64 (x.1 * (64 : Int)))
  bif (decide (((0 : Int) ≤ x.1) ∧ (x.1 < ((4 : Nat) : Int)))) then (let v2 : Int := (List.getD x.2.1 (Int.toNat x.1) (0 : Int))
  (math_bits_Len64 k v2).bind fun t3 => let v4 : Int := (IntKind.wrap IntKind.i64 (v1 + t3.1))
  ke (.inl (v4, ()))) else (none)) else (let v5 : Int := (IntKind.wrap IntKind.i64 (x.1 - (1 : Int)))
  kn (v5, (x.2.1, ())))) else (none)) else (ke (.inr ()))
def wide_Bits.l0 (k : Nat) : Nat → wide_Bits.l0.σ → Option wide_Bits.l0.τ := loopJ (wide_Bits.l0.r k)
def wide_Bits.l0.T : StT := ⟨us 1 ++ .ptr 0 [] :: us 1 ++ .dat (.int .i64) :: us 15, [.dat (.arr 4 (.int .u64))]⟩
def wide_Bits.l0.os : List Out := [⟨.ret, [.mask [2], .auto 0], ⟨us 2 ++ .dat (.int .i64) :: us 16, []⟩⟩, ⟨(.exit 0), [.mask [], .auto 0], ⟨us 19, []⟩⟩]
def wide_Bits.c (k : Nat) {ρ : Type} (a : (List Int)) (K : Int × Unit → Option ρ) : Option ρ :=
  (wide_Bits.l0 k k ((3 : Int), (a, ()))).bind fun t6 => (match t6 with | .inl t7 => (K (t7.1, ())) | .inr (t8) => (K ((0 : Int), ())))
def wide_Bits (k : Nat) (a : (List Int)) : Option (Int × Unit) := wide_Bits.c k a some
def wide_Bits.tin : List Ty := [(.arr 4 (.int .u64))]
def wide_Bits.tout : List Ty := [(.int .i64)]
def wide_Bits.sem (k : Nat) : CallSem := callPure wide_Bits.tin wide_Bits.tout fun x => wide_Bits k x.1
noncomputable def wide_Bits.ctx (k : Nat) : Ctx := ⟨Try.prog, gam [(105, (math_bits_Len64.sem k))]⟩
theorem wide_Bits.gok (k : Nat) : ∀ f, SemOK Try.prog f ((wide_Bits.ctx k).Γ f) := (gam_cons (math_bits_Len64.sem_ok k) gam_nil)
theorem wide_Bits.l0.round (k : Nat) : RoundIs (wide_Bits.ctx k) (codeAt (Func.code Try.f98) [1, 0, 1, 0, 0]) (.nil) wide_Bits.l0.T [.mask [1, 3], .auto 0] wide_Bits.l0.os (wide_Bits.l0.r k) := by
  intro ρ x kn ke; kernel_rfl
theorem wide_Bits.l0.ok (k : Nat) : StOK 0 Try.prog (.loop (codeAt (Func.code Try.f98) [1, 0, 1, 0, 0])) (pieceSem wide_Bits.l0.T wide_Bits.l0.os (wide_Bits.l0 k k)) :=
  loop_ok (C := wide_Bits.ctx k) (wide_Bits.gok k) Try.mix AnnOK.nil (by kernel_rfl) (by kernel_rfl) (by kernel_rfl) (wide_Bits.l0.round k) k
def wide_Bits.ann (k : Nat) : Ann := .node [] none (.nil) (.node [] none (.node [] none (.nil) (.node [] none (.node [.mask [1, 3], .auto 0] (some (pieceSem wide_Bits.l0.T wide_Bits.l0.os (wide_Bits.l0 k k))) .nil .nil) (.nil))) (.nil))
theorem wide_Bits.body (k : Nat) : BodyIs (wide_Bits.ctx k) Try.f98 (Func.code Try.f98) (wide_Bits.ann k) wide_Bits.tin wide_Bits.tout (fun x K => wide_Bits.c k x.1 K) := by
  intro ρ x K; kernel_rfl
theorem wide_Bits.sem_ok (k : Nat) : SemOK Try.prog 98 (wide_Bits.sem k) :=
  callPure_ok (C := wide_Bits.ctx k) (wide_Bits.gok k) Try.mix (c := Func.code Try.f98) (ann := wide_Bits.ann k) (tin := wide_Bits.tin) (tout := wide_Bits.tout) (fun x K => wide_Bits.c k x.1 K) Try.func98 (by kernel_rfl) (by kernel_rfl) (AnnOK.seq AnnOK.nil (AnnOK.seq (AnnOK.seq AnnOK.nil (AnnOK.block (AnnOK.loop (by kernel_rfl) (wide_Bits.l0.ok k)))) AnnOK.nil)) (wide_Bits.body k)

/-! 104 bedrock/wide.Left -/
abbrev wide_Left.l0.σ : Type := Int × Int × (List Int) × (List Int) × (List Int) × Unit
abbrev wide_Left.l0.τ : Type := (Int × (List Int) × (List Int) × (List Int) × Unit)
def wide_Left.l0.r (k : Nat) {ρ : Type} (x : wide_Left.l0.σ) (kn : wide_Left.l0.σ → Option ρ) (ke : wide_Left.l0.τ → Option ρ) : Option ρ :=
  let v5 : Int := (IntKind.wrap IntKind.i64 (Int.tdiv x.1 (64 : Int)))
  bif (decide (x.2.1 ≥ v5)) then (let v6 : Int := (IntKind.wrap IntKind.i64 (Int.tdiv x.1 (64 : Int)))
  let v7 : Int := (IntKind.wrap IntKind.i64 (x.2.1 - v6))
  bif (decide (((0 : Int) ≤ v7) ∧ (v7 < ((4 : Nat) : Int)))) then (let v8 : Int := (List.getD x.2.2.1 (Int.toNat v7) (0 : Int))
  let v9 : Int := (Int.tmod x.1 (64 : Int))
  bif (decide ((0 : Int) ≤ v9)) then (bif (decide (((0 : Int) ≤ x.2.1) ∧ (x.2.1 < ((4 : Nat) : Int)))) then (bif (decide (v7 > (0 : Int))) then (bif (decide (((0 : Int) ≤ x.2.1) ∧ (x.2.1 < ((4 : Nat) : Int)))) then (let v10 : Int := (List.getD (List.set x.2.2.2.2.1 (Int.toNat x.2.1) (shlOp IntKind.u64 v8 v9)) (Int.toNat x.2.1) (0 : Int))
  let v11 : Int := (IntKind.wrap IntKind.i64 (v7 - (1 : Int)))
  bif (decide (((0 : Int) ≤ v11) ∧ (v11 < ((4 : Nat) : Int)))) then (let v12 : Int := (List.getD x.2.2.1 (Int.toNat v11) (0 : Int))
  let v13 : Int := (Int.tmod x.1 (64 : Int))
  let v14 : Int := (IntKind.wrap IntKind.i64 ((64 : Int) - v13))
  bif (decide ((0 : Int) ≤ v14)) then (let v15 : Int := (bitsOp BinOp.or IntKind.u64 v10 (shrOp IntKind.u64 v12 v14))
  bif (decide (((0 : Int) ≤ x.2.1) ∧ (x.2.1 < ((4 : Nat) : Int)))) then (let v16 : Int := (IntKind.wrap IntKind.i64 (x.2.1 - (1 : Int)))
  kn (x.1, (v16, (x.2.2.1, (x.2.2.2.1, ((List.set (List.set x.2.2.2.2.1 (Int.toNat x.2.1) (shlOp IntKind.u64 v8 v9)) (Int.toNat x.2.1) v15), ())))))) else (none)) else (none)) else (none)) else (none)) else (let v17 : Int := (IntKind.wrap IntKind.i64 (x.2.1 - (1 : Int)))
  kn (x.1, (v17, (x.2.2.1, (x.2.2.2.1, ((List.set x.2.2.2.2.1 (Int.toNat x.2.1) (shlOp IntKind.u64 v8 v9)), ()))))))) else (none)) else (none)) else (none)) else (ke (x.1, (x.2.2.1, (x.2.2.2.1, (x.2.2.2.2.1, ())))))
def wide_Left.l0 (k : Nat) : Nat → wide_Left.l0.σ → Option wide_Left.l0.τ := loopJ (wide_Left.l0.r k)
def wide_Left.l0.T : StT := ⟨us 1 ++ .dat (.int .i64) :: .ptr 0 [] :: us 1 ++ .ptr 1 [] :: us 1 ++ .ptr 2 [] :: .dat (.int .i64) :: us 55, [.dat (.arr 4 (.int .u64)), .dat (.arr 4 (.int .u64)), .dat (.arr 4 (.int .u64))]⟩
def wide_Left.l0.os : List Out := [⟨(.exit 1), [.mask [1, 2, 4, 6], .auto 0], ⟨us 1 ++ .dat (.int .i64) :: .ptr 0 [] :: us 1 ++ .ptr 1 [] :: us 1 ++ .ptr 2 [] :: us 56, [.dat (.arr 4 (.int .u64)), .dat (.arr 4 (.int .u64)), .dat (.arr 4 (.int .u64))]⟩⟩]
def wide_Left.c (k : Nat) {ρ : Type} (a : (List Int)) (n : Int) (K : (List Int) × Bool × Unit → Option ρ) : Option ρ :=
  bif (decide (n < (0 : Int))) then (let v0 : Int := (if ((-(256 : Int)) > n) then (-(256 : Int)) else n)
  let v1 : Int := (IntKind.wrap IntKind.i64 ((0 : Int) - v0))
  (wide_Right_nul k a v1).bind fun t2 => K (t2.1, (false, ()))) else (bif (decide (n ≥ (256 : Int))) then (let v3 : (List Int) := (List.replicate 4 (0 : Int))
  (wide_Zero k a).bind fun t4 => K (v3, ((!t4.1), ()))) else ((wide_Left.l0 k k (n, ((3 : Int), (a, ((List.replicate 4 (0 : Int)), ((List.replicate 4 (0 : Int)), ())))))).bind fun t18 => let v19 : (List Int) := t18.2.2.2.1
  let v20 : (List Int) := t18.2.1
  (wide_Bits k v20).bind fun t21 => let v22 : Int := (IntKind.wrap IntKind.i64 (t21.1 + t18.1))
  K (v19, ((decide (v22 > (256 : Int))), ()))))
def wide_Left (k : Nat) (a : (List Int)) (n : Int) : Option ((List Int) × Bool × Unit) := wide_Left.c k a n some
def wide_Left.tin : List Ty := [(.arr 4 (.int .u64)), (.int .i64)]
def wide_Left.tout : List Ty := [(.arr 4 (.int .u64)), .bool]
def wide_Left.sem (k : Nat) : CallSem := callPure wide_Left.tin wide_Left.tout fun x => wide_Left k x.1 x.2.1
noncomputable def wide_Left.ctx (k : Nat) : Ctx := ⟨Try.prog, gam [(103, (wide_Right_nul.sem k)), (84, (wide_Zero.sem k)), (98, (wide_Bits.sem k))]⟩
theorem wide_Left.gok (k : Nat) : ∀ f, SemOK Try.prog f ((wide_Left.ctx k).Γ f) := (gam_cons (wide_Right_nul.sem_ok k) (gam_cons (wide_Zero.sem_ok k) (gam_cons (wide_Bits.sem_ok k) gam_nil)))
theorem wide_Left.l0.round (k : Nat) : RoundIs (wide_Left.ctx k) (codeAt (Func.code Try.f104) [1, 1, 1, 0, 1, 0, 0]) (.nil) wide_Left.l0.T [.mask [1, 2, 4, 6, 7], .auto 0] wide_Left.l0.os (wide_Left.l0.r k) := by
  intro ρ x kn ke; kernel_rfl
theorem wide_Left.l0.ok (k : Nat) : StOK 0 Try.prog (.loop (codeAt (Func.code Try.f104) [1, 1, 1, 0, 1, 0, 0])) (pieceSem wide_Left.l0.T wide_Left.l0.os (wide_Left.l0 k k)) :=
  loop_ok (C := wide_Left.ctx k) (wide_Left.gok k) Try.mix AnnOK.nil (by kernel_rfl) (by kernel_rfl) (by kernel_rfl) (wide_Left.l0.round k) k
def wide_Left.ann (k : Nat) : Ann := .node [] none (.nil) (.node [] none (.nil) (.node [] none (.nil) (.node [] none (.node [] none (.nil) (.node [] none (.node [.mask [1, 2, 4, 6, 7], .auto 0] (some (pieceSem wide_Left.l0.T wide_Left.l0.os (wide_Left.l0 k k))) .nil .nil) (.nil))) (.nil))))
theorem wide_Left.body (k : Nat) : BodyIs (wide_Left.ctx k) Try.f104 (Func.code Try.f104) (wide_Left.ann k) wide_Left.tin wide_Left.tout (fun x K => wide_Left.c k x.1 x.2.1 K) := by
  intro ρ x K; kernel_rfl
theorem wide_Left.sem_ok (k : Nat) : SemOK Try.prog 104 (wide_Left.sem k) :=
  callPure_ok (C := wide_Left.ctx k) (wide_Left.gok k) Try.mix (c := Func.code Try.f104) (ann := wide_Left.ann k) (tin := wide_Left.tin) (tout := wide_Left.tout) (fun x K => wide_Left.c k x.1 x.2.1 K) Try.func104 (by kernel_rfl) (by kernel_rfl) (AnnOK.seq AnnOK.nil (AnnOK.seq AnnOK.nil (AnnOK.seq AnnOK.nil (AnnOK.seq (AnnOK.seq AnnOK.nil (AnnOK.block (AnnOK.loop (by kernel_rfl) (wide_Left.l0.ok k)))) AnnOK.nil)))) (wide_Left.body k)

/-! 103 bedrock/wide.Right -/
abbrev wide_Right.l0.σ : Type := Int × Int × (List Int) × (List Int) × (List Int) × Unit
abbrev wide_Right.l0.τ : Type := ((List Int) × (List Int) × Unit)
def wide_Right.l0.r (k : Nat) {ρ : Type} (x : wide_Right.l0.σ) (kn : wide_Right.l0.σ → Option ρ) (ke : wide_Right.l0.τ → Option ρ) : Option ρ :=
  let v5 : Int := (IntKind.wrap IntKind.i64 (Int.tdiv x.1 (64 : Int)))
  let v6 : Int := (IntKind.wrap IntKind.i64 (x.2.1 + v5))
  bif (decide (v6 < (4 : Int))) then (let v7 : Int := (IntKind.wrap IntKind.i64 (Int.tdiv x.1 (64 : Int)))
  let v8 : Int := (IntKind.wrap IntKind.i64 (x.2.1 + v7))
  bif (decide (((0 : Int) ≤ v8) ∧ (v8 < ((4 : Nat) : Int)))) then (let v9 : Int := (List.getD x.2.2.1 (Int.toNat v8) (0 : Int))
  let v10 : Int := (Int.tmod x.1 (64 : Int))
  bif (decide ((0 : Int) ≤ v10)) then (bif (decide (((0 : Int) ≤ x.2.1) ∧ (x.2.1 < ((4 : Nat) : Int)))) then (let v11 : Int := (IntKind.wrap IntKind.i64 (v8 + (1 : Int)))
  bif (decide (v11 < (4 : Int))) then (bif (decide (((0 : Int) ≤ x.2.1) ∧ (x.2.1 < ((4 : Nat) : Int)))) then (let v12 : Int := (List.getD (List.set x.2.2.2.2.1 (Int.toNat x.2.1) (shrOp IntKind.u64 v9 v10)) (Int.toNat x.2.1) (0 : Int))
  let v13 : Int := (IntKind.wrap IntKind.i64 (v8 + (1 : Int)))
  bif (decide (((0 : Int) ≤ v13) ∧ (v13 < ((4 : Nat) : Int)))) then (let v14 : Int := (List.getD x.2.2.1 (Int.toNat v13) (0 : Int))
  let v15 : Int := (Int.tmod x.1 (64 : Int))
  let v16 : Int := (IntKind.wrap IntKind.i64 ((64 : Int) - v15))
  bif (decide ((0 : Int) ≤ v16)) then (let v17 : Int := (bitsOp BinOp.or IntKind.u64 v12 (shlOp IntKind.u64 v14 v16))
  bif (decide (((0 : Int) ≤ x.2.1) ∧ (x.2.1 < ((4 : Nat) : Int)))) then (let v18 : Int := (IntKind.wrap IntKind.i64 (x.2.1 + (1 : Int)))
  kn (x.1, (v18, (x.2.2.1, (x.2.2.2.1, ((List.set (List.set x.2.2.2.2.1 (Int.toNat x.2.1) (shrOp IntKind.u64 v9 v10)) (Int.toNat x.2.1) v17), ())))))) else (none)) else (none)) else (none)) else (none)) else (let v19 : Int := (IntKind.wrap IntKind.i64 (x.2.1 + (1 : Int)))
  kn (x.1, (v19, (x.2.2.1, (x.2.2.2.1, ((List.set x.2.2.2.2.1 (Int.toNat x.2.1) (shrOp IntKind.u64 v9 v10)), ()))))))) else (none)) else (none)) else (none)) else (ke (x.2.2.2.1, (x.2.2.2.2.1, ())))
def wide_Right.l0 (k : Nat) : Nat → wide_Right.l0.σ → Option wide_Right.l0.τ := loopJ (wide_Right.l0.r k)
def wide_Right.l0.T : StT := ⟨us 1 ++ .dat (.int .i64) :: .ptr 0 [] :: us 1 ++ .ptr 1 [] :: us 2 ++ .ptr 2 [] :: .dat (.int .i64) :: us 53, [.dat (.arr 4 (.int .u64)), .dat (.arr 4 (.int .u64)), .dat (.arr 4 (.int .u64))]⟩
def wide_Right.l0.os : List Out := [⟨(.exit 1), [.mask [4, 7], .auto 0], ⟨us 4 ++ .ptr 0 [] :: us 2 ++ .ptr 1 [] :: us 54, [.dat (.arr 4 (.int .u64)), .dat (.arr 4 (.int .u64))]⟩⟩]
def wide_Right.c (k : Nat) {ρ : Type} (a : (List Int)) (n : Int) (K : (List Int) × Unit → Option ρ) : Option ρ :=
  bif (decide (n < (0 : Int))) then (let v0 : Int := (if ((-(256 : Int)) > n) then (-(256 : Int)) else n)
  let v1 : Int := (IntKind.wrap IntKind.i64 ((0 : Int) - v0))
  (wide_Left k a v1).bind fun t2 => let v3 : (List Int) := t2.1
  K (v3, ())) else (bif (decide (n ≥ (256 : Int))) then (let v4 : (List Int) := (List.replicate 4 (0 : Int))
  K (v4, ())) else ((wide_Right.l0 k k (n, ((0 : Int), (a, ((List.replicate 4 (0 : Int)), ((List.replicate 4 (0 : Int)), ())))))).bind fun t20 => let v21 : (List Int) := t20.2.1
  K (v21, ())))
def wide_Right (k : Nat) (a : (List Int)) (n : Int) : Option ((List Int) × Unit) := wide_Right.c k a n some
def wide_Right.tin : List Ty := [(.arr 4 (.int .u64)), (.int .i64)]
def wide_Right.tout : List Ty := [(.arr 4 (.int .u64))]
def wide_Right.sem (k : Nat) : CallSem := callPure wide_Right.tin wide_Right.tout fun x => wide_Right k x.1 x.2.1
noncomputable def wide_Right.ctx (k : Nat) : Ctx := ⟨Try.prog, gam [(104, (wide_Left.sem k))]⟩
theorem wide_Right.gok (k : Nat) : ∀ f, SemOK Try.prog f ((wide_Right.ctx k).Γ f) := (gam_cons (wide_Left.sem_ok k) gam_nil)
theorem wide_Right.l0.round (k : Nat) : RoundIs (wide_Right.ctx k) (codeAt (Func.code Try.f103) [1, 1, 1, 0, 1, 0, 0]) (.nil) wide_Right.l0.T [.mask [1, 2, 4, 7, 8], .auto 0] wide_Right.l0.os (wide_Right.l0.r k) := by
  intro ρ x kn ke; kernel_rfl
theorem wide_Right.l0.ok (k : Nat) : StOK 0 Try.prog (.loop (codeAt (Func.code Try.f103) [1, 1, 1, 0, 1, 0, 0])) (pieceSem wide_Right.l0.T wide_Right.l0.os (wide_Right.l0 k k)) :=
  loop_ok (C := wide_Right.ctx k) (wide_Right.gok k) Try.mix AnnOK.nil (by kernel_rfl) (by kernel_rfl) (by kernel_rfl) (wide_Right.l0.round k) k
def wide_Right.ann (k : Nat) : Ann := .node [] none (.nil) (.node [] none (.nil) (.node [] none (.nil) (.node [] none (.node [] none (.nil) (.node [] none (.node [.mask [1, 2, 4, 7, 8], .auto 0] (some (pieceSem wide_Right.l0.T wide_Right.l0.os (wide_Right.l0 k k))) .nil .nil) (.nil))) (.nil))))
theorem wide_Right.body (k : Nat) : BodyIs (wide_Right.ctx k) Try.f103 (Func.code Try.f103) (wide_Right.ann k) wide_Right.tin wide_Right.tout (fun x K => wide_Right.c k x.1 x.2.1 K) := by
  intro ρ x K; kernel_rfl
theorem wide_Right.sem_ok (k : Nat) : SemOK Try.prog 103 (wide_Right.sem k) :=
  callPure_ok (C := wide_Right.ctx k) (wide_Right.gok k) Try.mix (c := Func.code Try.f103) (ann := wide_Right.ann k) (tin := wide_Right.tin) (tout := wide_Right.tout) (fun x K => wide_Right.c k x.1 x.2.1 K) Try.func103 (by kernel_rfl) (by kernel_rfl) (AnnOK.seq AnnOK.nil (AnnOK.seq AnnOK.nil (AnnOK.seq AnnOK.nil (AnnOK.seq (AnnOK.seq AnnOK.nil (AnnOK.block (AnnOK.loop (by kernel_rfl) (wide_Right.l0.ok k)))) AnnOK.nil)))) (wide_Right.body k)

/-! 97 bedrock/target.shifted -/
def target_shifted.c (k : Nat) {ρ : Type} (w : (List Int)) (bytes : Int) (K : (List Int) × Unit → Option ρ) : Option ρ :=
  bif (decide (bytes < (0 : Int))) then (let v0 : Int := (IntKind.wrap IntKind.i64 ((0 : Int) - bytes))
  let v1 : Int := (IntKind.wrap IntKind.i64 (v0 * (8 : Int)))
  (wide_Right k w v1).bind fun t2 => K (t2.1, ())) else (let v3 : Int := (IntKind.wrap IntKind.i64 (bytes * (8 : Int)))
  (wide_Left k w v3).bind fun t4 => let v5 : (List Int) := t4.1
  K (v5, ()))
def target_shifted (k : Nat) (w : (List Int)) (bytes : Int) : Option ((List Int) × Unit) := target_shifted.c k w bytes some
def target_shifted.tin : List Ty := [(.arr 4 (.int .u64)), (.int .i64)]
def target_shifted.tout : List Ty := [(.arr 4 (.int .u64))]
def target_shifted.sem (k : Nat) : CallSem := callPure target_shifted.tin target_shifted.tout fun x => target_shifted k x.1 x.2.1
noncomputable def target_shifted.ctx (k : Nat) : Ctx := ⟨Try.prog, gam [(103, (wide_Right.sem k)), (104, (wide_Left.sem k))]⟩
theorem target_shifted.gok (k : Nat) : ∀ f, SemOK Try.prog f ((target_shifted.ctx k).Γ f) := (gam_cons (wide_Right.sem_ok k) (gam_cons (wide_Left.sem_ok k) gam_nil))
def target_shifted.ann (k : Nat) : Ann := .nil
theorem target_shifted.body (k : Nat) : BodyIs (target_shifted.ctx k) Try.f97 (Func.code Try.f97) (target_shifted.ann k) target_shifted.tin target_shifted.tout (fun x K => target_shifted.c k x.1 x.2.1 K) := by
  intro ρ x K; kernel_rfl
theorem target_shifted.sem_ok (k : Nat) : SemOK Try.prog 97 (target_shifted.sem k) :=
  callPure_ok (C := target_shifted.ctx k) (target_shifted.gok k) Try.mix (c := Func.code Try.f97) (ann := target_shifted.ann k) (tin := target_shifted.tin) (tout := target_shifted.tout) (fun x K => target_shifted.c k x.1 x.2.1 K) Try.func97 (by kernel_rfl) (by kernel_rfl) AnnOK.nil (target_shifted.body k)

/-! 83 bedrock/target.raw -/
def target_raw.c (k : Nat) {ρ : Type} (bits : Int) (K : (List Int) × Bool × Unit → Option ρ) : Option ρ :=
  let v0 : Int := (shrOp IntKind.u32 bits (24 : Int))
  let v1 : Int := (bitsOp BinOp.and IntKind.u32 bits (8388607 : Int))
  (wide_From k (IntKind.wrap IntKind.u64 v1)).bind fun t2 => bif (decide ((IntKind.wrap IntKind.i64 v0) ≤ (3 : Int))) then (let v3 : (List Int) := t2.1
  let v4 : Int := (IntKind.wrap IntKind.i64 ((IntKind.wrap IntKind.i64 v0) - (3 : Int)))
  (target_shifted k v3 v4).bind fun t5 => K (t5.1, (true, ()))) else (let v6 : (List Int) := t2.1
  (wide_Zero k v6).bind fun t7 => bif t7.1 then (let v8 : (List Int) := t2.1
  K (v8, (true, ()))) else (let v9 : (List Int) := t2.1
  (wide_Bits k v9).bind fun t10 => let v11 : Int := (IntKind.wrap IntKind.i64 ((IntKind.wrap IntKind.i64 v0) - (3 : Int)))
  let v12 : Int := (IntKind.wrap IntKind.i64 (v11 * (8 : Int)))
  let v13 : Int := (IntKind.wrap IntKind.i64 (t10.1 + v12))
  bif (decide (v13 > (256 : Int))) then (let v14 : (List Int) := (List.replicate 4 (0 : Int))
  K (v14, (false, ()))) else (let v15 : (List Int) := t2.1
  let v16 : Int := (IntKind.wrap IntKind.i64 ((IntKind.wrap IntKind.i64 v0) - (3 : Int)))
  (target_shifted k v15 v16).bind fun t17 => K (t17.1, (true, ())))))
def target_raw (k : Nat) (bits : Int) : Option ((List Int) × Bool × Unit) := target_raw.c k bits some
def target_raw.tin : List Ty := [(.int .u32)]
def target_raw.tout : List Ty := [(.arr 4 (.int .u64)), .bool]
def target_raw.sem (k : Nat) : CallSem := callPure target_raw.tin target_raw.tout fun x => target_raw k x.1
noncomputable def target_raw.ctx (k : Nat) : Ctx := ⟨Try.prog, gam [(96, (wide_From.sem k)), (97, (target_shifted.sem k)), (84, (wide_Zero.sem k)), (98, (wide_Bits.sem k))]⟩
theorem target_raw.gok (k : Nat) : ∀ f, SemOK Try.prog f ((target_raw.ctx k).Γ f) := (gam_cons (wide_From.sem_ok k) (gam_cons (target_shifted.sem_ok k) (gam_cons (wide_Zero.sem_ok k) (gam_cons (wide_Bits.sem_ok k) gam_nil))))
def target_raw.ann (k : Nat) : Ann := .nil
theorem target_raw.body (k : Nat) : BodyIs (target_raw.ctx k) Try.f83 (Func.code Try.f83) (target_raw.ann k) target_raw.tin target_raw.tout (fun x K => target_raw.c k x.1 K) := by
  intro ρ x K; kernel_rfl
theorem target_raw.sem_ok (k : Nat) : SemOK Try.prog 83 (target_raw.sem k) :=
  callPure_ok (C := target_raw.ctx k) (target_raw.gok k) Try.mix (c := Func.code Try.f83) (ann := target_raw.ann k) (tin := target_raw.tin) (tout := target_raw.tout) (fun x K => target_raw.c k x.1 K) Try.func83 (by kernel_rfl) (by kernel_rfl) AnnOK.nil (target_raw.body k)

/-! 85 bedrock/target.Limit -/
def target_Limit.c (k : Nat) {ρ : Type}  (K : (List Int) × Unit → Option ρ) : Option ρ :=
  (target_raw k (545259519 : Int)).bind fun t0 => let v1 : (List Int) := t0.1
  K (v1, ())
def target_Limit (k : Nat)  : Option ((List Int) × Unit) := target_Limit.c k  some
def target_Limit.tin : List Ty := []
def target_Limit.tout : List Ty := [(.arr 4 (.int .u64))]
def target_Limit.sem (k : Nat) : CallSem := callPure target_Limit.tin target_Limit.tout fun x => target_Limit k 
noncomputable def target_Limit.ctx (k : Nat) : Ctx := ⟨Try.prog, gam [(83, (target_raw.sem k))]⟩
theorem target_Limit.gok (k : Nat) : ∀ f, SemOK Try.prog f ((target_Limit.ctx k).Γ f) := (gam_cons (target_raw.sem_ok k) gam_nil)
def target_Limit.ann (k : Nat) : Ann := .nil
theorem target_Limit.body (k : Nat) : BodyIs (target_Limit.ctx k) Try.f85 (Func.code Try.f85) (target_Limit.ann k) target_Limit.tin target_Limit.tout (fun x K => target_Limit.c k  K) := by
  intro ρ x K; kernel_rfl
theorem target_Limit.sem_ok (k : Nat) : SemOK Try.prog 85 (target_Limit.sem k) :=
  callPure_ok (C := target_Limit.ctx k) (target_Limit.gok k) Try.mix (c := Func.code Try.f85) (ann := target_Limit.ann k) (tin := target_Limit.tin) (tout := target_Limit.tout) (fun x K => target_Limit.c k  K) Try.func85 (by kernel_rfl) (by kernel_rfl) AnnOK.nil (target_Limit.body k)

/-! 86 slices.Reverse[[]uint64,uint64] · with blocks -/
abbrev slices_Reverse__uint64_uint64_3.l0.σ : Type := (Nat × Nat) × Int × Int × (List Int) × Unit
abbrev slices_Reverse__uint64_uint64_3.l0.τ : Type := ((List Int) × Unit)
def slices_Reverse__uint64_uint64_3.l0.r (k : Nat) {ρ : Type} (x : slices_Reverse__uint64_uint64_3.l0.σ) (kn : slices_Reverse__uint64_uint64_3.l0.σ → Option ρ) (ke : slices_Reverse__uint64_uint64_3.l0.τ → Option ρ) : Option ρ :=
  bif (decide (x.2.1 < x.2.2.1)) then (bif (decide (((0 : Int) ≤ x.2.2.1) ∧ (x.2.2.1 < ((x.1.2 : Nat) : Int)))) then (let v1 : Int := (List.getD x.2.2.2.1 (x.1.1 + (Int.toNat x.2.2.1)) (0 : Int))
  bif (decide (((0 : Int) ≤ x.2.1) ∧ (x.2.1 < ((x.1.2 : Nat) : Int)))) then (let v2 : Int := (List.getD x.2.2.2.1 (x.1.1 + (Int.toNat x.2.1)) (0 : Int))
  bif (decide (((0 : Int) ≤ x.2.1) ∧ (x.2.1 < ((x.1.2 : Nat) : Int)))) then (bif (decide (((0 : Int) ≤ x.2.2.1) ∧ (x.2.2.1 < ((x.1.2 : Nat) : Int)))) then (let v3 : Int := (IntKind.wrap IntKind.i64 (x.2.1 + (1 : Int)))
  let v4 : Int := (IntKind.wrap IntKind.i64 (x.2.2.1 - (1 : Int)))
  kn ((x.1.1, x.1.2), (v3, (v4, ((List.set (List.set x.2.2.2.1 (x.1.1 + (Int.toNat x.2.1)) v1) (x.1.1 + (Int.toNat x.2.2.1)) v2), ()))))) else (none)) else (none)) else (none)) else (none)) else (ke (x.2.2.2.1, ()))
def slices_Reverse__uint64_uint64_3.l0 (k : Nat) : Nat → slices_Reverse__uint64_uint64_3.l0.σ → Option slices_Reverse__uint64_uint64_3.l0.τ := loopJ (slices_Reverse__uint64_uint64_3.l0.r k)
def slices_Reverse__uint64_uint64_3.l0.T : StT := ⟨.slr 0 [] :: us 1 ++ .dat (.int .i64) :: .dat (.int .i64) :: us 24, [.dat (.arr 4 (.int .u64))]⟩
def slices_Reverse__uint64_uint64_3.l0.os : List Out := [⟨(.exit 0), [.mask [], .auto 1], ⟨us 28, [.dat (.arr 4 (.int .u64))]⟩⟩]
abbrev slices_Reverse__uint64_uint64_3.τ : Type := ((List Int) × Unit)
def slices_Reverse__uint64_uint64_3.c (k : Nat) {ρ : Type} (s : (Nat × Nat)) (b0 : (List Int)) (K : slices_Reverse__uint64_uint64_3.τ → Option ρ) : Option ρ :=
  let v0 : Int := (IntKind.wrap IntKind.i64 (((s.2 : Nat) : Int) - (1 : Int)))
  (slices_Reverse__uint64_uint64_3.l0 k k ((s.1, s.2), ((0 : Int), (v0, (b0, ()))))).bind fun t5 => K (t5.1, ())
def slices_Reverse__uint64_uint64_3 (k : Nat) (s : (Nat × Nat)) (b0 : (List Int)) : Option slices_Reverse__uint64_uint64_3.τ := slices_Reverse__uint64_uint64_3.c k s b0 some
def slices_Reverse__uint64_uint64_3.T : CallT := ⟨[.slr 0 []], [.dat (.arr 4 (.int .u64))], 1⟩
def slices_Reverse__uint64_uint64_3.os : List Out := [⟨.ret, [.auto 1], ⟨[], [.dat (.arr 4 (.int .u64))]⟩⟩]
def slices_Reverse__uint64_uint64_3.sem (k : Nat) : CallSem := callH slices_Reverse__uint64_uint64_3.T slices_Reverse__uint64_uint64_3.os fun x => slices_Reverse__uint64_uint64_3 k x.1 x.2.1
noncomputable def slices_Reverse__uint64_uint64_3.ctx (k : Nat) : Ctx := ⟨Try.prog, gam []⟩
theorem slices_Reverse__uint64_uint64_3.gok (k : Nat) : ∀ f, SemOK Try.prog f ((slices_Reverse__uint64_uint64_3.ctx k).Γ f) := gam_nil
theorem slices_Reverse__uint64_uint64_3.l0.round (k : Nat) : RoundIs (slices_Reverse__uint64_uint64_3.ctx k) (codeAt (Func.code Try.f86) [1, 0, 0]) (.nil) slices_Reverse__uint64_uint64_3.l0.T [.mask [0, 2, 3], .auto 1] slices_Reverse__uint64_uint64_3.l0.os (slices_Reverse__uint64_uint64_3.l0.r k) := by
  intro ρ x kn ke; kernel_rfl
theorem slices_Reverse__uint64_uint64_3.l0.ok (k : Nat) : StOK 1 Try.prog (.loop (codeAt (Func.code Try.f86) [1, 0, 0])) (pieceSem slices_Reverse__uint64_uint64_3.l0.T slices_Reverse__uint64_uint64_3.l0.os (slices_Reverse__uint64_uint64_3.l0 k k)) :=
  loop_ok (C := slices_Reverse__uint64_uint64_3.ctx k) (slices_Reverse__uint64_uint64_3.gok k) Try.mix AnnOK.nil (by kernel_rfl) (by kernel_rfl) (by kernel_rfl) (slices_Reverse__uint64_uint64_3.l0.round k) k
def slices_Reverse__uint64_uint64_3.ann (k : Nat) : Ann := .node [] none (.nil) (.node [] none (.node [.mask [0, 2, 3], .auto 1] (some (pieceSem slices_Reverse__uint64_uint64_3.l0.T slices_Reverse__uint64_uint64_3.l0.os (slices_Reverse__uint64_uint64_3.l0 k k))) .nil .nil) (.nil))
theorem slices_Reverse__uint64_uint64_3.body (k : Nat) : BodyH (slices_Reverse__uint64_uint64_3.ctx k) Try.f86 (Func.code Try.f86) (slices_Reverse__uint64_uint64_3.ann k) slices_Reverse__uint64_uint64_3.T slices_Reverse__uint64_uint64_3.os (fun x K => slices_Reverse__uint64_uint64_3.c k x.1 x.2.1 K) := by
  intro ρ x K; kernel_rfl
theorem slices_Reverse__uint64_uint64_3.sem_ok (k : Nat) : SemOK Try.prog 86 (slices_Reverse__uint64_uint64_3.sem k) :=
  callH_ok (C := slices_Reverse__uint64_uint64_3.ctx k) (slices_Reverse__uint64_uint64_3.gok k) Try.mix (c := Func.code Try.f86) (ann := slices_Reverse__uint64_uint64_3.ann k) (T := slices_Reverse__uint64_uint64_3.T) (os := slices_Reverse__uint64_uint64_3.os) (fun x K => slices_Reverse__uint64_uint64_3.c k x.1 x.2.1 K) Try.func86 (by kernel_rfl) (by kernel_rfl) (AnnOK.seq AnnOK.nil (AnnOK.block (AnnOK.loop (by kernel_rfl) (slices_Reverse__uint64_uint64_3.l0.ok k)))) (slices_Reverse__uint64_uint64_3.body k) (by kernel_rfl) (by kernel_rfl) (by kernel_rfl)

/-! 106 cmp.isNaN[uint64] -/
def cmp_isNaN_uint64.c (k : Nat) {ρ : Type} (x_0 : Int) (K : Bool × Unit → Option ρ) : Option ρ :=
  K ((x_0 != x_0), ())
def cmp_isNaN_uint64 (k : Nat) (x_0 : Int) : Option (Bool × Unit) := cmp_isNaN_uint64.c k x_0 some
def cmp_isNaN_uint64.tin : List Ty := [(.int .u64)]
def cmp_isNaN_uint64.tout : List Ty := [.bool]
def cmp_isNaN_uint64.sem (k : Nat) : CallSem := callPure cmp_isNaN_uint64.tin cmp_isNaN_uint64.tout fun x => cmp_isNaN_uint64 k x.1
noncomputable def cmp_isNaN_uint64.ctx (k : Nat) : Ctx := ⟨Try.prog, gam []⟩
theorem cmp_isNaN_uint64.gok (k : Nat) : ∀ f, SemOK Try.prog f ((cmp_isNaN_uint64.ctx k).Γ f) := gam_nil
def cmp_isNaN_uint64.ann (k : Nat) : Ann := .nil
theorem cmp_isNaN_uint64.body (k : Nat) : BodyIs (cmp_isNaN_uint64.ctx k) Try.f106 (Func.code Try.f106) (cmp_isNaN_uint64.ann k) cmp_isNaN_uint64.tin cmp_isNaN_uint64.tout (fun x K => cmp_isNaN_uint64.c k x.1 K) := by
  intro ρ x K; kernel_rfl
theorem cmp_isNaN_uint64.sem_ok (k : Nat) : SemOK Try.prog 106 (cmp_isNaN_uint64.sem k) :=
  callPure_ok (C := cmp_isNaN_uint64.ctx k) (cmp_isNaN_uint64.gok k) Try.mix (c := Func.code Try.f106) (ann := cmp_isNaN_uint64.ann k) (tin := cmp_isNaN_uint64.tin) (tout := cmp_isNaN_uint64.tout) (fun x K => cmp_isNaN_uint64.c k x.1 K) Try.func106 (by kernel_rfl) (by kernel_rfl) AnnOK.nil (cmp_isNaN_uint64.body k)

/-! 99 cmp.Compare[uint64] -/
def cmp_Compare_uint64.c (k : Nat) {ρ : Type} (x_0 : Int) (y : Int) (K : Int × Unit → Option ρ) : Option ρ :=
  (cmp_isNaN_uint64 k x_0).bind fun t0 => (cmp_isNaN_uint64 k y).bind fun t1 => bif t0.1 then (bif t1.1 then (K ((0 : Int), ())) else (K ((-(1 : Int)), ()))) else (bif t1.1 then (K ((1 : Int), ())) else (bif (decide (x_0 < y)) then (K ((-(1 : Int)), ())) else (bif (decide (x_0 > y)) then (K ((1 : Int), ())) else (K ((0 : Int), ())))))
def cmp_Compare_uint64 (k : Nat) (x_0 : Int) (y : Int) : Option (Int × Unit) := cmp_Compare_uint64.c k x_0 y some
def cmp_Compare_uint64.tin : List Ty := [(.int .u64), (.int .u64)]
def cmp_Compare_uint64.tout : List Ty := [(.int .i64)]
def cmp_Compare_uint64.sem (k : Nat) : CallSem := callPure cmp_Compare_uint64.tin cmp_Compare_uint64.tout fun x => cmp_Compare_uint64 k x.1 x.2.1
noncomputable def cmp_Compare_uint64.ctx (k : Nat) : Ctx := ⟨Try.prog, gam [(106, (cmp_isNaN_uint64.sem k))]⟩
theorem cmp_Compare_uint64.gok (k : Nat) : ∀ f, SemOK Try.prog f ((cmp_Compare_uint64.ctx k).Γ f) := (gam_cons (cmp_isNaN_uint64.sem_ok k) gam_nil)
def cmp_Compare_uint64.ann (k : Nat) : Ann := .nil
theorem cmp_Compare_uint64.body (k : Nat) : BodyIs (cmp_Compare_uint64.ctx k) Try.f99 (Func.code Try.f99) (cmp_Compare_uint64.ann k) cmp_Compare_uint64.tin cmp_Compare_uint64.tout (fun x K => cmp_Compare_uint64.c k x.1 x.2.1 K) := by
  intro ρ x K; kernel_rfl
theorem cmp_Compare_uint64.sem_ok (k : Nat) : SemOK Try.prog 99 (cmp_Compare_uint64.sem k) :=
  callPure_ok (C := cmp_Compare_uint64.ctx k) (cmp_Compare_uint64.gok k) Try.mix (c := Func.code Try.f99) (ann := cmp_Compare_uint64.ann k) (tin := cmp_Compare_uint64.tin) (tout := cmp_Compare_uint64.tout) (fun x K => cmp_Compare_uint64.c k x.1 x.2.1 K) Try.func99 (by kernel_rfl) (by kernel_rfl) AnnOK.nil (cmp_Compare_uint64.body k)

/-! 87 slices.Compare[[]uint64,uint64] -/
abbrev slices_Compare__uint64_uint64.l0.σ : Type := (List Int) × (List Int) × (List Int) × Int × Int × Unit
abbrev slices_Compare__uint64_uint64.l0.τ : Type := (Int × Unit) ⊕ ((List Int) × (List Int) × Unit)
def slices_Compare__uint64_uint64.l0.r (k : Nat) {ρ : Type} (x : slices_Compare__uint64_uint64.l0.σ) (kn : slices_Compare__uint64_uint64.l0.σ → Option ρ) (ke : slices_Compare__uint64_uint64.l0.τ → Option ρ) : Option ρ :=
  bif (decide (x.2.2.2.2.1 < x.2.2.2.1)) then (bif (decide (((0 : Int) ≤ x.2.2.2.2.1) ∧ (x.2.2.2.2.1 < (((List.length x.2.2.1) : Nat) : Int)))) then (let v1 : Int := (List.getD x.2.2.1 (Int.toNat x.2.2.2.2.1) (0 : Int))
  let v2 : Int := (((List.length x.2.1) : Nat) : Int)
  bif (decide (x.2.2.2.2.1 ≥ v2)) then (ke (.inl ((1 : Int), ()))) else (bif (decide (((0 : Int) ≤ x.2.2.2.2.1) ∧ (x.2.2.2.2.1 < (((List.length x.2.1) : Nat) : Int)))) then (let v3 : Int := (List.getD x.2.1 (Int.toNat x.2.2.2.2.1) (0 : Int))
  (cmp_Compare_uint64 k v1 v3).bind fun t4 => bif (t4.1 != (0 : Int)) then (ke (.inl (t4.1, ()))) else (let v5 : Int := (IntKind.wrap IntKind.i64 (x.2.2.2.2.1 + (1 : Int)))
  kn (x.1, (x.2.1, (x.2.2.1, (x.2.2.2.1, (v5, ()))))))) else (none))) else (none)) else (ke (.inr (x.1, (x.2.1, ()))))
def slices_Compare__uint64_uint64.l0 (k : Nat) : Nat → slices_Compare__uint64_uint64.l0.σ → Option slices_Compare__uint64_uint64.l0.τ := loopJ (slices_Compare__uint64_uint64.l0.r k)
def slices_Compare__uint64_uint64.l0.T : StT := ⟨.dat (.sl (.int .u64)) :: .dat (.sl (.int .u64)) :: us 7 ++ .dat (.sl (.int .u64)) :: .dat (.int .i64) :: .dat (.int .i64) :: us 24, []⟩
def slices_Compare__uint64_uint64.l0.os : List Out := [⟨.ret, [.mask [4], .auto 0], ⟨us 4 ++ .dat (.int .i64) :: us 31, []⟩⟩, ⟨(.exit 0), [.mask [0, 1], .auto 0], ⟨.dat (.sl (.int .u64)) :: .dat (.sl (.int .u64)) :: us 34, []⟩⟩]
def slices_Compare__uint64_uint64.c (k : Nat) {ρ : Type} (s1 : (List Int)) (s2 : (List Int)) (K : Int × Unit → Option ρ) : Option ρ :=
  let v0 : Int := (((List.length s1) : Nat) : Int)
  (slices_Compare__uint64_uint64.l0 k k (s1, (s2, (s1, (v0, ((0 : Int), ())))))).bind fun t6 => (match t6 with | .inl t7 => (K (t7.1, ())) | .inr (t8) => (let v9 : Int := (((List.length t8.1) : Nat) : Int)
  let v10 : Int := (((List.length t8.2.1) : Nat) : Int)
  bif (decide (v9 < v10)) then (K ((-(1 : Int)), ())) else (K ((0 : Int), ()))))
def slices_Compare__uint64_uint64 (k : Nat) (s1 : (List Int)) (s2 : (List Int)) : Option (Int × Unit) := slices_Compare__uint64_uint64.c k s1 s2 some
def slices_Compare__uint64_uint64.tin : List Ty := [(.sl (.int .u64)), (.sl (.int .u64))]
def slices_Compare__uint64_uint64.tout : List Ty := [(.int .i64)]
def slices_Compare__uint64_uint64.sem (k : Nat) : CallSem := callPure slices_Compare__uint64_uint64.tin slices_Compare__uint64_uint64.tout fun x => slices_Compare__uint64_uint64 k x.1 x.2.1
noncomputable def slices_Compare__uint64_uint64.ctx (k : Nat) : Ctx := ⟨Try.prog, gam [(99, (cmp_Compare_uint64.sem k))]⟩
theorem slices_Compare__uint64_uint64.gok (k : Nat) : ∀ f, SemOK Try.prog f ((slices_Compare__uint64_uint64.ctx k).Γ f) := (gam_cons (cmp_Compare_uint64.sem_ok k) gam_nil)
theorem slices_Compare__uint64_uint64.l0.round (k : Nat) : RoundIs (slices_Compare__uint64_uint64.ctx k) (codeAt (Func.code Try.f87) [1, 0, 1, 0, 0]) (.nil) slices_Compare__uint64_uint64.l0.T [.mask [0, 1, 9, 10, 11], .auto 0] slices_Compare__uint64_uint64.l0.os (slices_Compare__uint64_uint64.l0.r k) := by
  intro ρ x kn ke; kernel_rfl
theorem slices_Compare__uint64_uint64.l0.ok (k : Nat) : StOK 0 Try.prog (.loop (codeAt (Func.code Try.f87) [1, 0, 1, 0, 0])) (pieceSem slices_Compare__uint64_uint64.l0.T slices_Compare__uint64_uint64.l0.os (slices_Compare__uint64_uint64.l0 k k)) :=
  loop_ok (C := slices_Compare__uint64_uint64.ctx k) (slices_Compare__uint64_uint64.gok k) Try.mix AnnOK.nil (by kernel_rfl) (by kernel_rfl) (by kernel_rfl) (slices_Compare__uint64_uint64.l0.round k) k
def slices_Compare__uint64_uint64.ann (k : Nat) : Ann := .node [] none (.nil) (.node [] none (.node [] none (.nil) (.node [] none (.node [] (some (pieceSem slices_Compare__uint64_uint64.l0.T slices_Compare__uint64_uint64.l0.os (slices_Compare__uint64_uint64.l0 k k))) .nil .nil) (.nil))) (.nil))
theorem slices_Compare__uint64_uint64.body (k : Nat) : BodyIs (slices_Compare__uint64_uint64.ctx k) Try.f87 (Func.code Try.f87) (slices_Compare__uint64_uint64.ann k) slices_Compare__uint64_uint64.tin slices_Compare__uint64_uint64.tout (fun x K => slices_Compare__uint64_uint64.c k x.1 x.2.1 K) := by
  intro ρ x K; kernel_rfl
theorem slices_Compare__uint64_uint64.sem_ok (k : Nat) : SemOK Try.prog 87 (slices_Compare__uint64_uint64.sem k) :=
  callPure_ok (C := slices_Compare__uint64_uint64.ctx k) (slices_Compare__uint64_uint64.gok k) Try.mix (c := Func.code Try.f87) (ann := slices_Compare__uint64_uint64.ann k) (tin := slices_Compare__uint64_uint64.tin) (tout := slices_Compare__uint64_uint64.tout) (fun x K => slices_Compare__uint64_uint64.c k x.1 x.2.1 K) Try.func87 (by kernel_rfl) (by kernel_rfl) (AnnOK.seq AnnOK.nil (AnnOK.seq (AnnOK.seq AnnOK.nil (AnnOK.block (AnnOK.loop (by kernel_rfl) (slices_Compare__uint64_uint64.l0.ok k)))) AnnOK.nil)) (slices_Compare__uint64_uint64.body k)

/-! 66 bedrock/wide.Compare -/
def wide_Compare.c (k : Nat) {ρ : Type} (a : (List Int)) (b : (List Int)) (K : Int × Unit → Option ρ) : Option ρ :=
  (slices_Reverse__uint64_uint64_3 k (0, 4) a).bind fun t0 => (slices_Reverse__uint64_uint64_3 k (0, 4) b).bind fun t1 => (slices_Compare__uint64_uint64 k (List.take 4 (List.drop 0 t0.1)) (List.take 4 (List.drop 0 t1.1))).bind fun t2 => K (t2.1, ())
def wide_Compare (k : Nat) (a : (List Int)) (b : (List Int)) : Option (Int × Unit) := wide_Compare.c k a b some
def wide_Compare.tin : List Ty := [(.arr 4 (.int .u64)), (.arr 4 (.int .u64))]
def wide_Compare.tout : List Ty := [(.int .i64)]
def wide_Compare.sem (k : Nat) : CallSem := callPure wide_Compare.tin wide_Compare.tout fun x => wide_Compare k x.1 x.2.1
noncomputable def wide_Compare.ctx (k : Nat) : Ctx := ⟨Try.prog, gam [(86, (slices_Reverse__uint64_uint64_3.sem k)), (87, (slices_Compare__uint64_uint64.sem k))]⟩
theorem wide_Compare.gok (k : Nat) : ∀ f, SemOK Try.prog f ((wide_Compare.ctx k).Γ f) := (gam_cons (slices_Reverse__uint64_uint64_3.sem_ok k) (gam_cons (slices_Compare__uint64_uint64.sem_ok k) gam_nil))
def wide_Compare.ann (k : Nat) : Ann := .nil
theorem wide_Compare.body (k : Nat) : BodyIs (wide_Compare.ctx k) Try.f66 (Func.code Try.f66) (wide_Compare.ann k) wide_Compare.tin wide_Compare.tout (fun x K => wide_Compare.c k x.1 x.2.1 K) := by
  intro ρ x K; kernel_rfl
theorem wide_Compare.sem_ok (k : Nat) : SemOK Try.prog 66 (wide_Compare.sem k) :=
  callPure_ok (C := wide_Compare.ctx k) (wide_Compare.gok k) Try.mix (c := Func.code Try.f66) (ann := wide_Compare.ann k) (tin := wide_Compare.tin) (tout := wide_Compare.tout) (fun x K => wide_Compare.c k x.1 x.2.1 K) Try.func66 (by kernel_rfl) (by kernel_rfl) AnnOK.nil (wide_Compare.body k)

/-! 65 bedrock/target.Expand -/
def target_Expand.c (k : Nat) {ρ : Type} (bits : Int) (K : (List Int) × Int × Unit → Option ρ) : Option ρ :=
  (target_raw k bits).bind fun t0 => let v1 : (List Int) := t0.1
  bif (!t0.2.1) then (let v2 : (List Int) := (List.replicate 4 (0 : Int))
  K (v2, ((50 : Int), ()))) else (let v3 : Int := (bitsOp BinOp.and IntKind.u32 bits (8388608 : Int))
  bif (v3 != (0 : Int)) then (let v4 : (List Int) := (List.replicate 4 (0 : Int))
  K (v4, ((50 : Int), ()))) else ((wide_Zero k v1).bind fun t5 => bif t5.1 then (let v6 : (List Int) := (List.replicate 4 (0 : Int))
  K (v6, ((50 : Int), ()))) else ((target_Limit k ).bind fun t7 => (wide_Compare k v1 t7.1).bind fun t8 => bif (decide (t8.1 > (0 : Int))) then (let v9 : (List Int) := (List.replicate 4 (0 : Int))
  K (v9, ((50 : Int), ()))) else (K (v1, ((0 : Int), ()))))))
def target_Expand (k : Nat) (bits : Int) : Option ((List Int) × Int × Unit) := target_Expand.c k bits some
def target_Expand.tin : List Ty := [(.int .u32)]
def target_Expand.tout : List Ty := [(.arr 4 (.int .u64)), (.int .i64)]
def target_Expand.sem (k : Nat) : CallSem := callPure target_Expand.tin target_Expand.tout fun x => target_Expand k x.1
noncomputable def target_Expand.ctx (k : Nat) : Ctx := ⟨Try.prog, gam [(83, (target_raw.sem k)), (84, (wide_Zero.sem k)), (85, (target_Limit.sem k)), (66, (wide_Compare.sem k))]⟩
theorem target_Expand.gok (k : Nat) : ∀ f, SemOK Try.prog f ((target_Expand.ctx k).Γ f) := (gam_cons (target_raw.sem_ok k) (gam_cons (wide_Zero.sem_ok k) (gam_cons (target_Limit.sem_ok k) (gam_cons (wide_Compare.sem_ok k) gam_nil))))
def target_Expand.ann (k : Nat) : Ann := .nil
theorem target_Expand.body (k : Nat) : BodyIs (target_Expand.ctx k) Try.f65 (Func.code Try.f65) (target_Expand.ann k) target_Expand.tin target_Expand.tout (fun x K => target_Expand.c k x.1 K) := by
  intro ρ x K; kernel_rfl
theorem target_Expand.sem_ok (k : Nat) : SemOK Try.prog 65 (target_Expand.sem k) :=
  callPure_ok (C := target_Expand.ctx k) (target_Expand.gok k) Try.mix (c := Func.code Try.f65) (ann := target_Expand.ann k) (tin := target_Expand.tin) (tout := target_Expand.tout) (fun x K => target_Expand.c k x.1 K) Try.func65 (by kernel_rfl) (by kernel_rfl) AnnOK.nil (target_Expand.body k)

/-! 67 bedrock/wide.Of -/
abbrev wide_Of.l0.σ : Type := (List Int) × Int × (List Int) × (List Int) × Unit
abbrev wide_Of.l0.τ : Type := ((List Int) × (List Int) × Unit)
def wide_Of.l0.r (k : Nat) {ρ : Type} (x : wide_Of.l0.σ) (kn : wide_Of.l0.σ → Option ρ) (ke : wide_Of.l0.τ → Option ρ) : Option ρ :=
  bif (decide (x.2.1 < (32 : Int))) then (bif (decide (((0 : Int) ≤ x.2.1) ∧ (x.2.1 < ((32 : Nat) : Int)))) then (let v0 : Int := (List.getD x.1 (Int.toNat x.2.1) (0 : Int))
  let v1 : Int := (IntKind.wrap IntKind.i64 (Int.tdiv x.2.1 (8 : Int)))
  bif (decide (((0 : Int) ≤ v1) ∧ (v1 < ((4 : Nat) : Int)))) then (let v2 : Int := (List.getD x.2.2.2.1 (Int.toNat v1) (0 : Int))
  let v3 : Int := (Int.tmod x.2.1 (8 : Int))
  let v4 : Int := (IntKind.wrap IntKind.i64 ((8 : Int) * v3))
  bif (decide ((0 : Int) ≤ v4)) then (let v5 : Int := (bitsOp BinOp.or IntKind.u64 v2 (shlOp IntKind.u64 (IntKind.wrap IntKind.u64 v0) v4))
  bif (decide (((0 : Int) ≤ v1) ∧ (v1 < ((4 : Nat) : Int)))) then (let v6 : Int := (IntKind.wrap IntKind.i64 (x.2.1 + (1 : Int)))
  kn (x.1, (v6, (x.2.2.1, ((List.set x.2.2.2.1 (Int.toNat v1) v5), ()))))) else (none)) else (none)) else (none)) else (none)) else (ke (x.2.2.1, (x.2.2.2.1, ())))
def wide_Of.l0 (k : Nat) : Nat → wide_Of.l0.σ → Option wide_Of.l0.τ := loopJ (wide_Of.l0.r k)
def wide_Of.l0.T : StT := ⟨us 2 ++ .ptr 0 [] :: .ptr 1 [] :: us 2 ++ .dat (.arr 32 (.int .u8)) :: .dat (.int .i64) :: us 17, [.dat (.arr 4 (.int .u64)), .dat (.arr 4 (.int .u64))]⟩
def wide_Of.l0.os : List Out := [⟨(.exit 0), [.mask [2, 3], .auto 0], ⟨us 2 ++ .ptr 0 [] :: .ptr 1 [] :: us 21, [.dat (.arr 4 (.int .u64)), .dat (.arr 4 (.int .u64))]⟩⟩]
def wide_Of.c (k : Nat) {ρ : Type} (h : (List Int)) (K : (List Int) × Unit → Option ρ) : Option ρ :=
  (wide_Of.l0 k k (h, ((0 : Int), ((List.replicate 4 (0 : Int)), ((List.replicate 4 (0 : Int)), ()))))).bind fun t7 => let v8 : (List Int) := t7.2.1
  K (v8, ())
def wide_Of (k : Nat) (h : (List Int)) : Option ((List Int) × Unit) := wide_Of.c k h some
def wide_Of.tin : List Ty := [(.arr 32 (.int .u8))]
def wide_Of.tout : List Ty := [(.arr 4 (.int .u64))]
def wide_Of.sem (k : Nat) : CallSem := callPure wide_Of.tin wide_Of.tout fun x => wide_Of k x.1
noncomputable def wide_Of.ctx (k : Nat) : Ctx := ⟨Try.prog, gam []⟩
theorem wide_Of.gok (k : Nat) : ∀ f, SemOK Try.prog f ((wide_Of.ctx k).Γ f) := gam_nil
theorem wide_Of.l0.round (k : Nat) : RoundIs (wide_Of.ctx k) (codeAt (Func.code Try.f67) [1, 1, 0, 1, 0, 0]) (.nil) wide_Of.l0.T [.mask [2, 3, 6, 7], .auto 0] wide_Of.l0.os (wide_Of.l0.r k) := by
  intro ρ x kn ke; kernel_rfl
theorem wide_Of.l0.ok (k : Nat) : StOK 0 Try.prog (.loop (codeAt (Func.code Try.f67) [1, 1, 0, 1, 0, 0])) (pieceSem wide_Of.l0.T wide_Of.l0.os (wide_Of.l0 k k)) :=
  loop_ok (C := wide_Of.ctx k) (wide_Of.gok k) Try.mix AnnOK.nil (by kernel_rfl) (by kernel_rfl) (by kernel_rfl) (wide_Of.l0.round k) k
def wide_Of.ann (k : Nat) : Ann := .node [] none (.nil) (.node [] none (.nil) (.node [] none (.node [] none (.nil) (.node [] none (.node [.mask [2, 3, 6, 7], .auto 0] (some (pieceSem wide_Of.l0.T wide_Of.l0.os (wide_Of.l0 k k))) .nil .nil) (.nil))) (.nil)))
theorem wide_Of.body (k : Nat) : BodyIs (wide_Of.ctx k) Try.f67 (Func.code Try.f67) (wide_Of.ann k) wide_Of.tin wide_Of.tout (fun x K => wide_Of.c k x.1 K) := by
  intro ρ x K; kernel_rfl
theorem wide_Of.sem_ok (k : Nat) : SemOK Try.prog 67 (wide_Of.sem k) :=
  callPure_ok (C := wide_Of.ctx k) (wide_Of.gok k) Try.mix (c := Func.code Try.f67) (ann := wide_Of.ann k) (tin := wide_Of.tin) (tout := wide_Of.tout) (fun x K => wide_Of.c k x.1 K) Try.func67 (by kernel_rfl) (by kernel_rfl) (AnnOK.seq AnnOK.nil (AnnOK.seq AnnOK.nil (AnnOK.seq (AnnOK.seq AnnOK.nil (AnnOK.block (AnnOK.loop (by kernel_rfl) (wide_Of.l0.ok k)))) AnnOK.nil))) (wide_Of.body k)

/-! 43 bedrock/target.Meets -/
def target_Meets.c (k : Nat) {ρ : Type} (id : (List Int)) (bits : Int) (K : Bool × Unit → Option ρ) : Option ρ :=
  (target_Expand k bits).bind fun t0 => let v1 : (List Int) := t0.1
  let v2 : Int := t0.2.1
  bif (v2 == (0 : Int)) then ((wide_Of k id).bind fun t3 => (wide_Compare k t3.1 v1).bind fun t4 => K ((decide (t4.1 ≤ (0 : Int))), ())) else (K (false, ()))
def target_Meets (k : Nat) (id : (List Int)) (bits : Int) : Option (Bool × Unit) := target_Meets.c k id bits some
def target_Meets.tin : List Ty := [(.arr 32 (.int .u8)), (.int .u32)]
def target_Meets.tout : List Ty := [.bool]
def target_Meets.sem (k : Nat) : CallSem := callPure target_Meets.tin target_Meets.tout fun x => target_Meets k x.1 x.2.1
noncomputable def target_Meets.ctx (k : Nat) : Ctx := ⟨Try.prog, gam [(65, (target_Expand.sem k)), (67, (wide_Of.sem k)), (66, (wide_Compare.sem k))]⟩
theorem target_Meets.gok (k : Nat) : ∀ f, SemOK Try.prog f ((target_Meets.ctx k).Γ f) := (gam_cons (target_Expand.sem_ok k) (gam_cons (wide_Of.sem_ok k) (gam_cons (wide_Compare.sem_ok k) gam_nil)))
def target_Meets.ann (k : Nat) : Ann := .nil
theorem target_Meets.body (k : Nat) : BodyIs (target_Meets.ctx k) Try.f43 (Func.code Try.f43) (target_Meets.ann k) target_Meets.tin target_Meets.tout (fun x K => target_Meets.c k x.1 x.2.1 K) := by
  intro ρ x K; kernel_rfl
theorem target_Meets.sem_ok (k : Nat) : SemOK Try.prog 43 (target_Meets.sem k) :=
  callPure_ok (C := target_Meets.ctx k) (target_Meets.gok k) Try.mix (c := Func.code Try.f43) (ann := target_Meets.ann k) (tin := target_Meets.tin) (tout := target_Meets.tout) (fun x K => target_Meets.c k x.1 x.2.1 K) Try.func43 (by kernel_rfl) (by kernel_rfl) AnnOK.nil (target_Meets.body k)

end Go.Am
