/- A part of a proof: a machine of abstract values that tells what functions of the program compute, and the plain facts on them. -/
import Derived.Test.YtegkgkighkpkiaaAm7
import Derived.KernelRfl
import Derived.Test.YtegkgkighkpkiaaAm5
import Derived.Test.YtegkgkighkpkiaaAm6
set_option linter.unusedVariables false
set_option linter.unusedSimpArgs false
set_option linter.unnecessarySimpa false
set_option linter.unusedSectionVars false
namespace Go.Am
open Go Go.Proofs
set_option maxRecDepth 100000
/-! 6 bedrock/bedrocklaw02.ShaChains -/
abbrev bedrocklaw02_ShaChains.p0.σ : Type := ByteArray × ByteArray × Unit
abbrev bedrocklaw02_ShaChains.p0.τ : Type := (Bool × Unit) ⊕ (ByteArray × ByteArray × Unit)
def bedrocklaw02_ShaChains.p0.r (k : Nat) {ρ : Type} (x : bedrocklaw02_ShaChains.p0.σ) (K : bedrocklaw02_ShaChains.p0.τ → Option ρ) : Option ρ :=
  let v3 : Int := (((ByteArray.size x.2.1) : Nat) : Int)
  bif ((Int.tmod v3 (64 : Int)) != (0 : Int)) then (K (.inl (false, ()))) else (let v4 : Int := (((ByteArray.size x.2.1) : Nat) : Int)
  let v5 : Int := (((ByteArray.size x.1) : Nat) : Int)
  let v6 : Int := (IntKind.wrap IntKind.i64 (v4 - v5))
  bif (decide (v6 < (9 : Int))) then (K (.inl (false, ()))) else (let v7 : Int := (((ByteArray.size x.2.1) : Nat) : Int)
  let v8 : Int := (((ByteArray.size x.1) : Nat) : Int)
  let v9 : Int := (IntKind.wrap IntKind.i64 (v7 - v8))
  bif (decide (v9 > (72 : Int))) then (K (.inl (false, ()))) else (K (.inr (x.1, (x.2.1, ()))))))
def bedrocklaw02_ShaChains.p0 (k : Nat) (x : bedrocklaw02_ShaChains.p0.σ) : Option bedrocklaw02_ShaChains.p0.τ := bedrocklaw02_ShaChains.p0.r k x some
def bedrocklaw02_ShaChains.p0.T : StT := ⟨.dat .str :: us 2 ++ .dat .str :: us 96, []⟩
def bedrocklaw02_ShaChains.p0.os : List Out := [⟨.ret, [.mask [2], .auto 0], ⟨us 2 ++ .dat .bool :: us 97, []⟩⟩, ⟨.normal, [.mask [0, 3], .auto 0], ⟨.dat .str :: us 2 ++ .dat .str :: us 96, []⟩⟩]
abbrev bedrocklaw02_ShaChains.l1.σ : Type := ByteArray × ByteArray × Int × (List Int) × Unit
abbrev bedrocklaw02_ShaChains.l1.τ : Type := (ByteArray × (List Int) × Unit)
def bedrocklaw02_ShaChains.l1.r (k : Nat) {ρ : Type} (x : bedrocklaw02_ShaChains.l1.σ) (kn : bedrocklaw02_ShaChains.l1.σ → Option ρ) (ke : bedrocklaw02_ShaChains.l1.τ → Option ρ) : Option ρ :=
  let v14 : Int := (IntKind.wrap IntKind.i64 (x.2.2.1 + (64 : Int)))
  let v15 : Int := (((ByteArray.size x.2.1) : Nat) : Int)
  bif (decide (v14 ≤ v15)) then (let v16 : List Int := x.2.2.2.1
  let v17 : Int := (IntKind.wrap IntKind.i64 (x.2.2.1 + (64 : Int)))
  bif (decide (((0 : Int) ≤ x.2.2.1) ∧ ((x.2.2.1 ≤ v17) ∧ (v17 ≤ (((ByteArray.size x.2.1) : Nat) : Int))))) then (let v18 : ByteArray := (ByteArray.extract x.2.1 (Int.toNat x.2.2.1) (Int.toNat v17))
  bif (decide (64 ≤ (List.length (ofBytes v18)))) then (let v19 : List Int := (List.take 64 (List.drop 0 (ofBytes v18)))
  (sha_Step k v16 v19).bind fun t20 => let v21 : Int := (IntKind.wrap IntKind.i64 (x.2.2.1 + (64 : Int)))
  kn (x.1, (x.2.1, (v21, (t20.1, ()))))) else (none)) else (none)) else (ke (x.1, (x.2.2.2.1, ())))
def bedrocklaw02_ShaChains.l1 (k : Nat) : Nat → bedrocklaw02_ShaChains.l1.σ → Option bedrocklaw02_ShaChains.l1.τ := loopJ (bedrocklaw02_ShaChains.l1.r k)
def bedrocklaw02_ShaChains.l1.T : StT := ⟨.dat .str :: us 2 ++ .dat .str :: .ptr 0 [] :: .dat (.int .i64) :: us 94, [.dat (.arr 8 (.int .u32))]⟩
def bedrocklaw02_ShaChains.l1.os : List Out := [⟨(.exit 0), [.mask [0, 4], .auto 0], ⟨.dat .str :: us 3 ++ .ptr 0 [] :: us 95, [.dat (.arr 8 (.int .u32))]⟩⟩]
abbrev bedrocklaw02_ShaChains.l2.σ : Type := ByteArray × (List Int) × Int × (List Int) × Unit
abbrev bedrocklaw02_ShaChains.l2.τ : Type := (Bool × Unit) ⊕ (ByteArray × (List Int) × Unit)
def bedrocklaw02_ShaChains.l2.r (k : Nat) {ρ : Type} (x : bedrocklaw02_ShaChains.l2.σ) (kn : bedrocklaw02_ShaChains.l2.σ → Option ρ) (ke : bedrocklaw02_ShaChains.l2.τ → Option ρ) : Option ρ :=
  bif (decide (x.2.2.1 < (8 : Int))) then (bif (decide (((0 : Int) ≤ x.2.2.1) ∧ (x.2.2.1 < ((8 : Nat) : Int)))) then (let v25 : Int := (List.getD x.2.1 (Int.toNat x.2.2.1) (0 : Int))
  let v26 : Int := (IntKind.wrap IntKind.i64 ((4 : Int) * x.2.2.1))
  bif (decide (((0 : Int) ≤ v26) ∧ (v26 < ((32 : Nat) : Int)))) then (let v27 : Int := (List.getD x.2.2.2.1 (Int.toNat v26) (0 : Int))
  let v28 : Int := (shlOp IntKind.u32 (IntKind.wrap IntKind.u32 v27) (24 : Int))
  let v29 : Int := (IntKind.wrap IntKind.i64 ((4 : Int) * x.2.2.1))
  let v30 : Int := (IntKind.wrap IntKind.i64 (v29 + (1 : Int)))
  bif (decide (((0 : Int) ≤ v30) ∧ (v30 < ((32 : Nat) : Int)))) then (let v31 : Int := (List.getD x.2.2.2.1 (Int.toNat v30) (0 : Int))
  let v32 : Int := (shlOp IntKind.u32 (IntKind.wrap IntKind.u32 v31) (16 : Int))
  let v33 : Int := (IntKind.wrap IntKind.i64 ((4 : Int) * x.2.2.1))
  let v34 : Int := (IntKind.wrap IntKind.i64 (v33 + (2 : Int)))
  bif (decide (((0 : Int) ≤ v34) ∧ (v34 < ((32 : Nat) : Int)))) then (let v35 : Int := (List.getD x.2.2.2.1 (Int.toNat v34) (0 : Int))
  let v36 : Int := (shlOp IntKind.u32 (IntKind.wrap IntKind.u32 v35) (8 : Int))
  let v37 : Int := (bitsOp BinOp.or IntKind.u32 (bitsOp BinOp.or IntKind.u32 v28 v32) v36)
  let v38 : Int := (IntKind.wrap IntKind.i64 ((4 : Int) * x.2.2.1))
  let v39 : Int := (IntKind.wrap IntKind.i64 (v38 + (3 : Int)))
  bif (decide (((0 : Int) ≤ v39) ∧ (v39 < ((32 : Nat) : Int)))) then (let v40 : Int := (List.getD x.2.2.2.1 (Int.toNat v39) (0 : Int))
  bif ((bitsOp BinOp.or IntKind.u32 v37 (IntKind.wrap IntKind.u32 v40)) != v25) then (ke (.inl (false, ()))) else (let v41 : Int := (IntKind.wrap IntKind.i64 (x.2.2.1 + (1 : Int)))
  kn (x.1, (x.2.1, (v41, (x.2.2.2.1, ())))))) else (none)) else (none)) else (none)) else (none)) else (none)) else (ke (.inr (x.1, (x.2.2.2.1, ()))))
def bedrocklaw02_ShaChains.l2 (k : Nat) : Nat → bedrocklaw02_ShaChains.l2.σ → Option bedrocklaw02_ShaChains.l2.τ := loopJ (bedrocklaw02_ShaChains.l2.r k)
def bedrocklaw02_ShaChains.l2.T : StT := ⟨.dat .str :: us 5 ++ .ptr 0 [] :: us 50 ++ .dat (.arr 8 (.int .u32)) :: .dat (.int .i64) :: us 41, [.dat (.arr 32 (.int .u8))]⟩
def bedrocklaw02_ShaChains.l2.os : List Out := [⟨.ret, [.mask [2], .auto 0], ⟨us 2 ++ .dat .bool :: us 97, []⟩⟩, ⟨(.exit 2), [.mask [0, 6], .auto 0], ⟨.dat .str :: us 5 ++ .ptr 0 [] :: us 93, [.dat (.arr 32 (.int .u8))]⟩⟩]
def bedrocklaw02_ShaChains.c (k : Nat) {ρ : Type} (s : ByteArray) (K : Bool × Unit → Option ρ) : Option ρ :=
  (bedrocklaw02_awake k ).bind fun t0 => bif (!t0.1) then (K (false, ())) else ((sha_Pad k (IntKind.wrap IntKind.u64 (((ByteArray.size s) : Nat) : Int))).bind fun t1 => bif (Nat.ble ((ByteArray.size s) + (ByteArray.size t1.1)) 9223372036854775807) then (let v2 : ByteArray := (s ++ t1.1)
  (bedrocklaw02_ShaChains.p0 k (s, (v2, ()))).bind fun t10 => (match t10 with | .inl t11 => (K (t11.1, ())) | .inr (t12) => ((sha_First k ).bind fun t13 => (bedrocklaw02_ShaChains.l1 k k (t12.1, (t12.2.1, ((0 : Int), (t13.1, ()))))).bind fun t22 => (sha_Sum k t22.1).bind fun t23 => let v24 : List Int := t22.2.1
  (bedrocklaw02_ShaChains.l2 k k (t22.1, (v24, ((0 : Int), (t23.1, ()))))).bind fun t42 => (match t42 with | .inl t43 => (K (t43.1, ())) | .inr (t44) => ((sha_Twice k t44.1).bind fun t45 => let v46 : ByteArray := (bytesOf (List.take 32 (List.drop 0 t44.2.1)))
  (sha_Sum k v46).bind fun t47 => K ((decide (t45.1 = t47.1)), ())))))) else (none))
def bedrocklaw02_ShaChains (k : Nat) (s : ByteArray) : Option (Bool × Unit) := bedrocklaw02_ShaChains.c k s some
def bedrocklaw02_ShaChains.tin : List Ty := [.str]
def bedrocklaw02_ShaChains.tout : List Ty := [.bool]
def bedrocklaw02_ShaChains.sem (k : Nat) : CallSem := callPure bedrocklaw02_ShaChains.tin bedrocklaw02_ShaChains.tout fun x => bedrocklaw02_ShaChains k x.1
noncomputable def bedrocklaw02_ShaChains.ctx (k : Nat) : Ctx := ⟨Try.prog, gam [(21, (bedrocklaw02_awake.sem k)), (28, (sha_Pad.sem k)), (30, (sha_First.sem k)), (22, (sha_Step.sem k)), (24, (sha_Sum.sem k)), (26, (sha_Twice.sem k))]⟩
theorem bedrocklaw02_ShaChains.gok (k : Nat) : ∀ f, SemOK Try.prog f ((bedrocklaw02_ShaChains.ctx k).Γ f) := (gam_cons (bedrocklaw02_awake.sem_ok k) (gam_cons (sha_Pad.sem_ok k) (gam_cons (sha_First.sem_ok k) (gam_cons (sha_Step.sem_ok k) (gam_cons (sha_Sum.sem_ok k) (gam_cons (sha_Twice.sem_ok k) gam_nil))))))
theorem bedrocklaw02_ShaChains.p0.is (k : Nat) : PieceIs (bedrocklaw02_ShaChains.ctx k) (codeAt (Func.code Try.f6) [1, 1, 1, 0]) (.nil) bedrocklaw02_ShaChains.p0.T bedrocklaw02_ShaChains.p0.os (bedrocklaw02_ShaChains.p0.r k) := by
  intro ρ x K; kernel_rfl
theorem bedrocklaw02_ShaChains.p0.ok (k : Nat) : StOK 0 Try.prog (codeAt (Func.code Try.f6) [1, 1, 1, 0]) (pieceSem bedrocklaw02_ShaChains.p0.T bedrocklaw02_ShaChains.p0.os (bedrocklaw02_ShaChains.p0 k)) :=
  piece_ok (C := bedrocklaw02_ShaChains.ctx k) (T := bedrocklaw02_ShaChains.p0.T) (os := bedrocklaw02_ShaChains.p0.os) (bedrocklaw02_ShaChains.gok k) Try.mix (fun x K => bedrocklaw02_ShaChains.p0.r k x K) AnnOK.nil (by kernel_rfl) (by kernel_rfl) (bedrocklaw02_ShaChains.p0.is k)
theorem bedrocklaw02_ShaChains.l1.round (k : Nat) : RoundIs (bedrocklaw02_ShaChains.ctx k) (codeAt (Func.code Try.f6) [1, 1, 1, 1, 1, 0, 1, 0, 0]) (.nil) bedrocklaw02_ShaChains.l1.T [.mask [0, 3, 4, 5], .auto 0] bedrocklaw02_ShaChains.l1.os (bedrocklaw02_ShaChains.l1.r k) := by
  intro ρ x kn ke; kernel_rfl
theorem bedrocklaw02_ShaChains.l1.ok (k : Nat) : StOK 0 Try.prog (.loop (codeAt (Func.code Try.f6) [1, 1, 1, 1, 1, 0, 1, 0, 0])) (pieceSem bedrocklaw02_ShaChains.l1.T bedrocklaw02_ShaChains.l1.os (bedrocklaw02_ShaChains.l1 k k)) :=
  loop_ok (C := bedrocklaw02_ShaChains.ctx k) (bedrocklaw02_ShaChains.gok k) Try.mix AnnOK.nil (by kernel_rfl) (by kernel_rfl) (by kernel_rfl) (bedrocklaw02_ShaChains.l1.round k) k
theorem bedrocklaw02_ShaChains.l2.round (k : Nat) : RoundIs (bedrocklaw02_ShaChains.ctx k) (codeAt (Func.code Try.f6) [1, 1, 1, 1, 1, 1, 1, 0, 1, 0, 0]) (.nil) bedrocklaw02_ShaChains.l2.T [.mask [0, 6, 57, 58], .auto 0] bedrocklaw02_ShaChains.l2.os (bedrocklaw02_ShaChains.l2.r k) := by
  intro ρ x kn ke; kernel_rfl
theorem bedrocklaw02_ShaChains.l2.ok (k : Nat) : StOK 0 Try.prog (.loop (codeAt (Func.code Try.f6) [1, 1, 1, 1, 1, 1, 1, 0, 1, 0, 0])) (pieceSem bedrocklaw02_ShaChains.l2.T bedrocklaw02_ShaChains.l2.os (bedrocklaw02_ShaChains.l2 k k)) :=
  loop_ok (C := bedrocklaw02_ShaChains.ctx k) (bedrocklaw02_ShaChains.gok k) Try.mix AnnOK.nil (by kernel_rfl) (by kernel_rfl) (by kernel_rfl) (bedrocklaw02_ShaChains.l2.round k) k
def bedrocklaw02_ShaChains.ann (k : Nat) : Ann := .node [] none (.nil) (.node [] none (.nil) (.node [] none (.nil) (.node [] none (.node [] (some (pieceSem bedrocklaw02_ShaChains.p0.T bedrocklaw02_ShaChains.p0.os (bedrocklaw02_ShaChains.p0 k))) .nil .nil) (.node [] none (.nil) (.node [] none (.node [] none (.nil) (.node [] none (.node [.mask [0, 3, 4, 5], .auto 0] (some (pieceSem bedrocklaw02_ShaChains.l1.T bedrocklaw02_ShaChains.l1.os (bedrocklaw02_ShaChains.l1 k k))) .nil .nil) (.nil))) (.node [] none (.nil) (.node [] none (.node [] none (.nil) (.node [] none (.node [.mask [0, 6, 57, 58], .auto 0] (some (pieceSem bedrocklaw02_ShaChains.l2.T bedrocklaw02_ShaChains.l2.os (bedrocklaw02_ShaChains.l2 k k))) .nil .nil) (.nil))) (.nil))))))))
theorem bedrocklaw02_ShaChains.body (k : Nat) : BodyIs (bedrocklaw02_ShaChains.ctx k) Try.f6 (Func.code Try.f6) (bedrocklaw02_ShaChains.ann k) bedrocklaw02_ShaChains.tin bedrocklaw02_ShaChains.tout (fun x K => bedrocklaw02_ShaChains.c k x.1 K) := by
  intro ρ x K; kernel_rfl
theorem bedrocklaw02_ShaChains.sem_ok (k : Nat) : SemOK Try.prog 6 (bedrocklaw02_ShaChains.sem k) :=
  callPure_ok (C := bedrocklaw02_ShaChains.ctx k) (bedrocklaw02_ShaChains.gok k) Try.mix (c := Func.code Try.f6) (ann := bedrocklaw02_ShaChains.ann k) (tin := bedrocklaw02_ShaChains.tin) (tout := bedrocklaw02_ShaChains.tout) (fun x K => bedrocklaw02_ShaChains.c k x.1 K) Try.func6 (by kernel_rfl) (by kernel_rfl) (AnnOK.seq AnnOK.nil (AnnOK.seq AnnOK.nil (AnnOK.seq AnnOK.nil (AnnOK.seq (AnnOK.loop (by kernel_rfl) (bedrocklaw02_ShaChains.p0.ok k)) (AnnOK.seq AnnOK.nil (AnnOK.seq (AnnOK.seq AnnOK.nil (AnnOK.block (AnnOK.loop (by kernel_rfl) (bedrocklaw02_ShaChains.l1.ok k)))) (AnnOK.seq AnnOK.nil (AnnOK.seq (AnnOK.seq AnnOK.nil (AnnOK.block (AnnOK.loop (by kernel_rfl) (bedrocklaw02_ShaChains.l2.ok k)))) AnnOK.nil)))))))) (bedrocklaw02_ShaChains.body k)

end Go.Am
/- The program of the seat: the function without a body. -/
namespace Go.Am
open Go Go.Proofs
def bytealg_IndexByteString (k : Nat) (s : ByteArray) (c : Int) : Option (Int × Unit) := some (indexB s c, ())
def bytealg_IndexByteString.tin : List Ty := [.str, (.int .u8)]
def bytealg_IndexByteString.tout : List Ty := [(.int .i64)]
def bytealg_IndexByteString.sem (k : Nat) : CallSem := callPure bytealg_IndexByteString.tin bytealg_IndexByteString.tout fun x => bytealg_IndexByteString k x.1 x.2.1
theorem bytealg_IndexByteString.sem_ok (k : Nat) : SemOK Try.prog 119 (bytealg_IndexByteString.sem k) :=
  indexByteString_ok Try.func119 (by kernel_rfl) (by kernel_rfl) (by kernel_rfl) (by kernel_rfl)
end Go.Am
namespace Go.Am
open Go Go.Proofs
set_option maxRecDepth 100000
/-! 113 internal/stringslite.IndexByte -/
def stringslite_IndexByte.c (k : Nat) {ρ : Type} (s : ByteArray) (c : Int) (K : Int × Unit → Option ρ) : Option ρ :=
  (bytealg_IndexByteString k s c).bind fun t0 => K (t0.1, ())
def stringslite_IndexByte (k : Nat) (s : ByteArray) (c : Int) : Option (Int × Unit) := stringslite_IndexByte.c k s c some
def stringslite_IndexByte.tin : List Ty := [.str, (.int .u8)]
def stringslite_IndexByte.tout : List Ty := [(.int .i64)]
def stringslite_IndexByte.sem (k : Nat) : CallSem := callPure stringslite_IndexByte.tin stringslite_IndexByte.tout fun x => stringslite_IndexByte k x.1 x.2.1
noncomputable def stringslite_IndexByte.ctx (k : Nat) : Ctx := ⟨Try.prog, gam [(119, (bytealg_IndexByteString.sem k))]⟩
theorem stringslite_IndexByte.gok (k : Nat) : ∀ f, SemOK Try.prog f ((stringslite_IndexByte.ctx k).Γ f) := (gam_cons (bytealg_IndexByteString.sem_ok k) gam_nil)
def stringslite_IndexByte.ann (k : Nat) : Ann := .nil
theorem stringslite_IndexByte.body (k : Nat) : BodyIs (stringslite_IndexByte.ctx k) Try.f113 (Func.code Try.f113) (stringslite_IndexByte.ann k) stringslite_IndexByte.tin stringslite_IndexByte.tout (fun x K => stringslite_IndexByte.c k x.1 x.2.1 K) := by
  intro ρ x K; kernel_rfl
theorem stringslite_IndexByte.sem_ok (k : Nat) : SemOK Try.prog 113 (stringslite_IndexByte.sem k) :=
  callPure_ok (C := stringslite_IndexByte.ctx k) (stringslite_IndexByte.gok k) Try.mix (c := Func.code Try.f113) (ann := stringslite_IndexByte.ann k) (tin := stringslite_IndexByte.tin) (tout := stringslite_IndexByte.tout) (fun x K => stringslite_IndexByte.c k x.1 x.2.1 K) Try.func113 (by kernel_rfl) (by kernel_rfl) AnnOK.nil (stringslite_IndexByte.body k)

/-! 88 strings.IndexByte -/
def strings_IndexByte.c (k : Nat) {ρ : Type} (s : ByteArray) (c : Int) (K : Int × Unit → Option ρ) : Option ρ :=
  (stringslite_IndexByte k s c).bind fun t0 => K (t0.1, ())
def strings_IndexByte (k : Nat) (s : ByteArray) (c : Int) : Option (Int × Unit) := strings_IndexByte.c k s c some
def strings_IndexByte.tin : List Ty := [.str, (.int .u8)]
def strings_IndexByte.tout : List Ty := [(.int .i64)]
def strings_IndexByte.sem (k : Nat) : CallSem := callPure strings_IndexByte.tin strings_IndexByte.tout fun x => strings_IndexByte k x.1 x.2.1
noncomputable def strings_IndexByte.ctx (k : Nat) : Ctx := ⟨Try.prog, gam [(113, (stringslite_IndexByte.sem k))]⟩
theorem strings_IndexByte.gok (k : Nat) : ∀ f, SemOK Try.prog f ((strings_IndexByte.ctx k).Γ f) := (gam_cons (stringslite_IndexByte.sem_ok k) gam_nil)
def strings_IndexByte.ann (k : Nat) : Ann := .nil
theorem strings_IndexByte.body (k : Nat) : BodyIs (strings_IndexByte.ctx k) Try.f88 (Func.code Try.f88) (strings_IndexByte.ann k) strings_IndexByte.tin strings_IndexByte.tout (fun x K => strings_IndexByte.c k x.1 x.2.1 K) := by
  intro ρ x K; kernel_rfl
theorem strings_IndexByte.sem_ok (k : Nat) : SemOK Try.prog 88 (strings_IndexByte.sem k) :=
  callPure_ok (C := strings_IndexByte.ctx k) (strings_IndexByte.gok k) Try.mix (c := Func.code Try.f88) (ann := strings_IndexByte.ann k) (tin := strings_IndexByte.tin) (tout := strings_IndexByte.tout) (fun x K => strings_IndexByte.c k x.1 x.2.1 K) Try.func88 (by kernel_rfl) (by kernel_rfl) AnnOK.nil (strings_IndexByte.body k)

/-! 38 bedrock/num.Unhex -/
abbrev num_Unhex.l0.σ : Type := ByteArray × Int × Int × (List Int) × Unit
abbrev num_Unhex.l0.τ : Type := (ByteArray × Int × Int × Unit) ⊕ (ByteArray × (List Int) × Unit)
def num_Unhex.l0.r (k : Nat) {ρ : Type} (x : num_Unhex.l0.σ) (kn : num_Unhex.l0.σ → Option ρ) (ke : num_Unhex.l0.τ → Option ρ) : Option ρ :=
  bif (decide (x.2.2.1 < x.2.1)) then (bif (decide (((0 : Int) ≤ x.2.2.1) ∧ (x.2.2.1 < (((ByteArray.size x.1) : Nat) : Int)))) then (let v1 : Int := (byteAt x.1 (Int.toNat x.2.2.1))
  (strings_IndexByte k (⟨(List.toArray [48, 49, 50, 51, 52, 53, 54, 55, 56, 57, 97, 98, 99, 100, 101, 102])⟩ : ByteArray) v1).bind fun t2 => bif (decide (t2.1 < (0 : Int))) then (ke (.inl ((⟨(List.toArray [])⟩ : ByteArray), (x.2.2.1, ((10 : Int), ()))))) else (let v3 : Int := (IntKind.wrap IntKind.i64 (Int.tdiv x.2.2.1 (2 : Int)))
  let v4 : Int := (((List.length x.2.2.2.1) : Nat) : Int)
  bif (decide (v3 < v4)) then (let v5 : Int := (IntKind.wrap IntKind.i64 (Int.tdiv x.2.2.1 (2 : Int)))
  let v6 : Int := (IntKind.wrap IntKind.i64 (Int.tdiv x.2.2.1 (2 : Int)))
  bif (decide (((0 : Int) ≤ v6) ∧ (v6 < (((List.length x.2.2.2.1) : Nat) : Int)))) then (let v7 : Int := (List.getD x.2.2.2.1 (Int.toNat v6) (0 : Int))
  let v8 : Int := (shlOp IntKind.u8 v7 (4 : Int))
  let v9 : Int := (IntKind.wrap IntKind.u8 t2.1)
  bif (decide (((0 : Int) ≤ v5) ∧ (v5 < (((List.length x.2.2.2.1) : Nat) : Int)))) then (let v10 : Int := (IntKind.wrap IntKind.i64 (x.2.2.1 + (1 : Int)))
  kn (x.1, (x.2.1, (v10, ((List.set x.2.2.2.1 (Int.toNat v5) (bitsOp BinOp.or IntKind.u8 v8 v9)), ()))))) else (none)) else (none)) else (let v11 : Int := (IntKind.wrap IntKind.i64 (x.2.2.1 + (1 : Int)))
  kn (x.1, (x.2.1, (v11, (x.2.2.2.1, ()))))))) else (none)) else (ke (.inr (x.1, (x.2.2.2.1, ()))))
def num_Unhex.l0 (k : Nat) : Nat → num_Unhex.l0.σ → Option num_Unhex.l0.τ := loopJ (num_Unhex.l0.r k)
def num_Unhex.l0.T : StT := ⟨.dat .str :: us 4 ++ .vsl 0 :: us 7 ++ .dat (.int .i64) :: .dat (.int .i64) :: us 36, [.vec (.int .u8)]⟩
def num_Unhex.l0.os : List Out := [⟨.ret, [.mask [2, 3, 4], .auto 0], ⟨us 2 ++ .dat .str :: .dat (.int .i64) :: .dat (.int .i64) :: us 46, []⟩⟩, ⟨(.exit 0), [.mask [0, 5], .auto 0], ⟨.dat .str :: us 4 ++ .vsl 0 :: us 45, [.vec (.int .u8)]⟩⟩]
def num_Unhex.c (k : Nat) {ρ : Type} (s : ByteArray) (K : ByteArray × Int × Int × Unit → Option ρ) : Option ρ :=
  let v0 : Int := (IntKind.wrap IntKind.i64 (Int.tdiv (((ByteArray.size s) : Nat) : Int) (2 : Int)))
  bif ((decide (((0 : Int) ≤ v0) ∧ (v0 ≤ v0))) && (Nat.ble ((Int.toNat v0) * 1) 140737488355328)) then ((num_Unhex.l0 k k (s, ((((ByteArray.size s) : Nat) : Int), ((0 : Int), ((List.replicate (Int.toNat v0) (0 : Int)), ()))))).bind fun t12 => (match t12 with | .inl t13 => (K (t13.1, (t13.2.1, (t13.2.2.1, ())))) | .inr (t14) => (let v15 : Int := (((ByteArray.size t14.1) : Nat) : Int)
  bif ((Int.tmod v15 (2 : Int)) == (1 : Int)) then (let v16 : Int := (((ByteArray.size t14.1) : Nat) : Int)
  K ((⟨(List.toArray [])⟩ : ByteArray), (v16, ((10 : Int), ())))) else (let v17 : ByteArray := (bytesOf t14.2.1)
  K (v17, ((0 : Int), ((0 : Int), ()))))))) else (none)
def num_Unhex (k : Nat) (s : ByteArray) : Option (ByteArray × Int × Int × Unit) := num_Unhex.c k s some
def num_Unhex.tin : List Ty := [.str]
def num_Unhex.tout : List Ty := [.str, (.int .i64), (.int .i64)]
def num_Unhex.sem (k : Nat) : CallSem := callPure num_Unhex.tin num_Unhex.tout fun x => num_Unhex k x.1
noncomputable def num_Unhex.ctx (k : Nat) : Ctx := ⟨Try.prog, gam [(88, (strings_IndexByte.sem k))]⟩
theorem num_Unhex.gok (k : Nat) : ∀ f, SemOK Try.prog f ((num_Unhex.ctx k).Γ f) := (gam_cons (strings_IndexByte.sem_ok k) gam_nil)
theorem num_Unhex.l0.round (k : Nat) : RoundIs (num_Unhex.ctx k) (codeAt (Func.code Try.f38) [1, 1, 0, 1, 0, 0]) (.nil) num_Unhex.l0.T [.mask [0, 5, 13, 14], .auto 0] num_Unhex.l0.os (num_Unhex.l0.r k) := by
  intro ρ x kn ke; kernel_rfl
theorem num_Unhex.l0.ok (k : Nat) : StOK 0 Try.prog (.loop (codeAt (Func.code Try.f38) [1, 1, 0, 1, 0, 0])) (pieceSem num_Unhex.l0.T num_Unhex.l0.os (num_Unhex.l0 k k)) :=
  loop_ok (C := num_Unhex.ctx k) (num_Unhex.gok k) Try.mix AnnOK.nil (by kernel_rfl) (by kernel_rfl) (by kernel_rfl) (num_Unhex.l0.round k) k
def num_Unhex.ann (k : Nat) : Ann := .node [] none (.nil) (.node [] none (.nil) (.node [] none (.node [] none (.nil) (.node [] none (.node [.mask [0, 5, 13, 14], .auto 0] (some (pieceSem num_Unhex.l0.T num_Unhex.l0.os (num_Unhex.l0 k k))) .nil .nil) (.nil))) (.nil)))
theorem num_Unhex.body (k : Nat) : BodyIs (num_Unhex.ctx k) Try.f38 (Func.code Try.f38) (num_Unhex.ann k) num_Unhex.tin num_Unhex.tout (fun x K => num_Unhex.c k x.1 K) := by
  intro ρ x K; kernel_rfl
theorem num_Unhex.sem_ok (k : Nat) : SemOK Try.prog 38 (num_Unhex.sem k) :=
  callPure_ok (C := num_Unhex.ctx k) (num_Unhex.gok k) Try.mix (c := Func.code Try.f38) (ann := num_Unhex.ann k) (tin := num_Unhex.tin) (tout := num_Unhex.tout) (fun x K => num_Unhex.c k x.1 K) Try.func38 (by kernel_rfl) (by kernel_rfl) (AnnOK.seq AnnOK.nil (AnnOK.seq AnnOK.nil (AnnOK.seq (AnnOK.seq AnnOK.nil (AnnOK.block (AnnOK.loop (by kernel_rfl) (num_Unhex.l0.ok k)))) AnnOK.nil))) (num_Unhex.body k)

/-! 89 bedrock/bedrockref01.value -/
abbrev bedrockref01_value.p0.σ : Type := Int × Unit
abbrev bedrockref01_value.p0.τ : Type := (Int × Unit) ⊕ (Int × Unit)
def bedrockref01_value.p0.r (k : Nat) {ρ : Type} (x : bedrockref01_value.p0.σ) (K : bedrockref01_value.p0.τ → Option ρ) : Option ρ :=
  bif (decide (x.1 ≥ (48 : Int))) then (bif (decide (x.1 ≤ (57 : Int))) then (let v0 : Int := (IntKind.wrap IntKind.u8 (x.1 - (48 : Int)))
  K (.inl (v0, ()))) else (K (.inr (x.1, ())))) else (K (.inr (x.1, ())))
def bedrockref01_value.p0 (k : Nat) (x : bedrockref01_value.p0.σ) : Option bedrockref01_value.p0.τ := bedrockref01_value.p0.r k x some
def bedrockref01_value.p0.T : StT := ⟨.dat (.int .u8) :: us 19, []⟩
def bedrockref01_value.p0.os : List Out := [⟨.ret, [.mask [2], .auto 0], ⟨us 2 ++ .dat (.int .u8) :: us 17, []⟩⟩, ⟨.normal, [.mask [0], .auto 0], ⟨.dat (.int .u8) :: us 19, []⟩⟩]
def bedrockref01_value.c (k : Nat) {ρ : Type} (c : Int) (K : Int × Unit → Option ρ) : Option ρ :=
  (bedrockref01_value.p0 k (c, ())).bind fun t1 => (match t1 with | .inl t2 => (K (t2.1, ())) | .inr (t3) => (bif (decide (t3.1 ≥ (97 : Int))) then (bif (decide (t3.1 ≤ (102 : Int))) then (let v4 : Int := (IntKind.wrap IntKind.u8 (t3.1 - (97 : Int)))
  let v5 : Int := (IntKind.wrap IntKind.u8 (v4 + (10 : Int)))
  K (v5, ())) else (K ((16 : Int), ()))) else (K ((16 : Int), ()))))
def bedrockref01_value (k : Nat) (c : Int) : Option (Int × Unit) := bedrockref01_value.c k c some
def bedrockref01_value.tin : List Ty := [(.int .u8)]
def bedrockref01_value.tout : List Ty := [(.int .u8)]
def bedrockref01_value.sem (k : Nat) : CallSem := callPure bedrockref01_value.tin bedrockref01_value.tout fun x => bedrockref01_value k x.1
noncomputable def bedrockref01_value.ctx (k : Nat) : Ctx := ⟨Try.prog, gam []⟩
theorem bedrockref01_value.gok (k : Nat) : ∀ f, SemOK Try.prog f ((bedrockref01_value.ctx k).Γ f) := gam_nil
theorem bedrockref01_value.p0.is (k : Nat) : PieceIs (bedrockref01_value.ctx k) (codeAt (Func.code Try.f89) [1, 0]) (.nil) bedrockref01_value.p0.T bedrockref01_value.p0.os (bedrockref01_value.p0.r k) := by
  intro ρ x K; kernel_rfl
theorem bedrockref01_value.p0.ok (k : Nat) : StOK 0 Try.prog (codeAt (Func.code Try.f89) [1, 0]) (pieceSem bedrockref01_value.p0.T bedrockref01_value.p0.os (bedrockref01_value.p0 k)) :=
  piece_ok (C := bedrockref01_value.ctx k) (T := bedrockref01_value.p0.T) (os := bedrockref01_value.p0.os) (bedrockref01_value.gok k) Try.mix (fun x K => bedrockref01_value.p0.r k x K) AnnOK.nil (by kernel_rfl) (by kernel_rfl) (bedrockref01_value.p0.is k)
def bedrockref01_value.ann (k : Nat) : Ann := .node [] none (.nil) (.node [] none (.node [] (some (pieceSem bedrockref01_value.p0.T bedrockref01_value.p0.os (bedrockref01_value.p0 k))) .nil .nil) (.nil))
theorem bedrockref01_value.body (k : Nat) : BodyIs (bedrockref01_value.ctx k) Try.f89 (Func.code Try.f89) (bedrockref01_value.ann k) bedrockref01_value.tin bedrockref01_value.tout (fun x K => bedrockref01_value.c k x.1 K) := by
  intro ρ x K; kernel_rfl
theorem bedrockref01_value.sem_ok (k : Nat) : SemOK Try.prog 89 (bedrockref01_value.sem k) :=
  callPure_ok (C := bedrockref01_value.ctx k) (bedrockref01_value.gok k) Try.mix (c := Func.code Try.f89) (ann := bedrockref01_value.ann k) (tin := bedrockref01_value.tin) (tout := bedrockref01_value.tout) (fun x K => bedrockref01_value.c k x.1 K) Try.func89 (by kernel_rfl) (by kernel_rfl) (AnnOK.seq AnnOK.nil (AnnOK.seq (AnnOK.loop (by kernel_rfl) (bedrockref01_value.p0.ok k)) AnnOK.nil)) (bedrockref01_value.body k)

/-! 39 bedrock/bedrockref01.Unhex -/
abbrev bedrockref01_Unhex.l0.σ : Type := ByteArray × Int × Unit
abbrev bedrockref01_Unhex.l0.τ : Type := (ByteArray × Int × Unit) ⊕ (ByteArray × Unit)
def bedrockref01_Unhex.l0.r (k : Nat) {ρ : Type} (x : bedrockref01_Unhex.l0.σ) (kn : bedrockref01_Unhex.l0.σ → Option ρ) (ke : bedrockref01_Unhex.l0.τ → Option ρ) : Option ρ :=
  let v0 : Int := (((ByteArray.size x.1) : Nat) : Int)
  bif (decide (x.2.1 < v0)) then (bif (decide (((0 : Int) ≤ x.2.1) ∧ (x.2.1 < (((ByteArray.size x.1) : Nat) : Int)))) then (let v1 : Int := (byteAt x.1 (Int.toNat x.2.1))
  (bedrockref01_value k v1).bind fun t2 => bif (t2.1 == (16 : Int)) then (ke (.inl ((⟨(List.toArray [])⟩ : ByteArray), (x.2.1, ())))) else (let v3 : Int := (IntKind.wrap IntKind.i64 (x.2.1 + (1 : Int)))
  kn (x.1, (v3, ())))) else (none)) else (ke (.inr (x.1, ())))
def bedrockref01_Unhex.l0 (k : Nat) : Nat → bedrockref01_Unhex.l0.σ → Option bedrockref01_Unhex.l0.τ := loopJ (bedrockref01_Unhex.l0.r k)
def bedrockref01_Unhex.l0.T : StT := ⟨.dat .str :: us 3 ++ .dat (.int .i64) :: us 42, []⟩
def bedrockref01_Unhex.l0.os : List Out := [⟨.ret, [.mask [2, 3], .auto 0], ⟨us 2 ++ .dat .str :: .dat (.int .i64) :: us 43, []⟩⟩, ⟨(.exit 0), [.mask [0], .auto 0], ⟨.dat .str :: us 46, []⟩⟩]
abbrev bedrockref01_Unhex.l1.σ : Type := ByteArray × ByteArray × Int × Unit
abbrev bedrockref01_Unhex.l1.τ : Type := (ByteArray × Unit)
def bedrockref01_Unhex.l1.r (k : Nat) {ρ : Type} (x : bedrockref01_Unhex.l1.σ) (kn : bedrockref01_Unhex.l1.σ → Option ρ) (ke : bedrockref01_Unhex.l1.τ → Option ρ) : Option ρ :=
  let v9 : Int := (((ByteArray.size x.1) : Nat) : Int)
  bif (decide (x.2.2.1 < v9)) then (bif (decide (((0 : Int) ≤ x.2.2.1) ∧ (x.2.2.1 < (((ByteArray.size x.1) : Nat) : Int)))) then (let v10 : Int := (byteAt x.1 (Int.toNat x.2.2.1))
  (bedrockref01_value k v10).bind fun t11 => let v12 : Int := (IntKind.wrap IntKind.u8 (t11.1 * (16 : Int)))
  let v13 : Int := (IntKind.wrap IntKind.i64 (x.2.2.1 + (1 : Int)))
  bif (decide (((0 : Int) ≤ v13) ∧ (v13 < (((ByteArray.size x.1) : Nat) : Int)))) then (let v14 : Int := (byteAt x.1 (Int.toNat v13))
  (bedrockref01_value k v14).bind fun t15 => let v16 : Int := (IntKind.wrap IntKind.u8 (v12 + t15.1))
  let v17 : ByteArray := (bytesOf (List.set (List.replicate 1 (0 : Int)) 0 v16))
  bif (Nat.ble ((ByteArray.size x.2.1) + (ByteArray.size v17)) 9223372036854775807) then (let v18 : ByteArray := (x.2.1 ++ v17)
  let v19 : Int := (IntKind.wrap IntKind.i64 (x.2.2.1 + (2 : Int)))
  kn (x.1, (v18, (v19, ())))) else (none)) else (none)) else (none)) else (ke (x.2.1, ()))
def bedrockref01_Unhex.l1 (k : Nat) : Nat → bedrockref01_Unhex.l1.σ → Option bedrockref01_Unhex.l1.τ := loopJ (bedrockref01_Unhex.l1.r k)
def bedrockref01_Unhex.l1.T : StT := ⟨.dat .str :: us 4 ++ .dat .str :: .dat (.int .i64) :: us 40, []⟩
def bedrockref01_Unhex.l1.os : List Out := [⟨(.exit 2), [.mask [5], .auto 0], ⟨us 5 ++ .dat .str :: us 41, []⟩⟩]
def bedrockref01_Unhex.c (k : Nat) {ρ : Type} (s : ByteArray) (K : ByteArray × Int × Unit → Option ρ) : Option ρ :=
  (bedrockref01_Unhex.l0 k k (s, ((0 : Int), ()))).bind fun t4 => (match t4 with | .inl t5 => (K (t5.1, (t5.2.1, ()))) | .inr (t6) => (let v7 : Int := (((ByteArray.size t6.1) : Nat) : Int)
  bif ((Int.tmod v7 (2 : Int)) == (1 : Int)) then (let v8 : Int := (((ByteArray.size t6.1) : Nat) : Int)
  K ((⟨(List.toArray [])⟩ : ByteArray), (v8, ()))) else ((bedrockref01_Unhex.l1 k k (t6.1, ((⟨(List.toArray [])⟩ : ByteArray), ((0 : Int), ())))).bind fun t20 => K (t20.1, ((-(1 : Int)), ())))))
def bedrockref01_Unhex (k : Nat) (s : ByteArray) : Option (ByteArray × Int × Unit) := bedrockref01_Unhex.c k s some
def bedrockref01_Unhex.tin : List Ty := [.str]
def bedrockref01_Unhex.tout : List Ty := [.str, (.int .i64)]
def bedrockref01_Unhex.sem (k : Nat) : CallSem := callPure bedrockref01_Unhex.tin bedrockref01_Unhex.tout fun x => bedrockref01_Unhex k x.1
noncomputable def bedrockref01_Unhex.ctx (k : Nat) : Ctx := ⟨Try.prog, gam [(89, (bedrockref01_value.sem k))]⟩
theorem bedrockref01_Unhex.gok (k : Nat) : ∀ f, SemOK Try.prog f ((bedrockref01_Unhex.ctx k).Γ f) := (gam_cons (bedrockref01_value.sem_ok k) gam_nil)
theorem bedrockref01_Unhex.l0.round (k : Nat) : RoundIs (bedrockref01_Unhex.ctx k) (codeAt (Func.code Try.f39) [1, 0, 1, 0, 0]) (.nil) bedrockref01_Unhex.l0.T [.mask [0, 4], .auto 0] bedrockref01_Unhex.l0.os (bedrockref01_Unhex.l0.r k) := by
  intro ρ x kn ke; kernel_rfl
theorem bedrockref01_Unhex.l0.ok (k : Nat) : StOK 0 Try.prog (.loop (codeAt (Func.code Try.f39) [1, 0, 1, 0, 0])) (pieceSem bedrockref01_Unhex.l0.T bedrockref01_Unhex.l0.os (bedrockref01_Unhex.l0 k k)) :=
  loop_ok (C := bedrockref01_Unhex.ctx k) (bedrockref01_Unhex.gok k) Try.mix AnnOK.nil (by kernel_rfl) (by kernel_rfl) (by kernel_rfl) (bedrockref01_Unhex.l0.round k) k
theorem bedrockref01_Unhex.l1.round (k : Nat) : RoundIs (bedrockref01_Unhex.ctx k) (codeAt (Func.code Try.f39) [1, 1, 1, 1, 0, 1, 0, 0]) (.nil) bedrockref01_Unhex.l1.T [.mask [0, 5, 6], .auto 0] bedrockref01_Unhex.l1.os (bedrockref01_Unhex.l1.r k) := by
  intro ρ x kn ke; kernel_rfl
theorem bedrockref01_Unhex.l1.ok (k : Nat) : StOK 0 Try.prog (.loop (codeAt (Func.code Try.f39) [1, 1, 1, 1, 0, 1, 0, 0])) (pieceSem bedrockref01_Unhex.l1.T bedrockref01_Unhex.l1.os (bedrockref01_Unhex.l1 k k)) :=
  loop_ok (C := bedrockref01_Unhex.ctx k) (bedrockref01_Unhex.gok k) Try.mix AnnOK.nil (by kernel_rfl) (by kernel_rfl) (by kernel_rfl) (bedrockref01_Unhex.l1.round k) k
def bedrockref01_Unhex.ann (k : Nat) : Ann := .node [] none (.nil) (.node [] none (.node [] none (.nil) (.node [] none (.node [] (some (pieceSem bedrockref01_Unhex.l0.T bedrockref01_Unhex.l0.os (bedrockref01_Unhex.l0 k k))) .nil .nil) (.nil))) (.node [] none (.nil) (.node [] none (.nil) (.node [] none (.node [] none (.nil) (.node [] none (.node [] (some (pieceSem bedrockref01_Unhex.l1.T bedrockref01_Unhex.l1.os (bedrockref01_Unhex.l1 k k))) .nil .nil) (.nil))) (.nil)))))
theorem bedrockref01_Unhex.body (k : Nat) : BodyIs (bedrockref01_Unhex.ctx k) Try.f39 (Func.code Try.f39) (bedrockref01_Unhex.ann k) bedrockref01_Unhex.tin bedrockref01_Unhex.tout (fun x K => bedrockref01_Unhex.c k x.1 K) := by
  intro ρ x K; kernel_rfl
theorem bedrockref01_Unhex.sem_ok (k : Nat) : SemOK Try.prog 39 (bedrockref01_Unhex.sem k) :=
  callPure_ok (C := bedrockref01_Unhex.ctx k) (bedrockref01_Unhex.gok k) Try.mix (c := Func.code Try.f39) (ann := bedrockref01_Unhex.ann k) (tin := bedrockref01_Unhex.tin) (tout := bedrockref01_Unhex.tout) (fun x K => bedrockref01_Unhex.c k x.1 K) Try.func39 (by kernel_rfl) (by kernel_rfl) (AnnOK.seq AnnOK.nil (AnnOK.seq (AnnOK.seq AnnOK.nil (AnnOK.block (AnnOK.loop (by kernel_rfl) (bedrockref01_Unhex.l0.ok k)))) (AnnOK.seq AnnOK.nil (AnnOK.seq AnnOK.nil (AnnOK.seq (AnnOK.seq AnnOK.nil (AnnOK.block (AnnOK.loop (by kernel_rfl) (bedrockref01_Unhex.l1.ok k)))) AnnOK.nil))))) (bedrockref01_Unhex.body k)

/-! 90 bedrock/num.turned -/
abbrev num_turned.l0.σ : Type := (List Int) × Int × (List Int) × (List Int) × Unit
abbrev num_turned.l0.τ : Type := ((List Int) × (List Int) × Unit)
def num_turned.l0.r (k : Nat) {ρ : Type} (x : num_turned.l0.σ) (kn : num_turned.l0.σ → Option ρ) (ke : num_turned.l0.τ → Option ρ) : Option ρ :=
  bif (decide (x.2.1 < (32 : Int))) then (bif (decide (((0 : Int) ≤ x.2.1) ∧ (x.2.1 < ((32 : Nat) : Int)))) then (let v0 : Int := (List.getD x.1 (Int.toNat x.2.1) (0 : Int))
  let v1 : Int := (IntKind.wrap IntKind.i64 ((31 : Int) - x.2.1))
  bif (decide (((0 : Int) ≤ v1) ∧ (v1 < ((32 : Nat) : Int)))) then (let v2 : Int := (IntKind.wrap IntKind.i64 (x.2.1 + (1 : Int)))
  kn (x.1, (v2, (x.2.2.1, ((List.set x.2.2.2.1 (Int.toNat v1) v0), ()))))) else (none)) else (none)) else (ke (x.2.2.1, (x.2.2.2.1, ())))
def num_turned.l0 (k : Nat) : Nat → num_turned.l0.σ → Option num_turned.l0.τ := loopJ (num_turned.l0.r k)
def num_turned.l0.T : StT := ⟨us 2 ++ .ptr 0 [] :: .ptr 1 [] :: us 2 ++ .dat (.arr 32 (.int .u8)) :: .dat (.int .i64) :: us 9, [.dat (.arr 32 (.int .u8)), .dat (.arr 32 (.int .u8))]⟩
def num_turned.l0.os : List Out := [⟨(.exit 0), [.mask [2, 3], .auto 0], ⟨us 2 ++ .ptr 0 [] :: .ptr 1 [] :: us 13, [.dat (.arr 32 (.int .u8)), .dat (.arr 32 (.int .u8))]⟩⟩]
def num_turned.c (k : Nat) {ρ : Type} (h : (List Int)) (K : (List Int) × Unit → Option ρ) : Option ρ :=
  (num_turned.l0 k k (h, ((0 : Int), ((List.replicate 32 (0 : Int)), ((List.replicate 32 (0 : Int)), ()))))).bind fun t3 => let v4 : List Int := t3.2.1
  K (v4, ())
def num_turned (k : Nat) (h : (List Int)) : Option ((List Int) × Unit) := num_turned.c k h some
def num_turned.tin : List Ty := [(.arr 32 (.int .u8))]
def num_turned.tout : List Ty := [(.arr 32 (.int .u8))]
def num_turned.sem (k : Nat) : CallSem := callPure num_turned.tin num_turned.tout fun x => num_turned k x.1
noncomputable def num_turned.ctx (k : Nat) : Ctx := ⟨Try.prog, gam []⟩
theorem num_turned.gok (k : Nat) : ∀ f, SemOK Try.prog f ((num_turned.ctx k).Γ f) := gam_nil
theorem num_turned.l0.round (k : Nat) : RoundIs (num_turned.ctx k) (codeAt (Func.code Try.f90) [1, 1, 0, 1, 0, 0]) (.nil) num_turned.l0.T [.mask [2, 3, 6, 7], .auto 0] num_turned.l0.os (num_turned.l0.r k) := by
  intro ρ x kn ke; kernel_rfl
theorem num_turned.l0.ok (k : Nat) : StOK 0 Try.prog (.loop (codeAt (Func.code Try.f90) [1, 1, 0, 1, 0, 0])) (pieceSem num_turned.l0.T num_turned.l0.os (num_turned.l0 k k)) :=
  loop_ok (C := num_turned.ctx k) (num_turned.gok k) Try.mix AnnOK.nil (by kernel_rfl) (by kernel_rfl) (by kernel_rfl) (num_turned.l0.round k) k
def num_turned.ann (k : Nat) : Ann := .node [] none (.nil) (.node [] none (.nil) (.node [] none (.node [] none (.nil) (.node [] none (.node [.mask [2, 3, 6, 7], .auto 0] (some (pieceSem num_turned.l0.T num_turned.l0.os (num_turned.l0 k k))) .nil .nil) (.nil))) (.nil)))
theorem num_turned.body (k : Nat) : BodyIs (num_turned.ctx k) Try.f90 (Func.code Try.f90) (num_turned.ann k) num_turned.tin num_turned.tout (fun x K => num_turned.c k x.1 K) := by
  intro ρ x K; kernel_rfl
theorem num_turned.sem_ok (k : Nat) : SemOK Try.prog 90 (num_turned.sem k) :=
  callPure_ok (C := num_turned.ctx k) (num_turned.gok k) Try.mix (c := Func.code Try.f90) (ann := num_turned.ann k) (tin := num_turned.tin) (tout := num_turned.tout) (fun x K => num_turned.c k x.1 K) Try.func90 (by kernel_rfl) (by kernel_rfl) (AnnOK.seq AnnOK.nil (AnnOK.seq AnnOK.nil (AnnOK.seq (AnnOK.seq AnnOK.nil (AnnOK.block (AnnOK.loop (by kernel_rfl) (num_turned.l0.ok k)))) AnnOK.nil))) (num_turned.body k)

/-! 40 bedrock/num.Parse -/
def num_Parse.c (k : Nat) {ρ : Type} (s : ByteArray) (K : (List Int) × Int × Int × Unit → Option ρ) : Option ρ :=
  let v0 : Int := (if ((((ByteArray.size s) : Nat) : Int) < (64 : Int)) then (((ByteArray.size s) : Nat) : Int) else (64 : Int))
  bif (decide (((0 : Int) ≤ (0 : Int)) ∧ (((0 : Int) ≤ v0) ∧ (v0 ≤ (((ByteArray.size s) : Nat) : Int))))) then ((num_Unhex k (ByteArray.extract s 0 (Int.toNat v0))).bind fun t1 => let v2 : ByteArray := t1.1
  let v3 : Int := t1.2.1
  let v4 : Int := t1.2.2.1
  bif (v4 != (0 : Int)) then (let v5 : List Int := (List.replicate 32 (0 : Int))
  K (v5, (v3, (v4, ())))) else (bif ((((ByteArray.size s) : Nat) : Int) != (64 : Int)) then (let v6 : List Int := (List.replicate 32 (0 : Int))
  let v7 : Int := (if ((((ByteArray.size s) : Nat) : Int) < (64 : Int)) then (((ByteArray.size s) : Nat) : Int) else (64 : Int))
  K (v6, (v7, ((10 : Int), ())))) else (let v8 : Int := (((Min.min (List.length (ofBytes v2)) 32) : Nat) : Int)
  let v9 : List Int := (copyL (List.replicate 32 (0 : Int)) 0 (ofBytes v2) (Min.min (List.length (ofBytes v2)) 32))
  (num_turned k v9).bind fun t10 => K (t10.1, ((0 : Int), ((0 : Int), ())))))) else (none)
def num_Parse (k : Nat) (s : ByteArray) : Option ((List Int) × Int × Int × Unit) := num_Parse.c k s some
def num_Parse.tin : List Ty := [.str]
def num_Parse.tout : List Ty := [(.arr 32 (.int .u8)), (.int .i64), (.int .i64)]
def num_Parse.sem (k : Nat) : CallSem := callPure num_Parse.tin num_Parse.tout fun x => num_Parse k x.1
noncomputable def num_Parse.ctx (k : Nat) : Ctx := ⟨Try.prog, gam [(38, (num_Unhex.sem k)), (90, (num_turned.sem k))]⟩
theorem num_Parse.gok (k : Nat) : ∀ f, SemOK Try.prog f ((num_Parse.ctx k).Γ f) := (gam_cons (num_Unhex.sem_ok k) (gam_cons (num_turned.sem_ok k) gam_nil))
def num_Parse.ann (k : Nat) : Ann := .nil
theorem num_Parse.body (k : Nat) : BodyIs (num_Parse.ctx k) Try.f40 (Func.code Try.f40) (num_Parse.ann k) num_Parse.tin num_Parse.tout (fun x K => num_Parse.c k x.1 K) := by
  intro ρ x K; kernel_rfl
theorem num_Parse.sem_ok (k : Nat) : SemOK Try.prog 40 (num_Parse.sem k) :=
  callPure_ok (C := num_Parse.ctx k) (num_Parse.gok k) Try.mix (c := Func.code Try.f40) (ann := num_Parse.ann k) (tin := num_Parse.tin) (tout := num_Parse.tout) (fun x K => num_Parse.c k x.1 K) Try.func40 (by kernel_rfl) (by kernel_rfl) AnnOK.nil (num_Parse.body k)

/-! 45 bedrock/bedrockref01.Turned -/
abbrev bedrockref01_Turned.l0.σ : Type := ByteArray × ByteArray × Int × Unit
abbrev bedrockref01_Turned.l0.τ : Type := (ByteArray × Unit)
def bedrockref01_Turned.l0.r (k : Nat) {ρ : Type} (x : bedrockref01_Turned.l0.σ) (kn : bedrockref01_Turned.l0.σ → Option ρ) (ke : bedrockref01_Turned.l0.τ → Option ρ) : Option ρ :=
  bif (decide (x.2.2.1 ≥ (0 : Int))) then (let v1 : Int := (IntKind.wrap IntKind.i64 (x.2.2.1 + (1 : Int)))
  bif (decide (((0 : Int) ≤ x.2.2.1) ∧ ((x.2.2.1 ≤ v1) ∧ (v1 ≤ (((ByteArray.size x.1) : Nat) : Int))))) then (let v2 : ByteArray := (ByteArray.extract x.1 (Int.toNat x.2.2.1) (Int.toNat v1))
  bif (Nat.ble ((ByteArray.size x.2.1) + (ByteArray.size v2)) 9223372036854775807) then (let v3 : ByteArray := (x.2.1 ++ v2)
  let v4 : Int := (IntKind.wrap IntKind.i64 (x.2.2.1 - (1 : Int)))
  kn (x.1, (v3, (v4, ())))) else (none)) else (none)) else (ke (x.2.1, ()))
def bedrockref01_Turned.l0 (k : Nat) : Nat → bedrockref01_Turned.l0.σ → Option bedrockref01_Turned.l0.τ := loopJ (bedrockref01_Turned.l0.r k)
def bedrockref01_Turned.l0.T : StT := ⟨.dat .str :: us 2 ++ .dat .str :: .dat (.int .i64) :: us 15, []⟩
def bedrockref01_Turned.l0.os : List Out := [⟨(.exit 0), [.mask [3], .auto 0], ⟨us 3 ++ .dat .str :: us 16, []⟩⟩]
def bedrockref01_Turned.c (k : Nat) {ρ : Type} (s : ByteArray) (K : ByteArray × Unit → Option ρ) : Option ρ :=
  let v0 : Int := (IntKind.wrap IntKind.i64 ((((ByteArray.size s) : Nat) : Int) - (1 : Int)))
  (bedrockref01_Turned.l0 k k (s, ((⟨(List.toArray [])⟩ : ByteArray), (v0, ())))).bind fun t5 => K (t5.1, ())
def bedrockref01_Turned (k : Nat) (s : ByteArray) : Option (ByteArray × Unit) := bedrockref01_Turned.c k s some
def bedrockref01_Turned.tin : List Ty := [.str]
def bedrockref01_Turned.tout : List Ty := [.str]
def bedrockref01_Turned.sem (k : Nat) : CallSem := callPure bedrockref01_Turned.tin bedrockref01_Turned.tout fun x => bedrockref01_Turned k x.1
noncomputable def bedrockref01_Turned.ctx (k : Nat) : Ctx := ⟨Try.prog, gam []⟩
theorem bedrockref01_Turned.gok (k : Nat) : ∀ f, SemOK Try.prog f ((bedrockref01_Turned.ctx k).Γ f) := gam_nil
theorem bedrockref01_Turned.l0.round (k : Nat) : RoundIs (bedrockref01_Turned.ctx k) (codeAt (Func.code Try.f45) [1, 1, 0, 1, 0, 0]) (.nil) bedrockref01_Turned.l0.T [.mask [0, 3, 4], .auto 0] bedrockref01_Turned.l0.os (bedrockref01_Turned.l0.r k) := by
  intro ρ x kn ke; kernel_rfl
theorem bedrockref01_Turned.l0.ok (k : Nat) : StOK 0 Try.prog (.loop (codeAt (Func.code Try.f45) [1, 1, 0, 1, 0, 0])) (pieceSem bedrockref01_Turned.l0.T bedrockref01_Turned.l0.os (bedrockref01_Turned.l0 k k)) :=
  loop_ok (C := bedrockref01_Turned.ctx k) (bedrockref01_Turned.gok k) Try.mix AnnOK.nil (by kernel_rfl) (by kernel_rfl) (by kernel_rfl) (bedrockref01_Turned.l0.round k) k
def bedrockref01_Turned.ann (k : Nat) : Ann := .node [] none (.nil) (.node [] none (.nil) (.node [] none (.node [] none (.nil) (.node [] none (.node [] (some (pieceSem bedrockref01_Turned.l0.T bedrockref01_Turned.l0.os (bedrockref01_Turned.l0 k k))) .nil .nil) (.nil))) (.nil)))
theorem bedrockref01_Turned.body (k : Nat) : BodyIs (bedrockref01_Turned.ctx k) Try.f45 (Func.code Try.f45) (bedrockref01_Turned.ann k) bedrockref01_Turned.tin bedrockref01_Turned.tout (fun x K => bedrockref01_Turned.c k x.1 K) := by
  intro ρ x K; kernel_rfl
theorem bedrockref01_Turned.sem_ok (k : Nat) : SemOK Try.prog 45 (bedrockref01_Turned.sem k) :=
  callPure_ok (C := bedrockref01_Turned.ctx k) (bedrockref01_Turned.gok k) Try.mix (c := Func.code Try.f45) (ann := bedrockref01_Turned.ann k) (tin := bedrockref01_Turned.tin) (tout := bedrockref01_Turned.tout) (fun x K => bedrockref01_Turned.c k x.1 K) Try.func45 (by kernel_rfl) (by kernel_rfl) (AnnOK.seq AnnOK.nil (AnnOK.seq AnnOK.nil (AnnOK.seq (AnnOK.seq AnnOK.nil (AnnOK.block (AnnOK.loop (by kernel_rfl) (bedrockref01_Turned.l0.ok k)))) AnnOK.nil))) (bedrockref01_Turned.body k)

/-! 41 bedrock/bedrockref01.Parse -/
abbrev bedrockref01_Parse.l0.σ : Type := ByteArray × Int × Unit
abbrev bedrockref01_Parse.l0.τ : Type := (ByteArray × Int × Unit) ⊕ (ByteArray × Unit)
def bedrockref01_Parse.l0.r (k : Nat) {ρ : Type} (x : bedrockref01_Parse.l0.σ) (kn : bedrockref01_Parse.l0.σ → Option ρ) (ke : bedrockref01_Parse.l0.τ → Option ρ) : Option ρ :=
  let v0 : Int := (((ByteArray.size x.1) : Nat) : Int)
  bif (decide (x.2.1 < v0)) then (bif (x.2.1 == (64 : Int)) then (ke (.inl ((⟨(List.toArray [])⟩ : ByteArray), (x.2.1, ())))) else (bif (decide (((0 : Int) ≤ x.2.1) ∧ (x.2.1 < (((ByteArray.size x.1) : Nat) : Int)))) then (let v1 : Int := (byteAt x.1 (Int.toNat x.2.1))
  (bedrockref01_value k v1).bind fun t2 => bif (t2.1 == (16 : Int)) then (ke (.inl ((⟨(List.toArray [])⟩ : ByteArray), (x.2.1, ())))) else (let v3 : Int := (IntKind.wrap IntKind.i64 (x.2.1 + (1 : Int)))
  kn (x.1, (v3, ())))) else (none))) else (ke (.inr (x.1, ())))
def bedrockref01_Parse.l0 (k : Nat) : Nat → bedrockref01_Parse.l0.σ → Option bedrockref01_Parse.l0.τ := loopJ (bedrockref01_Parse.l0.r k)
def bedrockref01_Parse.l0.T : StT := ⟨.dat .str :: us 3 ++ .dat (.int .i64) :: us 30, []⟩
def bedrockref01_Parse.l0.os : List Out := [⟨.ret, [.mask [2, 3], .auto 0], ⟨us 2 ++ .dat .str :: .dat (.int .i64) :: us 31, []⟩⟩, ⟨(.exit 0), [.mask [0], .auto 0], ⟨.dat .str :: us 34, []⟩⟩]
def bedrockref01_Parse.c (k : Nat) {ρ : Type} (s : ByteArray) (K : ByteArray × Int × Unit → Option ρ) : Option ρ :=
  (bedrockref01_Parse.l0 k k (s, ((0 : Int), ()))).bind fun t4 => (match t4 with | .inl t5 => (K (t5.1, (t5.2.1, ()))) | .inr (t6) => (let v7 : Int := (((ByteArray.size t6.1) : Nat) : Int)
  bif (decide (v7 < (64 : Int))) then (let v8 : Int := (((ByteArray.size t6.1) : Nat) : Int)
  K ((⟨(List.toArray [])⟩ : ByteArray), (v8, ()))) else ((bedrockref01_Unhex k t6.1).bind fun t9 => let v10 : ByteArray := t9.1
  let v11 : Int := t9.2.1
  (bedrockref01_Turned k v10).bind fun t12 => K (t12.1, ((-(1 : Int)), ())))))
def bedrockref01_Parse (k : Nat) (s : ByteArray) : Option (ByteArray × Int × Unit) := bedrockref01_Parse.c k s some
def bedrockref01_Parse.tin : List Ty := [.str]
def bedrockref01_Parse.tout : List Ty := [.str, (.int .i64)]
def bedrockref01_Parse.sem (k : Nat) : CallSem := callPure bedrockref01_Parse.tin bedrockref01_Parse.tout fun x => bedrockref01_Parse k x.1
noncomputable def bedrockref01_Parse.ctx (k : Nat) : Ctx := ⟨Try.prog, gam [(89, (bedrockref01_value.sem k)), (39, (bedrockref01_Unhex.sem k)), (45, (bedrockref01_Turned.sem k))]⟩
theorem bedrockref01_Parse.gok (k : Nat) : ∀ f, SemOK Try.prog f ((bedrockref01_Parse.ctx k).Γ f) := (gam_cons (bedrockref01_value.sem_ok k) (gam_cons (bedrockref01_Unhex.sem_ok k) (gam_cons (bedrockref01_Turned.sem_ok k) gam_nil)))
theorem bedrockref01_Parse.l0.round (k : Nat) : RoundIs (bedrockref01_Parse.ctx k) (codeAt (Func.code Try.f41) [1, 0, 1, 0, 0]) (.nil) bedrockref01_Parse.l0.T [.mask [0, 4], .auto 0] bedrockref01_Parse.l0.os (bedrockref01_Parse.l0.r k) := by
  intro ρ x kn ke; kernel_rfl
theorem bedrockref01_Parse.l0.ok (k : Nat) : StOK 0 Try.prog (.loop (codeAt (Func.code Try.f41) [1, 0, 1, 0, 0])) (pieceSem bedrockref01_Parse.l0.T bedrockref01_Parse.l0.os (bedrockref01_Parse.l0 k k)) :=
  loop_ok (C := bedrockref01_Parse.ctx k) (bedrockref01_Parse.gok k) Try.mix AnnOK.nil (by kernel_rfl) (by kernel_rfl) (by kernel_rfl) (bedrockref01_Parse.l0.round k) k
def bedrockref01_Parse.ann (k : Nat) : Ann := .node [] none (.nil) (.node [] none (.node [] none (.nil) (.node [] none (.node [] (some (pieceSem bedrockref01_Parse.l0.T bedrockref01_Parse.l0.os (bedrockref01_Parse.l0 k k))) .nil .nil) (.nil))) (.nil))
theorem bedrockref01_Parse.body (k : Nat) : BodyIs (bedrockref01_Parse.ctx k) Try.f41 (Func.code Try.f41) (bedrockref01_Parse.ann k) bedrockref01_Parse.tin bedrockref01_Parse.tout (fun x K => bedrockref01_Parse.c k x.1 K) := by
  intro ρ x K; kernel_rfl
theorem bedrockref01_Parse.sem_ok (k : Nat) : SemOK Try.prog 41 (bedrockref01_Parse.sem k) :=
  callPure_ok (C := bedrockref01_Parse.ctx k) (bedrockref01_Parse.gok k) Try.mix (c := Func.code Try.f41) (ann := bedrockref01_Parse.ann k) (tin := bedrockref01_Parse.tin) (tout := bedrockref01_Parse.tout) (fun x K => bedrockref01_Parse.c k x.1 K) Try.func41 (by kernel_rfl) (by kernel_rfl) (AnnOK.seq AnnOK.nil (AnnOK.seq (AnnOK.seq AnnOK.nil (AnnOK.block (AnnOK.loop (by kernel_rfl) (bedrockref01_Parse.l0.ok k)))) AnnOK.nil)) (bedrockref01_Parse.body k)

/-! 42 bedrock/num.Text -/
def num_Text.c (k : Nat) {ρ : Type} (h : (List Int)) (K : ByteArray × Unit → Option ρ) : Option ρ :=
  (num_turned k h).bind fun t0 => let v1 : ByteArray := (bytesOf (List.take 32 (List.drop 0 t0.1)))
  (num_Hex k v1).bind fun t2 => K (t2.1, ())
def num_Text (k : Nat) (h : (List Int)) : Option (ByteArray × Unit) := num_Text.c k h some
def num_Text.tin : List Ty := [(.arr 32 (.int .u8))]
def num_Text.tout : List Ty := [.str]
def num_Text.sem (k : Nat) : CallSem := callPure num_Text.tin num_Text.tout fun x => num_Text k x.1
noncomputable def num_Text.ctx (k : Nat) : Ctx := ⟨Try.prog, gam [(90, (num_turned.sem k)), (43, (num_Hex.sem k))]⟩
theorem num_Text.gok (k : Nat) : ∀ f, SemOK Try.prog f ((num_Text.ctx k).Γ f) := (gam_cons (num_turned.sem_ok k) (gam_cons (num_Hex.sem_ok k) gam_nil))
def num_Text.ann (k : Nat) : Ann := .nil
theorem num_Text.body (k : Nat) : BodyIs (num_Text.ctx k) Try.f42 (Func.code Try.f42) (num_Text.ann k) num_Text.tin num_Text.tout (fun x K => num_Text.c k x.1 K) := by
  intro ρ x K; kernel_rfl
theorem num_Text.sem_ok (k : Nat) : SemOK Try.prog 42 (num_Text.sem k) :=
  callPure_ok (C := num_Text.ctx k) (num_Text.gok k) Try.mix (c := Func.code Try.f42) (ann := num_Text.ann k) (tin := num_Text.tin) (tout := num_Text.tout) (fun x K => num_Text.c k x.1 K) Try.func42 (by kernel_rfl) (by kernel_rfl) AnnOK.nil (num_Text.body k)

/-! 91 bedrock/bedrockref01.digit -/
def bedrockref01_digit.c (k : Nat) {ρ : Type} (n : Int) (K : ByteArray × Unit → Option ρ) : Option ρ :=
  let v0 : Int := (IntKind.wrap IntKind.u8 (n + (1 : Int)))
  bif (decide (((0 : Int) ≤ n) ∧ ((n ≤ v0) ∧ (v0 ≤ ((16 : Nat) : Int))))) then (let v1 : ByteArray := (ByteArray.extract (⟨(List.toArray [48, 49, 50, 51, 52, 53, 54, 55, 56, 57, 97, 98, 99, 100, 101, 102])⟩ : ByteArray) (Int.toNat n) (Int.toNat v0))
  K (v1, ())) else (none)
def bedrockref01_digit (k : Nat) (n : Int) : Option (ByteArray × Unit) := bedrockref01_digit.c k n some
def bedrockref01_digit.tin : List Ty := [(.int .u8)]
def bedrockref01_digit.tout : List Ty := [.str]
def bedrockref01_digit.sem (k : Nat) : CallSem := callPure bedrockref01_digit.tin bedrockref01_digit.tout fun x => bedrockref01_digit k x.1
noncomputable def bedrockref01_digit.ctx (k : Nat) : Ctx := ⟨Try.prog, gam []⟩
theorem bedrockref01_digit.gok (k : Nat) : ∀ f, SemOK Try.prog f ((bedrockref01_digit.ctx k).Γ f) := gam_nil
def bedrockref01_digit.ann (k : Nat) : Ann := .nil
theorem bedrockref01_digit.body (k : Nat) : BodyIs (bedrockref01_digit.ctx k) Try.f91 (Func.code Try.f91) (bedrockref01_digit.ann k) bedrockref01_digit.tin bedrockref01_digit.tout (fun x K => bedrockref01_digit.c k x.1 K) := by
  intro ρ x K; kernel_rfl
theorem bedrockref01_digit.sem_ok (k : Nat) : SemOK Try.prog 91 (bedrockref01_digit.sem k) :=
  callPure_ok (C := bedrockref01_digit.ctx k) (bedrockref01_digit.gok k) Try.mix (c := Func.code Try.f91) (ann := bedrockref01_digit.ann k) (tin := bedrockref01_digit.tin) (tout := bedrockref01_digit.tout) (fun x K => bedrockref01_digit.c k x.1 K) Try.func91 (by kernel_rfl) (by kernel_rfl) AnnOK.nil (bedrockref01_digit.body k)

/-! 44 bedrock/bedrockref01.Hex -/
abbrev bedrockref01_Hex.l0.σ : Type := ByteArray × ByteArray × Int × Unit
abbrev bedrockref01_Hex.l0.τ : Type := (ByteArray × Unit)
def bedrockref01_Hex.l0.r (k : Nat) {ρ : Type} (x : bedrockref01_Hex.l0.σ) (kn : bedrockref01_Hex.l0.σ → Option ρ) (ke : bedrockref01_Hex.l0.τ → Option ρ) : Option ρ :=
  let v0 : Int := (((ByteArray.size x.1) : Nat) : Int)
  bif (decide (x.2.2.1 < v0)) then (bif (decide (((0 : Int) ≤ x.2.2.1) ∧ (x.2.2.1 < (((ByteArray.size x.1) : Nat) : Int)))) then (let v1 : Int := (byteAt x.1 (Int.toNat x.2.2.1))
  let v2 : Int := (IntKind.wrap IntKind.u8 (Int.tdiv v1 (16 : Int)))
  (bedrockref01_digit k v2).bind fun t3 => bif (decide (((0 : Int) ≤ x.2.2.1) ∧ (x.2.2.1 < (((ByteArray.size x.1) : Nat) : Int)))) then (let v4 : Int := (byteAt x.1 (Int.toNat x.2.2.1))
  (bedrockref01_digit k (Int.tmod v4 (16 : Int))).bind fun t5 => bif (Nat.ble ((ByteArray.size t3.1) + (ByteArray.size t5.1)) 9223372036854775807) then (let v6 : ByteArray := (t3.1 ++ t5.1)
  bif (Nat.ble ((ByteArray.size x.2.1) + (ByteArray.size v6)) 9223372036854775807) then (let v7 : ByteArray := (x.2.1 ++ v6)
  let v8 : Int := (IntKind.wrap IntKind.i64 (x.2.2.1 + (1 : Int)))
  kn (x.1, (v7, (v8, ())))) else (none)) else (none)) else (none)) else (none)) else (ke (x.2.1, ()))
def bedrockref01_Hex.l0 (k : Nat) : Nat → bedrockref01_Hex.l0.σ → Option bedrockref01_Hex.l0.τ := loopJ (bedrockref01_Hex.l0.r k)
def bedrockref01_Hex.l0.T : StT := ⟨.dat .str :: us 2 ++ .dat .str :: .dat (.int .i64) :: us 20, []⟩
def bedrockref01_Hex.l0.os : List Out := [⟨(.exit 0), [.mask [3], .auto 0], ⟨us 3 ++ .dat .str :: us 21, []⟩⟩]
def bedrockref01_Hex.c (k : Nat) {ρ : Type} (s : ByteArray) (K : ByteArray × Unit → Option ρ) : Option ρ :=
  (bedrockref01_Hex.l0 k k (s, ((⟨(List.toArray [])⟩ : ByteArray), ((0 : Int), ())))).bind fun t9 => K (t9.1, ())
def bedrockref01_Hex (k : Nat) (s : ByteArray) : Option (ByteArray × Unit) := bedrockref01_Hex.c k s some
def bedrockref01_Hex.tin : List Ty := [.str]
def bedrockref01_Hex.tout : List Ty := [.str]
def bedrockref01_Hex.sem (k : Nat) : CallSem := callPure bedrockref01_Hex.tin bedrockref01_Hex.tout fun x => bedrockref01_Hex k x.1
noncomputable def bedrockref01_Hex.ctx (k : Nat) : Ctx := ⟨Try.prog, gam [(91, (bedrockref01_digit.sem k))]⟩
theorem bedrockref01_Hex.gok (k : Nat) : ∀ f, SemOK Try.prog f ((bedrockref01_Hex.ctx k).Γ f) := (gam_cons (bedrockref01_digit.sem_ok k) gam_nil)
theorem bedrockref01_Hex.l0.round (k : Nat) : RoundIs (bedrockref01_Hex.ctx k) (codeAt (Func.code Try.f44) [1, 1, 0, 1, 0, 0]) (.nil) bedrockref01_Hex.l0.T [.mask [0, 3, 4], .auto 0] bedrockref01_Hex.l0.os (bedrockref01_Hex.l0.r k) := by
  intro ρ x kn ke; kernel_rfl
theorem bedrockref01_Hex.l0.ok (k : Nat) : StOK 0 Try.prog (.loop (codeAt (Func.code Try.f44) [1, 1, 0, 1, 0, 0])) (pieceSem bedrockref01_Hex.l0.T bedrockref01_Hex.l0.os (bedrockref01_Hex.l0 k k)) :=
  loop_ok (C := bedrockref01_Hex.ctx k) (bedrockref01_Hex.gok k) Try.mix AnnOK.nil (by kernel_rfl) (by kernel_rfl) (by kernel_rfl) (bedrockref01_Hex.l0.round k) k
def bedrockref01_Hex.ann (k : Nat) : Ann := .node [] none (.nil) (.node [] none (.nil) (.node [] none (.node [] none (.nil) (.node [] none (.node [] (some (pieceSem bedrockref01_Hex.l0.T bedrockref01_Hex.l0.os (bedrockref01_Hex.l0 k k))) .nil .nil) (.nil))) (.nil)))
theorem bedrockref01_Hex.body (k : Nat) : BodyIs (bedrockref01_Hex.ctx k) Try.f44 (Func.code Try.f44) (bedrockref01_Hex.ann k) bedrockref01_Hex.tin bedrockref01_Hex.tout (fun x K => bedrockref01_Hex.c k x.1 K) := by
  intro ρ x K; kernel_rfl
theorem bedrockref01_Hex.sem_ok (k : Nat) : SemOK Try.prog 44 (bedrockref01_Hex.sem k) :=
  callPure_ok (C := bedrockref01_Hex.ctx k) (bedrockref01_Hex.gok k) Try.mix (c := Func.code Try.f44) (ann := bedrockref01_Hex.ann k) (tin := bedrockref01_Hex.tin) (tout := bedrockref01_Hex.tout) (fun x K => bedrockref01_Hex.c k x.1 K) Try.func44 (by kernel_rfl) (by kernel_rfl) (AnnOK.seq AnnOK.nil (AnnOK.seq AnnOK.nil (AnnOK.seq (AnnOK.seq AnnOK.nil (AnnOK.block (AnnOK.loop (by kernel_rfl) (bedrockref01_Hex.l0.ok k)))) AnnOK.nil))) (bedrockref01_Hex.body k)

/-! 114 cmp.isNaN[byte] -/
def cmp_isNaN_byte.c (k : Nat) {ρ : Type} (x_0 : Int) (K : Bool × Unit → Option ρ) : Option ρ :=
  K ((x_0 != x_0), ())
def cmp_isNaN_byte (k : Nat) (x_0 : Int) : Option (Bool × Unit) := cmp_isNaN_byte.c k x_0 some
def cmp_isNaN_byte.tin : List Ty := [(.int .u8)]
def cmp_isNaN_byte.tout : List Ty := [.bool]
def cmp_isNaN_byte.sem (k : Nat) : CallSem := callPure cmp_isNaN_byte.tin cmp_isNaN_byte.tout fun x => cmp_isNaN_byte k x.1
noncomputable def cmp_isNaN_byte.ctx (k : Nat) : Ctx := ⟨Try.prog, gam []⟩
theorem cmp_isNaN_byte.gok (k : Nat) : ∀ f, SemOK Try.prog f ((cmp_isNaN_byte.ctx k).Γ f) := gam_nil
def cmp_isNaN_byte.ann (k : Nat) : Ann := .nil
theorem cmp_isNaN_byte.body (k : Nat) : BodyIs (cmp_isNaN_byte.ctx k) Try.f114 (Func.code Try.f114) (cmp_isNaN_byte.ann k) cmp_isNaN_byte.tin cmp_isNaN_byte.tout (fun x K => cmp_isNaN_byte.c k x.1 K) := by
  intro ρ x K; kernel_rfl
theorem cmp_isNaN_byte.sem_ok (k : Nat) : SemOK Try.prog 114 (cmp_isNaN_byte.sem k) :=
  callPure_ok (C := cmp_isNaN_byte.ctx k) (cmp_isNaN_byte.gok k) Try.mix (c := Func.code Try.f114) (ann := cmp_isNaN_byte.ann k) (tin := cmp_isNaN_byte.tin) (tout := cmp_isNaN_byte.tout) (fun x K => cmp_isNaN_byte.c k x.1 K) Try.func114 (by kernel_rfl) (by kernel_rfl) AnnOK.nil (cmp_isNaN_byte.body k)

/-! 92 cmp.Compare[byte] -/
def cmp_Compare_byte.c (k : Nat) {ρ : Type} (x_0 : Int) (y : Int) (K : Int × Unit → Option ρ) : Option ρ :=
  (cmp_isNaN_byte k x_0).bind fun t0 => (cmp_isNaN_byte k y).bind fun t1 => bif t0.1 then (bif t1.1 then (K ((0 : Int), ())) else (K ((-(1 : Int)), ()))) else (bif t1.1 then (K ((1 : Int), ())) else (bif (decide (x_0 < y)) then (K ((-(1 : Int)), ())) else (bif (decide (x_0 > y)) then (K ((1 : Int), ())) else (K ((0 : Int), ())))))
def cmp_Compare_byte (k : Nat) (x_0 : Int) (y : Int) : Option (Int × Unit) := cmp_Compare_byte.c k x_0 y some
def cmp_Compare_byte.tin : List Ty := [(.int .u8), (.int .u8)]
def cmp_Compare_byte.tout : List Ty := [(.int .i64)]
def cmp_Compare_byte.sem (k : Nat) : CallSem := callPure cmp_Compare_byte.tin cmp_Compare_byte.tout fun x => cmp_Compare_byte k x.1 x.2.1
noncomputable def cmp_Compare_byte.ctx (k : Nat) : Ctx := ⟨Try.prog, gam [(114, (cmp_isNaN_byte.sem k))]⟩
theorem cmp_Compare_byte.gok (k : Nat) : ∀ f, SemOK Try.prog f ((cmp_Compare_byte.ctx k).Γ f) := (gam_cons (cmp_isNaN_byte.sem_ok k) gam_nil)
def cmp_Compare_byte.ann (k : Nat) : Ann := .nil
theorem cmp_Compare_byte.body (k : Nat) : BodyIs (cmp_Compare_byte.ctx k) Try.f92 (Func.code Try.f92) (cmp_Compare_byte.ann k) cmp_Compare_byte.tin cmp_Compare_byte.tout (fun x K => cmp_Compare_byte.c k x.1 x.2.1 K) := by
  intro ρ x K; kernel_rfl
theorem cmp_Compare_byte.sem_ok (k : Nat) : SemOK Try.prog 92 (cmp_Compare_byte.sem k) :=
  callPure_ok (C := cmp_Compare_byte.ctx k) (cmp_Compare_byte.gok k) Try.mix (c := Func.code Try.f92) (ann := cmp_Compare_byte.ann k) (tin := cmp_Compare_byte.tin) (tout := cmp_Compare_byte.tout) (fun x K => cmp_Compare_byte.c k x.1 x.2.1 K) Try.func92 (by kernel_rfl) (by kernel_rfl) AnnOK.nil (cmp_Compare_byte.body k)

/-! 46 bedrock/num.Compare -/
abbrev num_Compare.l0.σ : Type := Int × (List Int) × (List Int) × Unit
abbrev num_Compare.l0.τ : Type := (Int × Unit) ⊕ (Unit)
def num_Compare.l0.r (k : Nat) {ρ : Type} (x : num_Compare.l0.σ) (kn : num_Compare.l0.σ → Option ρ) (ke : num_Compare.l0.τ → Option ρ) : Option ρ :=
  bif (decide (x.1 ≥ (0 : Int))) then (bif (decide (((0 : Int) ≤ x.1) ∧ (x.1 < ((32 : Nat) : Int)))) then (let v0 : Int := (List.getD x.2.1 (Int.toNat x.1) (0 : Int))
  bif (decide (((0 : Int) ≤ x.1) ∧ (x.1 < ((32 : Nat) : Int)))) then (let v1 : Int := (List.getD x.2.2.1 (Int.toNat x.1) (0 : Int))
  (cmp_Compare_byte k v0 v1).bind fun t2 => bif (t2.1 != (0 : Int)) then (ke (.inl (t2.1, ()))) else (let v3 : Int := (IntKind.wrap IntKind.i64 (x.1 - (1 : Int)))
  kn (v3, (x.2.1, (x.2.2.1, ()))))) else (none)) else (none)) else (ke (.inr ()))
def num_Compare.l0 (k : Nat) : Nat → num_Compare.l0.σ → Option num_Compare.l0.τ := loopJ (num_Compare.l0.r k)
def num_Compare.l0.T : StT := ⟨us 2 ++ .ptr 0 [] :: .ptr 1 [] :: us 1 ++ .dat (.int .i64) :: us 15, [.dat (.arr 32 (.int .u8)), .dat (.arr 32 (.int .u8))]⟩
def num_Compare.l0.os : List Out := [⟨.ret, [.mask [4], .auto 0], ⟨us 4 ++ .dat (.int .i64) :: us 16, []⟩⟩, ⟨(.exit 0), [.mask [], .auto 0], ⟨us 21, []⟩⟩]
def num_Compare.c (k : Nat) {ρ : Type} (a : (List Int)) (b : (List Int)) (K : Int × Unit → Option ρ) : Option ρ :=
  (num_Compare.l0 k k ((31 : Int), (a, (b, ())))).bind fun t4 => (match t4 with | .inl t5 => (K (t5.1, ())) | .inr (t6) => (K ((0 : Int), ())))
def num_Compare (k : Nat) (a : (List Int)) (b : (List Int)) : Option (Int × Unit) := num_Compare.c k a b some
def num_Compare.tin : List Ty := [(.arr 32 (.int .u8)), (.arr 32 (.int .u8))]
def num_Compare.tout : List Ty := [(.int .i64)]
def num_Compare.sem (k : Nat) : CallSem := callPure num_Compare.tin num_Compare.tout fun x => num_Compare k x.1 x.2.1
noncomputable def num_Compare.ctx (k : Nat) : Ctx := ⟨Try.prog, gam [(92, (cmp_Compare_byte.sem k))]⟩
theorem num_Compare.gok (k : Nat) : ∀ f, SemOK Try.prog f ((num_Compare.ctx k).Γ f) := (gam_cons (cmp_Compare_byte.sem_ok k) gam_nil)
theorem num_Compare.l0.round (k : Nat) : RoundIs (num_Compare.ctx k) (codeAt (Func.code Try.f46) [1, 0, 1, 0, 0]) (.nil) num_Compare.l0.T [.mask [2, 3, 5], .auto 0] num_Compare.l0.os (num_Compare.l0.r k) := by
  intro ρ x kn ke; kernel_rfl
theorem num_Compare.l0.ok (k : Nat) : StOK 0 Try.prog (.loop (codeAt (Func.code Try.f46) [1, 0, 1, 0, 0])) (pieceSem num_Compare.l0.T num_Compare.l0.os (num_Compare.l0 k k)) :=
  loop_ok (C := num_Compare.ctx k) (num_Compare.gok k) Try.mix AnnOK.nil (by kernel_rfl) (by kernel_rfl) (by kernel_rfl) (num_Compare.l0.round k) k
def num_Compare.ann (k : Nat) : Ann := .node [] none (.nil) (.node [] none (.node [] none (.nil) (.node [] none (.node [.mask [2, 3, 5], .auto 0] (some (pieceSem num_Compare.l0.T num_Compare.l0.os (num_Compare.l0 k k))) .nil .nil) (.nil))) (.nil))
theorem num_Compare.body (k : Nat) : BodyIs (num_Compare.ctx k) Try.f46 (Func.code Try.f46) (num_Compare.ann k) num_Compare.tin num_Compare.tout (fun x K => num_Compare.c k x.1 x.2.1 K) := by
  intro ρ x K; kernel_rfl
theorem num_Compare.sem_ok (k : Nat) : SemOK Try.prog 46 (num_Compare.sem k) :=
  callPure_ok (C := num_Compare.ctx k) (num_Compare.gok k) Try.mix (c := Func.code Try.f46) (ann := num_Compare.ann k) (tin := num_Compare.tin) (tout := num_Compare.tout) (fun x K => num_Compare.c k x.1 x.2.1 K) Try.func46 (by kernel_rfl) (by kernel_rfl) (AnnOK.seq AnnOK.nil (AnnOK.seq (AnnOK.seq AnnOK.nil (AnnOK.block (AnnOK.loop (by kernel_rfl) (num_Compare.l0.ok k)))) AnnOK.nil)) (num_Compare.body k)

/-! 47 bedrock/bedrockref01.Compare -/
abbrev bedrockref01_Compare.l0.σ : Type := ByteArray × ByteArray × Int × Unit
abbrev bedrockref01_Compare.l0.τ : Type := (Int × Unit) ⊕ (Unit)
def bedrockref01_Compare.l0.r (k : Nat) {ρ : Type} (x : bedrockref01_Compare.l0.σ) (kn : bedrockref01_Compare.l0.σ → Option ρ) (ke : bedrockref01_Compare.l0.τ → Option ρ) : Option ρ :=
  bif (decide (x.2.2.1 ≥ (0 : Int))) then (bif (decide (((0 : Int) ≤ x.2.2.1) ∧ (x.2.2.1 < (((ByteArray.size x.1) : Nat) : Int)))) then (let v1 : Int := (byteAt x.1 (Int.toNat x.2.2.1))
  bif (decide (((0 : Int) ≤ x.2.2.1) ∧ (x.2.2.1 < (((ByteArray.size x.2.1) : Nat) : Int)))) then (let v2 : Int := (byteAt x.2.1 (Int.toNat x.2.2.1))
  bif (decide (v1 < v2)) then (ke (.inl ((-(1 : Int)), ()))) else (bif (decide (((0 : Int) ≤ x.2.2.1) ∧ (x.2.2.1 < (((ByteArray.size x.1) : Nat) : Int)))) then (let v3 : Int := (byteAt x.1 (Int.toNat x.2.2.1))
  bif (decide (((0 : Int) ≤ x.2.2.1) ∧ (x.2.2.1 < (((ByteArray.size x.2.1) : Nat) : Int)))) then (let v4 : Int := (byteAt x.2.1 (Int.toNat x.2.2.1))
  bif (decide (v3 > v4)) then (ke (.inl ((1 : Int), ()))) else (let v5 : Int := (IntKind.wrap IntKind.i64 (x.2.2.1 - (1 : Int)))
  kn (x.1, (x.2.1, (v5, ()))))) else (none)) else (none))) else (none)) else (none)) else (ke (.inr ()))
def bedrockref01_Compare.l0 (k : Nat) : Nat → bedrockref01_Compare.l0.σ → Option bedrockref01_Compare.l0.τ := loopJ (bedrockref01_Compare.l0.r k)
def bedrockref01_Compare.l0.T : StT := ⟨.dat .str :: .dat .str :: us 3 ++ .dat (.int .i64) :: us 21, []⟩
def bedrockref01_Compare.l0.os : List Out := [⟨.ret, [.mask [4], .auto 0], ⟨us 4 ++ .dat (.int .i64) :: us 22, []⟩⟩, ⟨(.exit 0), [.mask [], .auto 0], ⟨us 27, []⟩⟩]
def bedrockref01_Compare.c (k : Nat) {ρ : Type} (a : ByteArray) (b : ByteArray) (K : Int × Unit → Option ρ) : Option ρ :=
  let v0 : Int := (IntKind.wrap IntKind.i64 ((((ByteArray.size a) : Nat) : Int) - (1 : Int)))
  (bedrockref01_Compare.l0 k k (a, (b, (v0, ())))).bind fun t6 => (match t6 with | .inl t7 => (K (t7.1, ())) | .inr (t8) => (K ((0 : Int), ())))
def bedrockref01_Compare (k : Nat) (a : ByteArray) (b : ByteArray) : Option (Int × Unit) := bedrockref01_Compare.c k a b some
def bedrockref01_Compare.tin : List Ty := [.str, .str]
def bedrockref01_Compare.tout : List Ty := [(.int .i64)]
def bedrockref01_Compare.sem (k : Nat) : CallSem := callPure bedrockref01_Compare.tin bedrockref01_Compare.tout fun x => bedrockref01_Compare k x.1 x.2.1
noncomputable def bedrockref01_Compare.ctx (k : Nat) : Ctx := ⟨Try.prog, gam []⟩
theorem bedrockref01_Compare.gok (k : Nat) : ∀ f, SemOK Try.prog f ((bedrockref01_Compare.ctx k).Γ f) := gam_nil
theorem bedrockref01_Compare.l0.round (k : Nat) : RoundIs (bedrockref01_Compare.ctx k) (codeAt (Func.code Try.f47) [1, 0, 1, 0, 0]) (.nil) bedrockref01_Compare.l0.T [.mask [0, 1, 5], .auto 0] bedrockref01_Compare.l0.os (bedrockref01_Compare.l0.r k) := by
  intro ρ x kn ke; kernel_rfl
theorem bedrockref01_Compare.l0.ok (k : Nat) : StOK 0 Try.prog (.loop (codeAt (Func.code Try.f47) [1, 0, 1, 0, 0])) (pieceSem bedrockref01_Compare.l0.T bedrockref01_Compare.l0.os (bedrockref01_Compare.l0 k k)) :=
  loop_ok (C := bedrockref01_Compare.ctx k) (bedrockref01_Compare.gok k) Try.mix AnnOK.nil (by kernel_rfl) (by kernel_rfl) (by kernel_rfl) (bedrockref01_Compare.l0.round k) k
def bedrockref01_Compare.ann (k : Nat) : Ann := .node [] none (.nil) (.node [] none (.node [] none (.nil) (.node [] none (.node [] (some (pieceSem bedrockref01_Compare.l0.T bedrockref01_Compare.l0.os (bedrockref01_Compare.l0 k k))) .nil .nil) (.nil))) (.nil))
theorem bedrockref01_Compare.body (k : Nat) : BodyIs (bedrockref01_Compare.ctx k) Try.f47 (Func.code Try.f47) (bedrockref01_Compare.ann k) bedrockref01_Compare.tin bedrockref01_Compare.tout (fun x K => bedrockref01_Compare.c k x.1 x.2.1 K) := by
  intro ρ x K; kernel_rfl
theorem bedrockref01_Compare.sem_ok (k : Nat) : SemOK Try.prog 47 (bedrockref01_Compare.sem k) :=
  callPure_ok (C := bedrockref01_Compare.ctx k) (bedrockref01_Compare.gok k) Try.mix (c := Func.code Try.f47) (ann := bedrockref01_Compare.ann k) (tin := bedrockref01_Compare.tin) (tout := bedrockref01_Compare.tout) (fun x K => bedrockref01_Compare.c k x.1 x.2.1 K) Try.func47 (by kernel_rfl) (by kernel_rfl) (AnnOK.seq AnnOK.nil (AnnOK.seq (AnnOK.seq AnnOK.nil (AnnOK.block (AnnOK.loop (by kernel_rfl) (bedrockref01_Compare.l0.ok k)))) AnnOK.nil)) (bedrockref01_Compare.body k)

/-! 9 bedrock/bedrocklaw01.NumTexts -/
abbrev bedrocklaw01_NumTexts.p0.σ : Type := ByteArray × ByteArray × Int × Int × ByteArray × Int × Int × Int × ByteArray × Int × (List Int) × (List Int) × (List Int) × Unit
abbrev bedrocklaw01_NumTexts.p0.τ : Type := (Bool × Unit) ⊕ (ByteArray × Int × Int × ByteArray × Int × (List Int) × (List Int) × (List Int) × Unit)
def bedrocklaw01_NumTexts.p0.r (k : Nat) {ρ : Type} (x : bedrocklaw01_NumTexts.p0.σ) (K : bedrocklaw01_NumTexts.p0.τ → Option ρ) : Option ρ :=
  (bedrocklaw01_awake k ).bind fun t14 => bif (!t14.1) then (K (.inl (false, ()))) else (bif (!(strEq x.2.1 x.2.2.2.2.1)) then (K (.inl (false, ()))) else (bif (!((x.2.2.2.1 == (0 : Int)) == (decide (x.2.2.2.2.2.1 < (0 : Int))))) then (K (.inl (false, ()))) else (bif (decide (x.2.2.2.2.2.1 ≥ (0 : Int))) then (bif (x.2.2.2.1 != (10 : Int)) then (K (.inl (false, ()))) else (bif (x.2.2.1 != x.2.2.2.2.2.1) then (K (.inl (false, ()))) else (bif (decide (x.2.2.2.2.2.1 < (0 : Int))) then (bif (x.2.2.1 != (0 : Int)) then (K (.inl (false, ()))) else (K (.inr (x.1, (x.2.2.2.2.2.2.1, (x.2.2.2.2.2.2.2.1, (x.2.2.2.2.2.2.2.2.1, (x.2.2.2.2.2.2.2.2.2.1, (x.2.2.2.2.2.2.2.2.2.2.1, (x.2.2.2.2.2.2.2.2.2.2.2.1, (x.2.2.2.2.2.2.2.2.2.2.2.2.1, ()))))))))))) else (K (.inr (x.1, (x.2.2.2.2.2.2.1, (x.2.2.2.2.2.2.2.1, (x.2.2.2.2.2.2.2.2.1, (x.2.2.2.2.2.2.2.2.2.1, (x.2.2.2.2.2.2.2.2.2.2.1, (x.2.2.2.2.2.2.2.2.2.2.2.1, (x.2.2.2.2.2.2.2.2.2.2.2.2.1, ()))))))))))))) else (bif (decide (x.2.2.2.2.2.1 < (0 : Int))) then (bif (x.2.2.1 != (0 : Int)) then (K (.inl (false, ()))) else (K (.inr (x.1, (x.2.2.2.2.2.2.1, (x.2.2.2.2.2.2.2.1, (x.2.2.2.2.2.2.2.2.1, (x.2.2.2.2.2.2.2.2.2.1, (x.2.2.2.2.2.2.2.2.2.2.1, (x.2.2.2.2.2.2.2.2.2.2.2.1, (x.2.2.2.2.2.2.2.2.2.2.2.2.1, ()))))))))))) else (K (.inr (x.1, (x.2.2.2.2.2.2.1, (x.2.2.2.2.2.2.2.1, (x.2.2.2.2.2.2.2.2.1, (x.2.2.2.2.2.2.2.2.2.1, (x.2.2.2.2.2.2.2.2.2.2.1, (x.2.2.2.2.2.2.2.2.2.2.2.1, (x.2.2.2.2.2.2.2.2.2.2.2.2.1, ()))))))))))))))
def bedrocklaw01_NumTexts.p0 (k : Nat) (x : bedrocklaw01_NumTexts.p0.σ) : Option bedrocklaw01_NumTexts.p0.τ := bedrocklaw01_NumTexts.p0.r k x some
def bedrocklaw01_NumTexts.p0.T : StT := ⟨.dat .str :: us 3 ++ .ptr 0 [] :: .ptr 1 [] :: us 1 ++ .dat .str :: .dat (.int .i64) :: .dat (.int .i64) :: .dat .str :: .dat (.int .i64) :: .ptr 2 [] :: .dat (.int .i64) :: .dat (.int .i64) :: .dat .str :: .dat (.int .i64) :: us 135, [.dat (.arr 32 (.int .u8)), .dat (.arr 32 (.int .u8)), .dat (.arr 32 (.int .u8))]⟩
def bedrocklaw01_NumTexts.p0.os : List Out := [⟨.ret, [.mask [6], .auto 0], ⟨us 6 ++ .dat .bool :: us 145, []⟩⟩, ⟨.normal, [.mask [0, 4, 5, 12, 13, 14, 15, 16], .auto 0], ⟨.dat .str :: us 3 ++ .ptr 0 [] :: .ptr 1 [] :: us 6 ++ .ptr 2 [] :: .dat (.int .i64) :: .dat (.int .i64) :: .dat .str :: .dat (.int .i64) :: us 135, [.dat (.arr 32 (.int .u8)), .dat (.arr 32 (.int .u8)), .dat (.arr 32 (.int .u8))]⟩⟩]
abbrev bedrocklaw01_NumTexts.p1.σ : Type := ByteArray × Int × Int × ByteArray × Int × (List Int) × (List Int) × (List Int) × Unit
abbrev bedrocklaw01_NumTexts.p1.τ : Type := (Bool × Unit) ⊕ (ByteArray × (List Int) × (List Int) × Unit)
def bedrocklaw01_NumTexts.p1.r (k : Nat) {ρ : Type} (x : bedrocklaw01_NumTexts.p1.σ) (K : bedrocklaw01_NumTexts.p1.τ → Option ρ) : Option ρ :=
  bif (!((x.2.2.1 == (0 : Int)) == (decide (x.2.2.2.2.1 < (0 : Int))))) then (K (.inl (false, ()))) else (bif (decide (x.2.2.2.2.1 ≥ (0 : Int))) then (bif (x.2.2.1 != (10 : Int)) then (K (.inl (false, ()))) else (bif (x.2.1 != x.2.2.2.2.1) then (K (.inl (false, ()))) else (let v18 : List Int := x.2.2.2.2.2.2.2.1
  let v19 : List Int := (List.replicate 32 (0 : Int))
  bif (!(decide (v18 = v19))) then (K (.inl (false, ()))) else (bif (decide (x.2.2.2.2.1 < (0 : Int))) then (bif (x.2.1 != (0 : Int)) then (K (.inl (false, ()))) else (let v20 : ByteArray := (bytesOf (List.take 32 (List.drop 0 x.2.2.2.2.2.2.2.1)))
  bif (!(strEq v20 x.2.2.2.1)) then (K (.inl (false, ()))) else (K (.inr (x.1, (x.2.2.2.2.2.1, (x.2.2.2.2.2.2.1, ()))))))) else (K (.inr (x.1, (x.2.2.2.2.2.1, (x.2.2.2.2.2.2.1, ()))))))))) else (bif (decide (x.2.2.2.2.1 < (0 : Int))) then (bif (x.2.1 != (0 : Int)) then (K (.inl (false, ()))) else (let v21 : ByteArray := (bytesOf (List.take 32 (List.drop 0 x.2.2.2.2.2.2.2.1)))
  bif (!(strEq v21 x.2.2.2.1)) then (K (.inl (false, ()))) else (K (.inr (x.1, (x.2.2.2.2.2.1, (x.2.2.2.2.2.2.1, ()))))))) else (K (.inr (x.1, (x.2.2.2.2.2.1, (x.2.2.2.2.2.2.1, ())))))))
def bedrocklaw01_NumTexts.p1 (k : Nat) (x : bedrocklaw01_NumTexts.p1.σ) : Option bedrocklaw01_NumTexts.p1.τ := bedrocklaw01_NumTexts.p1.r k x some
def bedrocklaw01_NumTexts.p1.T : StT := ⟨.dat .str :: us 3 ++ .ptr 0 [] :: .ptr 1 [] :: us 6 ++ .ptr 2 [] :: .dat (.int .i64) :: .dat (.int .i64) :: .dat .str :: .dat (.int .i64) :: us 135, [.dat (.arr 32 (.int .u8)), .dat (.arr 32 (.int .u8)), .dat (.arr 32 (.int .u8))]⟩
def bedrocklaw01_NumTexts.p1.os : List Out := [⟨.ret, [.mask [6], .auto 0], ⟨us 6 ++ .dat .bool :: us 145, []⟩⟩, ⟨.normal, [.mask [0, 4, 5], .auto 0], ⟨.dat .str :: us 3 ++ .ptr 0 [] :: .ptr 1 [] :: us 146, [.dat (.arr 32 (.int .u8)), .dat (.arr 32 (.int .u8))]⟩⟩]
def bedrocklaw01_NumTexts.c (k : Nat) {ρ : Type} (s : ByteArray) (h : (List Int)) (g : (List Int)) (K : Bool × Unit → Option ρ) : Option ρ :=
  (num_Unhex k s).bind fun t0 => let v1 : ByteArray := t0.1
  let v2 : Int := t0.2.1
  let v3 : Int := t0.2.2.1
  (bedrockref01_Unhex k s).bind fun t4 => let v5 : ByteArray := t4.1
  let v6 : Int := t4.2.1
  (num_Parse k s).bind fun t7 => let v8 : List Int := t7.1
  let v9 : Int := t7.2.1
  let v10 : Int := t7.2.2.1
  (bedrockref01_Parse k s).bind fun t11 => let v12 : ByteArray := t11.1
  let v13 : Int := t11.2.1
  (bedrocklaw01_NumTexts.p0 k (s, (v1, (v2, (v3, (v5, (v6, (v9, (v10, (v12, (v13, (h, (g, (v8, ())))))))))))))).bind fun t15 => (match t15 with | .inl t16 => (K (t16.1, ())) | .inr (t17) => ((bedrocklaw01_NumTexts.p1 k (t17.1, (t17.2.1, (t17.2.2.1, (t17.2.2.2.1, (t17.2.2.2.2.1, (t17.2.2.2.2.2.1, (t17.2.2.2.2.2.2.1, (t17.2.2.2.2.2.2.2.1, ()))))))))).bind fun t22 => (match t22 with | .inl t23 => (K (t23.1, ())) | .inr (t24) => (let v25 : List Int := t24.2.1
  (num_Text k v25).bind fun t26 => (num_Parse k t26.1).bind fun t27 => let v28 : List Int := t27.1
  let v29 : Int := t27.2.1
  let v30 : Int := t27.2.2.1
  (num_Hex k t24.1).bind fun t31 => (bedrockref01_Hex k t24.1).bind fun t32 => bif (strEq t31.1 t32.1) then (let v33 : ByteArray := (bytesOf (List.take 32 (List.drop 0 t24.2.1)))
  (bedrockref01_Turned k v33).bind fun t34 => (bedrockref01_Hex k t34.1).bind fun t35 => bif (strEq t26.1 t35.1) then (let v36 : List Int := t24.2.1
  bif (decide (v28 = v36)) then (let v37 : List Int := t24.2.1
  let v38 : List Int := t24.2.2.1
  (num_Compare k v37 v38).bind fun t39 => let v40 : ByteArray := (bytesOf (List.take 32 (List.drop 0 t24.2.1)))
  let v41 : ByteArray := (bytesOf (List.take 32 (List.drop 0 t24.2.2.1)))
  (bedrockref01_Compare k v40 v41).bind fun t42 => K ((t39.1 == t42.1), ())) else (K (false, ()))) else (K (false, ()))) else (K (false, ()))))))
def bedrocklaw01_NumTexts (k : Nat) (s : ByteArray) (h : (List Int)) (g : (List Int)) : Option (Bool × Unit) := bedrocklaw01_NumTexts.c k s h g some
def bedrocklaw01_NumTexts.tin : List Ty := [.str, (.arr 32 (.int .u8)), (.arr 32 (.int .u8))]
def bedrocklaw01_NumTexts.tout : List Ty := [.bool]
def bedrocklaw01_NumTexts.sem (k : Nat) : CallSem := callPure bedrocklaw01_NumTexts.tin bedrocklaw01_NumTexts.tout fun x => bedrocklaw01_NumTexts k x.1 x.2.1 x.2.2.1
noncomputable def bedrocklaw01_NumTexts.ctx (k : Nat) : Ctx := ⟨Try.prog, gam [(38, (num_Unhex.sem k)), (39, (bedrockref01_Unhex.sem k)), (40, (num_Parse.sem k)), (41, (bedrockref01_Parse.sem k)), (18, (bedrocklaw01_awake.sem k)), (42, (num_Text.sem k)), (43, (num_Hex.sem k)), (44, (bedrockref01_Hex.sem k)), (45, (bedrockref01_Turned.sem k)), (46, (num_Compare.sem k)), (47, (bedrockref01_Compare.sem k))]⟩
theorem bedrocklaw01_NumTexts.gok (k : Nat) : ∀ f, SemOK Try.prog f ((bedrocklaw01_NumTexts.ctx k).Γ f) := (gam_cons (num_Unhex.sem_ok k) (gam_cons (bedrockref01_Unhex.sem_ok k) (gam_cons (num_Parse.sem_ok k) (gam_cons (bedrockref01_Parse.sem_ok k) (gam_cons (bedrocklaw01_awake.sem_ok k) (gam_cons (num_Text.sem_ok k) (gam_cons (num_Hex.sem_ok k) (gam_cons (bedrockref01_Hex.sem_ok k) (gam_cons (bedrockref01_Turned.sem_ok k) (gam_cons (num_Compare.sem_ok k) (gam_cons (bedrockref01_Compare.sem_ok k) gam_nil)))))))))))
theorem bedrocklaw01_NumTexts.p0.is (k : Nat) : PieceIs (bedrocklaw01_NumTexts.ctx k) (codeAt (Func.code Try.f9) [1, 1, 1, 1, 1, 0]) (.nil) bedrocklaw01_NumTexts.p0.T bedrocklaw01_NumTexts.p0.os (bedrocklaw01_NumTexts.p0.r k) := by
  intro ρ x K; kernel_rfl
theorem bedrocklaw01_NumTexts.p0.ok (k : Nat) : StOK 0 Try.prog (codeAt (Func.code Try.f9) [1, 1, 1, 1, 1, 0]) (pieceSem bedrocklaw01_NumTexts.p0.T bedrocklaw01_NumTexts.p0.os (bedrocklaw01_NumTexts.p0 k)) :=
  piece_ok (C := bedrocklaw01_NumTexts.ctx k) (T := bedrocklaw01_NumTexts.p0.T) (os := bedrocklaw01_NumTexts.p0.os) (bedrocklaw01_NumTexts.gok k) Try.mix (fun x K => bedrocklaw01_NumTexts.p0.r k x K) AnnOK.nil (by kernel_rfl) (by kernel_rfl) (bedrocklaw01_NumTexts.p0.is k)
theorem bedrocklaw01_NumTexts.p1.is (k : Nat) : PieceIs (bedrocklaw01_NumTexts.ctx k) (codeAt (Func.code Try.f9) [1, 1, 1, 1, 1, 1, 0]) (.nil) bedrocklaw01_NumTexts.p1.T bedrocklaw01_NumTexts.p1.os (bedrocklaw01_NumTexts.p1.r k) := by
  intro ρ x K; kernel_rfl
theorem bedrocklaw01_NumTexts.p1.ok (k : Nat) : StOK 0 Try.prog (codeAt (Func.code Try.f9) [1, 1, 1, 1, 1, 1, 0]) (pieceSem bedrocklaw01_NumTexts.p1.T bedrocklaw01_NumTexts.p1.os (bedrocklaw01_NumTexts.p1 k)) :=
  piece_ok (C := bedrocklaw01_NumTexts.ctx k) (T := bedrocklaw01_NumTexts.p1.T) (os := bedrocklaw01_NumTexts.p1.os) (bedrocklaw01_NumTexts.gok k) Try.mix (fun x K => bedrocklaw01_NumTexts.p1.r k x K) AnnOK.nil (by kernel_rfl) (by kernel_rfl) (bedrocklaw01_NumTexts.p1.is k)
def bedrocklaw01_NumTexts.ann (k : Nat) : Ann := .node [] none (.nil) (.node [] none (.nil) (.node [] none (.nil) (.node [] none (.nil) (.node [] none (.nil) (.node [] none (.node [.mask [0, 4, 5, 7, 8, 9, 10, 11, 12, 13, 14, 15, 16], .auto 0] (some (pieceSem bedrocklaw01_NumTexts.p0.T bedrocklaw01_NumTexts.p0.os (bedrocklaw01_NumTexts.p0 k))) .nil .nil) (.node [] none (.node [.mask [0, 4, 5, 12, 13, 14, 15, 16], .auto 0] (some (pieceSem bedrocklaw01_NumTexts.p1.T bedrocklaw01_NumTexts.p1.os (bedrocklaw01_NumTexts.p1 k))) .nil .nil) (.nil)))))))
theorem bedrocklaw01_NumTexts.body (k : Nat) : BodyIs (bedrocklaw01_NumTexts.ctx k) Try.f9 (Func.code Try.f9) (bedrocklaw01_NumTexts.ann k) bedrocklaw01_NumTexts.tin bedrocklaw01_NumTexts.tout (fun x K => bedrocklaw01_NumTexts.c k x.1 x.2.1 x.2.2.1 K) := by
  intro ρ x K; kernel_rfl
theorem bedrocklaw01_NumTexts.sem_ok (k : Nat) : SemOK Try.prog 9 (bedrocklaw01_NumTexts.sem k) :=
  callPure_ok (C := bedrocklaw01_NumTexts.ctx k) (bedrocklaw01_NumTexts.gok k) Try.mix (c := Func.code Try.f9) (ann := bedrocklaw01_NumTexts.ann k) (tin := bedrocklaw01_NumTexts.tin) (tout := bedrocklaw01_NumTexts.tout) (fun x K => bedrocklaw01_NumTexts.c k x.1 x.2.1 x.2.2.1 K) Try.func9 (by kernel_rfl) (by kernel_rfl) (AnnOK.seq AnnOK.nil (AnnOK.seq AnnOK.nil (AnnOK.seq AnnOK.nil (AnnOK.seq AnnOK.nil (AnnOK.seq AnnOK.nil (AnnOK.seq (AnnOK.loop (by kernel_rfl) (bedrocklaw01_NumTexts.p0.ok k)) (AnnOK.seq (AnnOK.loop (by kernel_rfl) (bedrocklaw01_NumTexts.p1.ok k)) AnnOK.nil))))))) (bedrocklaw01_NumTexts.body k)

end Go.Am
