/- A part of a proof: a machine of abstract values that tells what functions of the program compute, and the plain facts on them. -/
import Derived.Test.YtnibopdcpbebcaaAm8
import Derived.KernelRfl
set_option linter.unusedVariables false
set_option linter.unusedSimpArgs false
set_option linter.unnecessarySimpa false
set_option linter.unusedSectionVars false
namespace Go.Am
open Go Go.Proofs
set_option maxRecDepth 100000
/-! 27 bedrock/num.NewWriter · with blocks -/
abbrev num_NewWriter.τ : Type := (((Unit × (Unit × Unit)) × Unit) × (List Int) × Unit)
def num_NewWriter.c (k : Nat) {ρ : Type}  (K : num_NewWriter.τ → Option ρ) : Option ρ :=
  K ((((), ((), ())), ()), ([], ()))
def num_NewWriter (k : Nat)  : Option num_NewWriter.τ := num_NewWriter.c k  some
def num_NewWriter.T : CallT := ⟨[], [], 0⟩
def num_NewWriter.os : List Out := [⟨.ret, [.auto 0], ⟨[.ptr 0 []], [.pair (.pair (.sfp 0 [0] 115) (.pair (.vbs 1) (.dat .unit))) (.dat .unit), .vec (.int .u8)]⟩⟩]
def num_NewWriter.sem (k : Nat) : CallSem := callH num_NewWriter.T num_NewWriter.os fun x => num_NewWriter k 
noncomputable def num_NewWriter.ctx (k : Nat) : Ctx := ⟨Try.prog, gam []⟩
theorem num_NewWriter.gok (k : Nat) : ∀ f, SemOK Try.prog f ((num_NewWriter.ctx k).Γ f) := gam_nil
def num_NewWriter.ann (k : Nat) : Ann := .nil
theorem num_NewWriter.body (k : Nat) : BodyH (num_NewWriter.ctx k) Try.f27 (Func.code Try.f27) (num_NewWriter.ann k) num_NewWriter.T num_NewWriter.os (fun x K => num_NewWriter.c k  K) := by
  intro ρ x K; kernel_rfl
theorem num_NewWriter.sem_ok (k : Nat) : SemOK Try.prog 27 (num_NewWriter.sem k) :=
  callH_ok (C := num_NewWriter.ctx k) (num_NewWriter.gok k) Try.mix (c := Func.code Try.f27) (ann := num_NewWriter.ann k) (T := num_NewWriter.T) (os := num_NewWriter.os) (fun x K => num_NewWriter.c k  K) Try.func27 (by kernel_rfl) (by kernel_rfl) AnnOK.nil (num_NewWriter.body k) (by kernel_rfl) (by kernel_rfl) (by kernel_rfl)

/-! 45 bedrock/num.lay -/
abbrev num_lay.l0.σ : Type := Int × Int × Int × (List Int) × Unit
abbrev num_lay.l0.τ : Type := ((List Int) × Unit)
def num_lay.l0.r (k : Nat) {ρ : Type} (x : num_lay.l0.σ) (kn : num_lay.l0.σ → Option ρ) (ke : num_lay.l0.τ → Option ρ) : Option ρ :=
  bif (decide (x.2.2.1 < x.2.1)) then (let v1 : Int := (IntKind.wrap IntKind.i64 ((8 : Int) * x.2.2.1))
  bif (decide ((0 : Int) ≤ v1)) then (let v2 : Int := (shrOp IntKind.u64 x.1 v1)
  bif (decide (((0 : Int) ≤ x.2.2.1) ∧ (x.2.2.1 < (((List.length x.2.2.2.1) : Nat) : Int)))) then (let v3 : Int := (IntKind.wrap IntKind.i64 (x.2.2.1 + (1 : Int)))
  kn (x.1, (x.2.1, (v3, ((List.set x.2.2.2.1 (Int.toNat x.2.2.1) (IntKind.wrap IntKind.u8 v2)), ()))))) else (none)) else (none)) else (ke (x.2.2.2.1, ()))
def num_lay.l0 (k : Nat) : Nat → num_lay.l0.σ → Option num_lay.l0.τ := loopJ (num_lay.l0.r k)
def num_lay.l0.T : StT := ⟨.dat (.int .u64) :: us 4 ++ .vsl 0 :: us 4 ++ .dat (.int .i64) :: .dat (.int .i64) :: us 13, [.vec (.int .u8)]⟩
def num_lay.l0.os : List Out := [⟨(.exit 0), [.mask [5], .auto 0], ⟨us 5 ++ .vsl 0 :: us 19, [.vec (.int .u8)]⟩⟩]
def num_lay.c (k : Nat) {ρ : Type} (n : Int) (bytes : Int) (K : ByteArray × Unit → Option ρ) : Option ρ :=
  bif ((decide (((0 : Int) ≤ bytes) ∧ (bytes ≤ bytes))) && (Nat.ble ((Int.toNat bytes) * 1) 140737488355328)) then (let v0 : Int := (((List.length (List.replicate (Int.toNat bytes) (0 : Int))) : Nat) : Int)
  (num_lay.l0 k k (n, (v0, ((0 : Int), ((List.replicate (Int.toNat bytes) (0 : Int)), ()))))).bind fun t4 => K ((bytesOf t4.1), ())) else (none)
def num_lay (k : Nat) (n : Int) (bytes : Int) : Option (ByteArray × Unit) := num_lay.c k n bytes some
def num_lay.tin : List Ty := [(.int .u64), (.int .i64)]
def num_lay.tout : List Ty := [.str]
def num_lay.sem (k : Nat) : CallSem := callPure num_lay.tin num_lay.tout fun x => num_lay k x.1 x.2.1
noncomputable def num_lay.ctx (k : Nat) : Ctx := ⟨Try.prog, gam []⟩
theorem num_lay.gok (k : Nat) : ∀ f, SemOK Try.prog f ((num_lay.ctx k).Γ f) := gam_nil
theorem num_lay.l0.round (k : Nat) : RoundIs (num_lay.ctx k) (codeAt (Func.code Try.f45) [1, 1, 0, 1, 0, 0]) (.nil) num_lay.l0.T [.mask [0, 5, 10, 11], .auto 0] num_lay.l0.os (num_lay.l0.r k) := by
  intro ρ x kn ke; kernel_rfl
theorem num_lay.l0.ok (k : Nat) : StOK 0 Try.prog (.loop (codeAt (Func.code Try.f45) [1, 1, 0, 1, 0, 0])) (pieceSem num_lay.l0.T num_lay.l0.os (num_lay.l0 k k)) :=
  loop_ok (C := num_lay.ctx k) (num_lay.gok k) Try.mix AnnOK.nil (by kernel_rfl) (by kernel_rfl) (by kernel_rfl) (num_lay.l0.round k) k
def num_lay.ann (k : Nat) : Ann := .node [] none (.nil) (.node [] none (.nil) (.node [] none (.node [] none (.nil) (.node [] none (.node [.mask [0, 5, 10, 11], .auto 0] (some (pieceSem num_lay.l0.T num_lay.l0.os (num_lay.l0 k k))) .nil .nil) (.nil))) (.nil)))
theorem num_lay.body (k : Nat) : BodyIs (num_lay.ctx k) Try.f45 (Func.code Try.f45) (num_lay.ann k) num_lay.tin num_lay.tout (fun x K => num_lay.c k x.1 x.2.1 K) := by
  intro ρ x K; kernel_rfl
theorem num_lay.sem_ok (k : Nat) : SemOK Try.prog 45 (num_lay.sem k) :=
  callPure_ok (C := num_lay.ctx k) (num_lay.gok k) Try.mix (c := Func.code Try.f45) (ann := num_lay.ann k) (tin := num_lay.tin) (tout := num_lay.tout) (fun x K => num_lay.c k x.1 x.2.1 K) Try.func45 (by kernel_rfl) (by kernel_rfl) (AnnOK.seq AnnOK.nil (AnnOK.seq AnnOK.nil (AnnOK.seq (AnnOK.seq AnnOK.nil (AnnOK.block (AnnOK.loop (by kernel_rfl) (num_lay.l0.ok k)))) AnnOK.nil))) (num_lay.body k)

/-! 46 (*strings.Builder).WriteString · with blocks -/
abbrev strings_Builder_WriteString.τ : Type := (Int × ((Unit × (Unit × Unit)) × Unit) × (List Int) × Unit)
def strings_Builder_WriteString.c (k : Nat) {ρ : Type} (s : ByteArray) (b0 : ((Unit × (Unit × Unit)) × Unit)) (b1 : (List Int)) (K : strings_Builder_WriteString.τ → Option ρ) : Option ρ :=
  bif (Nat.ble (((List.length b1) + (List.length (ofBytes s))) * 1) 140737488355328) then (K ((((ByteArray.size s) : Nat) : Int), ((((), ((), ())), ()), ((b1 ++ (ofBytes s)), ())))) else (none)
def strings_Builder_WriteString (k : Nat) (s : ByteArray) (b0 : ((Unit × (Unit × Unit)) × Unit)) (b1 : (List Int)) : Option strings_Builder_WriteString.τ := strings_Builder_WriteString.c k s b0 b1 some
def strings_Builder_WriteString.T : CallT := ⟨[.ptr 0 [0], .dat .str], [.pair (.pair (.sfp 0 [0] 115) (.pair (.vbs 1) (.dat .unit))) (.dat .unit), .vec (.int .u8)], 1⟩
def strings_Builder_WriteString.os : List Out := [⟨.ret, [.freeze (.slot 0), .auto 1], ⟨[.dat (.int .i64), .undef], [.pair (.pair (.sfp 0 [0] 115) (.pair (.vbs 1) (.dat .unit))) (.dat .unit), .vec (.int .u8)]⟩⟩]
def strings_Builder_WriteString.sem (k : Nat) : CallSem := callH strings_Builder_WriteString.T strings_Builder_WriteString.os fun x => strings_Builder_WriteString k x.1 x.2.1 x.2.2.1
noncomputable def strings_Builder_WriteString.ctx (k : Nat) : Ctx := ⟨Try.prog, gam [(69, (ccSem 115 2))]⟩
theorem strings_Builder_WriteString.gok (k : Nat) : ∀ f, SemOK Try.prog f ((strings_Builder_WriteString.ctx k).Γ f) := (gam_cons Bld.copyCheck gam_nil)
def strings_Builder_WriteString.ann (k : Nat) : Ann := .nil
theorem strings_Builder_WriteString.body (k : Nat) : BodyH (strings_Builder_WriteString.ctx k) Try.f46 (Func.code Try.f46) (strings_Builder_WriteString.ann k) strings_Builder_WriteString.T strings_Builder_WriteString.os (fun x K => strings_Builder_WriteString.c k x.1 x.2.1 x.2.2.1 K) := by
  intro ρ x K; kernel_rfl
theorem strings_Builder_WriteString.sem_ok (k : Nat) : SemOK Try.prog 46 (strings_Builder_WriteString.sem k) :=
  callH_ok (C := strings_Builder_WriteString.ctx k) (strings_Builder_WriteString.gok k) Try.mix (c := Func.code Try.f46) (ann := strings_Builder_WriteString.ann k) (T := strings_Builder_WriteString.T) (os := strings_Builder_WriteString.os) (fun x K => strings_Builder_WriteString.c k x.1 x.2.1 x.2.2.1 K) Try.func46 (by kernel_rfl) (by kernel_rfl) AnnOK.nil (strings_Builder_WriteString.body k) (by kernel_rfl) (by kernel_rfl) (by kernel_rfl)

/-! 29 (*bedrock/num.Writer).Bytes · with blocks -/
abbrev num_Writer_Bytes.τ : Type := (((Unit × (Unit × Unit)) × Unit) × (List Int) × Unit)
def num_Writer_Bytes.c (k : Nat) {ρ : Type} (s : ByteArray) (b0 : ((Unit × (Unit × Unit)) × Unit)) (b1 : (List Int)) (K : num_Writer_Bytes.τ → Option ρ) : Option ρ :=
  (strings_Builder_WriteString k s (((), ((), ())), ()) b1).bind fun t0 => K ((((), ((), ())), ()), (t0.2.2.1, ()))
def num_Writer_Bytes (k : Nat) (s : ByteArray) (b0 : ((Unit × (Unit × Unit)) × Unit)) (b1 : (List Int)) : Option num_Writer_Bytes.τ := num_Writer_Bytes.c k s b0 b1 some
def num_Writer_Bytes.T : CallT := ⟨[.ptr 0 [], .dat .str], [.pair (.pair (.sfp 0 [0] 115) (.pair (.vbs 1) (.dat .unit))) (.dat .unit), .vec (.int .u8)], 1⟩
def num_Writer_Bytes.os : List Out := [⟨.ret, [.auto 1], ⟨[], [.pair (.pair (.sfp 0 [0] 115) (.pair (.vbs 1) (.dat .unit))) (.dat .unit), .vec (.int .u8)]⟩⟩]
def num_Writer_Bytes.sem (k : Nat) : CallSem := callH num_Writer_Bytes.T num_Writer_Bytes.os fun x => num_Writer_Bytes k x.1 x.2.1 x.2.2.1
noncomputable def num_Writer_Bytes.ctx (k : Nat) : Ctx := ⟨Try.prog, gam [(46, (strings_Builder_WriteString.sem k))]⟩
theorem num_Writer_Bytes.gok (k : Nat) : ∀ f, SemOK Try.prog f ((num_Writer_Bytes.ctx k).Γ f) := (gam_cons (strings_Builder_WriteString.sem_ok k) gam_nil)
def num_Writer_Bytes.ann (k : Nat) : Ann := .nil
theorem num_Writer_Bytes.body (k : Nat) : BodyH (num_Writer_Bytes.ctx k) Try.f29 (Func.code Try.f29) (num_Writer_Bytes.ann k) num_Writer_Bytes.T num_Writer_Bytes.os (fun x K => num_Writer_Bytes.c k x.1 x.2.1 x.2.2.1 K) := by
  intro ρ x K; kernel_rfl
theorem num_Writer_Bytes.sem_ok (k : Nat) : SemOK Try.prog 29 (num_Writer_Bytes.sem k) :=
  callH_ok (C := num_Writer_Bytes.ctx k) (num_Writer_Bytes.gok k) Try.mix (c := Func.code Try.f29) (ann := num_Writer_Bytes.ann k) (T := num_Writer_Bytes.T) (os := num_Writer_Bytes.os) (fun x K => num_Writer_Bytes.c k x.1 x.2.1 x.2.2.1 K) Try.func29 (by kernel_rfl) (by kernel_rfl) AnnOK.nil (num_Writer_Bytes.body k) (by kernel_rfl) (by kernel_rfl) (by kernel_rfl)

/-! 28 (*bedrock/num.Writer).U32 · with blocks -/
abbrev num_Writer_U32.τ : Type := (((Unit × (Unit × Unit)) × Unit) × (List Int) × Unit)
def num_Writer_U32.c (k : Nat) {ρ : Type} (n : Int) (b0 : ((Unit × (Unit × Unit)) × Unit)) (b1 : (List Int)) (K : num_Writer_U32.τ → Option ρ) : Option ρ :=
  (num_lay k (IntKind.wrap IntKind.u64 n) (4 : Int)).bind fun t0 => (num_Writer_Bytes k t0.1 (((), ((), ())), ()) b1).bind fun t1 => K ((((), ((), ())), ()), (t1.2.1, ()))
def num_Writer_U32 (k : Nat) (n : Int) (b0 : ((Unit × (Unit × Unit)) × Unit)) (b1 : (List Int)) : Option num_Writer_U32.τ := num_Writer_U32.c k n b0 b1 some
def num_Writer_U32.T : CallT := ⟨[.ptr 0 [], .dat (.int .u32)], [.pair (.pair (.sfp 0 [0] 115) (.pair (.vbs 1) (.dat .unit))) (.dat .unit), .vec (.int .u8)], 1⟩
def num_Writer_U32.os : List Out := [⟨.ret, [.auto 1], ⟨[], [.pair (.pair (.sfp 0 [0] 115) (.pair (.vbs 1) (.dat .unit))) (.dat .unit), .vec (.int .u8)]⟩⟩]
def num_Writer_U32.sem (k : Nat) : CallSem := callH num_Writer_U32.T num_Writer_U32.os fun x => num_Writer_U32 k x.1 x.2.1 x.2.2.1
noncomputable def num_Writer_U32.ctx (k : Nat) : Ctx := ⟨Try.prog, gam [(45, (num_lay.sem k)), (29, (num_Writer_Bytes.sem k))]⟩
theorem num_Writer_U32.gok (k : Nat) : ∀ f, SemOK Try.prog f ((num_Writer_U32.ctx k).Γ f) := (gam_cons (num_lay.sem_ok k) (gam_cons (num_Writer_Bytes.sem_ok k) gam_nil))
def num_Writer_U32.ann (k : Nat) : Ann := .nil
theorem num_Writer_U32.body (k : Nat) : BodyH (num_Writer_U32.ctx k) Try.f28 (Func.code Try.f28) (num_Writer_U32.ann k) num_Writer_U32.T num_Writer_U32.os (fun x K => num_Writer_U32.c k x.1 x.2.1 x.2.2.1 K) := by
  intro ρ x K; kernel_rfl
theorem num_Writer_U32.sem_ok (k : Nat) : SemOK Try.prog 28 (num_Writer_U32.sem k) :=
  callH_ok (C := num_Writer_U32.ctx k) (num_Writer_U32.gok k) Try.mix (c := Func.code Try.f28) (ann := num_Writer_U32.ann k) (T := num_Writer_U32.T) (os := num_Writer_U32.os) (fun x K => num_Writer_U32.c k x.1 x.2.1 x.2.2.1 K) Try.func28 (by kernel_rfl) (by kernel_rfl) AnnOK.nil (num_Writer_U32.body k) (by kernel_rfl) (by kernel_rfl) (by kernel_rfl)

/-! 30 (*bedrock/num.Writer).Text · with blocks -/
abbrev num_Writer_Text.τ : Type := (ByteArray × Unit)
def num_Writer_Text.c (k : Nat) {ρ : Type} (b0 : ((Unit × (Unit × Unit)) × Unit)) (b1 : (List Int)) (K : num_Writer_Text.τ → Option ρ) : Option ρ :=
  bif (Nat.ble (List.length b1) 9223372036854775807) then (K ((bytesOf b1), ())) else (none)
def num_Writer_Text (k : Nat) (b0 : ((Unit × (Unit × Unit)) × Unit)) (b1 : (List Int)) : Option num_Writer_Text.τ := num_Writer_Text.c k b0 b1 some
def num_Writer_Text.T : CallT := ⟨[.ptr 0 []], [.pair (.pair (.sfp 0 [0] 115) (.pair (.vbs 1) (.dat .unit))) (.dat .unit), .vec (.int .u8)], 1⟩
def num_Writer_Text.os : List Out := [⟨.ret, [.freeze (.slot 0), .auto 1], ⟨[.dat .str], [.undef]⟩⟩]
def num_Writer_Text.sem (k : Nat) : CallSem := callH num_Writer_Text.T num_Writer_Text.os fun x => num_Writer_Text k x.1 x.2.1
noncomputable def num_Writer_Text.ctx (k : Nat) : Ctx := ⟨Try.prog, gam [(47, strSem)]⟩
theorem num_Writer_Text.gok (k : Nat) : ∀ f, SemOK Try.prog f ((num_Writer_Text.ctx k).Γ f) := (gam_cons Bld.string gam_nil)
def num_Writer_Text.ann (k : Nat) : Ann := .nil
theorem num_Writer_Text.body (k : Nat) : BodyH (num_Writer_Text.ctx k) Try.f30 (Func.code Try.f30) (num_Writer_Text.ann k) num_Writer_Text.T num_Writer_Text.os (fun x K => num_Writer_Text.c k x.1 x.2.1 K) := by
  intro ρ x K; kernel_rfl
theorem num_Writer_Text.sem_ok (k : Nat) : SemOK Try.prog 30 (num_Writer_Text.sem k) :=
  callH_ok (C := num_Writer_Text.ctx k) (num_Writer_Text.gok k) Try.mix (c := Func.code Try.f30) (ann := num_Writer_Text.ann k) (T := num_Writer_Text.T) (os := num_Writer_Text.os) (fun x K => num_Writer_Text.c k x.1 x.2.1 K) Try.func30 (by kernel_rfl) (by kernel_rfl) AnnOK.nil (num_Writer_Text.body k) (by kernel_rfl) (by kernel_rfl) (by kernel_rfl)

/-! 11 bedrock/block.Coinbase -/
abbrev block_Coinbase.p0.σ : Type := Int × ByteArray × (List (Int × (ByteArray × Unit))) × (Int × (Unit × (Unit × (Int × Unit)))) × Unit
abbrev block_Coinbase.p0.τ : Type := (Int × (Int × (Unit × (Unit × (Int × Unit)))) × Unit) ⊕ (Int × ByteArray × (List (Int × (ByteArray × Unit))) × (Int × (Unit × (Unit × (Int × Unit)))) × Unit)
def block_Coinbase.p0.r (k : Nat) {ρ : Type} (x : block_Coinbase.p0.σ) (K : block_Coinbase.p0.τ → Option ρ) : Option ρ :=
  bif (decide (x.1 < (0 : Int))) then (K (.inl ((1 : Int), (((0 : Int), ((), ((), ((0 : Int), ())))), ())))) else (bif (decide (x.1 > (2147483647 : Int))) then (K (.inl ((1 : Int), (((0 : Int), ((), ((), ((0 : Int), ())))), ())))) else (let v0 : Int := (((ByteArray.size x.2.1) : Nat) : Int)
  bif (decide (v0 > (96 : Int))) then (K (.inl ((1 : Int), (((0 : Int), ((), ((), ((0 : Int), ())))), ())))) else (K (.inr (x.1, (x.2.1, (x.2.2.1, ((x.2.2.2.1.1, ((), ((), (x.2.2.2.1.2.2.2.1, ())))), ()))))))))
def block_Coinbase.p0 (k : Nat) (x : block_Coinbase.p0.σ) : Option block_Coinbase.p0.τ := block_Coinbase.p0.r k x some
def block_Coinbase.p0.T : StT := ⟨.dat (.int .i64) :: .dat .str :: .dat (.sl (.pair (.int .u64) (.pair .str .unit))) :: us 3 ++ .ptr 0 [] :: us 32, [.pair (.dat (.int .u32)) (.pair (.nils) (.pair (.nils) (.dat (.pair (.int .u32) .unit))))]⟩
def block_Coinbase.p0.os : List Out := [⟨.ret, [.mask [6, 7], .auto 0], ⟨us 6 ++ .ptr 0 [] :: .dat (.int .i64) :: us 31, [.pair (.dat (.int .u32)) (.pair (.nils) (.pair (.nils) (.dat (.pair (.int .u32) .unit))))]⟩⟩, ⟨.normal, [.mask [0, 1, 2, 6], .auto 0], ⟨.dat (.int .i64) :: .dat .str :: .dat (.sl (.pair (.int .u64) (.pair .str .unit))) :: us 3 ++ .ptr 0 [] :: us 32, [.pair (.dat (.int .u32)) (.pair (.nils) (.pair (.nils) (.dat (.pair (.int .u32) .unit))))]⟩⟩]
def block_Coinbase.c (k : Nat) {ρ : Type} (height : Int) (extra : ByteArray) (outs : (List (Int × (ByteArray × Unit)))) (K : (Int × ((List (((List Int) × (Int × Unit)) × (ByteArray × (Int × Unit)))) × ((List (Int × (ByteArray × Unit))) × (Int × Unit)))) × Int × Unit → Option ρ) : Option ρ :=
  (block_Coinbase.p0 k (height, (extra, (outs, (((0 : Int), ((), ((), ((0 : Int), ())))), ()))))).bind fun t1 => (match t1 with | .inl t2 => (K ((t2.2.1.1, ([], ([], (t2.2.1.2.2.2.1, ())))), (t2.1, ()))) | .inr (t3) => ((num_NewWriter k ).bind fun t4 => let v5 : Int := (IntKind.wrap IntKind.u32 t3.1)
  (num_Writer_U32 k v5 (((), ((), ())), ()) t4.2.1).bind fun t6 => (num_Writer_Bytes k t3.2.1 (((), ((), ())), ()) t6.2.1).bind fun t7 => (num_Writer_Text k (((), ((), ())), ()) t7.2.1).bind fun t8 => bif (Nat.ble ((List.length t3.2.2.1) * 24) 140737488355328) then (K (((1 : Int), ((List.set (List.replicate 1 (((List.replicate 32 (0 : Int)), ((0 : Int), ())), (ByteArray.empty, ((0 : Int), ())))) 0 (((List.replicate 32 (0 : Int)), ((4294967295 : Int), ())), (t8.1, ((4294967295 : Int), ())))), (t3.2.2.1, ((0 : Int), ())))), ((0 : Int), ()))) else (none)))
def block_Coinbase (k : Nat) (height : Int) (extra : ByteArray) (outs : (List (Int × (ByteArray × Unit)))) : Option ((Int × ((List (((List Int) × (Int × Unit)) × (ByteArray × (Int × Unit)))) × ((List (Int × (ByteArray × Unit))) × (Int × Unit)))) × Int × Unit) := block_Coinbase.c k height extra outs some
def block_Coinbase.tin : List Ty := [(.int .i64), .str, (.sl (.pair (.int .u64) (.pair .str .unit)))]
def block_Coinbase.tout : List Ty := [(.pair (.int .u32) (.pair (.sl (.pair (.pair (.arr 32 (.int .u8)) (.pair (.int .u32) .unit)) (.pair .str (.pair (.int .u32) .unit)))) (.pair (.sl (.pair (.int .u64) (.pair .str .unit))) (.pair (.int .u32) .unit)))), (.int .i64)]
def block_Coinbase.sem (k : Nat) : CallSem := callPure block_Coinbase.tin block_Coinbase.tout fun x => block_Coinbase k x.1 x.2.1 x.2.2.1
noncomputable def block_Coinbase.ctx (k : Nat) : Ctx := ⟨Try.prog, gam [(27, (num_NewWriter.sem k)), (28, (num_Writer_U32.sem k)), (29, (num_Writer_Bytes.sem k)), (30, (num_Writer_Text.sem k))]⟩
theorem block_Coinbase.gok (k : Nat) : ∀ f, SemOK Try.prog f ((block_Coinbase.ctx k).Γ f) := (gam_cons (num_NewWriter.sem_ok k) (gam_cons (num_Writer_U32.sem_ok k) (gam_cons (num_Writer_Bytes.sem_ok k) (gam_cons (num_Writer_Text.sem_ok k) gam_nil))))
theorem block_Coinbase.p0.is (k : Nat) : PieceIs (block_Coinbase.ctx k) (codeAt (Func.code Try.f11) [1, 0]) (.nil) block_Coinbase.p0.T block_Coinbase.p0.os (block_Coinbase.p0.r k) := by
  intro ρ x K; kernel_rfl
theorem block_Coinbase.p0.ok (k : Nat) : StOK 0 Try.prog (codeAt (Func.code Try.f11) [1, 0]) (pieceSem block_Coinbase.p0.T block_Coinbase.p0.os (block_Coinbase.p0 k)) :=
  piece_ok (C := block_Coinbase.ctx k) (T := block_Coinbase.p0.T) (os := block_Coinbase.p0.os) (block_Coinbase.gok k) Try.mix (fun x K => block_Coinbase.p0.r k x K) AnnOK.nil (by kernel_rfl) (by kernel_rfl) (block_Coinbase.p0.is k)
def block_Coinbase.ann (k : Nat) : Ann := .node [] none (.nil) (.node [] none (.node [.mask [0, 1, 2, 6], .auto 0] (some (pieceSem block_Coinbase.p0.T block_Coinbase.p0.os (block_Coinbase.p0 k))) .nil .nil) (.nil))
theorem block_Coinbase.body (k : Nat) : BodyIs (block_Coinbase.ctx k) Try.f11 (Func.code Try.f11) (block_Coinbase.ann k) block_Coinbase.tin block_Coinbase.tout (fun x K => block_Coinbase.c k x.1 x.2.1 x.2.2.1 K) := by
  intro ρ x K; kernel_rfl
theorem block_Coinbase.sem_ok (k : Nat) : SemOK Try.prog 11 (block_Coinbase.sem k) :=
  callPure_ok (C := block_Coinbase.ctx k) (block_Coinbase.gok k) Try.mix (c := Func.code Try.f11) (ann := block_Coinbase.ann k) (tin := block_Coinbase.tin) (tout := block_Coinbase.tout) (fun x K => block_Coinbase.c k x.1 x.2.1 x.2.2.1 K) Try.func11 (by kernel_rfl) (by kernel_rfl) (AnnOK.seq AnnOK.nil (AnnOK.seq (AnnOK.loop (by kernel_rfl) (block_Coinbase.p0.ok k)) AnnOK.nil)) (block_Coinbase.body k)

/-! 71 bedrock/num.CountLong -/
def num_CountLong.c (k : Nat) {ρ : Type} (n : Int) (K : Int × Unit → Option ρ) : Option ρ :=
  bif (decide (n < (253 : Int))) then (K ((1 : Int), ())) else (bif (decide (n < (65536 : Int))) then (K ((3 : Int), ())) else (bif (decide (n < (4294967296 : Int))) then (K ((5 : Int), ())) else (K ((9 : Int), ()))))
def num_CountLong (k : Nat) (n : Int) : Option (Int × Unit) := num_CountLong.c k n some
def num_CountLong.tin : List Ty := [(.int .u64)]
def num_CountLong.tout : List Ty := [(.int .i64)]
def num_CountLong.sem (k : Nat) : CallSem := callPure num_CountLong.tin num_CountLong.tout fun x => num_CountLong k x.1
noncomputable def num_CountLong.ctx (k : Nat) : Ctx := ⟨Try.prog, gam []⟩
theorem num_CountLong.gok (k : Nat) : ∀ f, SemOK Try.prog f ((num_CountLong.ctx k).Γ f) := gam_nil
def num_CountLong.ann (k : Nat) : Ann := .nil
theorem num_CountLong.body (k : Nat) : BodyIs (num_CountLong.ctx k) Try.f71 (Func.code Try.f71) (num_CountLong.ann k) num_CountLong.tin num_CountLong.tout (fun x K => num_CountLong.c k x.1 K) := by
  intro ρ x K; kernel_rfl
theorem num_CountLong.sem_ok (k : Nat) : SemOK Try.prog 71 (num_CountLong.sem k) :=
  callPure_ok (C := num_CountLong.ctx k) (num_CountLong.gok k) Try.mix (c := Func.code Try.f71) (ann := num_CountLong.ann k) (tin := num_CountLong.tin) (tout := num_CountLong.tout) (fun x K => num_CountLong.c k x.1 K) Try.func71 (by kernel_rfl) (by kernel_rfl) AnnOK.nil (num_CountLong.body k)

/-! 72 bedrock/tx.long -/
def tx_long.c (k : Nat) {ρ : Type} (n : Int) (K : Int × Unit → Option ρ) : Option ρ :=
  (num_CountLong k (IntKind.wrap IntKind.u64 n)).bind fun t0 => let v1 : Int := (IntKind.wrap IntKind.i64 (t0.1 + n))
  K (v1, ())
def tx_long (k : Nat) (n : Int) : Option (Int × Unit) := tx_long.c k n some
def tx_long.tin : List Ty := [(.int .i64)]
def tx_long.tout : List Ty := [(.int .i64)]
def tx_long.sem (k : Nat) : CallSem := callPure tx_long.tin tx_long.tout fun x => tx_long k x.1
noncomputable def tx_long.ctx (k : Nat) : Ctx := ⟨Try.prog, gam [(71, (num_CountLong.sem k))]⟩
theorem tx_long.gok (k : Nat) : ∀ f, SemOK Try.prog f ((tx_long.ctx k).Γ f) := (gam_cons (num_CountLong.sem_ok k) gam_nil)
def tx_long.ann (k : Nat) : Ann := .nil
theorem tx_long.body (k : Nat) : BodyIs (tx_long.ctx k) Try.f72 (Func.code Try.f72) (tx_long.ann k) tx_long.tin tx_long.tout (fun x K => tx_long.c k x.1 K) := by
  intro ρ x K; kernel_rfl
theorem tx_long.sem_ok (k : Nat) : SemOK Try.prog 72 (tx_long.sem k) :=
  callPure_ok (C := tx_long.ctx k) (tx_long.gok k) Try.mix (c := Func.code Try.f72) (ann := tx_long.ann k) (tin := tx_long.tin) (tout := tx_long.tout) (fun x K => tx_long.c k x.1 K) Try.func72 (by kernel_rfl) (by kernel_rfl) AnnOK.nil (tx_long.body k)

/-! 50 bedrock/tx.Size -/
abbrev tx_Size.l0.σ : Type := Int × (List (((List Int) × (Int × Unit)) × (ByteArray × (Int × Unit)))) × Int × Int × (Int × ((List (((List Int) × (Int × Unit)) × (ByteArray × (Int × Unit)))) × ((List (Int × (ByteArray × Unit))) × (Int × Unit)))) × Unit
abbrev tx_Size.l0.τ : Type := (Int × (Int × ((List (((List Int) × (Int × Unit)) × (ByteArray × (Int × Unit)))) × ((List (Int × (ByteArray × Unit))) × (Int × Unit)))) × Unit)
def tx_Size.l0.r (k : Nat) {ρ : Type} (x : tx_Size.l0.σ) (kn : tx_Size.l0.σ → Option ρ) (ke : tx_Size.l0.τ → Option ρ) : Option ρ :=
  bif (decide (x.2.2.2.1 < x.2.2.1)) then (bif (decide (((0 : Int) ≤ x.2.2.2.1) ∧ (x.2.2.2.1 < (((List.length x.2.1) : Nat) : Int)))) then (let v11 : ByteArray := (List.getD x.2.1 (Int.toNat x.2.2.2.1) (((List.replicate 32 (0 : Int)), ((0 : Int), ())), (ByteArray.empty, ((0 : Int), ())))).2.1
  (tx_long k (((ByteArray.size v11) : Nat) : Int)).bind fun t12 => let v13 : Int := (IntKind.wrap IntKind.i64 ((40 : Int) + t12.1))
  let v14 : Int := (IntKind.wrap IntKind.i64 (x.1 + v13))
  let v15 : Int := (IntKind.wrap IntKind.i64 (x.2.2.2.1 + (1 : Int)))
  kn (v14, (x.2.1, (x.2.2.1, (v15, ((x.2.2.2.2.1.1, (x.2.2.2.2.1.2.1, (x.2.2.2.2.1.2.2.1, (x.2.2.2.2.1.2.2.2.1, ())))), ())))))) else (none)) else (ke (x.1, ((x.2.2.2.2.1.1, (x.2.2.2.2.1.2.1, (x.2.2.2.2.1.2.2.1, (x.2.2.2.2.1.2.2.2.1, ())))), ())))
def tx_Size.l0 (k : Nat) : Nat → tx_Size.l0.σ → Option tx_Size.l0.τ := loopJ (tx_Size.l0.r k)
def tx_Size.l0.T : StT := ⟨us 1 ++ .ptr 0 [] :: us 1 ++ .dat (.int .i64) :: us 18 ++ .dat (.sl (.pair (.pair (.arr 32 (.int .u8)) (.pair (.int .u32) .unit)) (.pair .str (.pair (.int .u32) .unit)))) :: .dat (.int .i64) :: .dat (.int .i64) :: us 27, [.dat (.pair (.int .u32) (.pair (.sl (.pair (.pair (.arr 32 (.int .u8)) (.pair (.int .u32) .unit)) (.pair .str (.pair (.int .u32) .unit)))) (.pair (.sl (.pair (.int .u64) (.pair .str .unit))) (.pair (.int .u32) .unit))))]⟩
def tx_Size.l0.os : List Out := [⟨(.exit 0), [.mask [1, 3], .auto 0], ⟨us 1 ++ .ptr 0 [] :: us 1 ++ .dat (.int .i64) :: us 48, [.dat (.pair (.int .u32) (.pair (.sl (.pair (.pair (.arr 32 (.int .u8)) (.pair (.int .u32) .unit)) (.pair .str (.pair (.int .u32) .unit)))) (.pair (.sl (.pair (.int .u64) (.pair .str .unit))) (.pair (.int .u32) .unit))))]⟩⟩]
abbrev tx_Size.l1.σ : Type := Int × (List (Int × (ByteArray × Unit))) × Int × Int × Unit
abbrev tx_Size.l1.τ : Type := (Int × Unit)
def tx_Size.l1.r (k : Nat) {ρ : Type} (x : tx_Size.l1.σ) (kn : tx_Size.l1.σ → Option ρ) (ke : tx_Size.l1.τ → Option ρ) : Option ρ :=
  bif (decide (x.2.2.2.1 < x.2.2.1)) then (bif (decide (((0 : Int) ≤ x.2.2.2.1) ∧ (x.2.2.2.1 < (((List.length x.2.1) : Nat) : Int)))) then (let v19 : ByteArray := (List.getD x.2.1 (Int.toNat x.2.2.2.1) ((0 : Int), (ByteArray.empty, ()))).2.1
  (tx_long k (((ByteArray.size v19) : Nat) : Int)).bind fun t20 => let v21 : Int := (IntKind.wrap IntKind.i64 ((8 : Int) + t20.1))
  let v22 : Int := (IntKind.wrap IntKind.i64 (x.1 + v21))
  let v23 : Int := (IntKind.wrap IntKind.i64 (x.2.2.2.1 + (1 : Int)))
  kn (v22, (x.2.1, (x.2.2.1, (v23, ()))))) else (none)) else (ke (x.1, ()))
def tx_Size.l1 (k : Nat) : Nat → tx_Size.l1.σ → Option tx_Size.l1.τ := loopJ (tx_Size.l1.r k)
def tx_Size.l1.T : StT := ⟨us 3 ++ .dat (.int .i64) :: us 33 ++ .dat (.sl (.pair (.int .u64) (.pair .str .unit))) :: .dat (.int .i64) :: .dat (.int .i64) :: us 12, []⟩
def tx_Size.l1.os : List Out := [⟨(.exit 2), [.mask [3], .auto 0], ⟨us 3 ++ .dat (.int .i64) :: us 48, []⟩⟩]
def tx_Size.c (k : Nat) {ρ : Type} (t : (Int × ((List (((List Int) × (Int × Unit)) × (ByteArray × (Int × Unit)))) × ((List (Int × (ByteArray × Unit))) × (Int × Unit))))) (K : Int × Unit → Option ρ) : Option ρ :=
  let v0 : (List (((List Int) × (Int × Unit)) × (ByteArray × (Int × Unit)))) := t.2.1
  let v1 : Int := (((List.length v0) : Nat) : Int)
  (num_CountLong k (IntKind.wrap IntKind.u64 v1)).bind fun t2 => let v3 : Int := (IntKind.wrap IntKind.i64 ((4 : Int) + t2.1))
  let v4 : (List (Int × (ByteArray × Unit))) := t.2.2.1
  let v5 : Int := (((List.length v4) : Nat) : Int)
  (num_CountLong k (IntKind.wrap IntKind.u64 v5)).bind fun t6 => let v7 : Int := (IntKind.wrap IntKind.i64 (v3 + t6.1))
  let v8 : Int := (IntKind.wrap IntKind.i64 (v7 + (4 : Int)))
  let v9 : (List (((List Int) × (Int × Unit)) × (ByteArray × (Int × Unit)))) := t.2.1
  let v10 : Int := (((List.length v9) : Nat) : Int)
  (tx_Size.l0 k k (v8, (v9, (v10, ((0 : Int), ((t.1, (t.2.1, (t.2.2.1, (t.2.2.2.1, ())))), ())))))).bind fun t16 => let v17 : (List (Int × (ByteArray × Unit))) := t16.2.1.2.2.1
  let v18 : Int := (((List.length v17) : Nat) : Int)
  (tx_Size.l1 k k (t16.1, (v17, (v18, ((0 : Int), ()))))).bind fun t24 => K (t24.1, ())
def tx_Size (k : Nat) (t : (Int × ((List (((List Int) × (Int × Unit)) × (ByteArray × (Int × Unit)))) × ((List (Int × (ByteArray × Unit))) × (Int × Unit))))) : Option (Int × Unit) := tx_Size.c k t some
def tx_Size.tin : List Ty := [(.pair (.int .u32) (.pair (.sl (.pair (.pair (.arr 32 (.int .u8)) (.pair (.int .u32) .unit)) (.pair .str (.pair (.int .u32) .unit)))) (.pair (.sl (.pair (.int .u64) (.pair .str .unit))) (.pair (.int .u32) .unit))))]
def tx_Size.tout : List Ty := [(.int .i64)]
def tx_Size.sem (k : Nat) : CallSem := callPure tx_Size.tin tx_Size.tout fun x => tx_Size k x.1
noncomputable def tx_Size.ctx (k : Nat) : Ctx := ⟨Try.prog, gam [(71, (num_CountLong.sem k)), (72, (tx_long.sem k))]⟩
theorem tx_Size.gok (k : Nat) : ∀ f, SemOK Try.prog f ((tx_Size.ctx k).Γ f) := (gam_cons (num_CountLong.sem_ok k) (gam_cons (tx_long.sem_ok k) gam_nil))
theorem tx_Size.l0.round (k : Nat) : RoundIs (tx_Size.ctx k) (codeAt (Func.code Try.f50) [1, 1, 0, 1, 0, 0]) (.nil) tx_Size.l0.T [.mask [1, 3, 22, 23, 24], .auto 0] tx_Size.l0.os (tx_Size.l0.r k) := by
  intro ρ x kn ke; kernel_rfl
theorem tx_Size.l0.ok (k : Nat) : StOK 0 Try.prog (.loop (codeAt (Func.code Try.f50) [1, 1, 0, 1, 0, 0])) (pieceSem tx_Size.l0.T tx_Size.l0.os (tx_Size.l0 k k)) :=
  loop_ok (C := tx_Size.ctx k) (tx_Size.gok k) Try.mix AnnOK.nil (by kernel_rfl) (by kernel_rfl) (by kernel_rfl) (tx_Size.l0.round k) k
theorem tx_Size.l1.round (k : Nat) : RoundIs (tx_Size.ctx k) (codeAt (Func.code Try.f50) [1, 1, 1, 0, 1, 0, 0]) (.nil) tx_Size.l1.T [.mask [3, 37, 38, 39], .auto 0] tx_Size.l1.os (tx_Size.l1.r k) := by
  intro ρ x kn ke; kernel_rfl
theorem tx_Size.l1.ok (k : Nat) : StOK 0 Try.prog (.loop (codeAt (Func.code Try.f50) [1, 1, 1, 0, 1, 0, 0])) (pieceSem tx_Size.l1.T tx_Size.l1.os (tx_Size.l1 k k)) :=
  loop_ok (C := tx_Size.ctx k) (tx_Size.gok k) Try.mix AnnOK.nil (by kernel_rfl) (by kernel_rfl) (by kernel_rfl) (tx_Size.l1.round k) k
def tx_Size.ann (k : Nat) : Ann := .node [] none (.nil) (.node [] none (.nil) (.node [] none (.node [] none (.nil) (.node [] none (.node [.mask [1, 3, 22, 23, 24], .auto 0] (some (pieceSem tx_Size.l0.T tx_Size.l0.os (tx_Size.l0 k k))) .nil .nil) (.nil))) (.node [] none (.node [] none (.nil) (.node [] none (.node [.mask [3, 37, 38, 39], .auto 0] (some (pieceSem tx_Size.l1.T tx_Size.l1.os (tx_Size.l1 k k))) .nil .nil) (.nil))) (.nil))))
theorem tx_Size.body (k : Nat) : BodyIs (tx_Size.ctx k) Try.f50 (Func.code Try.f50) (tx_Size.ann k) tx_Size.tin tx_Size.tout (fun x K => tx_Size.c k x.1 K) := by
  intro ρ x K; kernel_rfl
theorem tx_Size.sem_ok (k : Nat) : SemOK Try.prog 50 (tx_Size.sem k) :=
  callPure_ok (C := tx_Size.ctx k) (tx_Size.gok k) Try.mix (c := Func.code Try.f50) (ann := tx_Size.ann k) (tin := tx_Size.tin) (tout := tx_Size.tout) (fun x K => tx_Size.c k x.1 K) Try.func50 (by kernel_rfl) (by kernel_rfl) (AnnOK.seq AnnOK.nil (AnnOK.seq AnnOK.nil (AnnOK.seq (AnnOK.seq AnnOK.nil (AnnOK.block (AnnOK.loop (by kernel_rfl) (tx_Size.l0.ok k)))) (AnnOK.seq (AnnOK.seq AnnOK.nil (AnnOK.block (AnnOK.loop (by kernel_rfl) (tx_Size.l1.ok k)))) AnnOK.nil)))) (tx_Size.body k)

/-! 73 bedrock/num.Count -/
def num_Count.c (k : Nat) {ρ : Type} (n : Int) (K : ByteArray × Unit → Option ρ) : Option ρ :=
  (num_CountLong k n).bind fun t0 => bif (t0.1 == (1 : Int)) then ((num_lay k n (1 : Int)).bind fun t1 => K (t1.1, ())) else (bif (t0.1 == (3 : Int)) then ((num_lay k (253 : Int) (1 : Int)).bind fun t2 => (num_lay k n (2 : Int)).bind fun t3 => bif (Nat.ble ((ByteArray.size t2.1) + (ByteArray.size t3.1)) 9223372036854775807) then (let v4 : ByteArray := (t2.1 ++ t3.1)
  K (v4, ())) else (none)) else (bif (t0.1 == (5 : Int)) then ((num_lay k (254 : Int) (1 : Int)).bind fun t5 => (num_lay k n (4 : Int)).bind fun t6 => bif (Nat.ble ((ByteArray.size t5.1) + (ByteArray.size t6.1)) 9223372036854775807) then (let v7 : ByteArray := (t5.1 ++ t6.1)
  K (v7, ())) else (none)) else ((num_lay k (255 : Int) (1 : Int)).bind fun t8 => (num_lay k n (8 : Int)).bind fun t9 => bif (Nat.ble ((ByteArray.size t8.1) + (ByteArray.size t9.1)) 9223372036854775807) then (let v10 : ByteArray := (t8.1 ++ t9.1)
  K (v10, ())) else (none))))
def num_Count (k : Nat) (n : Int) : Option (ByteArray × Unit) := num_Count.c k n some
def num_Count.tin : List Ty := [(.int .u64)]
def num_Count.tout : List Ty := [.str]
def num_Count.sem (k : Nat) : CallSem := callPure num_Count.tin num_Count.tout fun x => num_Count k x.1
noncomputable def num_Count.ctx (k : Nat) : Ctx := ⟨Try.prog, gam [(71, (num_CountLong.sem k)), (45, (num_lay.sem k))]⟩
theorem num_Count.gok (k : Nat) : ∀ f, SemOK Try.prog f ((num_Count.ctx k).Γ f) := (gam_cons (num_CountLong.sem_ok k) (gam_cons (num_lay.sem_ok k) gam_nil))
def num_Count.ann (k : Nat) : Ann := .nil
theorem num_Count.body (k : Nat) : BodyIs (num_Count.ctx k) Try.f73 (Func.code Try.f73) (num_Count.ann k) num_Count.tin num_Count.tout (fun x K => num_Count.c k x.1 K) := by
  intro ρ x K; kernel_rfl
theorem num_Count.sem_ok (k : Nat) : SemOK Try.prog 73 (num_Count.sem k) :=
  callPure_ok (C := num_Count.ctx k) (num_Count.gok k) Try.mix (c := Func.code Try.f73) (ann := num_Count.ann k) (tin := num_Count.tin) (tout := num_Count.tout) (fun x K => num_Count.c k x.1 K) Try.func73 (by kernel_rfl) (by kernel_rfl) AnnOK.nil (num_Count.body k)

/-! 51 (*bedrock/num.Writer).Count · with blocks -/
abbrev num_Writer_Count.τ : Type := (((Unit × (Unit × Unit)) × Unit) × (List Int) × Unit)
def num_Writer_Count.c (k : Nat) {ρ : Type} (n : Int) (b0 : ((Unit × (Unit × Unit)) × Unit)) (b1 : (List Int)) (K : num_Writer_Count.τ → Option ρ) : Option ρ :=
  (num_Count k n).bind fun t0 => (num_Writer_Bytes k t0.1 (((), ((), ())), ()) b1).bind fun t1 => K ((((), ((), ())), ()), (t1.2.1, ()))
def num_Writer_Count (k : Nat) (n : Int) (b0 : ((Unit × (Unit × Unit)) × Unit)) (b1 : (List Int)) : Option num_Writer_Count.τ := num_Writer_Count.c k n b0 b1 some
def num_Writer_Count.T : CallT := ⟨[.ptr 0 [], .dat (.int .u64)], [.pair (.pair (.sfp 0 [0] 115) (.pair (.vbs 1) (.dat .unit))) (.dat .unit), .vec (.int .u8)], 1⟩
def num_Writer_Count.os : List Out := [⟨.ret, [.auto 1], ⟨[], [.pair (.pair (.sfp 0 [0] 115) (.pair (.vbs 1) (.dat .unit))) (.dat .unit), .vec (.int .u8)]⟩⟩]
def num_Writer_Count.sem (k : Nat) : CallSem := callH num_Writer_Count.T num_Writer_Count.os fun x => num_Writer_Count k x.1 x.2.1 x.2.2.1
noncomputable def num_Writer_Count.ctx (k : Nat) : Ctx := ⟨Try.prog, gam [(73, (num_Count.sem k)), (29, (num_Writer_Bytes.sem k))]⟩
theorem num_Writer_Count.gok (k : Nat) : ∀ f, SemOK Try.prog f ((num_Writer_Count.ctx k).Γ f) := (gam_cons (num_Count.sem_ok k) (gam_cons (num_Writer_Bytes.sem_ok k) gam_nil))
def num_Writer_Count.ann (k : Nat) : Ann := .nil
theorem num_Writer_Count.body (k : Nat) : BodyH (num_Writer_Count.ctx k) Try.f51 (Func.code Try.f51) (num_Writer_Count.ann k) num_Writer_Count.T num_Writer_Count.os (fun x K => num_Writer_Count.c k x.1 x.2.1 x.2.2.1 K) := by
  intro ρ x K; kernel_rfl
theorem num_Writer_Count.sem_ok (k : Nat) : SemOK Try.prog 51 (num_Writer_Count.sem k) :=
  callH_ok (C := num_Writer_Count.ctx k) (num_Writer_Count.gok k) Try.mix (c := Func.code Try.f51) (ann := num_Writer_Count.ann k) (T := num_Writer_Count.T) (os := num_Writer_Count.os) (fun x K => num_Writer_Count.c k x.1 x.2.1 x.2.2.1 K) Try.func51 (by kernel_rfl) (by kernel_rfl) AnnOK.nil (num_Writer_Count.body k) (by kernel_rfl) (by kernel_rfl) (by kernel_rfl)

/-! 52 (*bedrock/num.Writer).Hash · with blocks -/
abbrev num_Writer_Hash.τ : Type := (((Unit × (Unit × Unit)) × Unit) × (List Int) × Unit)
def num_Writer_Hash.c (k : Nat) {ρ : Type} (h : (List Int)) (b0 : ((Unit × (Unit × Unit)) × Unit)) (b1 : (List Int)) (K : num_Writer_Hash.τ → Option ρ) : Option ρ :=
  let v0 : ByteArray := (bytesOf (List.take 32 (List.drop 0 h)))
  (num_Writer_Bytes k v0 (((), ((), ())), ()) b1).bind fun t1 => K ((((), ((), ())), ()), (t1.2.1, ()))
def num_Writer_Hash (k : Nat) (h : (List Int)) (b0 : ((Unit × (Unit × Unit)) × Unit)) (b1 : (List Int)) : Option num_Writer_Hash.τ := num_Writer_Hash.c k h b0 b1 some
def num_Writer_Hash.T : CallT := ⟨[.ptr 0 [], .dat (.arr 32 (.int .u8))], [.pair (.pair (.sfp 0 [0] 115) (.pair (.vbs 1) (.dat .unit))) (.dat .unit), .vec (.int .u8)], 1⟩
def num_Writer_Hash.os : List Out := [⟨.ret, [.auto 1], ⟨[], [.pair (.pair (.sfp 0 [0] 115) (.pair (.vbs 1) (.dat .unit))) (.dat .unit), .vec (.int .u8)]⟩⟩]
def num_Writer_Hash.sem (k : Nat) : CallSem := callH num_Writer_Hash.T num_Writer_Hash.os fun x => num_Writer_Hash k x.1 x.2.1 x.2.2.1
noncomputable def num_Writer_Hash.ctx (k : Nat) : Ctx := ⟨Try.prog, gam [(29, (num_Writer_Bytes.sem k))]⟩
theorem num_Writer_Hash.gok (k : Nat) : ∀ f, SemOK Try.prog f ((num_Writer_Hash.ctx k).Γ f) := (gam_cons (num_Writer_Bytes.sem_ok k) gam_nil)
def num_Writer_Hash.ann (k : Nat) : Ann := .nil
theorem num_Writer_Hash.body (k : Nat) : BodyH (num_Writer_Hash.ctx k) Try.f52 (Func.code Try.f52) (num_Writer_Hash.ann k) num_Writer_Hash.T num_Writer_Hash.os (fun x K => num_Writer_Hash.c k x.1 x.2.1 x.2.2.1 K) := by
  intro ρ x K; kernel_rfl
theorem num_Writer_Hash.sem_ok (k : Nat) : SemOK Try.prog 52 (num_Writer_Hash.sem k) :=
  callH_ok (C := num_Writer_Hash.ctx k) (num_Writer_Hash.gok k) Try.mix (c := Func.code Try.f52) (ann := num_Writer_Hash.ann k) (T := num_Writer_Hash.T) (os := num_Writer_Hash.os) (fun x K => num_Writer_Hash.c k x.1 x.2.1 x.2.2.1 K) Try.func52 (by kernel_rfl) (by kernel_rfl) AnnOK.nil (num_Writer_Hash.body k) (by kernel_rfl) (by kernel_rfl) (by kernel_rfl)

/-! 53 (*bedrock/num.Writer).String · with blocks -/
abbrev num_Writer_String.τ : Type := (((Unit × (Unit × Unit)) × Unit) × (List Int) × Unit)
def num_Writer_String.c (k : Nat) {ρ : Type} (s : ByteArray) (b0 : ((Unit × (Unit × Unit)) × Unit)) (b1 : (List Int)) (K : num_Writer_String.τ → Option ρ) : Option ρ :=
  (num_Writer_Count k (IntKind.wrap IntKind.u64 (((ByteArray.size s) : Nat) : Int)) (((), ((), ())), ()) b1).bind fun t0 => (num_Writer_Bytes k s (((), ((), ())), ()) t0.2.1).bind fun t1 => K ((((), ((), ())), ()), (t1.2.1, ()))
def num_Writer_String (k : Nat) (s : ByteArray) (b0 : ((Unit × (Unit × Unit)) × Unit)) (b1 : (List Int)) : Option num_Writer_String.τ := num_Writer_String.c k s b0 b1 some
def num_Writer_String.T : CallT := ⟨[.ptr 0 [], .dat .str], [.pair (.pair (.sfp 0 [0] 115) (.pair (.vbs 1) (.dat .unit))) (.dat .unit), .vec (.int .u8)], 1⟩
def num_Writer_String.os : List Out := [⟨.ret, [.auto 1], ⟨[], [.pair (.pair (.sfp 0 [0] 115) (.pair (.vbs 1) (.dat .unit))) (.dat .unit), .vec (.int .u8)]⟩⟩]
def num_Writer_String.sem (k : Nat) : CallSem := callH num_Writer_String.T num_Writer_String.os fun x => num_Writer_String k x.1 x.2.1 x.2.2.1
noncomputable def num_Writer_String.ctx (k : Nat) : Ctx := ⟨Try.prog, gam [(51, (num_Writer_Count.sem k)), (29, (num_Writer_Bytes.sem k))]⟩
theorem num_Writer_String.gok (k : Nat) : ∀ f, SemOK Try.prog f ((num_Writer_String.ctx k).Γ f) := (gam_cons (num_Writer_Count.sem_ok k) (gam_cons (num_Writer_Bytes.sem_ok k) gam_nil))
def num_Writer_String.ann (k : Nat) : Ann := .nil
theorem num_Writer_String.body (k : Nat) : BodyH (num_Writer_String.ctx k) Try.f53 (Func.code Try.f53) (num_Writer_String.ann k) num_Writer_String.T num_Writer_String.os (fun x K => num_Writer_String.c k x.1 x.2.1 x.2.2.1 K) := by
  intro ρ x K; kernel_rfl
theorem num_Writer_String.sem_ok (k : Nat) : SemOK Try.prog 53 (num_Writer_String.sem k) :=
  callH_ok (C := num_Writer_String.ctx k) (num_Writer_String.gok k) Try.mix (c := Func.code Try.f53) (ann := num_Writer_String.ann k) (T := num_Writer_String.T) (os := num_Writer_String.os) (fun x K => num_Writer_String.c k x.1 x.2.1 x.2.2.1 K) Try.func53 (by kernel_rfl) (by kernel_rfl) AnnOK.nil (num_Writer_String.body k) (by kernel_rfl) (by kernel_rfl) (by kernel_rfl)

/-! 54 (*bedrock/num.Writer).U64 · with blocks -/
abbrev num_Writer_U64.τ : Type := (((Unit × (Unit × Unit)) × Unit) × (List Int) × Unit)
def num_Writer_U64.c (k : Nat) {ρ : Type} (n : Int) (b0 : ((Unit × (Unit × Unit)) × Unit)) (b1 : (List Int)) (K : num_Writer_U64.τ → Option ρ) : Option ρ :=
  (num_lay k n (8 : Int)).bind fun t0 => (num_Writer_Bytes k t0.1 (((), ((), ())), ()) b1).bind fun t1 => K ((((), ((), ())), ()), (t1.2.1, ()))
def num_Writer_U64 (k : Nat) (n : Int) (b0 : ((Unit × (Unit × Unit)) × Unit)) (b1 : (List Int)) : Option num_Writer_U64.τ := num_Writer_U64.c k n b0 b1 some
def num_Writer_U64.T : CallT := ⟨[.ptr 0 [], .dat (.int .u64)], [.pair (.pair (.sfp 0 [0] 115) (.pair (.vbs 1) (.dat .unit))) (.dat .unit), .vec (.int .u8)], 1⟩
def num_Writer_U64.os : List Out := [⟨.ret, [.auto 1], ⟨[], [.pair (.pair (.sfp 0 [0] 115) (.pair (.vbs 1) (.dat .unit))) (.dat .unit), .vec (.int .u8)]⟩⟩]
def num_Writer_U64.sem (k : Nat) : CallSem := callH num_Writer_U64.T num_Writer_U64.os fun x => num_Writer_U64 k x.1 x.2.1 x.2.2.1
noncomputable def num_Writer_U64.ctx (k : Nat) : Ctx := ⟨Try.prog, gam [(45, (num_lay.sem k)), (29, (num_Writer_Bytes.sem k))]⟩
theorem num_Writer_U64.gok (k : Nat) : ∀ f, SemOK Try.prog f ((num_Writer_U64.ctx k).Γ f) := (gam_cons (num_lay.sem_ok k) (gam_cons (num_Writer_Bytes.sem_ok k) gam_nil))
def num_Writer_U64.ann (k : Nat) : Ann := .nil
theorem num_Writer_U64.body (k : Nat) : BodyH (num_Writer_U64.ctx k) Try.f54 (Func.code Try.f54) (num_Writer_U64.ann k) num_Writer_U64.T num_Writer_U64.os (fun x K => num_Writer_U64.c k x.1 x.2.1 x.2.2.1 K) := by
  intro ρ x K; kernel_rfl
theorem num_Writer_U64.sem_ok (k : Nat) : SemOK Try.prog 54 (num_Writer_U64.sem k) :=
  callH_ok (C := num_Writer_U64.ctx k) (num_Writer_U64.gok k) Try.mix (c := Func.code Try.f54) (ann := num_Writer_U64.ann k) (T := num_Writer_U64.T) (os := num_Writer_U64.os) (fun x K => num_Writer_U64.c k x.1 x.2.1 x.2.2.1 K) Try.func54 (by kernel_rfl) (by kernel_rfl) AnnOK.nil (num_Writer_U64.body k) (by kernel_rfl) (by kernel_rfl) (by kernel_rfl)

/-! 35 bedrock/tx.Encode -/
abbrev tx_Encode.l0.σ : Type := (List (((List Int) × (Int × Unit)) × (ByteArray × (Int × Unit)))) × Int × Int × (Int × ((List (((List Int) × (Int × Unit)) × (ByteArray × (Int × Unit)))) × ((List (Int × (ByteArray × Unit))) × (Int × Unit)))) × Unit
abbrev tx_Encode.l0.τ : Type := (ByteArray × Int × Unit) ⊕ ((Int × ((List (((List Int) × (Int × Unit)) × (ByteArray × (Int × Unit)))) × ((List (Int × (ByteArray × Unit))) × (Int × Unit)))) × Unit)
def tx_Encode.l0.r (k : Nat) {ρ : Type} (x : tx_Encode.l0.σ) (kn : tx_Encode.l0.σ → Option ρ) (ke : tx_Encode.l0.τ → Option ρ) : Option ρ :=
  bif (decide (x.2.2.1 < x.2.1)) then (bif (decide (((0 : Int) ≤ x.2.2.1) ∧ (x.2.2.1 < (((List.length x.1) : Nat) : Int)))) then (let v2 : ByteArray := (List.getD x.1 (Int.toNat x.2.2.1) (((List.replicate 32 (0 : Int)), ((0 : Int), ())), (ByteArray.empty, ((0 : Int), ())))).2.1
  bif (decide ((((ByteArray.size v2) : Nat) : Int) > (520 : Int))) then (ke (.inl ((⟨(List.toArray [])⟩ : ByteArray), ((100 : Int), ())))) else (let v3 : Int := (IntKind.wrap IntKind.i64 (x.2.2.1 + (1 : Int)))
  kn (x.1, (x.2.1, (v3, ((x.2.2.2.1.1, (x.2.2.2.1.2.1, (x.2.2.2.1.2.2.1, (x.2.2.2.1.2.2.2.1, ())))), ())))))) else (none)) else (ke (.inr ((x.2.2.2.1.1, (x.2.2.2.1.2.1, (x.2.2.2.1.2.2.1, (x.2.2.2.1.2.2.2.1, ())))), ())))
def tx_Encode.l0 (k : Nat) : Nat → tx_Encode.l0.σ → Option tx_Encode.l0.τ := loopJ (tx_Encode.l0.r k)
def tx_Encode.l0.T : StT := ⟨us 1 ++ .ptr 0 [] :: us 12 ++ .dat (.sl (.pair (.pair (.arr 32 (.int .u8)) (.pair (.int .u32) .unit)) (.pair .str (.pair (.int .u32) .unit)))) :: .dat (.int .i64) :: .dat (.int .i64) :: us 88, [.dat (.pair (.int .u32) (.pair (.sl (.pair (.pair (.arr 32 (.int .u8)) (.pair (.int .u32) .unit)) (.pair .str (.pair (.int .u32) .unit)))) (.pair (.sl (.pair (.int .u64) (.pair .str .unit))) (.pair (.int .u32) .unit))))]⟩
def tx_Encode.l0.os : List Out := [⟨.ret, [.mask [2, 3], .auto 0], ⟨us 2 ++ .dat .str :: .dat (.int .i64) :: us 101, []⟩⟩, ⟨(.exit 0), [.mask [1], .auto 0], ⟨us 1 ++ .ptr 0 [] :: us 103, [.dat (.pair (.int .u32) (.pair (.sl (.pair (.pair (.arr 32 (.int .u8)) (.pair (.int .u32) .unit)) (.pair .str (.pair (.int .u32) .unit)))) (.pair (.sl (.pair (.int .u64) (.pair .str .unit))) (.pair (.int .u32) .unit))))]⟩⟩]
abbrev tx_Encode.l1.σ : Type := (List (Int × (ByteArray × Unit))) × Int × Int × (Int × ((List (((List Int) × (Int × Unit)) × (ByteArray × (Int × Unit)))) × ((List (Int × (ByteArray × Unit))) × (Int × Unit)))) × Unit
abbrev tx_Encode.l1.τ : Type := (ByteArray × Int × Unit) ⊕ ((Int × ((List (((List Int) × (Int × Unit)) × (ByteArray × (Int × Unit)))) × ((List (Int × (ByteArray × Unit))) × (Int × Unit)))) × Unit)
def tx_Encode.l1.r (k : Nat) {ρ : Type} (x : tx_Encode.l1.σ) (kn : tx_Encode.l1.σ → Option ρ) (ke : tx_Encode.l1.τ → Option ρ) : Option ρ :=
  bif (decide (x.2.2.1 < x.2.1)) then (bif (decide (((0 : Int) ≤ x.2.2.1) ∧ (x.2.2.1 < (((List.length x.1) : Nat) : Int)))) then (let v9 : ByteArray := (List.getD x.1 (Int.toNat x.2.2.1) ((0 : Int), (ByteArray.empty, ()))).2.1
  bif (decide ((((ByteArray.size v9) : Nat) : Int) > (520 : Int))) then (ke (.inl ((⟨(List.toArray [])⟩ : ByteArray), ((100 : Int), ())))) else (let v10 : Int := (IntKind.wrap IntKind.i64 (x.2.2.1 + (1 : Int)))
  kn (x.1, (x.2.1, (v10, ((x.2.2.2.1.1, (x.2.2.2.1.2.1, (x.2.2.2.1.2.2.1, (x.2.2.2.1.2.2.2.1, ())))), ())))))) else (none)) else (ke (.inr ((x.2.2.2.1.1, (x.2.2.2.1.2.1, (x.2.2.2.1.2.2.1, (x.2.2.2.1.2.2.2.1, ())))), ())))
def tx_Encode.l1 (k : Nat) : Nat → tx_Encode.l1.σ → Option tx_Encode.l1.τ := loopJ (tx_Encode.l1.r k)
def tx_Encode.l1.T : StT := ⟨us 1 ++ .ptr 0 [] :: us 24 ++ .dat (.sl (.pair (.int .u64) (.pair .str .unit))) :: .dat (.int .i64) :: .dat (.int .i64) :: us 76, [.dat (.pair (.int .u32) (.pair (.sl (.pair (.pair (.arr 32 (.int .u8)) (.pair (.int .u32) .unit)) (.pair .str (.pair (.int .u32) .unit)))) (.pair (.sl (.pair (.int .u64) (.pair .str .unit))) (.pair (.int .u32) .unit))))]⟩
def tx_Encode.l1.os : List Out := [⟨.ret, [.mask [2, 3], .auto 0], ⟨us 2 ++ .dat .str :: .dat (.int .i64) :: us 101, []⟩⟩, ⟨(.exit 2), [.mask [1], .auto 0], ⟨us 1 ++ .ptr 0 [] :: us 103, [.dat (.pair (.int .u32) (.pair (.sl (.pair (.pair (.arr 32 (.int .u8)) (.pair (.int .u32) .unit)) (.pair .str (.pair (.int .u32) .unit)))) (.pair (.sl (.pair (.int .u64) (.pair .str .unit))) (.pair (.int .u32) .unit))))]⟩⟩]
abbrev tx_Encode.l2.σ : Type := (List (((List Int) × (Int × Unit)) × (ByteArray × (Int × Unit)))) × Int × Int × (Int × ((List (((List Int) × (Int × Unit)) × (ByteArray × (Int × Unit)))) × ((List (Int × (ByteArray × Unit))) × (Int × Unit)))) × ((Unit × (Unit × Unit)) × Unit) × (List Int) × Unit
abbrev tx_Encode.l2.τ : Type := ((Int × ((List (((List Int) × (Int × Unit)) × (ByteArray × (Int × Unit)))) × ((List (Int × (ByteArray × Unit))) × (Int × Unit)))) × ((Unit × (Unit × Unit)) × Unit) × (List Int) × Unit)
def tx_Encode.l2.r (k : Nat) {ρ : Type} (x : tx_Encode.l2.σ) (kn : tx_Encode.l2.σ → Option ρ) (ke : tx_Encode.l2.τ → Option ρ) : Option ρ :=
  bif (decide (x.2.2.1 < x.2.1)) then (bif (decide (((0 : Int) ≤ x.2.2.1) ∧ (x.2.2.1 < (((List.length x.1) : Nat) : Int)))) then (let v23 : (List Int) := (List.getD x.1 (Int.toNat x.2.2.1) (((List.replicate 32 (0 : Int)), ((0 : Int), ())), (ByteArray.empty, ((0 : Int), ())))).1.1
  (num_Writer_Hash k v23 (((), ((), ())), ()) x.2.2.2.2.2.1).bind fun t24 => let v25 : Int := (List.getD x.1 (Int.toNat x.2.2.1) (((List.replicate 32 (0 : Int)), ((0 : Int), ())), (ByteArray.empty, ((0 : Int), ())))).1.2.1
  (num_Writer_U32 k v25 (((), ((), ())), ()) t24.2.1).bind fun t26 => let v27 : ByteArray := (List.getD x.1 (Int.toNat x.2.2.1) (((List.replicate 32 (0 : Int)), ((0 : Int), ())), (ByteArray.empty, ((0 : Int), ())))).2.1
  (num_Writer_String k v27 (((), ((), ())), ()) t26.2.1).bind fun t28 => let v29 : Int := (List.getD x.1 (Int.toNat x.2.2.1) (((List.replicate 32 (0 : Int)), ((0 : Int), ())), (ByteArray.empty, ((0 : Int), ())))).2.2.1
  (num_Writer_U32 k v29 (((), ((), ())), ()) t28.2.1).bind fun t30 => let v31 : Int := (IntKind.wrap IntKind.i64 (x.2.2.1 + (1 : Int)))
  kn (x.1, (x.2.1, (v31, ((x.2.2.2.1.1, (x.2.2.2.1.2.1, (x.2.2.2.1.2.2.1, (x.2.2.2.1.2.2.2.1, ())))), ((((), ((), ())), ()), (t30.2.1, ()))))))) else (none)) else (ke ((x.2.2.2.1.1, (x.2.2.2.1.2.1, (x.2.2.2.1.2.2.1, (x.2.2.2.1.2.2.2.1, ())))), ((((), ((), ())), ()), (x.2.2.2.2.2.1, ()))))
def tx_Encode.l2 (k : Nat) : Nat → tx_Encode.l2.σ → Option tx_Encode.l2.τ := loopJ (tx_Encode.l2.r k)
def tx_Encode.l2.T : StT := ⟨us 1 ++ .ptr 0 [] :: us 6 ++ .ptr 1 [] :: us 43 ++ .dat (.sl (.pair (.pair (.arr 32 (.int .u8)) (.pair (.int .u32) .unit)) (.pair .str (.pair (.int .u32) .unit)))) :: .dat (.int .i64) :: .dat (.int .i64) :: us 50, [.dat (.pair (.int .u32) (.pair (.sl (.pair (.pair (.arr 32 (.int .u8)) (.pair (.int .u32) .unit)) (.pair .str (.pair (.int .u32) .unit)))) (.pair (.sl (.pair (.int .u64) (.pair .str .unit))) (.pair (.int .u32) .unit)))), .pair (.pair (.sfp 1 [0] 115) (.pair (.vbs 2) (.dat .unit))) (.dat .unit), .vec (.int .u8)]⟩
def tx_Encode.l2.os : List Out := [⟨(.exit 4), [.mask [1, 8], .auto 0], ⟨us 1 ++ .ptr 0 [] :: us 6 ++ .ptr 1 [] :: us 96, [.dat (.pair (.int .u32) (.pair (.sl (.pair (.pair (.arr 32 (.int .u8)) (.pair (.int .u32) .unit)) (.pair .str (.pair (.int .u32) .unit)))) (.pair (.sl (.pair (.int .u64) (.pair .str .unit))) (.pair (.int .u32) .unit)))), .pair (.pair (.sfp 1 [0] 115) (.pair (.vbs 2) (.dat .unit))) (.dat .unit), .vec (.int .u8)]⟩⟩]
abbrev tx_Encode.l3.σ : Type := (List (Int × (ByteArray × Unit))) × Int × Int × (Int × ((List (((List Int) × (Int × Unit)) × (ByteArray × (Int × Unit)))) × ((List (Int × (ByteArray × Unit))) × (Int × Unit)))) × ((Unit × (Unit × Unit)) × Unit) × (List Int) × Unit
abbrev tx_Encode.l3.τ : Type := ((Int × ((List (((List Int) × (Int × Unit)) × (ByteArray × (Int × Unit)))) × ((List (Int × (ByteArray × Unit))) × (Int × Unit)))) × ((Unit × (Unit × Unit)) × Unit) × (List Int) × Unit)
def tx_Encode.l3.r (k : Nat) {ρ : Type} (x : tx_Encode.l3.σ) (kn : tx_Encode.l3.σ → Option ρ) (ke : tx_Encode.l3.τ → Option ρ) : Option ρ :=
  bif (decide (x.2.2.1 < x.2.1)) then (bif (decide (((0 : Int) ≤ x.2.2.1) ∧ (x.2.2.1 < (((List.length x.1) : Nat) : Int)))) then (let v38 : Int := (List.getD x.1 (Int.toNat x.2.2.1) ((0 : Int), (ByteArray.empty, ()))).1
  (num_Writer_U64 k v38 (((), ((), ())), ()) x.2.2.2.2.2.1).bind fun t39 => let v40 : ByteArray := (List.getD x.1 (Int.toNat x.2.2.1) ((0 : Int), (ByteArray.empty, ()))).2.1
  (num_Writer_String k v40 (((), ((), ())), ()) t39.2.1).bind fun t41 => let v42 : Int := (IntKind.wrap IntKind.i64 (x.2.2.1 + (1 : Int)))
  kn (x.1, (x.2.1, (v42, ((x.2.2.2.1.1, (x.2.2.2.1.2.1, (x.2.2.2.1.2.2.1, (x.2.2.2.1.2.2.2.1, ())))), ((((), ((), ())), ()), (t41.2.1, ()))))))) else (none)) else (ke ((x.2.2.2.1.1, (x.2.2.2.1.2.1, (x.2.2.2.1.2.2.1, (x.2.2.2.1.2.2.2.1, ())))), ((((), ((), ())), ()), (x.2.2.2.2.2.1, ()))))
def tx_Encode.l3 (k : Nat) : Nat → tx_Encode.l3.σ → Option tx_Encode.l3.τ := loopJ (tx_Encode.l3.r k)
def tx_Encode.l3.T : StT := ⟨us 1 ++ .ptr 0 [] :: us 6 ++ .ptr 1 [] :: us 75 ++ .dat (.sl (.pair (.int .u64) (.pair .str .unit))) :: .dat (.int .i64) :: .dat (.int .i64) :: us 18, [.dat (.pair (.int .u32) (.pair (.sl (.pair (.pair (.arr 32 (.int .u8)) (.pair (.int .u32) .unit)) (.pair .str (.pair (.int .u32) .unit)))) (.pair (.sl (.pair (.int .u64) (.pair .str .unit))) (.pair (.int .u32) .unit)))), .pair (.pair (.sfp 1 [0] 115) (.pair (.vbs 2) (.dat .unit))) (.dat .unit), .vec (.int .u8)]⟩
def tx_Encode.l3.os : List Out := [⟨(.exit 6), [.mask [1, 8], .auto 0], ⟨us 1 ++ .ptr 0 [] :: us 6 ++ .ptr 1 [] :: us 96, [.dat (.pair (.int .u32) (.pair (.sl (.pair (.pair (.arr 32 (.int .u8)) (.pair (.int .u32) .unit)) (.pair .str (.pair (.int .u32) .unit)))) (.pair (.sl (.pair (.int .u64) (.pair .str .unit))) (.pair (.int .u32) .unit)))), .pair (.pair (.sfp 1 [0] 115) (.pair (.vbs 2) (.dat .unit))) (.dat .unit), .vec (.int .u8)]⟩⟩]
def tx_Encode.c (k : Nat) {ρ : Type} (t : (Int × ((List (((List Int) × (Int × Unit)) × (ByteArray × (Int × Unit)))) × ((List (Int × (ByteArray × Unit))) × (Int × Unit))))) (K : ByteArray × Int × Unit → Option ρ) : Option ρ :=
  let v0 : (List (((List Int) × (Int × Unit)) × (ByteArray × (Int × Unit)))) := t.2.1
  let v1 : Int := (((List.length v0) : Nat) : Int)
  (tx_Encode.l0 k k (v0, (v1, ((0 : Int), ((t.1, (t.2.1, (t.2.2.1, (t.2.2.2.1, ())))), ()))))).bind fun t4 => (match t4 with | .inl t5 => (K (t5.1, (t5.2.1, ()))) | .inr (t6) => (let v7 : (List (Int × (ByteArray × Unit))) := t6.1.2.2.1
  let v8 : Int := (((List.length v7) : Nat) : Int)
  (tx_Encode.l1 k k (v7, (v8, ((0 : Int), ((t6.1.1, (t6.1.2.1, (t6.1.2.2.1, (t6.1.2.2.2.1, ())))), ()))))).bind fun t11 => (match t11 with | .inl t12 => (K (t12.1, (t12.2.1, ()))) | .inr (t13) => ((tx_Size k (t13.1.1, (t13.1.2.1, (t13.1.2.2.1, (t13.1.2.2.2.1, ()))))).bind fun t14 => bif (decide (t14.1 > (4096 : Int))) then (K ((⟨(List.toArray [])⟩ : ByteArray), ((101 : Int), ()))) else ((num_NewWriter k ).bind fun t15 => let v16 : Int := t13.1.1
  (num_Writer_U32 k v16 (((), ((), ())), ()) t15.2.1).bind fun t17 => let v18 : (List (((List Int) × (Int × Unit)) × (ByteArray × (Int × Unit)))) := t13.1.2.1
  let v19 : Int := (((List.length v18) : Nat) : Int)
  (num_Writer_Count k (IntKind.wrap IntKind.u64 v19) (((), ((), ())), ()) t17.2.1).bind fun t20 => let v21 : (List (((List Int) × (Int × Unit)) × (ByteArray × (Int × Unit)))) := t13.1.2.1
  let v22 : Int := (((List.length v21) : Nat) : Int)
  (tx_Encode.l2 k k (v21, (v22, ((0 : Int), ((t13.1.1, (t13.1.2.1, (t13.1.2.2.1, (t13.1.2.2.2.1, ())))), ((((), ((), ())), ()), (t20.2.1, ()))))))).bind fun t32 => let v33 : (List (Int × (ByteArray × Unit))) := t32.1.2.2.1
  let v34 : Int := (((List.length v33) : Nat) : Int)
  (num_Writer_Count k (IntKind.wrap IntKind.u64 v34) (((), ((), ())), ()) t32.2.2.1).bind fun t35 => let v36 : (List (Int × (ByteArray × Unit))) := t32.1.2.2.1
  let v37 : Int := (((List.length v36) : Nat) : Int)
  (tx_Encode.l3 k k (v36, (v37, ((0 : Int), ((t32.1.1, (t32.1.2.1, (t32.1.2.2.1, (t32.1.2.2.2.1, ())))), ((((), ((), ())), ()), (t35.2.1, ()))))))).bind fun t43 => let v44 : Int := t43.1.2.2.2.1
  (num_Writer_U32 k v44 (((), ((), ())), ()) t43.2.2.1).bind fun t45 => (num_Writer_Text k (((), ((), ())), ()) t45.2.1).bind fun t46 => K (t46.1, ((0 : Int), ())))))))
def tx_Encode (k : Nat) (t : (Int × ((List (((List Int) × (Int × Unit)) × (ByteArray × (Int × Unit)))) × ((List (Int × (ByteArray × Unit))) × (Int × Unit))))) : Option (ByteArray × Int × Unit) := tx_Encode.c k t some
def tx_Encode.tin : List Ty := [(.pair (.int .u32) (.pair (.sl (.pair (.pair (.arr 32 (.int .u8)) (.pair (.int .u32) .unit)) (.pair .str (.pair (.int .u32) .unit)))) (.pair (.sl (.pair (.int .u64) (.pair .str .unit))) (.pair (.int .u32) .unit))))]
def tx_Encode.tout : List Ty := [.str, (.int .i64)]
def tx_Encode.sem (k : Nat) : CallSem := callPure tx_Encode.tin tx_Encode.tout fun x => tx_Encode k x.1
noncomputable def tx_Encode.ctx (k : Nat) : Ctx := ⟨Try.prog, gam [(50, (tx_Size.sem k)), (27, (num_NewWriter.sem k)), (28, (num_Writer_U32.sem k)), (51, (num_Writer_Count.sem k)), (52, (num_Writer_Hash.sem k)), (53, (num_Writer_String.sem k)), (54, (num_Writer_U64.sem k)), (30, (num_Writer_Text.sem k))]⟩
theorem tx_Encode.gok (k : Nat) : ∀ f, SemOK Try.prog f ((tx_Encode.ctx k).Γ f) := (gam_cons (tx_Size.sem_ok k) (gam_cons (num_NewWriter.sem_ok k) (gam_cons (num_Writer_U32.sem_ok k) (gam_cons (num_Writer_Count.sem_ok k) (gam_cons (num_Writer_Hash.sem_ok k) (gam_cons (num_Writer_String.sem_ok k) (gam_cons (num_Writer_U64.sem_ok k) (gam_cons (num_Writer_Text.sem_ok k) gam_nil))))))))
theorem tx_Encode.l0.round (k : Nat) : RoundIs (tx_Encode.ctx k) (codeAt (Func.code Try.f35) [1, 0, 1, 0, 0]) (.nil) tx_Encode.l0.T [.mask [1, 14, 15, 16], .auto 0] tx_Encode.l0.os (tx_Encode.l0.r k) := by
  intro ρ x kn ke; kernel_rfl
theorem tx_Encode.l0.ok (k : Nat) : StOK 0 Try.prog (.loop (codeAt (Func.code Try.f35) [1, 0, 1, 0, 0])) (pieceSem tx_Encode.l0.T tx_Encode.l0.os (tx_Encode.l0 k k)) :=
  loop_ok (C := tx_Encode.ctx k) (tx_Encode.gok k) Try.mix AnnOK.nil (by kernel_rfl) (by kernel_rfl) (by kernel_rfl) (tx_Encode.l0.round k) k
theorem tx_Encode.l1.round (k : Nat) : RoundIs (tx_Encode.ctx k) (codeAt (Func.code Try.f35) [1, 1, 0, 1, 0, 0]) (.nil) tx_Encode.l1.T [.mask [1, 26, 27, 28], .auto 0] tx_Encode.l1.os (tx_Encode.l1.r k) := by
  intro ρ x kn ke; kernel_rfl
theorem tx_Encode.l1.ok (k : Nat) : StOK 0 Try.prog (.loop (codeAt (Func.code Try.f35) [1, 1, 0, 1, 0, 0])) (pieceSem tx_Encode.l1.T tx_Encode.l1.os (tx_Encode.l1 k k)) :=
  loop_ok (C := tx_Encode.ctx k) (tx_Encode.gok k) Try.mix AnnOK.nil (by kernel_rfl) (by kernel_rfl) (by kernel_rfl) (tx_Encode.l1.round k) k
theorem tx_Encode.l2.round (k : Nat) : RoundIs (tx_Encode.ctx k) (codeAt (Func.code Try.f35) [1, 1, 1, 1, 1, 1, 1, 0, 1, 0, 0]) (.nil) tx_Encode.l2.T [.mask [1, 8, 52, 53, 54], .auto 0] tx_Encode.l2.os (tx_Encode.l2.r k) := by
  intro ρ x kn ke; kernel_rfl
theorem tx_Encode.l2.ok (k : Nat) : StOK 0 Try.prog (.loop (codeAt (Func.code Try.f35) [1, 1, 1, 1, 1, 1, 1, 0, 1, 0, 0])) (pieceSem tx_Encode.l2.T tx_Encode.l2.os (tx_Encode.l2 k k)) :=
  loop_ok (C := tx_Encode.ctx k) (tx_Encode.gok k) Try.mix AnnOK.nil (by kernel_rfl) (by kernel_rfl) (by kernel_rfl) (tx_Encode.l2.round k) k
theorem tx_Encode.l3.round (k : Nat) : RoundIs (tx_Encode.ctx k) (codeAt (Func.code Try.f35) [1, 1, 1, 1, 1, 1, 1, 1, 1, 0, 1, 0, 0]) (.nil) tx_Encode.l3.T [.mask [1, 8, 84, 85, 86], .auto 0] tx_Encode.l3.os (tx_Encode.l3.r k) := by
  intro ρ x kn ke; kernel_rfl
theorem tx_Encode.l3.ok (k : Nat) : StOK 0 Try.prog (.loop (codeAt (Func.code Try.f35) [1, 1, 1, 1, 1, 1, 1, 1, 1, 0, 1, 0, 0])) (pieceSem tx_Encode.l3.T tx_Encode.l3.os (tx_Encode.l3 k k)) :=
  loop_ok (C := tx_Encode.ctx k) (tx_Encode.gok k) Try.mix AnnOK.nil (by kernel_rfl) (by kernel_rfl) (by kernel_rfl) (tx_Encode.l3.round k) k
def tx_Encode.ann (k : Nat) : Ann := .node [] none (.nil) (.node [] none (.node [] none (.nil) (.node [] none (.node [.mask [1, 14, 15, 16], .auto 0] (some (pieceSem tx_Encode.l0.T tx_Encode.l0.os (tx_Encode.l0 k k))) .nil .nil) (.nil))) (.node [] none (.node [] none (.nil) (.node [] none (.node [.mask [1, 26, 27, 28], .auto 0] (some (pieceSem tx_Encode.l1.T tx_Encode.l1.os (tx_Encode.l1 k k))) .nil .nil) (.nil))) (.node [] none (.nil) (.node [] none (.nil) (.node [] none (.nil) (.node [] none (.nil) (.node [] none (.node [] none (.nil) (.node [] none (.node [.mask [1, 8, 52, 53, 54], .auto 0] (some (pieceSem tx_Encode.l2.T tx_Encode.l2.os (tx_Encode.l2 k k))) .nil .nil) (.nil))) (.node [] none (.nil) (.node [] none (.node [] none (.nil) (.node [] none (.node [.mask [1, 8, 84, 85, 86], .auto 0] (some (pieceSem tx_Encode.l3.T tx_Encode.l3.os (tx_Encode.l3 k k))) .nil .nil) (.nil))) (.nil))))))))))
theorem tx_Encode.body (k : Nat) : BodyIs (tx_Encode.ctx k) Try.f35 (Func.code Try.f35) (tx_Encode.ann k) tx_Encode.tin tx_Encode.tout (fun x K => tx_Encode.c k x.1 K) := by
  intro ρ x K; kernel_rfl
theorem tx_Encode.sem_ok (k : Nat) : SemOK Try.prog 35 (tx_Encode.sem k) :=
  callPure_ok (C := tx_Encode.ctx k) (tx_Encode.gok k) Try.mix (c := Func.code Try.f35) (ann := tx_Encode.ann k) (tin := tx_Encode.tin) (tout := tx_Encode.tout) (fun x K => tx_Encode.c k x.1 K) Try.func35 (by kernel_rfl) (by kernel_rfl) (AnnOK.seq AnnOK.nil (AnnOK.seq (AnnOK.seq AnnOK.nil (AnnOK.block (AnnOK.loop (by kernel_rfl) (tx_Encode.l0.ok k)))) (AnnOK.seq (AnnOK.seq AnnOK.nil (AnnOK.block (AnnOK.loop (by kernel_rfl) (tx_Encode.l1.ok k)))) (AnnOK.seq AnnOK.nil (AnnOK.seq AnnOK.nil (AnnOK.seq AnnOK.nil (AnnOK.seq AnnOK.nil (AnnOK.seq (AnnOK.seq AnnOK.nil (AnnOK.block (AnnOK.loop (by kernel_rfl) (tx_Encode.l2.ok k)))) (AnnOK.seq AnnOK.nil (AnnOK.seq (AnnOK.seq AnnOK.nil (AnnOK.block (AnnOK.loop (by kernel_rfl) (tx_Encode.l3.ok k)))) AnnOK.nil)))))))))) (tx_Encode.body k)

/-! 20 bedrock/tx.ID -/
def tx_ID.c (k : Nat) {ρ : Type} (t : (Int × ((List (((List Int) × (Int × Unit)) × (ByteArray × (Int × Unit)))) × ((List (Int × (ByteArray × Unit))) × (Int × Unit))))) (K : (List Int) × Int × Unit → Option ρ) : Option ρ :=
  (tx_Encode k (t.1, (t.2.1, (t.2.2.1, (t.2.2.2.1, ()))))).bind fun t0 => let v1 : ByteArray := t0.1
  let v2 : Int := t0.2.1
  bif (v2 != (0 : Int)) then (let v3 : (List Int) := (List.replicate 32 (0 : Int))
  K (v3, (v2, ()))) else ((sha_Twice k v1).bind fun t4 => K (t4.1, ((0 : Int), ())))
def tx_ID (k : Nat) (t : (Int × ((List (((List Int) × (Int × Unit)) × (ByteArray × (Int × Unit)))) × ((List (Int × (ByteArray × Unit))) × (Int × Unit))))) : Option ((List Int) × Int × Unit) := tx_ID.c k t some
def tx_ID.tin : List Ty := [(.pair (.int .u32) (.pair (.sl (.pair (.pair (.arr 32 (.int .u8)) (.pair (.int .u32) .unit)) (.pair .str (.pair (.int .u32) .unit)))) (.pair (.sl (.pair (.int .u64) (.pair .str .unit))) (.pair (.int .u32) .unit))))]
def tx_ID.tout : List Ty := [(.arr 32 (.int .u8)), (.int .i64)]
def tx_ID.sem (k : Nat) : CallSem := callPure tx_ID.tin tx_ID.tout fun x => tx_ID k x.1
noncomputable def tx_ID.ctx (k : Nat) : Ctx := ⟨Try.prog, gam [(35, (tx_Encode.sem k)), (36, (sha_Twice.sem k))]⟩
theorem tx_ID.gok (k : Nat) : ∀ f, SemOK Try.prog f ((tx_ID.ctx k).Γ f) := (gam_cons (tx_Encode.sem_ok k) (gam_cons (sha_Twice.sem_ok k) gam_nil))
def tx_ID.ann (k : Nat) : Ann := .nil
theorem tx_ID.body (k : Nat) : BodyIs (tx_ID.ctx k) Try.f20 (Func.code Try.f20) (tx_ID.ann k) tx_ID.tin tx_ID.tout (fun x K => tx_ID.c k x.1 K) := by
  intro ρ x K; kernel_rfl
theorem tx_ID.sem_ok (k : Nat) : SemOK Try.prog 20 (tx_ID.sem k) :=
  callPure_ok (C := tx_ID.ctx k) (tx_ID.gok k) Try.mix (c := Func.code Try.f20) (ann := tx_ID.ann k) (tin := tx_ID.tin) (tout := tx_ID.tout) (fun x K => tx_ID.c k x.1 K) Try.func20 (by kernel_rfl) (by kernel_rfl) AnnOK.nil (tx_ID.body k)

/-! 5 bedrock/block.Root -/
abbrev block_Root.l0.σ : Type := (List (Int × ((List (((List Int) × (Int × Unit)) × (ByteArray × (Int × Unit)))) × ((List (Int × (ByteArray × Unit))) × (Int × Unit))))) × Int × Int × (List Int) × (List (List Int)) × Unit
abbrev block_Root.l0.τ : Type := ((List Int) × (List (List Int)) × Unit)
def block_Root.l0.r (k : Nat) {ρ : Type} (x : block_Root.l0.σ) (kn : block_Root.l0.σ → Option ρ) (ke : block_Root.l0.τ → Option ρ) : Option ρ :=
  bif (decide (x.2.2.1 < x.2.1)) then (bif (decide (((0 : Int) ≤ x.2.2.1) ∧ (x.2.2.1 < (((List.length x.1) : Nat) : Int)))) then ((tx_ID k ((List.getD x.1 (Int.toNat x.2.2.1) ((0 : Int), ([], ([], ((0 : Int), ()))))).1, ((List.getD x.1 (Int.toNat x.2.2.1) ((0 : Int), ([], ([], ((0 : Int), ()))))).2.1, ((List.getD x.1 (Int.toNat x.2.2.1) ((0 : Int), ([], ([], ((0 : Int), ()))))).2.2.1, ((List.getD x.1 (Int.toNat x.2.2.1) ((0 : Int), ([], ([], ((0 : Int), ()))))).2.2.2.1, ()))))).bind fun t2 => let v3 : (List Int) := t2.1
  let v4 : Int := t2.2.1
  bif (decide (((0 : Int) ≤ x.2.2.1) ∧ (x.2.2.1 < (((List.length x.2.2.2.2.1) : Nat) : Int)))) then (let v5 : Int := (IntKind.wrap IntKind.i64 (x.2.2.1 + (1 : Int)))
  kn (x.1, (x.2.1, (v5, (x.2.2.2.1, ((List.set x.2.2.2.2.1 (Int.toNat x.2.2.1) v3), ())))))) else (none)) else (none)) else (ke (x.2.2.2.1, (x.2.2.2.2.1, ())))
def block_Root.l0 (k : Nat) : Nat → block_Root.l0.σ → Option block_Root.l0.τ := loopJ (block_Root.l0.r k)
def block_Root.l0.T : StT := ⟨us 2 ++ .ptr 0 [] :: us 1 ++ .vsl 1 :: us 5 ++ .dat (.sl (.pair (.int .u32) (.pair (.sl (.pair (.pair (.arr 32 (.int .u8)) (.pair (.int .u32) .unit)) (.pair .str (.pair (.int .u32) .unit)))) (.pair (.sl (.pair (.int .u64) (.pair .str .unit))) (.pair (.int .u32) .unit))))) :: .dat (.int .i64) :: .dat (.int .i64) :: us 17, [.dat (.arr 32 (.int .u8)), .vec (.arr 32 (.int .u8))]⟩
def block_Root.l0.os : List Out := [⟨(.exit 0), [.mask [2, 4], .auto 0], ⟨us 2 ++ .ptr 0 [] :: us 1 ++ .vsl 1 :: us 25, [.dat (.arr 32 (.int .u8)), .vec (.arr 32 (.int .u8))]⟩⟩]
def block_Root.c (k : Nat) {ρ : Type} (txs : (List (Int × ((List (((List Int) × (Int × Unit)) × (ByteArray × (Int × Unit)))) × ((List (Int × (ByteArray × Unit))) × (Int × Unit)))))) (K : (List Int) × Bool × Unit → Option ρ) : Option ρ :=
  let v0 : Int := (((List.length txs) : Nat) : Int)
  bif ((decide (((0 : Int) ≤ v0) ∧ (v0 ≤ v0))) && (Nat.ble ((Int.toNat v0) * 32) 140737488355328)) then (let v1 : Int := (((List.length txs) : Nat) : Int)
  (block_Root.l0 k k (txs, (v1, ((0 : Int), ((List.replicate 32 (0 : Int)), ((List.replicate (Int.toNat v0) (List.replicate 32 (0 : Int))), ())))))).bind fun t6 => (merkle_Root k t6.2.1).bind fun t7 => let v8 : (List Int) := t7.1
  K (v8, (t7.2.1, ()))) else (none)
def block_Root (k : Nat) (txs : (List (Int × ((List (((List Int) × (Int × Unit)) × (ByteArray × (Int × Unit)))) × ((List (Int × (ByteArray × Unit))) × (Int × Unit)))))) : Option ((List Int) × Bool × Unit) := block_Root.c k txs some
def block_Root.tin : List Ty := [(.sl (.pair (.int .u32) (.pair (.sl (.pair (.pair (.arr 32 (.int .u8)) (.pair (.int .u32) .unit)) (.pair .str (.pair (.int .u32) .unit)))) (.pair (.sl (.pair (.int .u64) (.pair .str .unit))) (.pair (.int .u32) .unit)))))]
def block_Root.tout : List Ty := [(.arr 32 (.int .u8)), .bool]
def block_Root.sem (k : Nat) : CallSem := callPure block_Root.tin block_Root.tout fun x => block_Root k x.1
noncomputable def block_Root.ctx (k : Nat) : Ctx := ⟨Try.prog, gam [(20, (tx_ID.sem k)), (21, (merkle_Root.sem k))]⟩
theorem block_Root.gok (k : Nat) : ∀ f, SemOK Try.prog f ((block_Root.ctx k).Γ f) := (gam_cons (tx_ID.sem_ok k) (gam_cons (merkle_Root.sem_ok k) gam_nil))
theorem block_Root.l0.round (k : Nat) : RoundIs (block_Root.ctx k) (codeAt (Func.code Try.f5) [1, 1, 0, 1, 0, 0]) (.nil) block_Root.l0.T [.mask [2, 4, 10, 11, 12], .auto 0] block_Root.l0.os (block_Root.l0.r k) := by
  intro ρ x kn ke; kernel_rfl
theorem block_Root.l0.ok (k : Nat) : StOK 0 Try.prog (.loop (codeAt (Func.code Try.f5) [1, 1, 0, 1, 0, 0])) (pieceSem block_Root.l0.T block_Root.l0.os (block_Root.l0 k k)) :=
  loop_ok (C := block_Root.ctx k) (block_Root.gok k) Try.mix AnnOK.nil (by kernel_rfl) (by kernel_rfl) (by kernel_rfl) (block_Root.l0.round k) k
def block_Root.ann (k : Nat) : Ann := .node [] none (.nil) (.node [] none (.nil) (.node [] none (.node [] none (.nil) (.node [] none (.node [.mask [2, 4, 10, 11, 12], .auto 0] (some (pieceSem block_Root.l0.T block_Root.l0.os (block_Root.l0 k k))) .nil .nil) (.nil))) (.nil)))
theorem block_Root.body (k : Nat) : BodyIs (block_Root.ctx k) Try.f5 (Func.code Try.f5) (block_Root.ann k) block_Root.tin block_Root.tout (fun x K => block_Root.c k x.1 K) := by
  intro ρ x K; kernel_rfl
theorem block_Root.sem_ok (k : Nat) : SemOK Try.prog 5 (block_Root.sem k) :=
  callPure_ok (C := block_Root.ctx k) (block_Root.gok k) Try.mix (c := Func.code Try.f5) (ann := block_Root.ann k) (tin := block_Root.tin) (tout := block_Root.tout) (fun x K => block_Root.c k x.1 K) Try.func5 (by kernel_rfl) (by kernel_rfl) (AnnOK.seq AnnOK.nil (AnnOK.seq AnnOK.nil (AnnOK.seq (AnnOK.seq AnnOK.nil (AnnOK.block (AnnOK.loop (by kernel_rfl) (block_Root.l0.ok k)))) AnnOK.nil))) (block_Root.body k)

/-! 62 bedrock/block.copied -/
def block_copied.c (k : Nat) {ρ : Type} (t : (Int × ((List (((List Int) × (Int × Unit)) × (ByteArray × (Int × Unit)))) × ((List (Int × (ByteArray × Unit))) × (Int × Unit))))) (K : (Int × ((List (((List Int) × (Int × Unit)) × (ByteArray × (Int × Unit)))) × ((List (Int × (ByteArray × Unit))) × (Int × Unit)))) × Unit → Option ρ) : Option ρ :=
  let v0 : (List (((List Int) × (Int × Unit)) × (ByteArray × (Int × Unit)))) := t.2.1
  bif (Nat.ble ((List.length v0) * 64) 140737488355328) then (let v1 : (List (Int × (ByteArray × Unit))) := t.2.2.1
  bif (Nat.ble ((List.length v1) * 24) 140737488355328) then (K ((t.1, (v0, (v1, (t.2.2.2.1, ())))), ())) else (none)) else (none)
def block_copied (k : Nat) (t : (Int × ((List (((List Int) × (Int × Unit)) × (ByteArray × (Int × Unit)))) × ((List (Int × (ByteArray × Unit))) × (Int × Unit))))) : Option ((Int × ((List (((List Int) × (Int × Unit)) × (ByteArray × (Int × Unit)))) × ((List (Int × (ByteArray × Unit))) × (Int × Unit)))) × Unit) := block_copied.c k t some
def block_copied.tin : List Ty := [(.pair (.int .u32) (.pair (.sl (.pair (.pair (.arr 32 (.int .u8)) (.pair (.int .u32) .unit)) (.pair .str (.pair (.int .u32) .unit)))) (.pair (.sl (.pair (.int .u64) (.pair .str .unit))) (.pair (.int .u32) .unit))))]
def block_copied.tout : List Ty := [(.pair (.int .u32) (.pair (.sl (.pair (.pair (.arr 32 (.int .u8)) (.pair (.int .u32) .unit)) (.pair .str (.pair (.int .u32) .unit)))) (.pair (.sl (.pair (.int .u64) (.pair .str .unit))) (.pair (.int .u32) .unit))))]
def block_copied.sem (k : Nat) : CallSem := callPure block_copied.tin block_copied.tout fun x => block_copied k x.1
noncomputable def block_copied.ctx (k : Nat) : Ctx := ⟨Try.prog, gam []⟩
theorem block_copied.gok (k : Nat) : ∀ f, SemOK Try.prog f ((block_copied.ctx k).Γ f) := gam_nil
def block_copied.ann (k : Nat) : Ann := .nil
theorem block_copied.body (k : Nat) : BodyIs (block_copied.ctx k) Try.f62 (Func.code Try.f62) (block_copied.ann k) block_copied.tin block_copied.tout (fun x K => block_copied.c k x.1 K) := by
  intro ρ x K; kernel_rfl
theorem block_copied.sem_ok (k : Nat) : SemOK Try.prog 62 (block_copied.sem k) :=
  callPure_ok (C := block_copied.ctx k) (block_copied.gok k) Try.mix (c := Func.code Try.f62) (ann := block_copied.ann k) (tin := block_copied.tin) (tout := block_copied.tout) (fun x K => block_copied.c k x.1 K) Try.func62 (by kernel_rfl) (by kernel_rfl) AnnOK.nil (block_copied.body k)

/-! 68 bedrock/block.Head -/
def block_Head.c (k : Nat) {ρ : Type} (h : (Int × ((List Int) × ((List Int) × (Int × (Int × (Int × Unit))))))) (K : ByteArray × Unit → Option ρ) : Option ρ :=
  (num_NewWriter k ).bind fun t0 => let v1 : Int := h.1
  (num_Writer_U32 k v1 (((), ((), ())), ()) t0.2.1).bind fun t2 => let v3 : (List Int) := h.2.1
  (num_Writer_Hash k v3 (((), ((), ())), ()) t2.2.1).bind fun t4 => let v5 : (List Int) := h.2.2.1
  (num_Writer_Hash k v5 (((), ((), ())), ()) t4.2.1).bind fun t6 => let v7 : Int := h.2.2.2.1
  (num_Writer_U32 k v7 (((), ((), ())), ()) t6.2.1).bind fun t8 => let v9 : Int := h.2.2.2.2.1
  (num_Writer_U32 k v9 (((), ((), ())), ()) t8.2.1).bind fun t10 => let v11 : Int := h.2.2.2.2.2.1
  (num_Writer_U32 k v11 (((), ((), ())), ()) t10.2.1).bind fun t12 => (num_Writer_Text k (((), ((), ())), ()) t12.2.1).bind fun t13 => K (t13.1, ())
def block_Head (k : Nat) (h : (Int × ((List Int) × ((List Int) × (Int × (Int × (Int × Unit))))))) : Option (ByteArray × Unit) := block_Head.c k h some
def block_Head.tin : List Ty := [(.pair (.int .u32) (.pair (.arr 32 (.int .u8)) (.pair (.arr 32 (.int .u8)) (.pair (.int .u32) (.pair (.int .u32) (.pair (.int .u32) .unit))))))]
def block_Head.tout : List Ty := [.str]
def block_Head.sem (k : Nat) : CallSem := callPure block_Head.tin block_Head.tout fun x => block_Head k x.1
noncomputable def block_Head.ctx (k : Nat) : Ctx := ⟨Try.prog, gam [(27, (num_NewWriter.sem k)), (28, (num_Writer_U32.sem k)), (52, (num_Writer_Hash.sem k)), (30, (num_Writer_Text.sem k))]⟩
theorem block_Head.gok (k : Nat) : ∀ f, SemOK Try.prog f ((block_Head.ctx k).Γ f) := (gam_cons (num_NewWriter.sem_ok k) (gam_cons (num_Writer_U32.sem_ok k) (gam_cons (num_Writer_Hash.sem_ok k) (gam_cons (num_Writer_Text.sem_ok k) gam_nil))))
def block_Head.ann (k : Nat) : Ann := .nil
theorem block_Head.body (k : Nat) : BodyIs (block_Head.ctx k) Try.f68 (Func.code Try.f68) (block_Head.ann k) block_Head.tin block_Head.tout (fun x K => block_Head.c k x.1 K) := by
  intro ρ x K; kernel_rfl
theorem block_Head.sem_ok (k : Nat) : SemOK Try.prog 68 (block_Head.sem k) :=
  callPure_ok (C := block_Head.ctx k) (block_Head.gok k) Try.mix (c := Func.code Try.f68) (ann := block_Head.ann k) (tin := block_Head.tin) (tout := block_Head.tout) (fun x K => block_Head.c k x.1 K) Try.func68 (by kernel_rfl) (by kernel_rfl) AnnOK.nil (block_Head.body k)

/-! 95 (*strings.Builder).Len · with blocks -/
abbrev strings_Builder_Len.τ : Type := (Int × ((Unit × (Unit × Unit)) × Unit) × (List Int) × Unit)
def strings_Builder_Len.c (k : Nat) {ρ : Type} (b0 : ((Unit × (Unit × Unit)) × Unit)) (b1 : (List Int)) (K : strings_Builder_Len.τ → Option ρ) : Option ρ :=
  let v0 : Int := (((List.length b1) : Nat) : Int)
  K (v0, ((((), ((), ())), ()), (b1, ())))
def strings_Builder_Len (k : Nat) (b0 : ((Unit × (Unit × Unit)) × Unit)) (b1 : (List Int)) : Option strings_Builder_Len.τ := strings_Builder_Len.c k b0 b1 some
def strings_Builder_Len.T : CallT := ⟨[.ptr 0 [0]], [.pair (.pair (.sfp 0 [0] 115) (.pair (.vbs 1) (.dat .unit))) (.dat .unit), .vec (.int .u8)], 1⟩
def strings_Builder_Len.os : List Out := [⟨.ret, [.freeze (.slot 0), .auto 1], ⟨[.dat (.int .i64)], [.pair (.pair (.sfp 0 [0] 115) (.pair (.vbs 1) (.dat .unit))) (.dat .unit), .vec (.int .u8)]⟩⟩]
def strings_Builder_Len.sem (k : Nat) : CallSem := callH strings_Builder_Len.T strings_Builder_Len.os fun x => strings_Builder_Len k x.1 x.2.1
noncomputable def strings_Builder_Len.ctx (k : Nat) : Ctx := ⟨Try.prog, gam []⟩
theorem strings_Builder_Len.gok (k : Nat) : ∀ f, SemOK Try.prog f ((strings_Builder_Len.ctx k).Γ f) := gam_nil
def strings_Builder_Len.ann (k : Nat) : Ann := .nil
theorem strings_Builder_Len.body (k : Nat) : BodyH (strings_Builder_Len.ctx k) Try.f95 (Func.code Try.f95) (strings_Builder_Len.ann k) strings_Builder_Len.T strings_Builder_Len.os (fun x K => strings_Builder_Len.c k x.1 x.2.1 K) := by
  intro ρ x K; kernel_rfl
theorem strings_Builder_Len.sem_ok (k : Nat) : SemOK Try.prog 95 (strings_Builder_Len.sem k) :=
  callH_ok (C := strings_Builder_Len.ctx k) (strings_Builder_Len.gok k) Try.mix (c := Func.code Try.f95) (ann := strings_Builder_Len.ann k) (T := strings_Builder_Len.T) (os := strings_Builder_Len.os) (fun x K => strings_Builder_Len.c k x.1 x.2.1 K) Try.func95 (by kernel_rfl) (by kernel_rfl) AnnOK.nil (strings_Builder_Len.body k) (by kernel_rfl) (by kernel_rfl) (by kernel_rfl)

/-! 82 (*bedrock/num.Writer).Len · with blocks -/
abbrev num_Writer_Len.τ : Type := (Int × ((Unit × (Unit × Unit)) × Unit) × (List Int) × Unit)
def num_Writer_Len.c (k : Nat) {ρ : Type} (b0 : ((Unit × (Unit × Unit)) × Unit)) (b1 : (List Int)) (K : num_Writer_Len.τ → Option ρ) : Option ρ :=
  (strings_Builder_Len k (((), ((), ())), ()) b1).bind fun t0 => K (t0.1, ((((), ((), ())), ()), (t0.2.2.1, ())))
def num_Writer_Len (k : Nat) (b0 : ((Unit × (Unit × Unit)) × Unit)) (b1 : (List Int)) : Option num_Writer_Len.τ := num_Writer_Len.c k b0 b1 some
def num_Writer_Len.T : CallT := ⟨[.ptr 0 []], [.pair (.pair (.sfp 0 [0] 115) (.pair (.vbs 1) (.dat .unit))) (.dat .unit), .vec (.int .u8)], 1⟩
def num_Writer_Len.os : List Out := [⟨.ret, [.freeze (.slot 0), .auto 1], ⟨[.dat (.int .i64)], [.pair (.pair (.sfp 0 [0] 115) (.pair (.vbs 1) (.dat .unit))) (.dat .unit), .vec (.int .u8)]⟩⟩]
def num_Writer_Len.sem (k : Nat) : CallSem := callH num_Writer_Len.T num_Writer_Len.os fun x => num_Writer_Len k x.1 x.2.1
noncomputable def num_Writer_Len.ctx (k : Nat) : Ctx := ⟨Try.prog, gam [(95, (strings_Builder_Len.sem k))]⟩
theorem num_Writer_Len.gok (k : Nat) : ∀ f, SemOK Try.prog f ((num_Writer_Len.ctx k).Γ f) := (gam_cons (strings_Builder_Len.sem_ok k) gam_nil)
def num_Writer_Len.ann (k : Nat) : Ann := .nil
theorem num_Writer_Len.body (k : Nat) : BodyH (num_Writer_Len.ctx k) Try.f82 (Func.code Try.f82) (num_Writer_Len.ann k) num_Writer_Len.T num_Writer_Len.os (fun x K => num_Writer_Len.c k x.1 x.2.1 K) := by
  intro ρ x K; kernel_rfl
theorem num_Writer_Len.sem_ok (k : Nat) : SemOK Try.prog 82 (num_Writer_Len.sem k) :=
  callH_ok (C := num_Writer_Len.ctx k) (num_Writer_Len.gok k) Try.mix (c := Func.code Try.f82) (ann := num_Writer_Len.ann k) (T := num_Writer_Len.T) (os := num_Writer_Len.os) (fun x K => num_Writer_Len.c k x.1 x.2.1 K) Try.func82 (by kernel_rfl) (by kernel_rfl) AnnOK.nil (num_Writer_Len.body k) (by kernel_rfl) (by kernel_rfl) (by kernel_rfl)

/-! 63 bedrock/block.Encode -/
abbrev block_Encode.l0.σ : Type := (List (Int × ((List (((List Int) × (Int × Unit)) × (ByteArray × (Int × Unit)))) × ((List (Int × (ByteArray × Unit))) × (Int × Unit))))) × Int × Int × ((Unit × (Unit × Unit)) × Unit) × (List Int) × Unit
abbrev block_Encode.l0.τ : Type := (ByteArray × Int × Unit) ⊕ (((Unit × (Unit × Unit)) × Unit) × (List Int) × Unit)
def block_Encode.l0.r (k : Nat) {ρ : Type} (x : block_Encode.l0.σ) (kn : block_Encode.l0.σ → Option ρ) (ke : block_Encode.l0.τ → Option ρ) : Option ρ :=
  bif (decide (x.2.2.1 < x.2.1)) then (bif (decide (((0 : Int) ≤ x.2.2.1) ∧ (x.2.2.1 < (((List.length x.1) : Nat) : Int)))) then ((tx_Encode k ((List.getD x.1 (Int.toNat x.2.2.1) ((0 : Int), ([], ([], ((0 : Int), ()))))).1, ((List.getD x.1 (Int.toNat x.2.2.1) ((0 : Int), ([], ([], ((0 : Int), ()))))).2.1, ((List.getD x.1 (Int.toNat x.2.2.1) ((0 : Int), ([], ([], ((0 : Int), ()))))).2.2.1, ((List.getD x.1 (Int.toNat x.2.2.1) ((0 : Int), ([], ([], ((0 : Int), ()))))).2.2.2.1, ()))))).bind fun t8 => let v9 : ByteArray := t8.1
  let v10 : Int := t8.2.1
  bif (v10 != (0 : Int)) then (ke (.inl ((⟨(List.toArray [])⟩ : ByteArray), (v10, ())))) else ((num_Writer_Bytes k v9 (((), ((), ())), ()) x.2.2.2.2.1).bind fun t11 => let v12 : Int := (IntKind.wrap IntKind.i64 (x.2.2.1 + (1 : Int)))
  kn (x.1, (x.2.1, (v12, ((((), ((), ())), ()), (t11.2.1, ()))))))) else (none)) else (ke (.inr ((((), ((), ())), ()), (x.2.2.2.2.1, ()))))
def block_Encode.l0 (k : Nat) : Nat → block_Encode.l0.σ → Option block_Encode.l0.τ := loopJ (block_Encode.l0.r k)
def block_Encode.l0.T : StT := ⟨us 4 ++ .ptr 0 [] :: us 17 ++ .dat (.sl (.pair (.int .u32) (.pair (.sl (.pair (.pair (.arr 32 (.int .u8)) (.pair (.int .u32) .unit)) (.pair .str (.pair (.int .u32) .unit)))) (.pair (.sl (.pair (.int .u64) (.pair .str .unit))) (.pair (.int .u32) .unit))))) :: .dat (.int .i64) :: .dat (.int .i64) :: us 20, [.pair (.pair (.sfp 0 [0] 115) (.pair (.vbs 1) (.dat .unit))) (.dat .unit), .vec (.int .u8)]⟩
def block_Encode.l0.os : List Out := [⟨.ret, [.mask [2, 3], .auto 0], ⟨us 2 ++ .dat .str :: .dat (.int .i64) :: us 41, []⟩⟩, ⟨(.exit 0), [.mask [4], .auto 0], ⟨us 4 ++ .ptr 0 [] :: us 40, [.pair (.pair (.sfp 0 [0] 115) (.pair (.vbs 1) (.dat .unit))) (.dat .unit), .vec (.int .u8)]⟩⟩]
def block_Encode.c (k : Nat) {ρ : Type} (b : ((Int × ((List Int) × ((List Int) × (Int × (Int × (Int × Unit)))))) × ((List (Int × ((List (((List Int) × (Int × Unit)) × (ByteArray × (Int × Unit)))) × ((List (Int × (ByteArray × Unit))) × (Int × Unit))))) × Unit))) (K : ByteArray × Int × Unit → Option ρ) : Option ρ :=
  (num_NewWriter k ).bind fun t0 => (block_Head k (b.1.1, (b.1.2.1, (b.1.2.2.1, (b.1.2.2.2.1, (b.1.2.2.2.2.1, (b.1.2.2.2.2.2.1, ()))))))).bind fun t1 => (num_Writer_Bytes k t1.1 (((), ((), ())), ()) t0.2.1).bind fun t2 => let v3 : (List (Int × ((List (((List Int) × (Int × Unit)) × (ByteArray × (Int × Unit)))) × ((List (Int × (ByteArray × Unit))) × (Int × Unit))))) := b.2.1
  let v4 : Int := (((List.length v3) : Nat) : Int)
  (num_Writer_Count k (IntKind.wrap IntKind.u64 v4) (((), ((), ())), ()) t2.2.1).bind fun t5 => let v6 : (List (Int × ((List (((List Int) × (Int × Unit)) × (ByteArray × (Int × Unit)))) × ((List (Int × (ByteArray × Unit))) × (Int × Unit))))) := b.2.1
  let v7 : Int := (((List.length v6) : Nat) : Int)
  (block_Encode.l0 k k (v6, (v7, ((0 : Int), ((((), ((), ())), ()), (t5.2.1, ())))))).bind fun t13 => (match t13 with | .inl t14 => (K (t14.1, (t14.2.1, ()))) | .inr (t15) => ((num_Writer_Len k (((), ((), ())), ()) t15.2.1).bind fun t16 => bif (decide (t16.1 > (8192 : Int))) then (K ((⟨(List.toArray [])⟩ : ByteArray), ((110 : Int), ()))) else ((num_Writer_Text k (((), ((), ())), ()) t16.2.2.1).bind fun t17 => K (t17.1, ((0 : Int), ())))))
def block_Encode (k : Nat) (b : ((Int × ((List Int) × ((List Int) × (Int × (Int × (Int × Unit)))))) × ((List (Int × ((List (((List Int) × (Int × Unit)) × (ByteArray × (Int × Unit)))) × ((List (Int × (ByteArray × Unit))) × (Int × Unit))))) × Unit))) : Option (ByteArray × Int × Unit) := block_Encode.c k b some
def block_Encode.tin : List Ty := [(.pair (.pair (.int .u32) (.pair (.arr 32 (.int .u8)) (.pair (.arr 32 (.int .u8)) (.pair (.int .u32) (.pair (.int .u32) (.pair (.int .u32) .unit)))))) (.pair (.sl (.pair (.int .u32) (.pair (.sl (.pair (.pair (.arr 32 (.int .u8)) (.pair (.int .u32) .unit)) (.pair .str (.pair (.int .u32) .unit)))) (.pair (.sl (.pair (.int .u64) (.pair .str .unit))) (.pair (.int .u32) .unit))))) .unit))]
def block_Encode.tout : List Ty := [.str, (.int .i64)]
def block_Encode.sem (k : Nat) : CallSem := callPure block_Encode.tin block_Encode.tout fun x => block_Encode k x.1
noncomputable def block_Encode.ctx (k : Nat) : Ctx := ⟨Try.prog, gam [(27, (num_NewWriter.sem k)), (68, (block_Head.sem k)), (29, (num_Writer_Bytes.sem k)), (51, (num_Writer_Count.sem k)), (35, (tx_Encode.sem k)), (82, (num_Writer_Len.sem k)), (30, (num_Writer_Text.sem k))]⟩
theorem block_Encode.gok (k : Nat) : ∀ f, SemOK Try.prog f ((block_Encode.ctx k).Γ f) := (gam_cons (num_NewWriter.sem_ok k) (gam_cons (block_Head.sem_ok k) (gam_cons (num_Writer_Bytes.sem_ok k) (gam_cons (num_Writer_Count.sem_ok k) (gam_cons (tx_Encode.sem_ok k) (gam_cons (num_Writer_Len.sem_ok k) (gam_cons (num_Writer_Text.sem_ok k) gam_nil)))))))
theorem block_Encode.l0.round (k : Nat) : RoundIs (block_Encode.ctx k) (codeAt (Func.code Try.f63) [1, 1, 1, 1, 0, 1, 0, 0]) (.nil) block_Encode.l0.T [.mask [4, 22, 23, 24], .auto 0] block_Encode.l0.os (block_Encode.l0.r k) := by
  intro ρ x kn ke; kernel_rfl
theorem block_Encode.l0.ok (k : Nat) : StOK 0 Try.prog (.loop (codeAt (Func.code Try.f63) [1, 1, 1, 1, 0, 1, 0, 0])) (pieceSem block_Encode.l0.T block_Encode.l0.os (block_Encode.l0 k k)) :=
  loop_ok (C := block_Encode.ctx k) (block_Encode.gok k) Try.mix AnnOK.nil (by kernel_rfl) (by kernel_rfl) (by kernel_rfl) (block_Encode.l0.round k) k
def block_Encode.ann (k : Nat) : Ann := .node [] none (.nil) (.node [] none (.nil) (.node [] none (.nil) (.node [] none (.nil) (.node [] none (.node [] none (.nil) (.node [] none (.node [.mask [4, 22, 23, 24], .auto 0] (some (pieceSem block_Encode.l0.T block_Encode.l0.os (block_Encode.l0 k k))) .nil .nil) (.nil))) (.nil)))))
theorem block_Encode.body (k : Nat) : BodyIs (block_Encode.ctx k) Try.f63 (Func.code Try.f63) (block_Encode.ann k) block_Encode.tin block_Encode.tout (fun x K => block_Encode.c k x.1 K) := by
  intro ρ x K; kernel_rfl
theorem block_Encode.sem_ok (k : Nat) : SemOK Try.prog 63 (block_Encode.sem k) :=
  callPure_ok (C := block_Encode.ctx k) (block_Encode.gok k) Try.mix (c := Func.code Try.f63) (ann := block_Encode.ann k) (tin := block_Encode.tin) (tout := block_Encode.tout) (fun x K => block_Encode.c k x.1 K) Try.func63 (by kernel_rfl) (by kernel_rfl) (AnnOK.seq AnnOK.nil (AnnOK.seq AnnOK.nil (AnnOK.seq AnnOK.nil (AnnOK.seq AnnOK.nil (AnnOK.seq (AnnOK.seq AnnOK.nil (AnnOK.block (AnnOK.loop (by kernel_rfl) (block_Encode.l0.ok k)))) AnnOK.nil))))) (block_Encode.body k)

/-! 44 bedrock/block.ID -/
def block_ID.c (k : Nat) {ρ : Type} (h : (Int × ((List Int) × ((List Int) × (Int × (Int × (Int × Unit))))))) (K : (List Int) × Unit → Option ρ) : Option ρ :=
  (block_Head k (h.1, (h.2.1, (h.2.2.1, (h.2.2.2.1, (h.2.2.2.2.1, (h.2.2.2.2.2.1, ()))))))).bind fun t0 => (sha_Twice k t0.1).bind fun t1 => K (t1.1, ())
def block_ID (k : Nat) (h : (Int × ((List Int) × ((List Int) × (Int × (Int × (Int × Unit))))))) : Option ((List Int) × Unit) := block_ID.c k h some
def block_ID.tin : List Ty := [(.pair (.int .u32) (.pair (.arr 32 (.int .u8)) (.pair (.arr 32 (.int .u8)) (.pair (.int .u32) (.pair (.int .u32) (.pair (.int .u32) .unit))))))]
def block_ID.tout : List Ty := [(.arr 32 (.int .u8))]
def block_ID.sem (k : Nat) : CallSem := callPure block_ID.tin block_ID.tout fun x => block_ID k x.1
noncomputable def block_ID.ctx (k : Nat) : Ctx := ⟨Try.prog, gam [(68, (block_Head.sem k)), (36, (sha_Twice.sem k))]⟩
theorem block_ID.gok (k : Nat) : ∀ f, SemOK Try.prog f ((block_ID.ctx k).Γ f) := (gam_cons (block_Head.sem_ok k) (gam_cons (sha_Twice.sem_ok k) gam_nil))
def block_ID.ann (k : Nat) : Ann := .nil
theorem block_ID.body (k : Nat) : BodyIs (block_ID.ctx k) Try.f44 (Func.code Try.f44) (block_ID.ann k) block_ID.tin block_ID.tout (fun x K => block_ID.c k x.1 K) := by
  intro ρ x K; kernel_rfl
theorem block_ID.sem_ok (k : Nat) : SemOK Try.prog 44 (block_ID.sem k) :=
  callPure_ok (C := block_ID.ctx k) (block_ID.gok k) Try.mix (c := Func.code Try.f44) (ann := block_ID.ann k) (tin := block_ID.tin) (tout := block_ID.tout) (fun x K => block_ID.c k x.1 K) Try.func44 (by kernel_rfl) (by kernel_rfl) AnnOK.nil (block_ID.body k)

/-! 26 bedrock/block.Meets -/
def block_Meets.c (k : Nat) {ρ : Type} (h : (Int × ((List Int) × ((List Int) × (Int × (Int × (Int × Unit))))))) (K : Bool × Unit → Option ρ) : Option ρ :=
  (block_ID k (h.1, (h.2.1, (h.2.2.1, (h.2.2.2.1, (h.2.2.2.2.1, (h.2.2.2.2.2.1, ()))))))).bind fun t0 => let v1 : Int := h.2.2.2.2.1
  (target_Meets k t0.1 v1).bind fun t2 => K (t2.1, ())
def block_Meets (k : Nat) (h : (Int × ((List Int) × ((List Int) × (Int × (Int × (Int × Unit))))))) : Option (Bool × Unit) := block_Meets.c k h some
def block_Meets.tin : List Ty := [(.pair (.int .u32) (.pair (.arr 32 (.int .u8)) (.pair (.arr 32 (.int .u8)) (.pair (.int .u32) (.pair (.int .u32) (.pair (.int .u32) .unit))))))]
def block_Meets.tout : List Ty := [.bool]
def block_Meets.sem (k : Nat) : CallSem := callPure block_Meets.tin block_Meets.tout fun x => block_Meets k x.1
noncomputable def block_Meets.ctx (k : Nat) : Ctx := ⟨Try.prog, gam [(44, (block_ID.sem k)), (43, (target_Meets.sem k))]⟩
theorem block_Meets.gok (k : Nat) : ∀ f, SemOK Try.prog f ((block_Meets.ctx k).Γ f) := (gam_cons (block_ID.sem_ok k) (gam_cons (target_Meets.sem_ok k) gam_nil))
def block_Meets.ann (k : Nat) : Ann := .nil
theorem block_Meets.body (k : Nat) : BodyIs (block_Meets.ctx k) Try.f26 (Func.code Try.f26) (block_Meets.ann k) block_Meets.tin block_Meets.tout (fun x K => block_Meets.c k x.1 K) := by
  intro ρ x K; kernel_rfl
theorem block_Meets.sem_ok (k : Nat) : SemOK Try.prog 26 (block_Meets.sem k) :=
  callPure_ok (C := block_Meets.ctx k) (block_Meets.gok k) Try.mix (c := Func.code Try.f26) (ann := block_Meets.ann k) (tin := block_Meets.tin) (tout := block_Meets.tout) (fun x K => block_Meets.c k x.1 K) Try.func26 (by kernel_rfl) (by kernel_rfl) AnnOK.nil (block_Meets.body k)

/-! 64 bedrock/block.Mine -/
abbrev block_Mine.l0.σ : Type := Int × Int × (Int × ((List Int) × ((List Int) × (Int × (Int × (Int × Unit)))))) × (Int × ((List Int) × ((List Int) × (Int × (Int × (Int × Unit)))))) × (Int × ((List Int) × ((List Int) × (Int × (Int × (Int × Unit)))))) × Unit
abbrev block_Mine.l0.τ : Type := (Bool × (Int × ((List Int) × ((List Int) × (Int × (Int × (Int × Unit)))))) × Unit) ⊕ ((Int × ((List Int) × ((List Int) × (Int × (Int × (Int × Unit)))))) × (Int × ((List Int) × ((List Int) × (Int × (Int × (Int × Unit)))))) × Unit)
def block_Mine.l0.r (k : Nat) {ρ : Type} (x : block_Mine.l0.σ) (kn : block_Mine.l0.σ → Option ρ) (ke : block_Mine.l0.τ → Option ρ) : Option ρ :=
  bif (decide (x.2.1 < x.1)) then ((block_Meets k (x.2.2.2.2.1.1, (x.2.2.2.2.1.2.1, (x.2.2.2.2.1.2.2.1, (x.2.2.2.2.1.2.2.2.1, (x.2.2.2.2.1.2.2.2.2.1, (x.2.2.2.2.1.2.2.2.2.2.1, ()))))))).bind fun t1 => bif t1.1 then (ke (.inl (true, ((x.2.2.2.2.1.1, (x.2.2.2.2.1.2.1, (x.2.2.2.2.1.2.2.1, (x.2.2.2.2.1.2.2.2.1, (x.2.2.2.2.1.2.2.2.2.1, (x.2.2.2.2.1.2.2.2.2.2.1, ())))))), ())))) else (let v2 : Int := x.2.2.2.2.1.2.2.2.2.2.1
  bif (v2 == (4294967295 : Int)) then (ke (.inr ((x.2.2.1.1, (x.2.2.1.2.1, (x.2.2.1.2.2.1, (x.2.2.1.2.2.2.1, (x.2.2.1.2.2.2.2.1, (x.2.2.1.2.2.2.2.2.1, ())))))), ((x.2.2.2.1.1, (x.2.2.2.1.2.1, (x.2.2.2.1.2.2.1, (x.2.2.2.1.2.2.2.1, (x.2.2.2.1.2.2.2.2.1, (x.2.2.2.1.2.2.2.2.2.1, ())))))), ())))) else (let v3 : Int := x.2.2.2.2.1.2.2.2.2.2.1
  let v4 : Int := (IntKind.wrap IntKind.u32 (v3 + (1 : Int)))
  let v5 : Int := (IntKind.wrap IntKind.u64 (x.2.1 + (1 : Int)))
  kn (x.1, (v5, ((x.2.2.1.1, (x.2.2.1.2.1, (x.2.2.1.2.2.1, (x.2.2.1.2.2.2.1, (x.2.2.1.2.2.2.2.1, (x.2.2.1.2.2.2.2.2.1, ())))))), ((x.2.2.2.1.1, (x.2.2.2.1.2.1, (x.2.2.2.1.2.2.1, (x.2.2.2.1.2.2.2.1, (x.2.2.2.1.2.2.2.2.1, (x.2.2.2.1.2.2.2.2.2.1, ())))))), ((x.2.2.2.2.1.1, (x.2.2.2.2.1.2.1, (x.2.2.2.2.1.2.2.1, (x.2.2.2.2.1.2.2.2.1, (x.2.2.2.2.1.2.2.2.2.1, (v4, ())))))), ())))))))) else (ke (.inr ((x.2.2.1.1, (x.2.2.1.2.1, (x.2.2.1.2.2.1, (x.2.2.1.2.2.2.1, (x.2.2.1.2.2.2.2.1, (x.2.2.1.2.2.2.2.2.1, ())))))), ((x.2.2.2.1.1, (x.2.2.2.1.2.1, (x.2.2.2.1.2.2.1, (x.2.2.2.1.2.2.2.1, (x.2.2.2.1.2.2.2.2.1, (x.2.2.2.1.2.2.2.2.2.1, ())))))), ()))))
def block_Mine.l0 (k : Nat) : Nat → block_Mine.l0.σ → Option block_Mine.l0.τ := loopJ (block_Mine.l0.r k)
def block_Mine.l0.T : StT := ⟨us 2 ++ .ptr 0 [] :: us 1 ++ .ptr 1 [] :: us 1 ++ .ptr 2 [] :: us 2 ++ .dat (.int .u64) :: .dat (.int .u64) :: us 13, [.dat (.pair (.int .u32) (.pair (.arr 32 (.int .u8)) (.pair (.arr 32 (.int .u8)) (.pair (.int .u32) (.pair (.int .u32) (.pair (.int .u32) .unit)))))), .dat (.pair (.int .u32) (.pair (.arr 32 (.int .u8)) (.pair (.arr 32 (.int .u8)) (.pair (.int .u32) (.pair (.int .u32) (.pair (.int .u32) .unit)))))), .dat (.pair (.int .u32) (.pair (.arr 32 (.int .u8)) (.pair (.arr 32 (.int .u8)) (.pair (.int .u32) (.pair (.int .u32) (.pair (.int .u32) .unit))))))]⟩
def block_Mine.l0.os : List Out := [⟨.ret, [.mask [4, 5], .auto 0], ⟨us 4 ++ .ptr 0 [] :: .dat .bool :: us 18, [.dat (.pair (.int .u32) (.pair (.arr 32 (.int .u8)) (.pair (.arr 32 (.int .u8)) (.pair (.int .u32) (.pair (.int .u32) (.pair (.int .u32) .unit))))))]⟩⟩, ⟨(.exit 0), [.mask [2, 4], .auto 0], ⟨us 2 ++ .ptr 0 [] :: us 1 ++ .ptr 1 [] :: us 19, [.dat (.pair (.int .u32) (.pair (.arr 32 (.int .u8)) (.pair (.arr 32 (.int .u8)) (.pair (.int .u32) (.pair (.int .u32) (.pair (.int .u32) .unit)))))), .dat (.pair (.int .u32) (.pair (.arr 32 (.int .u8)) (.pair (.arr 32 (.int .u8)) (.pair (.int .u32) (.pair (.int .u32) (.pair (.int .u32) .unit))))))]⟩⟩]
def block_Mine.c (k : Nat) {ρ : Type} (h : (Int × ((List Int) × ((List Int) × (Int × (Int × (Int × Unit))))))) (tries : Int) (K : (Int × ((List Int) × ((List Int) × (Int × (Int × (Int × Unit)))))) × Bool × Unit → Option ρ) : Option ρ :=
  let v0 : Int := (if ((4294967296 : Int) < tries) then (4294967296 : Int) else tries)
  (block_Mine.l0 k k (v0, ((0 : Int), ((h.1, (h.2.1, (h.2.2.1, (h.2.2.2.1, (h.2.2.2.2.1, (h.2.2.2.2.2.1, ())))))), (((0 : Int), ((List.replicate 32 (0 : Int)), ((List.replicate 32 (0 : Int)), ((0 : Int), ((0 : Int), ((0 : Int), ())))))), ((h.1, (h.2.1, (h.2.2.1, (h.2.2.2.1, (h.2.2.2.2.1, (h.2.2.2.2.2.1, ())))))), ())))))).bind fun t6 => (match t6 with | .inl t7 => (K ((t7.2.1.1, (t7.2.1.2.1, (t7.2.1.2.2.1, (t7.2.1.2.2.2.1, (t7.2.1.2.2.2.2.1, (t7.2.1.2.2.2.2.2.1, ())))))), (t7.1, ()))) | .inr (t8) => (K ((t8.1.1, (t8.1.2.1, (t8.1.2.2.1, (t8.1.2.2.2.1, (t8.1.2.2.2.2.1, (t8.1.2.2.2.2.2.1, ())))))), (false, ()))))
def block_Mine (k : Nat) (h : (Int × ((List Int) × ((List Int) × (Int × (Int × (Int × Unit))))))) (tries : Int) : Option ((Int × ((List Int) × ((List Int) × (Int × (Int × (Int × Unit)))))) × Bool × Unit) := block_Mine.c k h tries some
def block_Mine.tin : List Ty := [(.pair (.int .u32) (.pair (.arr 32 (.int .u8)) (.pair (.arr 32 (.int .u8)) (.pair (.int .u32) (.pair (.int .u32) (.pair (.int .u32) .unit)))))), (.int .u64)]
def block_Mine.tout : List Ty := [(.pair (.int .u32) (.pair (.arr 32 (.int .u8)) (.pair (.arr 32 (.int .u8)) (.pair (.int .u32) (.pair (.int .u32) (.pair (.int .u32) .unit)))))), .bool]
def block_Mine.sem (k : Nat) : CallSem := callPure block_Mine.tin block_Mine.tout fun x => block_Mine k x.1 x.2.1
noncomputable def block_Mine.ctx (k : Nat) : Ctx := ⟨Try.prog, gam [(26, (block_Meets.sem k))]⟩
theorem block_Mine.gok (k : Nat) : ∀ f, SemOK Try.prog f ((block_Mine.ctx k).Γ f) := (gam_cons (block_Meets.sem_ok k) gam_nil)
theorem block_Mine.l0.round (k : Nat) : RoundIs (block_Mine.ctx k) (codeAt (Func.code Try.f64) [1, 1, 0, 1, 0, 0]) (.nil) block_Mine.l0.T [.mask [2, 4, 6, 9, 10], .auto 0] block_Mine.l0.os (block_Mine.l0.r k) := by
  intro ρ x kn ke; kernel_rfl
theorem block_Mine.l0.ok (k : Nat) : StOK 0 Try.prog (.loop (codeAt (Func.code Try.f64) [1, 1, 0, 1, 0, 0])) (pieceSem block_Mine.l0.T block_Mine.l0.os (block_Mine.l0 k k)) :=
  loop_ok (C := block_Mine.ctx k) (block_Mine.gok k) Try.mix AnnOK.nil (by kernel_rfl) (by kernel_rfl) (by kernel_rfl) (block_Mine.l0.round k) k
def block_Mine.ann (k : Nat) : Ann := .node [] none (.nil) (.node [] none (.nil) (.node [] none (.node [] none (.nil) (.node [] none (.node [.mask [2, 4, 6, 9, 10], .auto 0] (some (pieceSem block_Mine.l0.T block_Mine.l0.os (block_Mine.l0 k k))) .nil .nil) (.nil))) (.nil)))
theorem block_Mine.body (k : Nat) : BodyIs (block_Mine.ctx k) Try.f64 (Func.code Try.f64) (block_Mine.ann k) block_Mine.tin block_Mine.tout (fun x K => block_Mine.c k x.1 x.2.1 K) := by
  intro ρ x K; kernel_rfl
theorem block_Mine.sem_ok (k : Nat) : SemOK Try.prog 64 (block_Mine.sem k) :=
  callPure_ok (C := block_Mine.ctx k) (block_Mine.gok k) Try.mix (c := Func.code Try.f64) (ann := block_Mine.ann k) (tin := block_Mine.tin) (tout := block_Mine.tout) (fun x K => block_Mine.c k x.1 x.2.1 K) Try.func64 (by kernel_rfl) (by kernel_rfl) (AnnOK.seq AnnOK.nil (AnnOK.seq AnnOK.nil (AnnOK.seq (AnnOK.seq AnnOK.nil (AnnOK.block (AnnOK.loop (by kernel_rfl) (block_Mine.l0.ok k)))) AnnOK.nil))) (block_Mine.body k)

/-! 42 bedrock/block.Build -/
abbrev block_Build.l0.σ : Type := (List (Int × ((List (((List Int) × (Int × Unit)) × (ByteArray × (Int × Unit)))) × ((List (Int × (ByteArray × Unit))) × (Int × Unit))))) × Int × Int × ((Int × ((List Int) × ((List Int) × (Int × (Int × (Int × Unit)))))) × (Unit × Unit)) × ((Int × ((List Int) × ((List Int) × (Int × (Int × (Int × Unit)))))) × (Unit × Unit)) × (List (Int × ((List (((List Int) × (Int × Unit)) × (ByteArray × (Int × Unit)))) × ((List (Int × (ByteArray × Unit))) × (Int × Unit))))) × Unit
abbrev block_Build.l0.τ : Type := (((Int × ((List Int) × ((List Int) × (Int × (Int × (Int × Unit)))))) × (Unit × Unit)) × ((Int × ((List Int) × ((List Int) × (Int × (Int × (Int × Unit)))))) × (Unit × Unit)) × (List (Int × ((List (((List Int) × (Int × Unit)) × (ByteArray × (Int × Unit)))) × ((List (Int × (ByteArray × Unit))) × (Int × Unit))))) × Unit)
def block_Build.l0.r (k : Nat) {ρ : Type} (x : block_Build.l0.σ) (kn : block_Build.l0.σ → Option ρ) (ke : block_Build.l0.τ → Option ρ) : Option ρ :=
  bif (decide (x.2.2.1 < x.2.1)) then (bif (decide (((0 : Int) ≤ x.2.2.1) ∧ (x.2.2.1 < (((List.length x.1) : Nat) : Int)))) then ((block_copied k ((List.getD x.1 (Int.toNat x.2.2.1) ((0 : Int), ([], ([], ((0 : Int), ()))))).1, ((List.getD x.1 (Int.toNat x.2.2.1) ((0 : Int), ([], ([], ((0 : Int), ()))))).2.1, ((List.getD x.1 (Int.toNat x.2.2.1) ((0 : Int), ([], ([], ((0 : Int), ()))))).2.2.1, ((List.getD x.1 (Int.toNat x.2.2.1) ((0 : Int), ([], ([], ((0 : Int), ()))))).2.2.2.1, ()))))).bind fun t3 => bif (Nat.ble (((List.length x.2.2.2.2.2.1) + (List.length (List.set (List.replicate 1 ((0 : Int), ([], ([], ((0 : Int), ()))))) 0 (t3.1.1, (t3.1.2.1, (t3.1.2.2.1, (t3.1.2.2.2.1, ()))))))) * 64) 140737488355328) then (let v4 : Int := (IntKind.wrap IntKind.i64 (x.2.2.1 + (1 : Int)))
  kn (x.1, (x.2.1, (v4, (((x.2.2.2.1.1.1, (x.2.2.2.1.1.2.1, (x.2.2.2.1.1.2.2.1, (x.2.2.2.1.1.2.2.2.1, (x.2.2.2.1.1.2.2.2.2.1, (x.2.2.2.1.1.2.2.2.2.2.1, ())))))), ((), ())), (((x.2.2.2.2.1.1.1, (x.2.2.2.2.1.1.2.1, (x.2.2.2.2.1.1.2.2.1, (x.2.2.2.2.1.1.2.2.2.1, (x.2.2.2.2.1.1.2.2.2.2.1, (x.2.2.2.2.1.1.2.2.2.2.2.1, ())))))), ((), ())), ((x.2.2.2.2.2.1 ++ (List.set (List.replicate 1 ((0 : Int), ([], ([], ((0 : Int), ()))))) 0 (t3.1.1, (t3.1.2.1, (t3.1.2.2.1, (t3.1.2.2.2.1, ())))))), ()))))))) else (none)) else (none)) else (ke (((x.2.2.2.1.1.1, (x.2.2.2.1.1.2.1, (x.2.2.2.1.1.2.2.1, (x.2.2.2.1.1.2.2.2.1, (x.2.2.2.1.1.2.2.2.2.1, (x.2.2.2.1.1.2.2.2.2.2.1, ())))))), ((), ())), (((x.2.2.2.2.1.1.1, (x.2.2.2.2.1.1.2.1, (x.2.2.2.2.1.1.2.2.1, (x.2.2.2.2.1.1.2.2.2.1, (x.2.2.2.2.1.1.2.2.2.2.1, (x.2.2.2.2.1.1.2.2.2.2.2.1, ())))))), ((), ())), (x.2.2.2.2.2.1, ()))))
def block_Build.l0 (k : Nat) : Nat → block_Build.l0.σ → Option block_Build.l0.τ := loopJ (block_Build.l0.r k)
def block_Build.l0.T : StT := ⟨us 8 ++ .ptr 0 [] :: us 3 ++ .ptr 1 [] :: us 17 ++ .dat (.sl (.pair (.int .u32) (.pair (.sl (.pair (.pair (.arr 32 (.int .u8)) (.pair (.int .u32) .unit)) (.pair .str (.pair (.int .u32) .unit)))) (.pair (.sl (.pair (.int .u64) (.pair .str .unit))) (.pair (.int .u32) .unit))))) :: .dat (.int .i64) :: .dat (.int .i64) :: us 32, [.pair (.dat (.pair (.int .u32) (.pair (.arr 32 (.int .u8)) (.pair (.arr 32 (.int .u8)) (.pair (.int .u32) (.pair (.int .u32) (.pair (.int .u32) .unit))))))) (.pair (.nils) (.dat .unit)), .pair (.dat (.pair (.int .u32) (.pair (.arr 32 (.int .u8)) (.pair (.arr 32 (.int .u8)) (.pair (.int .u32) (.pair (.int .u32) (.pair (.int .u32) .unit))))))) (.pair (.vsl 2) (.dat .unit)), .vec (.pair (.int .u32) (.pair (.sl (.pair (.pair (.arr 32 (.int .u8)) (.pair (.int .u32) .unit)) (.pair .str (.pair (.int .u32) .unit)))) (.pair (.sl (.pair (.int .u64) (.pair .str .unit))) (.pair (.int .u32) .unit))))]⟩
def block_Build.l0.os : List Out := [⟨(.exit 0), [.mask [8, 12], .auto 0], ⟨us 8 ++ .ptr 0 [] :: us 3 ++ .ptr 1 [] :: us 52, [.pair (.dat (.pair (.int .u32) (.pair (.arr 32 (.int .u8)) (.pair (.arr 32 (.int .u8)) (.pair (.int .u32) (.pair (.int .u32) (.pair (.int .u32) .unit))))))) (.pair (.nils) (.dat .unit)), .pair (.dat (.pair (.int .u32) (.pair (.arr 32 (.int .u8)) (.pair (.arr 32 (.int .u8)) (.pair (.int .u32) (.pair (.int .u32) (.pair (.int .u32) .unit))))))) (.pair (.vsl 2) (.dat .unit)), .vec (.pair (.int .u32) (.pair (.sl (.pair (.pair (.arr 32 (.int .u8)) (.pair (.int .u32) .unit)) (.pair .str (.pair (.int .u32) .unit)))) (.pair (.sl (.pair (.int .u64) (.pair .str .unit))) (.pair (.int .u32) .unit))))]⟩⟩]
def block_Build.c (k : Nat) {ρ : Type} (prev : (List Int)) (time : Int) (bits : Int) (txs : (List (Int × ((List (((List Int) × (Int × Unit)) × (ByteArray × (Int × Unit)))) × ((List (Int × (ByteArray × Unit))) × (Int × Unit)))))) (K : ((Int × ((List Int) × ((List Int) × (Int × (Int × (Int × Unit)))))) × ((List (Int × ((List (((List Int) × (Int × Unit)) × (ByteArray × (Int × Unit)))) × ((List (Int × (ByteArray × Unit))) × (Int × Unit))))) × Unit)) × Int × Unit → Option ρ) : Option ρ :=
  (block_Root k txs).bind fun t0 => let v1 : (List Int) := t0.1
  let v2 : Int := (((List.length txs) : Nat) : Int)
  (block_Build.l0 k k (txs, (v2, ((0 : Int), ((((0 : Int), ((List.replicate 32 (0 : Int)), ((List.replicate 32 (0 : Int)), ((0 : Int), ((0 : Int), ((0 : Int), ())))))), ((), ())), ((((1 : Int), (prev, (v1, (time, (bits, ((0 : Int), ())))))), ((), ())), ([], ()))))))).bind fun t5 => (block_Encode k ((t5.2.1.1.1, (t5.2.1.1.2.1, (t5.2.1.1.2.2.1, (t5.2.1.1.2.2.2.1, (t5.2.1.1.2.2.2.2.1, (t5.2.1.1.2.2.2.2.2.1, ())))))), (t5.2.2.1, ()))).bind fun t6 => let v7 : ByteArray := t6.1
  let v8 : Int := t6.2.1
  bif (v8 != (0 : Int)) then (K ((((0 : Int), ((List.replicate 32 (0 : Int)), ((List.replicate 32 (0 : Int)), ((0 : Int), ((0 : Int), ((0 : Int), ())))))), ([], ())), (v8, ()))) else ((block_Mine k (t5.2.1.1.1, (t5.2.1.1.2.1, (t5.2.1.1.2.2.1, (t5.2.1.1.2.2.2.1, (t5.2.1.1.2.2.2.2.1, (t5.2.1.1.2.2.2.2.2.1, ())))))) (4294967296 : Int)).bind fun t9 => bif (!t9.2.1) then (K ((((0 : Int), ((List.replicate 32 (0 : Int)), ((List.replicate 32 (0 : Int)), ((0 : Int), ((0 : Int), ((0 : Int), ())))))), ([], ())), ((111 : Int), ()))) else (K (((t9.1.1, (t9.1.2.1, (t9.1.2.2.1, (t9.1.2.2.2.1, (t9.1.2.2.2.2.1, (t9.1.2.2.2.2.2.1, ())))))), (t5.2.2.1, ())), ((0 : Int), ()))))
def block_Build (k : Nat) (prev : (List Int)) (time : Int) (bits : Int) (txs : (List (Int × ((List (((List Int) × (Int × Unit)) × (ByteArray × (Int × Unit)))) × ((List (Int × (ByteArray × Unit))) × (Int × Unit)))))) : Option (((Int × ((List Int) × ((List Int) × (Int × (Int × (Int × Unit)))))) × ((List (Int × ((List (((List Int) × (Int × Unit)) × (ByteArray × (Int × Unit)))) × ((List (Int × (ByteArray × Unit))) × (Int × Unit))))) × Unit)) × Int × Unit) := block_Build.c k prev time bits txs some
def block_Build.tin : List Ty := [(.arr 32 (.int .u8)), (.int .u32), (.int .u32), (.sl (.pair (.int .u32) (.pair (.sl (.pair (.pair (.arr 32 (.int .u8)) (.pair (.int .u32) .unit)) (.pair .str (.pair (.int .u32) .unit)))) (.pair (.sl (.pair (.int .u64) (.pair .str .unit))) (.pair (.int .u32) .unit)))))]
def block_Build.tout : List Ty := [(.pair (.pair (.int .u32) (.pair (.arr 32 (.int .u8)) (.pair (.arr 32 (.int .u8)) (.pair (.int .u32) (.pair (.int .u32) (.pair (.int .u32) .unit)))))) (.pair (.sl (.pair (.int .u32) (.pair (.sl (.pair (.pair (.arr 32 (.int .u8)) (.pair (.int .u32) .unit)) (.pair .str (.pair (.int .u32) .unit)))) (.pair (.sl (.pair (.int .u64) (.pair .str .unit))) (.pair (.int .u32) .unit))))) .unit)), (.int .i64)]
def block_Build.sem (k : Nat) : CallSem := callPure block_Build.tin block_Build.tout fun x => block_Build k x.1 x.2.1 x.2.2.1 x.2.2.2.1
noncomputable def block_Build.ctx (k : Nat) : Ctx := ⟨Try.prog, gam [(5, (block_Root.sem k)), (62, (block_copied.sem k)), (63, (block_Encode.sem k)), (64, (block_Mine.sem k))]⟩
theorem block_Build.gok (k : Nat) : ∀ f, SemOK Try.prog f ((block_Build.ctx k).Γ f) := (gam_cons (block_Root.sem_ok k) (gam_cons (block_copied.sem_ok k) (gam_cons (block_Encode.sem_ok k) (gam_cons (block_Mine.sem_ok k) gam_nil))))
theorem block_Build.l0.round (k : Nat) : RoundIs (block_Build.ctx k) (codeAt (Func.code Try.f42) [1, 1, 1, 0, 1, 0, 0]) (.nil) block_Build.l0.T [.mask [8, 12, 30, 31, 32], .auto 0] block_Build.l0.os (block_Build.l0.r k) := by
  intro ρ x kn ke; kernel_rfl
theorem block_Build.l0.ok (k : Nat) : StOK 0 Try.prog (.loop (codeAt (Func.code Try.f42) [1, 1, 1, 0, 1, 0, 0])) (pieceSem block_Build.l0.T block_Build.l0.os (block_Build.l0 k k)) :=
  loop_ok (C := block_Build.ctx k) (block_Build.gok k) Try.mix AnnOK.nil (by kernel_rfl) (by kernel_rfl) (by kernel_rfl) (block_Build.l0.round k) k
def block_Build.ann (k : Nat) : Ann := .node [] none (.nil) (.node [] none (.nil) (.node [] none (.nil) (.node [] none (.node [] none (.nil) (.node [] none (.node [.mask [8, 12, 30, 31, 32], .auto 0, .own (.blk 1 [1]) (.pair (.int .u32) (.pair (.sl (.pair (.pair (.arr 32 (.int .u8)) (.pair (.int .u32) .unit)) (.pair .str (.pair (.int .u32) .unit)))) (.pair (.sl (.pair (.int .u64) (.pair .str .unit))) (.pair (.int .u32) .unit))))] (some (pieceSem block_Build.l0.T block_Build.l0.os (block_Build.l0 k k))) .nil .nil) (.nil))) (.nil))))
theorem block_Build.body (k : Nat) : BodyIs (block_Build.ctx k) Try.f42 (Func.code Try.f42) (block_Build.ann k) block_Build.tin block_Build.tout (fun x K => block_Build.c k x.1 x.2.1 x.2.2.1 x.2.2.2.1 K) := by
  intro ρ x K; kernel_rfl
theorem block_Build.sem_ok (k : Nat) : SemOK Try.prog 42 (block_Build.sem k) :=
  callPure_ok (C := block_Build.ctx k) (block_Build.gok k) Try.mix (c := Func.code Try.f42) (ann := block_Build.ann k) (tin := block_Build.tin) (tout := block_Build.tout) (fun x K => block_Build.c k x.1 x.2.1 x.2.2.1 x.2.2.2.1 K) Try.func42 (by kernel_rfl) (by kernel_rfl) (AnnOK.seq AnnOK.nil (AnnOK.seq AnnOK.nil (AnnOK.seq AnnOK.nil (AnnOK.seq (AnnOK.seq AnnOK.nil (AnnOK.block (AnnOK.loop (by kernel_rfl) (block_Build.l0.ok k)))) AnnOK.nil)))) (block_Build.body k)

/-! 25 bedrock/block.Genesis -/
def block_Genesis.c (k : Nat) {ρ : Type}  (K : ((Int × ((List Int) × ((List Int) × (Int × (Int × (Int × Unit)))))) × ((List (Int × ((List (((List Int) × (Int × Unit)) × (ByteArray × (Int × Unit)))) × ((List (Int × (ByteArray × Unit))) × (Int × Unit))))) × Unit)) × Unit → Option ρ) : Option ρ :=
  (block_Coinbase k (0 : Int) (⟨(List.toArray [98, 101, 100, 114, 111, 99, 107])⟩ : ByteArray) (List.set (List.replicate 1 ((0 : Int), (ByteArray.empty, ()))) 0 ((5000 : Int), ((⟨(List.toArray [])⟩ : ByteArray), ())))).bind fun t0 => let v1 : Int := t0.2.1
  let v2 : (List Int) := (List.replicate 32 (0 : Int))
  (block_Build k v2 (1600000000 : Int) (545259519 : Int) (List.set (List.replicate 1 ((0 : Int), ([], ([], ((0 : Int), ()))))) 0 (t0.1.1, (t0.1.2.1, (t0.1.2.2.1, (t0.1.2.2.2.1, ())))))).bind fun t3 => let v4 : Int := t3.2.1
  K (((t3.1.1.1, (t3.1.1.2.1, (t3.1.1.2.2.1, (t3.1.1.2.2.2.1, (t3.1.1.2.2.2.2.1, (t3.1.1.2.2.2.2.2.1, ())))))), (t3.1.2.1, ())), ())
def block_Genesis (k : Nat)  : Option (((Int × ((List Int) × ((List Int) × (Int × (Int × (Int × Unit)))))) × ((List (Int × ((List (((List Int) × (Int × Unit)) × (ByteArray × (Int × Unit)))) × ((List (Int × (ByteArray × Unit))) × (Int × Unit))))) × Unit)) × Unit) := block_Genesis.c k  some
def block_Genesis.tin : List Ty := []
def block_Genesis.tout : List Ty := [(.pair (.pair (.int .u32) (.pair (.arr 32 (.int .u8)) (.pair (.arr 32 (.int .u8)) (.pair (.int .u32) (.pair (.int .u32) (.pair (.int .u32) .unit)))))) (.pair (.sl (.pair (.int .u32) (.pair (.sl (.pair (.pair (.arr 32 (.int .u8)) (.pair (.int .u32) .unit)) (.pair .str (.pair (.int .u32) .unit)))) (.pair (.sl (.pair (.int .u64) (.pair .str .unit))) (.pair (.int .u32) .unit))))) .unit))]
def block_Genesis.sem (k : Nat) : CallSem := callPure block_Genesis.tin block_Genesis.tout fun x => block_Genesis k 
noncomputable def block_Genesis.ctx (k : Nat) : Ctx := ⟨Try.prog, gam [(11, (frzSem block_Coinbase.tin block_Coinbase.tout fun x => block_Coinbase k x.1 x.2.1 x.2.2.1)), (42, (frzSem block_Build.tin block_Build.tout fun x => block_Build k x.1 x.2.1 x.2.2.1 x.2.2.2.1))]⟩
theorem block_Genesis.gok (k : Nat) : ∀ f, SemOK Try.prog f ((block_Genesis.ctx k).Γ f) := (gam_cons (frzSem_ok (block_Coinbase.sem_ok k)) (gam_cons (frzSem_ok (block_Build.sem_ok k)) gam_nil))
def block_Genesis.ann (k : Nat) : Ann := .nil
theorem block_Genesis.body (k : Nat) : BodyIs (block_Genesis.ctx k) Try.f25 (Func.code Try.f25) (block_Genesis.ann k) block_Genesis.tin block_Genesis.tout (fun x K => block_Genesis.c k  K) := by
  intro ρ x K; kernel_rfl
theorem block_Genesis.sem_ok (k : Nat) : SemOK Try.prog 25 (block_Genesis.sem k) :=
  callPure_ok (C := block_Genesis.ctx k) (block_Genesis.gok k) Try.mix (c := Func.code Try.f25) (ann := block_Genesis.ann k) (tin := block_Genesis.tin) (tout := block_Genesis.tout) (fun x K => block_Genesis.c k  K) Try.func25 (by kernel_rfl) (by kernel_rfl) AnnOK.nil (block_Genesis.body k)

/-! 9 bedrock/block.Whole -/
def block_Whole.c (k : Nat) {ρ : Type} (b : ((Int × ((List Int) × ((List Int) × (Int × (Int × (Int × Unit)))))) × ((List (Int × ((List (((List Int) × (Int × Unit)) × (ByteArray × (Int × Unit)))) × ((List (Int × (ByteArray × Unit))) × (Int × Unit))))) × Unit))) (K : Bool × Unit → Option ρ) : Option ρ :=
  let v0 : (List (Int × ((List (((List Int) × (Int × Unit)) × (ByteArray × (Int × Unit)))) × ((List (Int × (ByteArray × Unit))) × (Int × Unit))))) := b.2.1
  (block_Root k v0).bind fun t1 => let v2 : (List Int) := t1.1
  let v3 : (List (Int × ((List (((List Int) × (Int × Unit)) × (ByteArray × (Int × Unit)))) × ((List (Int × (ByteArray × Unit))) × (Int × Unit))))) := b.2.1
  let v4 : Int := (((List.length v3) : Nat) : Int)
  bif (decide (v4 > (0 : Int))) then (let v5 : (List Int) := b.1.2.2.1
  bif (decide (v2 = v5)) then (K ((!t1.2.1), ())) else (K (false, ()))) else (K (false, ()))
def block_Whole (k : Nat) (b : ((Int × ((List Int) × ((List Int) × (Int × (Int × (Int × Unit)))))) × ((List (Int × ((List (((List Int) × (Int × Unit)) × (ByteArray × (Int × Unit)))) × ((List (Int × (ByteArray × Unit))) × (Int × Unit))))) × Unit))) : Option (Bool × Unit) := block_Whole.c k b some
def block_Whole.tin : List Ty := [(.pair (.pair (.int .u32) (.pair (.arr 32 (.int .u8)) (.pair (.arr 32 (.int .u8)) (.pair (.int .u32) (.pair (.int .u32) (.pair (.int .u32) .unit)))))) (.pair (.sl (.pair (.int .u32) (.pair (.sl (.pair (.pair (.arr 32 (.int .u8)) (.pair (.int .u32) .unit)) (.pair .str (.pair (.int .u32) .unit)))) (.pair (.sl (.pair (.int .u64) (.pair .str .unit))) (.pair (.int .u32) .unit))))) .unit))]
def block_Whole.tout : List Ty := [.bool]
def block_Whole.sem (k : Nat) : CallSem := callPure block_Whole.tin block_Whole.tout fun x => block_Whole k x.1
noncomputable def block_Whole.ctx (k : Nat) : Ctx := ⟨Try.prog, gam [(5, (block_Root.sem k))]⟩
theorem block_Whole.gok (k : Nat) : ∀ f, SemOK Try.prog f ((block_Whole.ctx k).Γ f) := (gam_cons (block_Root.sem_ok k) gam_nil)
def block_Whole.ann (k : Nat) : Ann := .nil
theorem block_Whole.body (k : Nat) : BodyIs (block_Whole.ctx k) Try.f9 (Func.code Try.f9) (block_Whole.ann k) block_Whole.tin block_Whole.tout (fun x K => block_Whole.c k x.1 K) := by
  intro ρ x K; kernel_rfl
theorem block_Whole.sem_ok (k : Nat) : SemOK Try.prog 9 (block_Whole.sem k) :=
  callPure_ok (C := block_Whole.ctx k) (block_Whole.gok k) Try.mix (c := Func.code Try.f9) (ann := block_Whole.ann k) (tin := block_Whole.tin) (tout := block_Whole.tout) (fun x K => block_Whole.c k x.1 K) Try.func9 (by kernel_rfl) (by kernel_rfl) AnnOK.nil (block_Whole.body k)

/-! 8 bedrock/bedrocklaw11.awake -/
def bedrocklaw11_awake.c (k : Nat) {ρ : Type}  (K : Bool × Unit → Option ρ) : Option ρ :=
  (block_Genesis k ).bind fun t0 => let v1 : (List (Int × ((List (((List Int) × (Int × Unit)) × (ByteArray × (Int × Unit)))) × ((List (Int × (ByteArray × Unit))) × (Int × Unit))))) := t0.1.2.1
  let v2 : Int := (((List.length v1) : Nat) : Int)
  bif (v2 == (1 : Int)) then ((block_Meets k (t0.1.1.1, (t0.1.1.2.1, (t0.1.1.2.2.1, (t0.1.1.2.2.2.1, (t0.1.1.2.2.2.2.1, (t0.1.1.2.2.2.2.2.1, ()))))))).bind fun t3 => bif t3.1 then ((block_Whole k ((t0.1.1.1, (t0.1.1.2.1, (t0.1.1.2.2.1, (t0.1.1.2.2.2.1, (t0.1.1.2.2.2.2.1, (t0.1.1.2.2.2.2.2.1, ())))))), (t0.1.2.1, ()))).bind fun t4 => K (t4.1, ())) else (K (false, ()))) else (K (false, ()))
def bedrocklaw11_awake (k : Nat)  : Option (Bool × Unit) := bedrocklaw11_awake.c k  some
def bedrocklaw11_awake.tin : List Ty := []
def bedrocklaw11_awake.tout : List Ty := [.bool]
def bedrocklaw11_awake.sem (k : Nat) : CallSem := callPure bedrocklaw11_awake.tin bedrocklaw11_awake.tout fun x => bedrocklaw11_awake k 
noncomputable def bedrocklaw11_awake.ctx (k : Nat) : Ctx := ⟨Try.prog, gam [(25, (block_Genesis.sem k)), (26, (block_Meets.sem k)), (9, (block_Whole.sem k))]⟩
theorem bedrocklaw11_awake.gok (k : Nat) : ∀ f, SemOK Try.prog f ((bedrocklaw11_awake.ctx k).Γ f) := (gam_cons (block_Genesis.sem_ok k) (gam_cons (block_Meets.sem_ok k) (gam_cons (block_Whole.sem_ok k) gam_nil)))
def bedrocklaw11_awake.ann (k : Nat) : Ann := .nil
theorem bedrocklaw11_awake.body (k : Nat) : BodyIs (bedrocklaw11_awake.ctx k) Try.f8 (Func.code Try.f8) (bedrocklaw11_awake.ann k) bedrocklaw11_awake.tin bedrocklaw11_awake.tout (fun x K => bedrocklaw11_awake.c k  K) := by
  intro ρ x K; kernel_rfl
theorem bedrocklaw11_awake.sem_ok (k : Nat) : SemOK Try.prog 8 (bedrocklaw11_awake.sem k) :=
  callPure_ok (C := bedrocklaw11_awake.ctx k) (bedrocklaw11_awake.gok k) Try.mix (c := Func.code Try.f8) (ann := bedrocklaw11_awake.ann k) (tin := bedrocklaw11_awake.tin) (tout := bedrocklaw11_awake.tout) (fun x K => bedrocklaw11_awake.c k  K) Try.func8 (by kernel_rfl) (by kernel_rfl) AnnOK.nil (bedrocklaw11_awake.body k)

end Go.Am
