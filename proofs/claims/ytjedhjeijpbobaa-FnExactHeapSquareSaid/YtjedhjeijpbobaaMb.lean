/-
  The map of grown cells: its keys, and what field it tells.
-/
import Derived.Test.YtjedhjeijpbobaaMa
import Derived.DeepKeys4
import Derived.Maps.OwnSet
namespace Go.Proofs.Ytjedhjeijpbobaa.G8
open Go.RowKit Go.Maps Go.Proofs.YtjedhjeijpbobaaW.PrintWords Go.Proofs.YtjedhjeijpbobaaW.PrintLast Go.Proofs.YtjedhjeijpbobaaW.PrintMore
set_option linter.unusedVariables false
set_option linter.unusedSimpArgs false
theorem laidOut : laidOutB Try.prog = true := by kernel_rfl
theorem row76 : (76 : TypeId) < Try.prog.types.size := of_decide_eq_true (by kernel_rfl)
theorem keyAt76 : Try.prog.keyTypeAt 2 76 = true := by kernel_rfl
theorem klaw76 : WideMaps.KeyLaw Try.prog 76 := deep_law_laid laidOut (m := 2) (by omega) row76 keyAt76 (by rw [Try.underlying76])
theorem law76 : Keyed Try.prog 76 := Keyed.of_law klaw76
theorem cells76 : Try.prog.cellsOf 76 = 2 := by kernel_rfl
theorem cells3 : Try.prog.cellsOf 3 = 1 := by kernel_rfl
theorem keyType76 : Try.prog.keyType 76 = true := by kernel_rfl
theorem zero3 (w : World) : (zeroValue 3).run Try.prog w = .ok (.int .i64 0) w := by kernel_rfl
abbrev cellV (x y : Int) : Value := .agg #[.int .i64 x, .int .i64 y]
def keyLit (x y : Int) : Lit := .string (keyBytes [.int .i64 x, .int .i64 y])
theorem key_lits (d : Nat) (x y : Int) (hx : (Lit.int .i64 x).wf = true) (hy : (Lit.int .i64 y).wf = true) : Try.prog.keyLits (d + 2) 76 [.int .i64 x, .int .i64 y] = some [.int .i64 x, .int .i64 y] := by
  unfold Program.keyLits
  rw [Try.underlying76]
  simp [cells76, cells3, Program.keyLits, Try.underlying3, hx, hy]
theorem key_is (x y : Int) (hx : (Lit.int .i64 x).wf = true) (hy : (Lit.int .i64 y).wf = true) : keyOf Try.prog 76 (cellV x y) = some (keyLit x y) := by
  obtain ⟨d, hd⟩ : ∃ d, Try.prog.types.size + 1 = d + 2 := ⟨Try.prog.types.size - 1, by have h : 76 < Try.prog.types.size := row76; omega⟩
  have hf : (cellV x y).formed Try.prog 76 = true := by simp [Value.formed, Try.underlying76, cells76]
  have hc : (cellV x y).cells.toList = [.int .i64 x, .int .i64 y] := rfl
  unfold keyOf
  rw [Try.underlying76, keyType76, hf, hc, hd, key_lits d x y hx hy]
  rfl
/-- The map's datum tells the field F. -/
structure FieldIs {H : Type} (D : DataW H) (F : Fld) : Prop where
  has : ∀ x y : Int, (Lit.int .i64 x).wf = true → (Lit.int .i64 y).wf = true → Maps.has D (keyLit x y) = (F x y).isSome
  val : ∀ (x y r : Int), (Lit.int .i64 x).wf = true → (Lit.int .i64 y).wf = true → F x y = some r → D.atKey (keyLit x y) (.lit (.int .i64 0)) = .lit (.int .i64 r)
theorem key_ne {x y a b : Int} (hx : (Lit.int .i64 x).wf = true) (hy : (Lit.int .i64 y).wf = true) (ha : (Lit.int .i64 a).wf = true) (hb : (Lit.int .i64 b).wf = true) (h : ¬ (a = x ∧ b = y)) : keyLit a b ≠ keyLit x y := by
  intro e
  have h1 := key_is a b ha hb
  rw [e] at h1
  have h2 := law76.inj h1 (key_is x y hx hy)
  injection h2 with h2
  apply h
  have h3 := congrArg Array.toList h2
  simp at h3
  exact h3
theorem FieldIs.put {H : Type} {D : DataW H} {F : Fld} (h : FieldIs D F) (hD : IsMap D) {x y r : Int} (hx : (Lit.int .i64 x).wf = true) (hy : (Lit.int .i64 y).wf = true) : FieldIs (D.put (keyLit x y) (.lit (.int .i64 r))) (upd F x y r) := by
  have hk : WideAt.IsKeyLit (keyLit x y) := law76.key (key_is x y hx hy)
  refine ⟨fun a b ha hb => ?_, fun a b r1 ha hb hr => ?_⟩
  · unfold upd
    by_cases e : a = x ∧ b = y
    · rw [if_pos e, e.1, e.2, Maps.has_put_same hD hk]; rfl
    · rw [if_neg e, Maps.has_put_other (key_ne hx hy ha hb e)]; exact h.has a b ha hb
  · unfold upd at hr
    by_cases e : a = x ∧ b = y
    · rw [if_pos e] at hr
      cases hr
      rw [e.1, e.2, Maps.atKey_put_same hD hk]
    · rw [if_neg e] at hr
      rw [Maps.atKey_put_other (key_ne hx hy ha hb e)]
      exact h.val a b r1 ha hb hr
theorem FieldIs.nil {H : Type} : FieldIs (DataW.map (H := H) []) (fun _ _ => none) := ⟨fun _ _ _ _ => rfl, fun _ _ _ _ _ h => by cases h⟩
end Go.Proofs.Ytjedhjeijpbobaa.G8
