/-
  What is asked of the grid: what the field tells, and the numbers of steps of the reference.
-/
import Derived.Test.YtjedhjeijpbobaaFb
import Derived.Test.YtjedhjeijpbobaaPm
namespace Go.Proofs.Ytjedhjeijpbobaa.G8
open Go.RowKit Go.Maps Go.Proofs.YtjedhjeijpbobaaW.PrintWords Go.Proofs.YtjedhjeijpbobaaW.PrintLast Go.Proofs.YtjedhjeijpbobaaW.PrintMore
open Go.Proofs.Ytjedhjeijpbobaa.GA
set_option linter.unusedVariables false
set_option linter.unusedSimpArgs false
/-! ### What chips leave -/
theorem run_keep (ex B : Int) (mv : Int → Int → Int → Int × Int) : ∀ (k : Nat) (F : Fld) (x y s : Int) (F1 : Fld) (x1 y1 s1 : Int), run ex B mv k F x y s = some (F1, x1, y1, s1) → (∀ a b, (F1 a b).isSome = (F a b).isSome) ∧ F1 x1 y1 = none ∧ (-B ≤ x1 ∧ x1 ≤ B ∧ -B ≤ y1 ∧ y1 ≤ B) ∧ s ≤ s1 ∧ s1 ≤ s + k
  | 0, F, x, y, s, F1, x1, y1, s1, h => by simp [run] at h
  | k + 1, F, x, y, s, F1, x1, y1, s1, h => by
    unfold run at h
    split at h
    · rename_i hb
      cases hF : F x y with
      | none =>
        rw [hF] at h
        simp only [Option.some.injEq, Prod.mk.injEq] at h
        obtain ⟨rfl, rfl, rfl, rfl⟩ := h
        exact ⟨fun _ _ => rfl, hF, hb, by omega, by omega⟩
      | some r =>
        rw [hF] at h
        simp only at h
        obtain ⟨h1, h2, h3, h4, h5⟩ := run_keep ex B mv k _ _ _ _ F1 x1 y1 s1 h
        refine ⟨fun a b => ?_, h2, h3, by omega, by omega⟩
        rw [h1 a b]
        unfold upd
        by_cases e : a = x ∧ b = y
        · rw [if_pos e, e.1, e.2, hF]; rfl
        · rw [if_neg e]
    · cases h
/-- What is grown are the cells, each within B of the middle, each once. -/
structure Kept (B : Int) (S : St) : Prop where
  mem : ∀ a b, (S.f a b).isSome = true ↔ (a, b) ∈ S.cells
  box : ∀ c ∈ S.cells, -B ≤ c.1 ∧ c.1 ≤ B ∧ -B ≤ c.2 ∧ c.2 ≤ B
  once : S.cells.Nodup
theorem chips_keep (ex B : Int) (mv : Int → Int → Int → Int × Int) (K : Nat) (k0 : Int) : ∀ (n : Nat) (S S1 : St), chips ex B mv K k0 n S = some S1 → Kept B S → Kept B S1 ∧ S1.cells.length = S.cells.length + n ∧ S.steps ≤ S1.steps ∧ S1.steps ≤ S.steps + ((K * n : Nat) : Int)
  | 0, S, S1, h, hk => by
    simp only [chips, Option.some.injEq] at h
    subst h
    exact ⟨hk, rfl, by omega, by simp⟩
  | n + 1, S, S1, h, hk => by
    simp only [chips] at h
    obtain ⟨⟨F1, x1, y1, s1⟩, hr, h⟩ := Option.bind_eq_some_iff.1 h
    obtain ⟨h1, h2, h3, h4, h5⟩ := run_keep ex B mv K _ _ _ _ F1 x1 y1 s1 hr
    have hno : (x1, y1) ∉ S.cells := fun hm => by
      have := (hk.mem x1 y1).2 hm
      rw [← h1 x1 y1, h2] at this
      cases this
    obtain ⟨g1, g2, g3, g4⟩ := chips_keep ex B mv K k0 n _ S1 h ⟨fun a b => by
      simp only [List.mem_append, List.mem_singleton, Prod.mk.injEq]
      rw [← hk.mem a b, ← h1 a b]
      unfold upd
      by_cases e : a = x1 ∧ b = y1
      · rw [if_pos e]; simp [e]
      · rw [if_neg e]; simp [e], fun c hc => by
      simp only [List.mem_append, List.mem_singleton] at hc
      rcases hc with hc | rfl
      · exact hk.box c hc
      · exact h3, by
      rw [List.nodup_append]
      refine ⟨hk.once, by simp, fun a ha b hb => ?_⟩
      simp at hb
      subst hb
      rintro rfl
      exact hno ha⟩
    refine ⟨g1, ?_, ?_, ?_⟩
    · rw [g2, List.length_append, List.length_singleton]
      omega
    · simp only at g3
      omega
    · simp only at g4
      rw [Nat.mul_succ]
      omega
theorem kept0 (B : Int) : Kept B st0 := ⟨fun a b => by simp [st0], fun c hc => by simp [st0] at hc, by simp [st0]⟩
theorem grid_kept {n k : Int} (h : okGrid n k = true) : Kept 15 (gridS n k) ∧ (gridS n k).cells.length = n.toNat ∧ 0 ≤ (gridS n k).steps ∧ (gridS n k).steps ≤ 1250000 := by
  obtain ⟨m, rfl, hm, h0, h1, hS⟩ := grid_is h
  obtain ⟨g1, g2, g3, g4⟩ := chips_keep _ _ _ _ _ m _ _ hS (kept0 15)
  have e : st0.steps = 0 := rfl
  have e2 : st0.cells.length = 0 := rfl
  rw [e] at g3 g4
  rw [e2] at g2
  exact ⟨g1, by omega, g3, by omega⟩
/-! ### What may be asked for -/
def nearB (x y : Int) : Bool := inB x (-100) 100 && inB y (-100) 100
theorem asked_eq (n k : Int) : spec_gwAsked.f n k = some (okGrid n k) := by
  unfold spec_gwAsked.f okGrid
  rw [spec_in_eq, Option.bind_some]
  cases inB n 0 250 with
  | true => rw [if_pos rfl, spec_in_eq]; rfl
  | false => rw [if_neg (by decide)]; rfl
theorem near_eq (x y : Int) : spec_gwNear.f x y = some (nearB x y) := by
  unfold spec_gwNear.f nearB
  rw [spec_in_eq, Option.bind_some]
  cases inB x (-100) 100 with
  | true => rw [if_pos rfl, spec_in_eq]; rfl
  | false => rw [if_neg (by decide)]; rfl
theorem isCell_eq (x y : Int) : impl_isCell.f x y = some (nearB x y) := by
  unfold impl_isCell.f nearB
  rw [impl_in_eq, Option.bind_some]
  cases inB x (-100) 100 with
  | true => rw [if_pos rfl, impl_in_eq]; rfl
  | false => rw [if_neg (by decide)]; rfl
theorem go_any {n k : Int} (h : okGrid n k = true) (w : World) : Calls Try.prog 66 #[.int .i64 n, .int .i64 k] w (GwOut w k (gridS n k)) := by
  obtain ⟨m, rfl, hm, h0, h1, hS⟩ := grid_is h
  exact go_grid 5000 k m _ w (by omega) ⟨h0, h1⟩ hm hS
def spec_StepsToGrow.f (n k : Int) : Option (Int × Bool) := some (if okGrid n k = true then (gridS n k).steps else 0, okGrid n k)
set_option maxHeartbeats 4000000 in
set_option maxRecDepth 100000 in
theorem spec_StepsToGrow.walk (n k : Int) (w : World) : Calls Try.prog 18 #[.int .i64 n, .int .i64 k] w fun e w' => e = .returned (.tuple #[.int .i64 (if okGrid n k = true then (gridS n k).steps else 0), .bool (okGrid n k)]) ∧ Below w.heap.size w w' := by
  have HA := Aside0.mk (fun W => spec_gwAsked.calls n k _ W (asked_eq n k))
  cases ho : okGrid n k with
  | false =>
    rw [ho] at HA
    rw [if_neg (by decide)]
    clear ho
    go_enter Try.func18, Try.ntmps18
    go_wp2_with (first | (go_at_call 65; refine (HA.out _).mono ?_; rintro e w1 ⟨rfl, ⟨nd, rfl⟩⟩))
    go_ret2
    exact ⟨rfl, by repeat (first | exact Below.refl _ _ | apply pw_below_drewN)⟩
  | true =>
    have HG := Aside0.mk (fun W => go_any ho W)
    rw [ho] at HA
    rw [if_pos rfl]
    clear ho
    generalize gridS n k = S at *
    go_enter Try.func18, Try.ntmps18
    go_wp2_with (first | (go_at_call 65; refine (HA.out _).mono ?_; rintro e w1 ⟨rfl, ⟨nd, rfl⟩⟩) | (go_at_call 66; refine (HG.out _).mono ?_; rintro e w1 ⟨f, gb, rb, vc, rfl, hB, hG⟩; have HB := Aside0.mk hB; have c3 := blk_cell hG.out.blk 3; simp at c3; clear hB hG))
    go_ret2
    exact ⟨rfl, below_then (by repeat (first | exact Below.refl _ _ | apply pw_below_drewN)) (by simp) HB.out⟩
theorem spec_StepsToGrow.calls (n k : Int) (r1 : Int) (r2 : Bool) (w : World) (h : spec_StepsToGrow.f n k = some (r1, r2)) :
    Calls Try.prog 18 #[.int .i64 n, .int .i64 k] w fun e w' => e = .returned (.tuple #[.int .i64 r1, .bool r2]) ∧ Below w.heap.size w w' := by
  have e := Option.some.inj h
  injection e with e1 e2
  subst e1 e2
  exact spec_StepsToGrow.walk n k w
end Go.Proofs.Ytjedhjeijpbobaa.G8
