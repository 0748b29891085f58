/-
  An argument that is a struct of one list of lists of whole numbers, or a list of whole numbers, as it came in: opened for the printed contracts. No program's text here.
-/
import Derived.Test.YtjedhjeijpbobaaWMore
import Derived.Test.YtjedhjeijpbobaaProg
import Derived.Deep.Matrix
import Derived.Lib.SmallJoins
import Derived.WalkKit
import Derived.ProofKit
import Derived.OpenShut
import Derived.ChangeSame
namespace Go.Proofs.Ytjedhjeijpbobaa.KR
open Go.RowKit Go.Proofs.YtjedhjeijpbobaaW.PrintWords
open Go.ChangeShapes Go.WideShapes Go.Deep
set_option linter.unusedVariables false

/-- What a list that came in reads as. -/
structure ListIn (W : World) (A : Option Addr) (n c : Nat) (l : List Int) : Prop where
  len : n = l.length
  le : l.length ≤ c
  reads : Kd.C (Kd.int .i64) W A l.length l
  wf : ∀ x ∈ l, (Lit.int .i64 x).wf = true
structure RowsIn (W : World) (A : Option Addr) (n c : Nat) (l : List (List Int)) : Prop where
  len : n = l.length
  le : l.length ≤ c
  reads : Kd.C (Kd.slice 3 (Kd.int .i64)) W A l.length l
  wf : ∀ r ∈ l, ∀ x ∈ r, (Lit.int .i64 x).wf = true
  small : ∀ r ∈ l, r.length ≤ 9223372036854775807

theorem reads_of {W : World} {a' : Option Addr} {n c : Nat} {zs : List Int} (hl : n ≤ c) (hm : c ≤ maxLen) (hz : zs.length = c) (hn : a' = none → c = 0)
    (hc : ∀ ad, a' = some ad → ∀ j, j < c → W.cell? (ad.add j) = some (.int .i64 (zs.getD j 0))) : Kd.C (Kd.int .i64) W a' (zs.take n).length (zs.take n) := by
  have hln : (zs.take n).length = n := by rw [List.length_take]; omega
  rw [hln]
  refine Kd.C_of_reads (d := 0) ⟨hln, by unfold maxLen at hm; omega, fun h0 => ?_⟩
  cases a' with
  | none => have := hn rfl; omega
  | some ad =>
    refine ⟨ad, rfl, fun j hj => ?_⟩
    rw [hc ad rfl j (by omega)]
    simp [List.getD_eq_getElem?_getD, hj]

theorem array1 {α : Type} {cs : Array α} (h : cs.size = 1) : ∃ c0, cs = #[c0] := by
  obtain ⟨l⟩ := cs
  match l, h with
  | [c0], _ => exact ⟨c0, rfl⟩
section
variable {H : Type} {enc : TypeId × Value → H} {W : World} {base : Nat} {held : Bool}
theorem open_list {a : Option Addr} {len cap : Nat} {d : DataW H} {p : List MemPlace} (h : DataW.Trod enc Try.prog W base (fun _ => true) held 29 (.slice a len cap) d p) : ∃ l, ListIn W a len cap l := by
  obtain ⟨fuel, hf⟩ := h
  rcases open_ints Try.underlying29 Try.underlying3 (by kernel_rfl) hf with ⟨hcs, _⟩ | ⟨x, l, c, zs, hcs, _, hl, hm, hz, _, hcell, hwz⟩
  · simp [Value.cells] at hcs
    obtain ⟨rfl, rfl, rfl⟩ := hcs
    exact ⟨[], rfl, Nat.le_refl _, Kd.C_nil _ _, by simp⟩
  · simp [Value.cells] at hcs
    obtain ⟨rfl, rfl, rfl⟩ := hcs
    have hz' : zs.length = cap := by simpa using hz
    have hln : (zs.take len).length = len := by rw [List.length_take]; omega
    refine ⟨zs.take len, hln.symm, by omega, ?_, fun x hx => hwz x (List.mem_of_mem_take hx)⟩
    refine reads_of hl hm hz' (fun h => by cases h) (fun ad e j hj => ?_)
    injection e with e
    subst e
    exact hcell j (by omega)
theorem rows_of {fuel : Nat} {cs : List Value} {x : DataW H × List MemPlace} (h : DataW.trod enc Try.prog W base (fun _ => true) held fuel 40 cs = some x) : ∃ A n c l, cs = [.slice A n c] ∧ RowsIn W A n c l := by
  rcases open_int_rows Try.underlying40 Try.underlying29 Try.underlying3 (by kernel_rfl) (by kernel_rfl) h with ⟨rfl, _⟩ | ⟨a, len, cap, A, L, C, Z, rfl, hb, hl, hm, hx, hr⟩
  · exact ⟨none, 0, 0, [], rfl, rfl, Nat.le_refl _, Kd.C_nil _ _, by simp, by simp⟩
  · refine ⟨some a, len, cap, (List.range len).map fun r => (Z r).take (L r), rfl, by simp, by simpa using hl, ?_, ?_, ?_⟩
    · refine ⟨by simp, by simp; unfold maxLen at hm; omega, fun h0 => ⟨a, rfl, fun j p hj => ?_⟩⟩
      have hjl : j < len := by
        have := (List.getElem?_eq_some_iff.1 hj).1
        simpa using this
      obtain ⟨hc, h1, h2, h3, h4, h5, h6⟩ := hr j (by omega)
      have hp : p = (Z j).take (L j) := by
        rw [List.getElem?_map, List.getElem?_range hjl] at hj
        exact (Option.some.inj hj).symm
      have hpl : p.length = L j := by rw [hp, List.length_take]; omega
      refine ⟨[.slice (A j) p.length (C j)], rfl, ⟨A j, C j, rfl, by omega, ?_⟩, fun i u hu => ?_⟩
      · rw [hp]
        exact reads_of h1 h2 h3 h5 (fun ad e i hi => (h6 ad e).2 i hi)
      · have hi : i = 0 := by
          have := (List.getElem?_eq_some_iff.1 hu).1
          simp at this
          exact this
        subst hi
        simp at hu
        rw [← hu, hpl]
        have e : j * (Kd.slice 3 (Kd.int .i64)).sz + 0 = j := by show j * 1 + 0 = j; omega
        rw [e]
        exact hc
    · intro r hr' x hx'
      obtain ⟨j, hj, rfl⟩ := List.mem_map.1 hr'
      have := List.mem_range.1 hj
      exact (hr j (by omega)).2.2.2.2.1 x (List.mem_of_mem_take hx')
    · intro r hr'
      obtain ⟨j, hj, rfl⟩ := List.mem_map.1 hr'
      have hj := List.mem_range.1 hj
      have h1 := (hr j (by omega)).2.1
      have h2 := (hr j (by omega)).2.2.1
      unfold maxLen at h2
      rw [List.length_take]
      omega
theorem open_rows {a : Option Addr} {len cap : Nat} {d : DataW H} {p : List MemPlace} (h : DataW.Trod enc Try.prog W base (fun _ => true) held 40 (.slice a len cap) d p) : ∃ l, RowsIn W a len cap l := by
  obtain ⟨fuel, hf⟩ := h
  obtain ⟨A, n, c, l, hcs, hR⟩ := rows_of hf
  simp [Value.cells] at hcs
  obtain ⟨rfl, rfl, rfl⟩ := hcs
  exact ⟨l, hR⟩
end
end Go.Proofs.Ytjedhjeijpbobaa.KR
