/-
  The map of chips: a look-up, and an entry that is made and then stored into.
-/
import Derived.Test.YtjedhjeijpbobaaMe
import Derived.WideKeyEntry
namespace Go.Proofs.Ytjedhjeijpbobaa.G8
open Go.RowKit Go.Maps Go.MapKept Go.WideShapes Go.ChangeMaps Go.Proofs.YtjedhjeijpbobaaW.PrintWords Go.Proofs.YtjedhjeijpbobaaW.PrintLast Go.Proofs.YtjedhjeijpbobaaW.PrintMore
set_option linter.unusedVariables false
set_option linter.unusedSimpArgs false
theorem zeroAll (u : World) : (zeroValue 3).run Try.prog u = .ok (.int .i64 0) u := zero3 u
set_option maxRecDepth 100000 in
/-- 'm[k]': what the field tells, or 0. -/
theorem MapIs.look0 {w : World} {gm N : Nat} {F : Fld} (h : MapIs w gm N F) {x y : Int} (hx : (Lit.int .i64 x).wf = true) (hy : (Lit.int .i64 y).wf = true) :
    (Instr.lookup 67 (.map (some gm)) (cellV x y) false).run Try.prog w = .ok (.int .i64 ((F x y).getD 0)) w := by
  obtain ⟨D, hown, hfi⟩ := h
  have hhas := hfi.has x y hx hy
  have hval := hfi.val x y
  obtain ⟨es, clock, hb, Ft, hs, rfl⟩ := hown
  rcases Maps.fit_look false law76 Try.underlying67 (zeroAll w) hb Ft (key_is x y hx hy) with ⟨hrun, _, hat⟩ | ⟨e0, q, _, _, hrun, hRv, hat, _⟩
  · rw [Maps.has_false_of_atKey hat] at hhas
    rw [hrun]
    cases hF : F x y with
    | none => rfl
    | some r => rw [hF] at hhas; cases hhas
  · rw [Maps.has_true_of_atKey hat] at hhas
    rw [hrun]
    cases hF : F x y with
    | none => rw [hF] at hhas; cases hhas
    | some r =>
      have h1 := hval r hx hy hF
      rw [hat] at h1
      obtain ⟨c, hc1, hc2, _⟩ := plainElem_int_inv Try.underlying3 hRv
      have h2 := congrArg Prod.fst hc2
      rw [h1] at h2
      simp only at h2
      injection h2 with h2
      injection h2 with _ h2
      simp only [Bool.false_eq_true, if_false]
      rw [hc1, ← h2]
      rfl
set_option maxRecDepth 100000 in
/-- Looking up again, once the entry is there. -/
theorem look_mid {w w6 : World} {gm N : Nat} {F : Fld} (h : MapIs w gm N F) {x y : Int} (hx : (Lit.int .i64 x).wf = true) (hy : (Lit.int .i64 y).wf = true) (hN : N ≤ 80000000) {v : Value}
    (hrun : (Instr.mapEntry 67 (.map (some gm)) (cellV x y)).run Try.prog w = .ok v w6) : (Instr.lookup 67 (.map (some gm)) (cellV x y) false).run Try.prog w6 = .ok (.int .i64 ((F x y).getD 0)) w6 := by
  have hkey := key_is x y hx hy
  have hM := h
  obtain ⟨D, hown, hfi⟩ := h
  have hhas := hfi.has x y hx hy
  obtain ⟨w8, u1, u2, _⟩ := hown.update law76 Try.underlying67 (by unfold maxLen; omega) hkey (plainElem_int (a := 0) Try.underlying3 (by decide))
  have hM8 : MapIs w8 gm (N + 1) (upd F x y 0) := ⟨_, u2, hfi.put hown.isMap hx hy⟩
  obtain ⟨es, clock, hb, Ft, hs, rfl⟩ := hown
  rcases klaw76.find w hkey es.toList Ft.keys with ⟨h1, h2⟩ | ⟨j, e0, h1, h2, h3⟩
  · simp [Instr.mapEntry, run_underlying Try.underlying67, MapKept.run_getObj_map hb, klaw76.check w false hkey, h1, zeroAll, MapKept.run_setObj_map _ hb, Result.andThen] at hrun
    simp [Instr.mapUpdate, run_underlying Try.underlying67, MapKept.run_getObj_map hb, klaw76.check w false hkey, h1, MapKept.run_setObj_map _ hb, Result.andThen] at u1
    have e : w8 = w6 := u1.symm.trans hrun.2
    rw [e] at hM8
    have hl := hM8.look0 hx hy
    have hF : F x y = none := by
      rcases Maps.fit_look false law76 Try.underlying67 (zeroAll w) hb Ft hkey with ⟨_, _, hat⟩ | ⟨q0, q, q1, q2, _⟩
      · rw [Maps.has_false_of_atKey hat] at hhas
        cases hF : F x y with
        | none => rfl
        | some r => rw [hF] at hhas; cases hhas
      · exact absurd q2 (h2 q0 q1)
    rw [hF]
    have e2 : (upd F x y 0 x y).getD 0 = 0 := by unfold upd; rw [if_pos ⟨rfl, rfl⟩]; rfl
    rw [e2] at hl
    exact hl
  · have hj : es[j]? = some e0 := by simpa using h2
    simp [Instr.mapEntry, run_underlying Try.underlying67, MapKept.run_getObj_map hb, klaw76.check w false hkey, h1, hj, h3, klaw76.stays w hkey, MapKept.run_setObj_map _ hb, Result.andThen] at hrun
    have hsame : es.modify j (fun e => { e with key := cellV x y }) = es := by
      apply Array.ext'
      rw [Array.toList_modify]
      apply List.ext_getElem?
      intro i
      rw [List.getElem?_modify]
      by_cases q : j = i
      · subst q
        rw [h2]
        simp [← h3]
      · simp [q]
    have e : w6.heap[gm]? = w.heap[gm]? := by
      rw [← hrun.2, hsame]
      first
        | exact (heap_setBlock_same hb _).trans hb.symm
        | exact (MapKept.heap_set hb).1.trans hb.symm
        | (simp [hb]; done)
        | (trace_state; fail)
    exact (hM.move e).look0 hx hy
set_option maxRecDepth 100000 in
/-- 'm[k] op= v' in its parts: the look-up, ahead of the entry and behind it; the entry; the store into it. -/
theorem MapIs.entry {w : World} {gm N : Nat} {F : Fld} (h : MapIs w gm N F) {x y : Int} (hx : (Lit.int .i64 x).wf = true) (hy : (Lit.int .i64 y).wf = true) (hN : N ≤ 80000000) {r : Int} (hr : (Lit.int .i64 r).wf = true) :
    ∃ (c : Value) (st : Int) (w6 w8 : World), (Instr.mapEntry 67 (.map (some gm)) (cellV x y)).run Try.prog w = .ok (.tuple #[c, .int .i64 st]) w6 ∧ w.grownBy w6 (some gm) ∧
      (Instr.lookup 67 (.map (some gm)) (cellV x y) false).run Try.prog w6 = .ok (.int .i64 ((F x y).getD 0)) w6 ∧
      (Instr.entryStore 67 (.map (some gm)) (.int .i64 st) (.int .i64 r)).run Try.prog w6 = .ok () w8 ∧ MapIs w8 gm (N + 1) (upd F x y r) ∧ w6.grownBy w8 (some gm) := by
  have hkey := key_is x y hx hy
  have hM := h
  obtain ⟨D, hown, hfi⟩ := h
  obtain ⟨w9, u1, u2, u3⟩ := hown.update law76 Try.underlying67 (by unfold maxLen; omega) hkey (plainElem_int (a := r) Try.underlying3 hr)
  have hM9 : MapIs w9 gm (N + 1) (upd F x y r) := ⟨_, u2, hfi.put hown.isMap hx hy⟩
  obtain ⟨es, clock, hb, Ft, hs, rfl⟩ := hown
  obtain ⟨v0, st, es1, clock1, hE, _, hS⟩ := WideElems.entry_then_store klaw76 Try.underlying67 zeroAll hb Ft hkey
  have hb6 : (setBlock w gm (.map es1 clock1)).heap[gm]? = some (.map es1 clock1) := heap_setBlock_same hb _
  obtain ⟨es', clock', hS1, hS2⟩ := hS (setBlock w gm (.map es1 clock1)) (.int .i64 r) hb6
  have e9 : w9 = setBlock w gm (.map es' clock') := by
    rw [hS2] at u1
    injection u1 with _ u1
    exact u1.symm
  have e8 : (setBlock (setBlock w gm (.map es1 clock1)) gm (.map es' clock')).heap[gm]? = w9.heap[gm]? := by
    rw [heap_setBlock_same hb6, e9, heap_setBlock_same hb]
  refine ⟨v0, st, setBlock w gm (.map es1 clock1), setBlock (setBlock w gm (.map es1 clock1)) gm (.map es' clock'), hE, ?_, look_mid hM hx hy hN hE, hS1, hM9.move e8, ?_⟩
  · exact ⟨rfl, rfl, rfl, by simp [setBlock], fun i _ hi => heap_setBlock_other hb _ (fun e => hi (by rw [e]))⟩
  · exact ⟨rfl, rfl, rfl, by simp [setBlock], fun i _ hi => heap_setBlock_other hb6 _ (fun e => hi (by rw [e]))⟩
end Go.Proofs.Ytjedhjeijpbobaa.G8
