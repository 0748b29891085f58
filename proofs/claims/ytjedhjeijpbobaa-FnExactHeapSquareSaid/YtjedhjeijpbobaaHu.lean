/-
  The cells of the program's heap, in whatever order the map gives them.
-/
import Derived.Test.YtjedhjeijpbobaaHt
import Derived.Maps.RangeWalk
namespace Go.Proofs.Ytjedhjeijpbobaa.G8
open Go.RowKit Go.Maps Go.MapKept Go.WideShapes Go.ChangeMaps Go.Proofs.YtjedhjeijpbobaaW.PrintWords Go.Proofs.YtjedhjeijpbobaaW.PrintLast Go.Proofs.YtjedhjeijpbobaaW.PrintMore
set_option linter.unusedVariables false
set_option linter.unusedSimpArgs false
set_option maxRecDepth 100000 in
theorem lit_inv (d : Nat) {v : Value} {ls : List Lit} (h : Try.prog.keyLits (d + 1) 3 [v] = some ls) : ∃ x : Int, v = .int .i64 x ∧ (Lit.int .i64 x).wf = true := by
  unfold Program.keyLits at h
  rw [Try.underlying3] at h
  cases v <;> simp at h
  rename_i k x
  obtain ⟨⟨rfl, hw⟩, _⟩ := h
  exact ⟨x, rfl, hw⟩
set_option maxRecDepth 100000 in
theorem key_inv {key : Value} {kl : Lit} (h : keyOf Try.prog 76 key = some kl) : ∃ p : Int × Int, key = cellV p.1 p.2 ∧ (Lit.int .i64 p.1).wf = true ∧ (Lit.int .i64 p.2).wf = true := by
  obtain ⟨d, hd⟩ : ∃ d, Try.prog.types.size + 1 = d + 2 := ⟨Try.prog.types.size - 1, by have h : 76 < Try.prog.types.size := row76; omega⟩
  unfold keyOf at h
  rw [Try.underlying76, hd] at h
  simp only at h
  split at h
  · rename_i hc
    rw [Bool.and_eq_true] at hc
    have hf := hc.2
    obtain ⟨ls, hls, _⟩ := Option.map_eq_some_iff.1 h
    cases key with
    | agg cs =>
      simp [Value.formed, Try.underlying76, cells76] at hf
      obtain ⟨cs⟩ := cs
      match cs, hf with
      | [a, b], _ =>
        unfold Program.keyLits at hls
        rw [Try.underlying76] at hls
        simp [Value.cells, cells76, cells3] at hls
        obtain ⟨q1, hq1, hq3⟩ := Option.bind_eq_some_iff.1 hls
        simp at hq3
        obtain ⟨q2, hq2⟩ : ∃ q2, Try.prog.keyLits (d + 1) 3 [b] = some q2 := by
          cases hk : Try.prog.keyLits (d + 1) 3 [b] with
          | none => rw [hk] at hq3; simp at hq3
          | some q2 => exact ⟨q2, rfl⟩
        obtain ⟨x, rfl, hx⟩ := lit_inv d hq1
        obtain ⟨y, rfl, hy⟩ := lit_inv d hq2
        exact ⟨(x, y), rfl, hx, hy⟩
    | _ => simp [Value.formed, Try.underlying76] at hf
  · cases h
abbrev wfI (x : Int) : Prop := (Lit.int .i64 x).wf = true
/-- The cells met so far: those that are there and no longer to come, each once. -/
structure Coll (F : Fld) (left : Lit → Bool) (cs : List (Int × Int)) : Prop where
  once : cs.Nodup
  wf : ∀ c ∈ cs, wfI c.1 ∧ wfI c.2
  is : ∀ x y, wfI x → wfI y → ((x, y) ∈ cs ↔ (F x y).isSome = true ∧ left (keyLit x y) = false)
theorem Coll.start {H : Type} {D : DataW H} {F : Fld} (h : FieldIs D F) : Coll F (Maps.has D) [] := by
  refine ⟨List.nodup_nil, fun c hc => by simp at hc, fun x y hx hy => ?_⟩
  rw [h.has x y hx hy]
  cases F x y <;> simp
theorem Coll.step {F : Fld} {left : Lit → Bool} {cs : List (Int × Int)} (h : Coll F left cs) {x y : Int} (hx : wfI x) (hy : wfI y) (hl : left (keyLit x y) = true) (hs : (F x y).isSome = true) : Coll F (fun z => left z && !z.sameKey (keyLit x y)) (cs ++ [(x, y)]) := by
  have hk : WideAt.IsKeyLit (keyLit x y) := law76.key (key_is x y hx hy)
  have hno : (x, y) ∉ cs := fun hm => by
    have := ((h.is x y hx hy).1 hm).2
    rw [hl] at this
    cases this
  refine ⟨?_, fun c hc => ?_, fun a b ha hb => ?_⟩
  · rw [List.nodup_append]
    refine ⟨h.once, by simp, fun p hp q hq => ?_⟩
    simp at hq
    subst hq
    rintro rfl
    exact hno hp
  · simp only [List.mem_append, List.mem_singleton] at hc
    rcases hc with hc | rfl
    · exact h.wf c hc
    · exact ⟨hx, hy⟩
  · simp only [List.mem_append, List.mem_singleton, Prod.mk.injEq]
    rw [h.is a b ha hb]
    by_cases e : a = x ∧ b = y
    · rw [e.1, e.2]
      simp [hs, WideAt.sameKey_self hk]
    · have hne := key_ne hx hy ha hb e
      have hsk : (keyLit a b).sameKey (keyLit x y) = false := by
        cases q : (keyLit a b).sameKey (keyLit x y) with
        | false => rfl
        | true => exact absurd (WideAt.sameKey_eq q) hne
      simp only [e, or_false, hsk, Bool.not_false, Bool.and_true]
theorem wpList_appL {ops : Array Oper} {rest : List Oper} {o : Oper} {a : Act} {Q : Exit → Act → World → Prop} {W : World} {base : Nat} {vc : Value} {cs : List (Int × Int)} {x y : Int} {C : Nat} (hgd : o.guard = none) (sv xv : Operand) (ho : o.op = .call { callee := .builtin .append, args := #[sv, xv], argTypes := #[68, 68] })
    (hs : a.eval sv = vc) (hx : a.eval xv = .slice (some ⟨C, 0, none⟩) 1 1) (h : W.ownsRow base 76 2 vc cs.length (flat cs)) (hbase : base ≤ W.heap.size) (hl : cs.length ≤ 1000000) (hC : W.heap[C]? = some (.cells #[.int .i64 x, .int .i64 y] 76 (0, 0)))
    (k : ∀ g1 cap w1, w1.ownsRow base 76 2 (.slice (some ⟨g1, 0, none⟩) (cs.length + 1) cap) (cs ++ [(x, y)]).length (flat (cs ++ [(x, y)])) → Below base W w1 → W.grownBy w1 vc.ownBlock →
      wpList Try.prog ops Q rest (a.put o.dst (.slice (some ⟨g1, 0, none⟩) (cs.length + 1) cap)) w1) : wpList Try.prog ops Q (o :: rest) a W := by
  obtain ⟨i0, hi0, hz⟩ := Option.map_eq_some_iff.1 info76s
  simp only [Prod.mk.injEq] at hz
  obtain ⟨hz0, hz1, hz2⟩ := hz
  refine wpList_append_lies (w := W) hgd sv xv 68 ho base 76 i0 (.agg #[.int .i64 0, .int .i64 0]) 2 16 Try.underlying68 hi0 hz0 hz1 hz2 rfl (by omega) vc cs.length (flat cs) hs h ⟨C, 0, none⟩ 1 1 [.int .i64 x, .int .i64 y] hx rfl (World.news_of_block hC) (by intro u hu; simp at hu; rcases hu with rfl | rfl <;> rfl) (by omega) (by unfold maxLen; omega) (by omega) hbase _ rfl ?_
  intro g1 cap w1 hown hg hat hlt
  exact k g1 cap w1 (by rw [flat_app, List.length_append, List.length_singleton]; exact hown) ((Below.refl base W).grown hg hbase (own_base h)) hg
theorem ranges_apart {w : World} {gm r N n : Nat} {D : DataW Nat} {left : Lit → Bool} {cnt : Nat} {base : Nat} {vc : Value} {xs : List Value} (h : w.ranges Try.prog 76 (plainElem Try.prog 3) gm r N D left cnt) (hv : w.ownsRow base 76 2 vc n xs) : some r ≠ vc.ownBlock ∧ some gm ≠ vc.ownBlock := by
  obtain ⟨es, clock, since, seen, c0, hb, _, _, _, hr, _⟩ := h
  constructor
  · intro e
    obtain ⟨cells, hc⟩ := own_typed hv r e.symm
    rw [hr] at hc
    cases hc
  · intro e
    obtain ⟨cells, hc⟩ := own_typed hv gm e.symm
    rw [hb] at hc
    cases hc
def CellsOut (w : World) (F : Fld) (e : Ending) (w' : World) : Prop := ∃ vc cs, e = .returned vc ∧ Below w.heap.size w w' ∧ Aside0 (w'.ownsRow w.heap.size 76 2 vc cs.length (flat cs)) ∧ cs.length ≤ 100000 ∧ cs.Nodup ∧ (∀ c ∈ cs, wfI c.1 ∧ wfI c.2) ∧ ∀ x y, wfI x → wfI y → ((x, y) ∈ cs ↔ (F x y).isSome = true)
set_option maxHeartbeats 4000000 in
set_option maxRecDepth 100000 in
theorem cellsOf_calls (gm N : Nat) (F : Fld) (w : World) (hM : MapIs w gm N F) (hN : N ≤ 100000) : Calls Try.prog 80 #[.map (some gm)] w (CellsOut w F) := by
  have hu76 := Try.underlying76
  obtain ⟨D, hown, hfi⟩ := hM
  have hsz := hown.size_le
  have hgl := hown.lt
  have HO := Aside0.mk hown
  have HF := Aside0.mk hfi
  clear hown hfi
  go_enter Try.func80, Try.ntmps80
  go_wp2_with (first | (at_range; refine wpList_range_own _ rfl _ 67 rfl 76 3 law76 Try.underlying67 _ gm N _ rfl (HO.out.kept (World.grownBy_alloc w (.cells #[] 76) none) (by simp)) ?_; intro w0 hrg0 hg0 hs0))
  go_frame
  have e1 : (w.alloc (.cells #[] 76)).heap.size = w.heap.size + 1 := by simp
  rw [e1] at hrg0 hs0 ⊢
  have HRG0 := Aside0.mk hrg0
  have HB0 : Aside0 (Below w.heap.size w w0) := ⟨((Below.refl w.heap.size w).alloc (Nat.le_refl _) (.cells #[] 76)).grown hg0 (by simp) (fun j hj => by cases hj)⟩
  have HR0 : Aside0 (w0.ownsRow w.heap.size 76 2 (.slice (some ⟨w.heap.size, 0, none⟩) 0 0) 0 (flat [])) := ⟨⟨rfl, .inr ⟨w.heap.size, 0, #[], rfl, Nat.le_refl _, (hg0.block _ (by simp) (by simp)).trans (blk_new w _), Nat.le_refl _, by unfold maxLen; simp, rfl, rfl⟩⟩⟩
  clear hrg0 hg0 hs0
  go_loopg [3] (Maps.size D) (fun m v3 wr => ∃ (vc : Value) (left : Lit → Bool) (cnt : Nat) (cs : List (Int × Int)), v3 = vc ∧ Aside0 (wr.ranges Try.prog 76 (plainElem Try.prog 3) gm (w.heap.size + 1) N D left cnt) ∧ Aside0 (cnt ≤ m ∧ cs.length + cnt ≤ N) ∧ Aside0 (Coll F left cs) ∧ Aside0 (wr.ownsRow w.heap.size 76 2 vc cs.length (flat cs)) ∧ Aside0 (Below w.heap.size w wr))
  case atStart => exact ⟨_, _, _, [], rfl, HRG0, ⟨Nat.le_refl _, by simpa using hsz⟩, ⟨Coll.start HF.out⟩, HR0, HB0⟩
  case round =>
    clear HRG0 HB0 HR0
    obtain ⟨vc, left, cnt, cs, hvc, HRG, HI, HC, HR, HB⟩ := hrel
    replace hvc := hvc.symm
    subst hvc
    obtain ⟨ap1, ap2⟩ := ranges_apart HRG.out HR.out
    go_wp2_with (first | (at_next; refine wpList_next_ranges _ rfl (.tmp 7) rfl 76 law76 (plainElem Try.prog 3) (fun p : Int × Int => cellV p.1 p.2) (Value.int .i64) (fun key kl h => by obtain ⟨p, hp, _⟩ := key_inv h; exact ⟨p, hp⟩) (fun v y hv => by obtain ⟨c, rfl, _⟩ := plainElem_int_inv Try.underlying3 hv; exact ⟨c, rfl⟩) gm (w.heap.size + 1) N D left cnt rfl HRG.out ?_ ?_))
    · intro hc0 hl0
      have hlen : cs.length ≤ 100000 := by have := HI.out.2; omega
      have HE : Aside0 (∀ x y, wfI x → wfI y → ((x, y) ∈ cs ↔ (F x y).isSome = true)) := ⟨fun x y hx hy => by rw [HC.out.is x y hx hy, hl0]; simp⟩
      clear hc0 hl0
      go_wp2_with (fail)
      refine bodyPost_ret (v := vc) (by simp [results, Try.results80, go_sem]) rfl ?_
      exact ⟨vc, cs, rfl, HB.out, HR, hlen, HC.out.once, HC.out.wf, HE.out⟩
    · intro px py c kl y1 y2 w1 cnt1 hkey hlk hRv hat hrg1 hlt hg1 hs1 hen
      cases gk with
      | zero => have := HI.out.1; omega
      | succ m =>
        obtain ⟨p2, hp2, hx, hy⟩ := key_inv hkey
        obtain ⟨hp21, hp22⟩ : px = p2.1 ∧ py = p2.2 := by
          injection hp2 with hp2
          have h3 := congrArg Array.toList hp2
          simp at h3
          exact h3
        rw [← hp21] at hx
        rw [← hp22] at hy
        have hkl : keyLit px py = kl := Option.some.inj ((key_is px py hx hy).symm.trans hkey)
        have hsome : (F px py).isSome = true := by
          rw [← HF.out.has px py hx hy, hkl]
          exact Maps.has_true_of_atKey hat
        have HC1 := Aside0.mk (HC.out.step hx hy (by rw [hkl]; exact hlk) hsome)
        rw [hkl] at HC1
        have HRG1 := Aside0.mk hrg1
        have HR1 : Aside0 (w1.ownsRow w.heap.size 76 2 vc cs.length (flat cs)) := ⟨own_move HR.out fun k hk => hg1.block k (own_lt HR.out k hk) (fun e => ap1 (by rw [hk, e]))⟩
        have HB1 : Aside0 (Below w.heap.size w w1) := ⟨HB.out.grown hg1 HB.out.size (fun j hj => by cases hj; exact Nat.le_succ _)⟩
        have hcl : cs.length ≤ 1000000 := by have := HI.out.2; omega
        have HI1 : Aside0 (cnt1 ≤ m ∧ cs.length + 1 + cnt1 ≤ N) := ⟨by have := HI.out; omega⟩
        clear hkey hlk hRv hat hrg1 hg1 hs1 hp2 hp21 hp22 hkl hsome HRG HR HB HC hlt
        have hs1 := HB1.out.size
        have HRb : Aside0 (((w1.alloc (.cells #[.int .i64 px, .int .i64 py] 76)).alloc (.cells #[.int .i64 px, .int .i64 py] 76)).ownsRow w.heap.size 76 2 vc cs.length (flat cs)) := ⟨own_move HR1.out fun k hk => ((MapKept.heap_alloc _ _).2 k (by have := own_lt HR1.out k hk; simp; omega)).trans ((MapKept.heap_alloc w1 _).2 k (own_lt HR1.out k hk))⟩
        have HBb : Aside0 (Below w.heap.size w ((w1.alloc (.cells #[.int .i64 px, .int .i64 py] 76)).alloc (.cells #[.int .i64 px, .int .i64 py] 76))) := ⟨(HB1.out.alloc hs1 _).alloc (by simp; omega) _⟩
        have HGb : Aside0 (((w1.alloc (.cells #[.int .i64 px, .int .i64 py] 76)).alloc (.cells #[.int .i64 px, .int .i64 py] 76)).ranges Try.prog 76 (plainElem Try.prog 3) gm (w.heap.size + 1) N D (fun z => left z && !z.sameKey kl) cnt1) := ⟨(HRG1.out.alloc _).alloc _⟩
        go_wp2_with (first | ((with_reducible refine gate_builtin (b := .append) (xs := #[.tmp 12, .tmp 14]) rfl ?_); refine wpList_appL rfl (.tmp 12) (.tmp 14) rfl rfl rfl HRb.out HBb.out.size hcl (by first | exact two_new1 w1 _ _ | exact blk_new _ _) ?_; intro g1 cap1 w11 hR hB hgr; have HR11 := Aside0.mk hR; have HB11 := Aside0.mk (HBb.out.trans hB); have HG11 := Aside0.mk (HGb.out.kept hgr ap2 ap1); clear hR hB hgr))
        trace_state
        go_roundg m
        case measure => omega
        case rel => exact ⟨_, _, cnt1, cs ++ [(px, py)], rfl, HG11, ⟨by have := HI1.out; rw [List.length_append, List.length_singleton]; exact this⟩, HC1, HR11, HB11⟩
end Go.Proofs.Ytjedhjeijpbobaa.G8
