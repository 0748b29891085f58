/-
  Texts of the seat, merged (part 6).
-/
import Derived.Test.YtnbnalbomflafaaProg
import Derived.Below
import Derived.Deep.Draws
import Derived.Deep.AppendLies
import Derived.Maps.AppendAt
import Derived.OwnWalk
import Derived.Laws.BytesArg
import Derived.Laws.MakeOwn
import Derived.Laws.OwnMore
import Derived.Deep.OwnRows
import Derived.Tactics
import Derived.Lib.ConvBytes
import Derived.Laws.Slices
import Derived.WalkKit
import Derived.KernelRfl
import Derived.RowKit3
import Derived.Deep.LoopGhost
import Derived.Deep.QuietTactic
import Derived.BigQuiet
import Derived.WideLaws
import Derived.Deep.DeepCutAuto
import Derived.Deep.CutBlock
import Derived.Deep.RegionHeld3
import Derived.Laws.Rows
import Derived.Lib.AppendStr
import Derived.ArgAppend
import Derived.Laws.IdiomCopy
import Derived.OrdersHeld
import Derived.Laws.BitsLemmas
import Derived.RowKit
import Derived.Test.YtnbnalbomflafaaX13WWords
import Derived.Test.YtnbnalbomflafaaX13WLast
import Derived.Test.YtnbnalbomflafaaX13WTab
import Derived.Test.YtnbnalbomflafaaX13WFour
import Derived.Test.YtnbnalbomflafaaX13WQPut
import Derived.Test.YtnbnalbomflafaaX13WApart
import Derived.Test.YtnbnalbomflafaaX13WArr
import Derived.Test.YtnbnalbomflafaaX13WZeros
import Derived.Test.YtnbnalbomflafaaX13WFoot
import Derived.Test.YtnbnalbomflafaaX13WKept
import Derived.Test.YtnbnalbomflafaaX13WShare
import Derived.Test.YtnbnalbomflafaaX13WN
import Derived.Test.YtnbnalbomflafaaX13WFootNe
import Derived.Test.YtnbnalbomflafaaX13WAt
import Derived.Test.YtnbnalbomflafaaX13WEqStruct
import Derived.Test.YtnbnalbomflafaaX13WRepsOne
import Derived.Test.YtnbnalbomflafaaX13WInv
import Derived.Test.YtnbnalbomflafaaX13WInvWords
import Derived.Test.YtnbnalbomflafaaX13WGuard
import Derived.Test.YtnbnalbomflafaaX13WNEv
import Derived.Test.YtnbnalbomflafaaX13WMore
import Derived.Test.YtnbnalbomflafaaX135
set_option linter.unusedVariables false
set_option linter.unusedSimpArgs false
namespace Go.Proofs.Ytnbnalbomflafaa.DT
open Go.RowKit YtnbnalbomflafaaW.PrintWords YtnbnalbomflafaaW.PrintLast YtnbnalbomflafaaW.PrintMore
open GA hiding info37
open RA
def OT12 : Bool × List (List Nat × List Nat) := (true, [([], []), ([0], [0]), ([1, 1], [1]), ([], []), ([], []), ([3, 4], [3, 4]), ([2, 5, 0, 1, 2], [2]), ([5, 6, 0, 1, 2, 3, 4, 5, 6], [5])])
def OB12 : List Nat := [0, 1, 3, 0, 0, 24, 63, 127]
theorem otab12 : rtab .any (opsOf Try.f90 12) = OT12 := by kernel_rfl
theorem obits12 : waitsOk OT12.2 OB12 = true := by kernel_rfl
def OT23 : Bool × List (List Nat × List Nat) := (true, [([], []), ([], []), ([1], [1]), ([0, 2], [0, 2]), ([3], [3]), ([], []), ([5], [5]), ([], []), ([6, 7], [6, 7]), ([8], [8]), ([9], [9]), ([4, 10], [4, 10]), ([0, 2, 0, 1, 2, 3, 4, 5, 6, 7, 8, 9, 10, 11], [0, 2]), ([12, 11, 0, 1, 2, 3, 4, 5, 6, 7, 8, 9, 10, 11], [11, 12])])
def OB23 : List Nat := [0, 0, 2, 7, 15, 0, 32, 0, 224, 480, 992, 2047, 4095, 8191]
theorem otab23 : rtab .any (opsOf Try.f90 23) = OT23 := by kernel_rfl
theorem obits23 : waitsOk OT23.2 OB23 = true := by kernel_rfl
def SolvedOut (w : World) (l : List (List Int)) (own : Int → Int) (atA atB a b : Int) (e : Ending) (w' : World) : Prop := ∃ v1 out, e = .returned (.tuple #[v1, .int .i64 (denOf l a b)]) ∧ Below w.heap.size w w' ∧ Aside0 (ListD w' w.heap.size v1 out) ∧ Aside0 (OutK l own atA atB a b (innerL l a b).length out)
set_option maxHeartbeats 16000000 in
set_option maxRecDepth 100000 in
theorem solved_c (l : List (List Int)) (own : Int → Int) (atA atB a b : Int) (hab : a ≠ b) (ha0 : 0 ≤ a) (ha1 : a < l.length) (hb0 : 0 ≤ b) (hb1 : b < l.length) (hl8 : l.length ≤ 8) (h5 : ∀ v : Int, 0 ≤ v → v < l.length → (rd_L1 l v).length ≤ 5) (hq : ∀ v : Int, 0 ≤ v → v < l.length → ∀ q ∈ rd_L1 l v, 0 ≤ q ∧ q < l.length)
  (hA : -1 ≤ atA ∧ atA ≤ 1) (hAB : -1 ≤ atB ∧ atB ≤ 1) (hS : ∀ p : Int, 0 ≤ p → p < l.length → ∀ x, x ≤ (rd_L1 l p).length → -5 ≤ sumF own atA atB a b p (rd_L1 l p) x ∧ sumF own atA atB a b p (rd_L1 l p) x ≤ 5)
  (f : FuncId) (fn : Func) (caps : Array Value) (hf : Try.prog.funcs[f]? = some fn) (hname : (fn.name == "runtime.NumGoroutine") = false) (hbody : fn.body.isSome = true)
  (w : World) (v : Value) (hv : RowsC w v l) (hown : ∀ W, Below w.heap.size w W → ∀ p : Int, 0 ≤ p → p < l.length → Calls Try.prog f (#[.int .i64 p] ++ caps) W fun e w' => e = .returned (.int .i64 (own p)) ∧ w' = W) :
  Calls Try.prog 90 #[.agg #[v], .int .i64 a, .int .i64 b, .func (.func f) #[] caps, .int .i64 atA, .int .i64 atB] w (SolvedOut w l own atA atB a b) := by
 obtain ⟨A, c, rfl, hc, hC⟩ := hv
 have HB1 : Below w.heap.size w (w.alloc (.cells #[.slice A l.length c] 30)) := (Below.refl _ _).alloc (Nat.le_refl _) _
 have HC := Aside0.mk (Kd.C_below hC HB1)
 have HX := Aside0.mk (show (w.alloc (.cells #[.slice A l.length c] 30)).cell? ⟨w.heap.size, 0, none⟩ = some (.slice A l.length c) from (blk_cell (blk_new _ _) 0).trans rfl)
 have hsz : w.heap.size < (w.alloc (.cells #[.slice A l.length c] 30)).heap.size := by simp
 have HBW := Aside0.mk HB1
 have H5 := Aside0.mk h5
 have HQ := Aside0.mk hq
 have HS := Aside0.mk hS
 have HOWN := Aside0.mk hown
 have H6 := Aside0.mk (inner_six hl8 ha0 ha1 hb0 hb1 hab)
 have HAB := Aside0.mk hab
 have hx0 := HX.out
 clear hC hc HB1 h5 hq hS hown hab
 go_enter Try.func90, Try.ntmps90
 go_upto_region 1 with (fail)
 generalize hW1 : w.alloc (.cells #[.slice A l.length c] 30) = W1 at *
 clear hW1
 have HL0 := Aside0.mk (noI_D W1 W1.heap.size (Nat.le_refl _))
 have HR : Aside0 (Below W1.heap.size W1 (W1.alloc (.cells #[] 3))) := ⟨(Below.refl _ _).alloc (Nat.le_refl _) _⟩
 replace hx0 : (W1.alloc (.cells #[] 3)).cell? ⟨w.heap.size, 0, none⟩ = _ := (World.cell?_alloc_lt _ _ _ (by exact hsz)).trans hx0
 go_wp2_with (fail)
 go_loopg [14, 35] l.length (fun kq v14 v35 wr => ∃ (i : Nat) (A8 : Option Addr) (c8 : Nat), v35 = .int .i64 (i : Int) ∧ v14 = .slice A8 (innerT a b i).length c8 ∧ Aside0 (i + kq = l.length) ∧ Aside0 (ListD wr W1.heap.size (.slice A8 (innerT a b i).length c8) (innerT a b i)) ∧ Aside0 (Below W1.heap.size W1 wr))
 case atStart => exact ⟨0, _, _, rfl, rfl, ⟨by omega⟩, HL0, HR⟩
 case round =>
  clear HR HL0 hx0
  obtain ⟨i, A8, c8, rfl, rfl, HI, HL, HB⟩ := hrel
  cases gk with
  | zero =>
   have e0 : i = l.length := by have := HI.out; omega
   subst e0
   have hi : ¬ ((l.length : Int) < (l.length : Int)) := by omega
   obtain ⟨W2, hW2⟩ : ∃ W, W = wr := ⟨wr, rfl⟩
   subst hW2
   have hi2 : innerT a b l.length = innerL l a b := rfl
   rw [hi2] at HL ⊢
   have HLC := Aside0.mk (Kd.C_below (rowI_reads_C HL.out) (Below.refl _ _))
   have HMEM := Aside0.mk (fun p => inner_mem (l := l) (a := a) (b := b) (p := p))
   have HIN := Aside0.mk (fun (p : Int) (h0 : 0 ≤ p) (h1 : p < (l.length : Int)) (h2 : p ≠ a) (h3 : p ≠ b) => mem_inner (l := l) h0 h1 h2 h3)
   have HND := Aside0.mk (inner_nodup l a b)
   have HMAT : Aside0 (matM l a b = (innerL l a b).map (rowM l (innerL l a b))) := ⟨rfl⟩
   obtain ⟨pl, HPLE⟩ : ∃ pl, Aside0 (innerL l a b = pl) := ⟨_, ⟨rfl⟩⟩
   rw [HPLE.out] at HL HLC HMEM HMAT HIN HND H6 ⊢
   obtain ⟨m, hm⟩ : ∃ m, m = pl.length := ⟨_, rfl⟩
   rw [← hm] at HL HLC H6 ⊢
   have HM := Aside0.mk hm
   have hm6 := H6.out
   clear hm hi2 HI
   have HSD := Aside0.mk (side_start W2)
   have HR2 : Aside0 (Below W2.heap.size W2 ((W2.alloc (.cells #[] 37)).alloc (.cells #[] 3))) := ⟨((Below.refl _ _).alloc (Nat.le_refl _) _).alloc (by simp) _⟩
   go_wp2_with (fail)
   go_loopg [16, 17, 55] m (fun kq v16 v17 v55 wq => ∃ (i : Nat) (A16 A17 : Option Addr) (c16 c17 : Nat), v55 = .int .i64 (i : Int) ∧ v16 = .slice A16 i c16 ∧ v17 = .slice A17 i c17 ∧ Aside0 (i + kq = m) ∧ Aside0 (Side wq W2.heap.size (.slice A16 i c16) ((pl.take i).map (rowM l pl)) (.slice A17 i c17) ((pl.take i).map fun p => sumF own atA atB a b p (rd_L1 l p) (rd_L1 l p).length)) ∧ Aside0 (Below W2.heap.size W2 wq))
   case atStart => exact ⟨0, _, _, _, _, rfl, rfl, rfl, ⟨by omega⟩, HSD, HR2⟩
   case round =>
    clear HR2 HSD
    obtain ⟨i, A16, A17, c16, c17, rfl, rfl, rfl, HI, HSD, HB2⟩ := hrel
    cases gk with
    | zero =>
     have e1 : m = i := by have := HI.out; omega
     subst e1
     have hi : ¬ ((m : Int) < (m : Int)) := by omega
     have hsd := HSD.out
     rw [List.take_of_length_le (by have := HM.out; omega), ← HMAT.out] at hsd
     have HRG : Aside0 (rightL l own atA atB a b pl = pl.map fun p => sumF own atA atB a b p (rd_L1 l p) (rd_L1 l p).length) := ⟨rfl⟩
     rw [← HRG.out] at hsd
     have HSQM : Aside0 (Sq m (matM l a b)) := ⟨by have := sq_matM l a b; rw [HPLE.out, ← HM.out] at this; exact this⟩
     have HBM5 : Aside0 (∀ r c, r < m → c < m → (matF (matM l a b) r c).natAbs ≤ 5) := ⟨fun r c hr hc => matM_bound H5.out (by rw [HPLE.out, ← HM.out]; exact hr) (by rw [HPLE.out, ← HM.out]; exact hc)⟩
     have HR5 : Aside0 (∀ r : Nat, r < m → (rd (rightL l own atA atB a b pl) (r : Int)).natAbs ≤ 5) := ⟨fun r hr => by
      rw [rightL_at l own atA atB a b pl (by rw [← HM.out]; exact hr)]
      have hm := HMEM.out (rd pl (r : Int)) (by rw [rd_at pl r (by rw [← HM.out]; exact hr)]; exact List.getElem_mem _)
      have := HS.out _ hm.1 hm.2.1 _ (Nat.le_refl _)
      omega⟩
     have HDEN : Aside0 (D m (matF (matM l a b)) = denOf l a b) := ⟨by unfold denOf; rw [HPLE.out, ← HM.out]⟩
     have HNUM : Aside0 (∀ k, D m (matF (colL (matM l a b) (rightL l own atA atB a b pl) k)) = numOf l own atA atB a b k) := ⟨fun k => by unfold numOf; rw [HPLE.out, ← HM.out]⟩
     have HRL : Aside0 ((rightL l own atA atB a b pl).length = m) := ⟨by rw [HM.out]; simp [rightL]⟩
     have HML := Aside0.mk HSQM.out.len
     obtain ⟨M, HME⟩ : ∃ M, Aside0 (matM l a b = M) := ⟨_, ⟨rfl⟩⟩
     obtain ⟨R, HRE⟩ : ∃ R, Aside0 (rightL l own atA atB a b pl = R) := ⟨_, ⟨rfl⟩⟩
     rw [HME.out, HRE.out] at hsd HNUM
     rw [HME.out] at HSQM HBM5 HDEN HML
     rw [HRE.out] at HR5 HRL
     obtain ⟨den, HDE⟩ : ∃ den, Aside0 (denOf l a b = den) := ⟨_, ⟨rfl⟩⟩
     rw [HDE.out] at HDEN
     have HDB : Aside0 (den.natAbs ≤ 11250000) := ⟨by rw [← HDEN.out]; exact det_le hm6 HBM5.out⟩
     have HMr : Aside0 (RowsC wr (.slice A16 m c16) M) := ⟨hsd.rows.reads⟩
     have HRr : Aside0 (ListC wr (.slice A17 m c17) R) := ⟨hsd.list.reads⟩
     have s1 := HBW.out.size
     have s2 := HB.out.size
     have s3 := HB2.out.size
     have HB12 : Aside0 (Below W1.heap.size W1 wr) := ⟨HB.out.trans (HB2.out.mono s2)⟩
     have HPLr : Aside0 (Kd.C (Kd.int .i64) wr A8 m pl) := ⟨Kd.C_below HLC.out HB2.out⟩
     have HCr : Aside0 (Kd.C (Kd.slice 3 (Kd.int .i64)) wr A l.length l) := ⟨Kd.C_below HC.out HB12.out⟩
     have HXr : Aside0 (wr.cell? ⟨w.heap.size, 0, none⟩ = some (.slice A l.length c)) := ⟨(HB12.out.cell (p := ⟨w.heap.size, 0, none⟩) hsz).trans HX.out⟩
     clear hsd HSD
     go_upto_region 28 with (go_at_call 118; refine (det_c m M HSQM.out hm6 HBM5.out _ _ HMr.out).mono ?_; rw [HDEN.out]; rintro e w4 ⟨rfl, hB4⟩; have HB4 := Aside0.mk hB4; have hx4 : w4.cell? ⟨w.heap.size, 0, none⟩ = some (.slice A l.length c) := (hB4.cell (World.block_lt_of_cell? wr _ HXr.out)).trans HXr.out; have hmk := make_run w4 l.length (by omega); clear hB4)
     clear hmk hx4
     have s4 := HB4.out.size
     have HM4 : Aside0 (RowsC w4 (.slice A16 m c16) M) := ⟨HMr.out.below HB4.out⟩
     have HR4 : Aside0 (ListC w4 (.slice A17 m c17) R) := ⟨HRr.out.below HB4.out⟩
     have HPL4 : Aside0 (Kd.C (Kd.int .i64) w4 A8 m pl) := ⟨Kd.C_below HPLr.out HB4.out⟩
     have HB04 : Aside0 (Below w.heap.size w w4) := ⟨(HBW.out.trans (HB12.out.mono s1)).trans (HB4.out.mono (by omega))⟩
     have HO := Aside0.mk (made_D w4 w4.heap.size l.length (Nat.le_refl _) (by omega))
     have HBO : Aside0 (Below w4.heap.size w4 (w4.alloc (.cells (madeCells #[.int .i64 0] l.length) 3))) := ⟨(Below.refl _ _).alloc (Nat.le_refl _) _⟩
     have hpa : (atA * den).natAbs ≤ 11250000 := by
      rw [Int.natAbs_mul]
      have h1 : atA.natAbs ≤ 1 := by omega
      have := Nat.mul_le_mul h1 HDB.out
      omega
     have hpb : (atB * den).natAbs ≤ 11250000 := by
      rw [Int.natAbs_mul]
      have h1 : atB.natAbs ≤ 1 := by omega
      have := Nat.mul_le_mul h1 HDB.out
      omega
     have hwa : IntKind.i64.wrap (atA * den) = atA * den := IntWalk.i64_in _ (by omega)
     have hwb : IntKind.i64.wrap (atB * den) = atB * den := IntWalk.i64_in _ (by omega)
     clear hpa hpb
     have HOK := Aside0.mk (outK_start (l := l) (own := own) (atA := atA) (atB := atB) ha0 ha1 hb0 hb1 HAB.out)
     rw [HDE.out] at HOK
     generalize hW5 : w4.alloc (.cells (madeCells #[.int .i64 0] l.length) 3) = W5 at *
     clear hW5
     generalize hgo : w4.heap.size = go at *
     obtain ⟨_, hca, hsa⟩ := list_cells HO.out (by simp)
     have xa := (hca a.toNat (by omega)).1
     have ya := (hca a.toNat (by omega)).2
     obtain ⟨_, hcb, hsb⟩ := list_cells (hsa a.toNat (atA * den)) (by simp)
     have xb := (hcb b.toNat (by omega)).1
     have yb := (hcb b.toNat (by omega)).2
     have HO2 := Aside0.mk (hsb b.toNat (atB * den))
     have HBO2 : Aside0 (Below go w4 ((W5.setCell ⟨go, a.toNat, none⟩ (.int .i64 (atA * den))).setCell ⟨go, b.toNat, none⟩ (.int .i64 (atB * den)))) := ⟨(HBO.out.setCell (p := ⟨go, a.toNat, none⟩) (Nat.le_refl _) _).setCell (p := ⟨go, b.toNat, none⟩) (Nat.le_refl _) _⟩
     clear hca hsa hcb hsb
     generalize rd ((List.replicate l.length 0).set a.toNat (atA * den)) ((b.toNat : Nat) : Int) = vb at *
     generalize rd (List.replicate l.length 0) ((a.toNat : Nat) : Int) = va at *
     go_upto_region 29 with (fail)
     clear xa ya xb yb hwa hwb
     generalize (W5.setCell ⟨go, a.toNat, none⟩ (.int .i64 (atA * den))).setCell ⟨go, b.toNat, none⟩ (.int .i64 (atB * den)) = W6 at *
     go_wp2_with (fail)
     go_loopg [139] m (fun kq v139 wq => ∃ (k : Nat) (out : List Int), v139 = .int .i64 (k : Int) ∧ Aside0 (k + kq = m) ∧ Aside0 (OutK l own atA atB a b k out) ∧ Aside0 (ListD wq go (.slice (some ⟨go, 0, none⟩) l.length l.length) out) ∧ Aside0 (Below go w4 wq))
     case atStart => exact ⟨0, _, rfl, ⟨by omega⟩, HOK, HO2, HBO2⟩
     case round =>
      clear HOK HO2 HBO2 HO HBO
      obtain ⟨k, out, rfl, HK, HOK, HO, HB5⟩ := hrel
      cases gk with
      | zero =>
       have e1 : m = k := by have := HK.out; omega
       subst e1
       have hk : ¬ ((m : Int) < (m : Int)) := by omega
       go_wp2_with (fail)
       refine bodyPost_ret (v := .tuple #[.slice (some ⟨go, 0, none⟩) l.length l.length, .int .i64 den]) (by simp [results, Try.results90, go_sem]) rfl ?_
       refine ⟨_, out, by rw [HDE.out], HB04.out.trans (HB5.out.mono (by have := HB04.out.size; omega)), ⟨ListD.lower' HO.out (by have := HB04.out.size; omega)⟩, ⟨?_⟩⟩
       rw [HPLE.out, ← HM.out]
       exact HOK.out
      | succ m1 =>
       have hkm : k < m := by have := HK.out; omega
       have hk : (k : Int) < (m : Int) := by omega
       have s5 := HB5.out.size
       rw [hgo] at s5
       obtain ⟨adp, rfl, hp0⟩ := Kd.at_int HPL4.out (k : Int) (by omega) (by omega)
       rw [Int.toNat_natCast] at hp0
       have hpi := HMEM.out (rd pl (k : Int)) (by rw [rd_at pl k (by have := HM.out; omega)]; exact List.getElem_mem _)
       have hnx := outK_more HOK.out (by rw [HPLE.out, ← HM.out]; exact hkm) ha0 hb0
       rw [HPLE.out] at hnx
       obtain ⟨pi, HPI⟩ : ∃ pi, Aside0 (rd pl (k : Int) = pi) := ⟨_, ⟨rfl⟩⟩
       rw [HPI.out] at hp0 hpi hnx
       obtain ⟨hpi0, hpi1, _, _⟩ := hpi
       have HDK : Aside0 (D m (matF (colL M R k)) = numOf l own atA atB a b k) := ⟨HNUM.out k⟩
       obtain ⟨nk, HNK⟩ : ∃ nk, Aside0 (numOf l own atA atB a b k = nk) := ⟨_, ⟨rfl⟩⟩
       rw [HNK.out] at HDK hnx
       have HNX := Aside0.mk hnx
       have HOL : Aside0 (out.length = l.length) := ⟨HOK.out.1⟩
       clear hnx
       replace hp0 : wr.cell? (adp.add k) = _ := (HB5.out.cell (by have := World.block_lt_of_cell? w4 _ hp0; omega)).trans hp0
       have HM5 : Aside0 (RowsC wr (.slice A16 m c16) M) := ⟨HM4.out.below (by rw [hgo]; exact HB5.out)⟩
       have HR5r : Aside0 (ListC wr (.slice A17 m c17) R) := ⟨HR4.out.below (by rw [hgo]; exact HB5.out)⟩
       obtain ⟨W7, hW7⟩ : ∃ W, W = wr := ⟨wr, rfl⟩
       subst hW7
       have HE := Aside0.mk (rowsD_empty W7 W7.heap.size (Nat.le_refl _))
       have HB70 : Aside0 (Below W7.heap.size W7 (W7.alloc (.cells #[] 37))) := ⟨(Below.refl _ _).alloc (Nat.le_refl _) _⟩
       go_wp2_with (fail)
       go_loopg [28, 147] m (fun kq v28 v147 wq => ∃ (i : Nat) (A28 : Option Addr) (c28 : Nat), v147 = .int .i64 (i : Int) ∧ v28 = .slice A28 i c28 ∧ Aside0 (i + kq = m) ∧ Aside0 (RowsD wq W7.heap.size (.slice A28 i c28) ((colL M R k).take i)) ∧ Aside0 (Below W7.heap.size W7 wq))
       case atStart => exact ⟨0, _, _, rfl, rfl, ⟨by omega⟩, HE, HB70⟩
       case round =>
        clear HE HB70 hp0
        obtain ⟨i, A28, c28, rfl, rfl, HI, HRW, HB7⟩ := hrel
        have hsq := sq_colL HSQM.out R k
        cases gk with
        | zero =>
         have e1 : m = i := by have := HI.out; omega
         subst e1
         have hi : ¬ ((m : Int) < (m : Int)) := by omega
         have hrw := HRW.out
         rw [List.take_of_length_le (by rw [hsq.len]; omega)] at hrw
         have HCR : Aside0 (RowsC wr (.slice A28 m c28) (colL M R k)) := ⟨hrw.reads⟩
         have HCB : Aside0 (∀ r c, r < m → c < m → (matF (colL M R k) r c).natAbs ≤ 5) := ⟨fun r c hr hc => by
          rw [colL_at HSQM.out R hr hc]
          split
          ·exact HR5.out r hr
          ·exact HBM5.out r c hr hc⟩
         have HSQC := Aside0.mk hsq
         have HB57 : Aside0 (Below go w4 wr) := ⟨HB5.out.trans (HB7.out.mono (by omega))⟩
         have s7 := HB7.out.size
         clear hrw hsq HRW
         go_wp2_with (go_at_call 118; refine (det_c m (colL M R k) HSQC.out hm6 HCB.out _ _ HCR.out).mono ?_; rw [HDK.out]; rintro e w8 ⟨rfl, hB8⟩; have HO8 : Aside0 (ListD w8 go (.slice (some ⟨go, 0, none⟩) l.length l.length) out) := ⟨own_move HO.out fun b hb => (hB8.block b (by have := own_lt HO.out b hb; omega)).trans (HB7.out.block b (own_lt HO.out b hb))⟩; have HB8 := Aside0.mk hB8; obtain ⟨_, hca, hsa⟩ := list_cells HO8.out HOL.out.symm; have xa := (hca pi.toNat (by omega)).1; have ya := (hca pi.toNat (by omega)).2; have HS8 := Aside0.mk (hsa pi.toNat nk); have HBS : Aside0 (Below go w4 (w8.setCell ⟨go, pi.toNat, none⟩ (.int .i64 nk))) := ⟨(HB57.out.trans (hB8.mono (by omega))).setCell (p := ⟨go, pi.toNat, none⟩) (Nat.le_refl _) _⟩; clear hB8 hca hsa; generalize rd out ((pi.toNat : Nat) : Int) = vx at *)
         go_roundg m1
         case measure => omega
         case rel => exact ⟨k + 1, out.set pi.toNat nk, by first | rfl | go_num, ⟨by have := HK.out; omega⟩, HNX, HS8, HBS⟩
        | succ m2 =>
         have him : i < m := by have := HI.out; omega
         have hi : (i : Int) < (m : Int) := by omega
         obtain ⟨Am, cm, hem, hlm, hCm⟩ := HM5.out
         rw [HML.out] at hem hCm
         injection hem with e1 _ e3
         subst e1 e3
         obtain ⟨adm, A0, c0, rfl, hx, hl0, hi0⟩ := at_L1 hCm (i : Int) (by omega) (by omega)
         rw [Int.toNat_natCast] at hx
         have hrl : (rd_L1 M (i : Int)).length = m := (HSQM.out.at him).2
         obtain ⟨Ar, cr, her, hlr, hCr⟩ := HR5r.out
         rw [HRL.out] at her hCr
         injection her with e1 _ e3
         subst e1 e3
         obtain ⟨adr, rfl, hy⟩ := Kd.at_int hCr (i : Int) (by omega) (by omega)
         rw [Int.toNat_natCast] at hy
         have hget := colL_get HSQM.out R k him
         have hcl := hsq.len
         have htk : (colL M R k).take (i + 1) = (colL M R k).take i ++ [(rd_L1 M (i : Int)).set k (rd R (i : Int))] := by
          rw [List.take_add_one, hget]
          rfl
         have HTK := Aside0.mk htk
         obtain ⟨ro, HRO⟩ : ∃ ro, Aside0 (rd_L1 M (i : Int) = ro) := ⟨_, ⟨rfl⟩⟩
         obtain ⟨ri, HRI⟩ : ∃ ri, Aside0 (rd R (i : Int) = ri) := ⟨_, ⟨rfl⟩⟩
         rw [HRO.out] at hx hl0 hi0 hrl HTK
         rw [HRI.out] at hy HTK
         have hROr : Aside0 (ListC wr (.slice A0 ro.length c0) ro) := ⟨⟨A0, c0, rfl, hl0, Kd.C_below hi0 HB7.out⟩⟩
         rw [hrl] at hROr hx
         have HRLN := Aside0.mk hrl
         replace hx : wr.cell? (adm.add i) = _ := (HB7.out.cell (World.block_lt_of_cell? W7 _ hx)).trans hx
         have HY : Aside0 (wr.cell? (adr.add i) = some (.int .i64 ri)) := ⟨(HB7.out.cell (World.block_lt_of_cell? W7 _ hy)).trans hy⟩
         obtain ⟨L, hown1, hL1⟩ := HRW.out
         have HO1 := Aside0.mk hown1
         have HL1 := Aside0.mk hL1
         have hLn : L.length = i := by have := own_len hown1; simp at *; omega
         have hwr := HB7.out.size
         have HCL := Aside0.mk hcl
         clear hown1 hL1 hl0 hi0 hCm hCr hlm hlr hget htk hsq hrl hcl hy
         go_upto_region 37 with (go_at_call 114; refine (clone_c ro _ _ hROr.out (by have := HRLN.out; omega)).mono ?_; rintro e w5 ⟨v5, rfl, hB5, hD5⟩; obtain ⟨gc, cc, hv5⟩ := listD_form hD5.out (by have := HRLN.out; omega); rw [HRLN.out] at hv5; subst hv5; have HB9 := Aside0.mk hB5; have hsz5 := hB5.size; clear hB5)
         obtain ⟨hgc, hca, hsa⟩ := list_cells hD5.out HRLN.out.symm
         have xa := (hca k hkm).1
         have ya := (hca k hkm).2
         have hs9 := hsa k ri
         have hy : w5.cell? (adr.add i) = _ := (HB9.out.cell (World.block_lt_of_cell? wr _ HY.out)).trans HY.out
         have HBX : Aside0 (Below wr.heap.size wr (w5.setCell ⟨gc, k, none⟩ (.int .i64 ri))) := ⟨HB9.out.setCell (p := ⟨gc, k, none⟩) hgc _⟩
         have HS9 := Aside0.mk hs9
         have HO5 := Aside0.mk (own_move HO1.out fun k hk => HBX.out.block k (own_lt HO1.out k hk))
         have HBel := Aside0.mk (HB7.out.trans (HBX.out.mono hwr))
         have hsx := HBX.out.size
         clear hca hsa hs9 hD5
         generalize rd ro ((k : Nat) : Int) = vx at *
         go_upto_region 38 with (fail)
         clear xa ya hy hx
         generalize w5.setCell ⟨gc, k, none⟩ (.int .i64 ri) = w6 at *
         go_wp2_with (at_builtin; go_loud (refine print_append (w0 := W7) W7.heap.size rfl (.tmp 161) (.tmp 163) 22 37 (.slice none 0 0) 24 rfl Try.underlying22 GA.info37 rfl (by decide) (.slice A28 i c28) L (.slice (some ⟨gc, 0, none⟩) m cc) rfl rfl rfl (by have := HO5.out; simp only [List.length_take] at this; rw [hLn]; rw [Nat.min_eq_left (by have := HCL.out; omega)] at this; exact this) HBel.out (by omega) (by rw [hLn]; omega) ?_; intro v9 w9 hown hbel hg hat; have HRN := Aside0.mk (rowsD_more HO1.out HL1.out hwr HBX.out HS9.out hown hg); rw [← HTK.out] at HRN; obtain ⟨A10, c10, hv9, _⟩ := HRN.out.slice; rw [show ((colL M R k).take (i + 1)).length = i + 1 by rw [List.length_take, HCL.out]; omega] at hv9; subst hv9; have HBN := Aside0.mk hbel; clear hown hbel hg hat))
         go_roundg m2
         case measure => omega
         case rel => exact ⟨i + 1, A10, c10, by first | rfl | go_num, rfl, ⟨by have := HI.out; omega⟩, HRN, HBN⟩
    | succ m1 =>
     have him : i < m := by have := HI.out; omega
     have hi : (i : Int) < (m : Int) := by omega
     obtain ⟨adp, rfl, hp0⟩ := Kd.at_int HLC.out (i : Int) (by omega) (by omega)
     rw [Int.toNat_natCast] at hp0
     have hpi := HMEM.out (rd pl (i : Int)) (by rw [rd_at pl i (by have := HM.out; omega)]; exact List.getElem_mem _)
     obtain ⟨pi, HPI⟩ : ∃ pi, Aside0 (rd pl (i : Int) = pi) := ⟨_, ⟨rfl⟩⟩
     rw [HPI.out] at hp0 hpi
     obtain ⟨hpi0, hpi1, _, _⟩ := hpi
     obtain ⟨ad, A0, c0, rfl, hx, hl0, hi0⟩ := at_L1 HC.out pi hpi0 hpi1
     have hdg := H5.out pi hpi0 hpi1
     have hqs := HQ.out pi hpi0 hpi1
     have hss := HS.out pi hpi0 hpi1
     obtain ⟨ex, HEXE⟩ : ∃ ex, Aside0 (rd_L1 l pi = ex) := ⟨_, ⟨rfl⟩⟩
     rw [HEXE.out] at hx hl0 hi0 hdg hqs hss
     obtain ⟨dg, HDG⟩ : ∃ dg, Aside0 (dg = ex.length) := ⟨_, ⟨rfl⟩⟩
     rw [← HDG.out] at hx hl0 hi0 hdg hss
     have HQS := Aside0.mk hqs
     have HSS := Aside0.mk hss
     have HEX := Aside0.mk hi0
     replace hp0 : wr.cell? (adp.add i) = _ := (HB2.out.cell (World.block_lt_of_cell? W2 _ hp0)).trans hp0
     have s1 := HBW.out.size
     have s2 := HB.out.size
     have HB12 : Aside0 (Below W1.heap.size W1 wr) := ⟨HB.out.trans (HB2.out.mono s2)⟩
     have HB02 : Aside0 (Below w.heap.size w wr) := ⟨HBW.out.trans (HB12.out.mono s1)⟩
     have HBx : Aside0 (wr.cell? ⟨w.heap.size, 0, none⟩ = some (.slice (some ad) l.length c)) := ⟨(HB12.out.cell (p := ⟨w.heap.size, 0, none⟩) hsz).trans HX.out⟩
     have HXr : Aside0 (wr.cell? (ad.add pi.toNat) = some (.slice A0 dg c0)) := ⟨(HB12.out.cell (World.block_lt_of_cell? W1 _ hx)).trans hx⟩
     have HPLr : Aside0 (Kd.C (Kd.int .i64) wr (some adp) m pl) := ⟨Kd.C_below HLC.out HB2.out⟩
     have HPLc : Aside0 (m ≤ c8) := ⟨by have := HL.out.reads; obtain ⟨_, _, e, q, _⟩ := this; injection e with _ e2 e3; omega⟩
     have HEXr : Aside0 (Kd.C (Kd.int .i64) wr A0 dg ex) := ⟨Kd.C_below HEX.out HB12.out⟩
     clear hi0 hl0 hx hqs hss
     have hsW := HB2.out.size
     obtain ⟨W3, hW3⟩ : ∃ W, W = wr := ⟨wr, rfl⟩
     subst hW3
     go_upto_region 12 with (fail)
     go_cut [20, 21] (fun v20 v21 wc => ∃ W9 : World, wc = W9.alloc (.cells (madeCells #[.int .i64 0] m) 3) ∧ v20 = .slice (some ⟨W9.heap.size, 0, none⟩) m m ∧ v21 = .int .i64 (own pi) ∧ Aside0 (Below w.heap.size w W9) ∧ Aside0 (W9.heap = W3.heap ∧ Below W3.heap.size W3 W9))
     case first =>
      have HB9 : Aside0 (Below w.heap.size w W3.drew) := ⟨bN_ HB02.out 1⟩
      have hk9 : Aside0 (W3.drew.heap = W3.heap ∧ Below W3.heap.size W3 W3.drew) := ⟨rfl, bN_ (Below.refl _ _) 1⟩
      have HB9a : Aside0 (Below w.heap.size w (W3.drew.alloc (.cells (madeCells #[.int .i64 0] m) 3))) := ⟨HB9.out.alloc (by have := HB02.out.size; exact this) _⟩
      refine start_ (n := 8) (S := fun _ => True) (ds := []) #[false, false, false, false, false, false, false, false] (by kernel_rfl) rfl rfl trivial (fun hHeld => ?_)
      refine with_tabW otab12 obits12 (fun HT_ HW_ => ?_)
      generalize W3.drew = W9 at *
      refine pu_ (i := 0) (N := some 59) (v := ?_) (a' := ?_) HT_.out rfl rfl (Or.inl ⟨by rfl, ?_⟩) ?_ ?_
      rotate_left
      ·intro w'
       go_simp
       with_reducible rfl
      rotate_left
      ·simp only [sp_]
       rfl
      refine pu_ (i := 1) (N := some 60) (v := ?_) (a' := ?_) HT_.out rfl rfl (Or.inl ⟨by rfl, ?_⟩) ?_ ?_
      rotate_left
      ·intro w'
       go_simp
       with_reducible rfl
      rotate_left
      ·simp only [sp_]
       rfl
      refine pu_ (i := 3) (N := some 62) (v := ?_) (a' := ?_) HT_.out rfl rfl (Or.inl ⟨by rfl, ?_⟩) ?_ ?_
      rotate_left
      ·intro w'
       go_simp
       with_reducible rfl
      rotate_left
      ·simp only [sp_]
       rfl
      refine pu_ (i := 4) (N := some 63) (v := ?_) (a' := ?_) HT_.out rfl rfl (Or.inl ⟨by rfl, ?_⟩) ?_ ?_
      rotate_left
      ·intro w'
       go_simp
       with_reducible rfl
      rotate_left
      ·simp only [sp_]
       rfl
      refine two_ (i := 2) (j := 5) (Ni := some 61) (Nj := some 64) #[true, true, true, true, true, false, false, false] #[true, true, false, true, true, true, false, false] rfl rfl rfl rfl (two_of HT_.out (by kernel_rfl)) (by decide) (by decide) (fun K hK => ?_) (fun K hK => ?_)
      ·skip
       refine value_ (v := .slice (some ⟨W9.heap.size, 0, none⟩) m m) (w1 := W9.alloc (.cells (madeCells #[.int .i64 0] m) 3)) (by rfl) rfl ?_ ?_
       ·have hmk := make_run W9 m (by omega)
        go_simp
       refine hK.out _ _ trivial (fun hHeld => ?_)
       clear hK K
       refine norm_ (a' := ?_) ?_ ?_
       rotate_left
       ·show Act.put _ (some 61) _ = _
        simp only [sp_]
        rfl
       refine one_ (i := 5) (N := some 64) #[true, true, true, true, true, true, false, false] rfl rfl (one_of HT_.out (by kernel_rfl)) (by decide) (fun K hK => ?_)
       refine goesV_ hf hname hbody #[.int .i64 pi] (by rfl) rfl rfl (by rfl) (by (try simp only [List.map_toArray, List.map_cons, List.map_nil]); first | done | rfl) ?_
       refine (HOWN.out (W9.alloc (.cells (madeCells #[.int .i64 0] m) 3)) HB9a.out pi hpi0 hpi1).mono ?_
       rintro e w' ⟨rfl, hw'⟩
       rw [hw']
       clear hw'
       refine ⟨_, rfl, ?_⟩
       refine hK.out _ _ trivial (fun hHeld => ?_)
       clear hK K
       refine norm_ (a' := ?_) ?_ ?_
       rotate_left
       ·show Act.put _ (some 64) _ = _
        simp only [sp_]
        rfl
       refine pu_ (i := 6) (N := some 20) (v := ?_) (a' := ?_) HT_.out rfl rfl (Or.inl ⟨by rfl, ?_⟩) ?_ ?_
       rotate_left
       ·intro w'
        go_simp
        with_reducible rfl
       rotate_left
       ·simp only [sp_]
        rfl
       refine pu_ (i := 7) (N := some 21) (v := ?_) (a' := ?_) HT_.out rfl rfl (Or.inl ⟨by rfl, ?_⟩) ?_ ?_
       rotate_left
       ·intro w'
        go_simp
        with_reducible rfl
       rotate_left
       ·simp only [sp_]
        rfl
       refine done_ (done_of HT_.out (by kernel_rfl)) ?_
       clear HT_ HW_ hHeld
       go_wp2_with (fail)
       go_meet
       case rel => exact ⟨W9, rfl, rfl, rfl, HB9, hk9⟩
      ·skip
       refine goesV_ hf hname hbody #[.int .i64 pi] (by rfl) rfl rfl (by rfl) (by (try simp only [List.map_toArray, List.map_cons, List.map_nil]); first | done | rfl) ?_
       refine (HOWN.out W9 HB9.out pi hpi0 hpi1).mono ?_
       rintro e w' ⟨rfl, hw'⟩
       rw [hw']
       clear hw'
       refine ⟨_, rfl, ?_⟩
       refine hK.out _ _ trivial (fun hHeld => ?_)
       clear hK K
       refine norm_ (a' := ?_) ?_ ?_
       rotate_left
       ·show Act.put _ (some 64) _ = _
        simp only [sp_]
        rfl
       refine one_ (i := 2) (N := some 61) #[true, true, true, true, true, true, false, false] rfl rfl (one_of HT_.out (by kernel_rfl)) (by decide) (fun K hK => ?_)
       refine value_ (v := .slice (some ⟨W9.heap.size, 0, none⟩) m m) (w1 := W9.alloc (.cells (madeCells #[.int .i64 0] m) 3)) (by rfl) rfl ?_ ?_
       ·have hmk := make_run W9 m (by omega)
        go_simp
       refine hK.out _ _ trivial (fun hHeld => ?_)
       clear hK K
       refine norm_ (a' := ?_) ?_ ?_
       rotate_left
       ·show Act.put _ (some 61) _ = _
        simp only [sp_]
        rfl
       refine pu_ (i := 6) (N := some 20) (v := ?_) (a' := ?_) HT_.out rfl rfl (Or.inl ⟨by rfl, ?_⟩) ?_ ?_
       rotate_left
       ·intro w'
        go_simp
        with_reducible rfl
       rotate_left
       ·simp only [sp_]
        rfl
       refine pu_ (i := 7) (N := some 21) (v := ?_) (a' := ?_) HT_.out rfl rfl (Or.inl ⟨by rfl, ?_⟩) ?_ ?_
       rotate_left
       ·intro w'
        go_simp
        with_reducible rfl
       rotate_left
       ·simp only [sp_]
        rfl
       refine done_ (done_of HT_.out (by kernel_rfl)) ?_
       clear HT_ HW_ hHeld
       go_wp2_with (fail)
       go_meet
       case rel => exact ⟨W9, rfl, rfl, rfl, HB9, hk9⟩
     case rest =>
      obtain ⟨W9, rfl, rfl, rfl, HB9, HK9⟩ := hcut
      obtain ⟨gr, hgr⟩ : ∃ g, g = W9.heap.size := ⟨_, rfl⟩
      have hg3 : gr = W3.heap.size := by rw [hgr, HK9.out.1]
      have HMK := Aside0.mk (made_D W9 W3.heap.size m (by omega) (by omega))
      have HBM : Aside0 (Below W3.heap.size W3 (W9.alloc (.cells (madeCells #[.int .i64 0] m) 3))) := ⟨HK9.out.2.alloc (by omega) _⟩
      rw [← hgr] at HMK ⊢
      have hgs : W3.heap.size ≤ gr := by omega
      have HJ0 : Aside0 (RowI pl ex 0 (List.replicate m 0)) := ⟨by rw [HM.out]; exact rowI_start pl ex⟩
      have HS0 : Aside0 (sumF own atA atB a b pi ex 0 = own pi) := ⟨sumF_zero _ _ _ _ _ _ _⟩
      clear hg3
      generalize W9.alloc (.cells (madeCells #[.int .i64 0] m) 3) = W10 at *
      clear hgr HK9
      have hxr : W10.cell? (ad.add pi.toNat) = _ := (HBM.out.cell (World.block_lt_of_cell? W3 _ HXr.out)).trans HXr.out
      have hbr : W10.cell? ⟨w.heap.size, 0, none⟩ = _ := (HBM.out.cell (World.block_lt_of_cell? W3 _ HBx.out)).trans HBx.out
      obtain ⟨s0, HS0E⟩ : ∃ s, Aside0 (own pi = s) := ⟨_, ⟨rfl⟩⟩
      rw [HS0E.out] at HS0 ⊢
      go_wp2_with (fail)
      go_loopg [21, 71] dg (fun kq v21 v71 wq => ∃ (x : Nat) (s : Int) (r : List Int), v71 = .int .i64 (x : Int) ∧ v21 = .int .i64 s ∧ Aside0 (x + kq = dg) ∧ Aside0 (sumF own atA atB a b pi ex x = s) ∧ Aside0 (RowI pl ex x r) ∧ Aside0 (ListD wq W3.heap.size (.slice (some ⟨gr, 0, none⟩) m m) r) ∧ Aside0 (Below W3.heap.size W3 wq))
      case atStart => exact ⟨0, s0, _, rfl, rfl, ⟨by omega⟩, HS0, HJ0, HMK, HBM⟩
      case round =>
       clear HMK HBM HJ0 HS0 hxr hbr
       obtain ⟨x, s, r, rfl, rfl, HXI, HSM, HJ, HLR, HB3⟩ := hrel
       cases gk with
       | zero =>
        have e1 : dg = x := by have := HXI.out; omega
        subst e1
        have hxx : ¬ ((dg : Int) < (dg : Int)) := by omega
        have hmi : i < pl.length := by have := HM.out; omega
        have hrl := HJ.out.1
        obtain ⟨_, hcell, hset⟩ := list_cells HLR.out (by have := HM.out; omega)
        have x0 := (hcell i him).1
        have y0 := (hcell i him).2
        have hrv := HJ.out.2 i hmi
        have hcb : cntL (rd pl (i : Int)) (ex.take dg) ≤ dg := Nat.le_trans (cntL_le _ _) (by rw [List.length_take]; omega)
        have hvb : -5 ≤ rd r (i : Int) ∧ rd r (i : Int) ≤ 0 := by rw [hrv]; omega
        have HROW : Aside0 (r.set i (rd r (i : Int) + (dg : Int)) = rowM l pl pi) := ⟨by
         have e := rowI_end (l := l) HND.out hmi (r := r) (by rw [HPI.out, HEXE.out, ← HDG.out]; exact HJ.out)
         rw [HPI.out, HEXE.out, ← HDG.out] at e
         exact e⟩
        have HVV : Aside0 (wrap64 (rd r (i : Int) + (dg : Int)) = rd r (i : Int) + (dg : Int)) := ⟨wrap_id (by omega) (by omega)⟩
        have HS1 := Aside0.mk (hset i (rd r (i : Int) + (dg : Int)))
        have x1 : wr.cell? ⟨w.heap.size, 0, none⟩ = _ := (HB3.out.cell (World.block_lt_of_cell? W3 _ HBx.out)).trans HBx.out
        have x2 : wr.cell? (ad.add pi.toNat) = _ := (HB3.out.cell (World.block_lt_of_cell? W3 _ HXr.out)).trans HXr.out
        clear hcell hset hrv hcb hrl hmi
        generalize rd r (i : Int) = rv at *
        go_upto_region 23 with (fail)
        replace x0 : wr.drew.cell? ⟨gr, i, none⟩ = some (.int .i64 rv) := x0
        replace x1 : wr.drew.cell? ⟨w.heap.size, 0, none⟩ = some (.slice (some ad) l.length c) := x1
        replace x2 : wr.drew.cell? (ad.add pi.toNat) = some (.slice A0 dg c0) := x2
        replace y0 : wr.drew.frozen? ⟨gr, i, none⟩ = false := y0
        replace HS1 : Aside0 (ListD (wr.drew.setCell ⟨gr, i, none⟩ (.int .i64 (rv + (dg : Int)))) W3.heap.size (.slice (some ⟨gr, 0, none⟩) m m) (r.set i (rv + (dg : Int)))) := ⟨own_move HS1.out fun k hk => rfl⟩
        have HBS : Aside0 (Below W3.heap.size W3 (wr.drew.setCell ⟨gr, i, none⟩ (.int .i64 (rv + (dg : Int))))) := ⟨(bN_ HB3.out 1).setCell (p := ⟨gr, i, none⟩) hgs _⟩
        clear HLR HB3 HJ
        refine start_ (n := 14) (S := fun w' => w'.cell? ⟨gr, i, none⟩ = some (.int .i64 rv) ∧ w'.cell? ⟨w.heap.size, 0, none⟩ = some (.slice (some ad) l.length c) ∧ w'.cell? (ad.add pi.toNat) = some (.slice A0 dg c0)) (ds := [13]) #[false, false, false, false, false, false, false, false, false, false, false, false, false, false] (by kernel_rfl) rfl rfl ⟨x0, x1, x2⟩ (fun hHeld => ?_)
        refine with_tabW otab23 obits23 (fun HT_ HW_ => ?_)
        generalize wr.drew = W9 at *
        refine pu_ (i := 0) (N := some 97) (v := ?_) (a' := ?_) HT_.out rfl rfl (Or.inl ⟨by rfl, ?_⟩) ?_ ?_
        rotate_left
        ·intro w'
         go_simp
         with_reducible rfl
        rotate_left
        ·simp only [sp_]
         rfl
        refine pu_ (i := 1) (N := some 98) (v := ?_) (a' := ?_) HT_.out rfl rfl (Or.inl ⟨by rfl, ?_⟩) ?_ ?_
        rotate_left
        ·intro w'
         go_simp
         with_reducible rfl
        rotate_left
        ·simp only [sp_]
         rfl
        refine pu_ (i := 2) (N := some 99) (v := ?_) (a' := ?_) HT_.out rfl rfl (Or.inl ⟨by rfl, ?_⟩) ?_ ?_
        rotate_left
        ·intro w'
         go_simp
         with_reducible rfl
        rotate_left
        ·simp only [sp_]
         rfl
        refine pu_ (i := 3) (N := some 100) (v := ?_) (a' := ?_) HT_.out rfl rfl (Or.inl ⟨by rfl, ?_⟩) ?_ ?_
        rotate_left
        ·intro w'
         go_simp
         with_reducible rfl
        rotate_left
        ·simp only [sp_]
         rfl
        refine tk_ (i := 4) (N := some 101) (v := ?_) (a' := ?_) HT_.out HW_.out rfl rfl (Or.inl ⟨by rfl, ?_⟩) hHeld ?_ ?_
        rotate_left
        ·rintro w' ⟨s0, s1, s2⟩
         go_simp
         with_reducible rfl
        rotate_left
        ·simp only [sp_]
         rfl
        refine pu_ (i := 5) (N := some 102) (v := ?_) (a' := ?_) HT_.out rfl rfl (Or.inl ⟨by rfl, ?_⟩) ?_ ?_
        rotate_left
        ·intro w'
         go_simp
         with_reducible rfl
        rotate_left
        ·simp only [sp_]
         rfl
        refine tk_ (i := 6) (N := some 103) (v := ?_) (a' := ?_) HT_.out HW_.out rfl rfl (Or.inl ⟨by rfl, ?_⟩) hHeld ?_ ?_
        rotate_left
        ·rintro w' ⟨s0, s1, s2⟩
         go_simp
         with_reducible rfl
        rotate_left
        ·simp only [sp_]
         rfl
        refine pu_ (i := 7) (N := some 104) (v := ?_) (a' := ?_) HT_.out rfl rfl (Or.inl ⟨by rfl, ?_⟩) ?_ ?_
        rotate_left
        ·intro w'
         go_simp
         with_reducible rfl
        rotate_left
        ·simp only [sp_]
         rfl
        refine pu_ (i := 8) (N := some 105) (v := ?_) (a' := ?_) HT_.out rfl rfl (Or.inl ⟨by rfl, ?_⟩) ?_ ?_
        rotate_left
        ·intro w'
         go_simp
         with_reducible rfl
        rotate_left
        ·simp only [sp_]
         rfl
        refine tk_ (i := 9) (N := some 106) (v := ?_) (a' := ?_) HT_.out HW_.out rfl rfl (Or.inl ⟨by rfl, ?_⟩) hHeld ?_ ?_
        rotate_left
        ·rintro w' ⟨s0, s1, s2⟩
         go_simp
         with_reducible rfl
        rotate_left
        ·simp only [sp_]
         rfl
        refine pu_ (i := 10) (N := some 107) (v := ?_) (a' := ?_) HT_.out rfl rfl (Or.inl ⟨by rfl, ?_⟩) ?_ ?_
        rotate_left
        ·intro w'
         go_simp
         with_reducible rfl
        rotate_left
        ·simp only [sp_]
         rfl
        refine pu_ (i := 11) (N := some 108) (v := ?_) (a' := ?_) HT_.out rfl rfl (Or.inl ⟨by rfl, ?_⟩) ?_ ?_
        rotate_left
        ·intro w'
         go_simp
         with_reducible rfl
        rotate_left
        ·simp only [sp_]
         rfl
        refine pu_ (i := 12) (N := some 109) (v := ?_) (a' := ?_) HT_.out rfl rfl (Or.inl ⟨by rfl, ?_⟩) ?_ ?_
        rotate_left
        ·intro w'
         go_simp
         with_reducible rfl
        rotate_left
        ·simp only [sp_]
         rfl
        refine lastS_ (i := 13) (w1 := W9.setCell ⟨gr, i, none⟩ (.int .i64 (wrap64 (rv + (dg : Int))))) #[true, true, true, true, true, true, true, true, true, true, true, true, true, true] rfl rfl (one_of HT_.out (by kernel_rfl)) (by decide) (by rfl) ?_ ?_
        ·go_simp
        (try simp only [Act.put, List.setIfInBounds_toArray, List.set_cons_zero, List.set_cons_succ])
        refine done_ (done_of HT_.out (by kernel_rfl)) ?_
        clear HT_ HW_ hHeld x0 x1 x2 y0
        rw [HVV.out]
        generalize W9.setCell ⟨gr, i, none⟩ (.int .i64 (rv + (dg : Int))) = Y2 at *
        obtain ⟨L, o1, o2, o3, o4⟩ := HSD.out
        have O1 := Aside0.mk o1
        have O2 := Aside0.mk o2
        have O3 := Aside0.mk o3
        have O4 := Aside0.mk o4
        have hLn : L.length = i := by have := own_len o1; have := HM.out; simp at *; omega
        have HO5 := Aside0.mk (own_move O1.out fun k hk => HBS.out.block k (own_lt O1.out k hk))
        have HBel := Aside0.mk (HB2.out.trans (HBS.out.mono hsW))
        have hs3 := HBS.out.size
        have hrs : ((pl.take i).map fun p => sumF own atA atB a b p (rd_L1 l p) (rd_L1 l p).length).length = i := by have := HM.out; simp; omega
        have HRS := Aside0.mk hrs
        clear o1 o2 o3 o4 hrs
        go_wp2_with (first | (at_builtin; refine print_append (w0 := W2) W2.heap.size rfl (.tmp 110) (.tmp 112) 22 37 (.slice none 0 0) 24 rfl Try.underlying22 GA.info37 rfl (by decide) (.slice A16 i c16) L (.slice (some ⟨gr, 0, none⟩) m m) rfl rfl rfl (by have := HO5.out; simp only [List.length_map, List.length_take] at this; rw [hLn]; rw [Nat.min_eq_left (by have := HM.out; omega)] at this; exact this) HBel.out (by omega) (by rw [hLn]; omega) ?_; intro v6 w6 hown6 hbel6 hg6 hat6; have HRN := Aside0.mk (rowsD_more O1.out O2.out hsW HBS.out HS1.out hown6 hg6); obtain ⟨A20, c20, hv6, _⟩ := HRN.out.slice; rw [show ((pl.take i).map (rowM l pl) ++ [r.set i (rv + (dg : Int))]).length = i + 1 by have := HM.out; simp; omega] at hv6; subst hv6; have HW6 := Aside0.mk hown6; have HG6 := Aside0.mk hg6; have HB6 := Aside0.mk hbel6; have hs6 := hbel6.size; clear hown6 hg6 hbel6 hat6) | (at_builtin; go_loud (refine print_append_num (w0 := W2) W2.heap.size rfl (.tmp 114) (.tmp 116) 37 3 .i64 8 rfl Try.underlying37 GA.info3 (by decide) (.slice A17 i c17) ((pl.take i).map fun p => sumF own atA atB a b p (rd_L1 l p) (rd_L1 l p).length) s rfl rfl (list_after O1.out O3.out HBS.out HG6.out) HB6.out hs6 (by rw [HRS.out]; omega) ?_; intro v7 w7 hown7 hbel7 hg7 hat7; have HSN := Aside0.mk (side_more O1.out O2.out O3.out O4.out hsW HBS.out HS1.out HW6.out HG6.out hown7 hg7 hat7); obtain ⟨A21, c21, hv7⟩ := own_slice hown7; rw [show ((pl.take i).map (fun p => sumF own atA atB a b p (rd_L1 l p) (rd_L1 l p).length) ++ [s]).length = i + 1 by rw [List.length_append, HRS.out]; rfl] at hv7; subst hv7; have HB7 := Aside0.mk hbel7; clear hown7 hbel7 hg7 hat7)))
        have hil : i < pl.length := by have := HM.out; omega
        have hpe : pl[i] = pi := by rw [← HPI.out, rd_at pl i hil]
        have e1 : (pl.take i).map (rowM l pl) ++ [r.set i (rv + (dg : Int))] = (pl.take (i + 1)).map (rowM l pl) := by
         rw [List.take_succ_eq_append_getElem hil, List.map_append, HROW.out, List.map_cons, List.map_nil, hpe]
        have e2 : (pl.take i).map (fun p => sumF own atA atB a b p (rd_L1 l p) (rd_L1 l p).length) ++ [s] = (pl.take (i + 1)).map fun p => sumF own atA atB a b p (rd_L1 l p) (rd_L1 l p).length := by
         rw [List.take_succ_eq_append_getElem hil, List.map_append, List.map_cons, List.map_nil, hpe, HEXE.out, ← HDG.out, HSM.out]
        rw [e1, e2] at HSN
        go_roundg m1
        case measure => omega
        case rel => exact ⟨i + 1, A20, A21, c20, c21, by first | rfl | go_num, rfl, rfl, ⟨by have := HI.out; omega⟩, HSN, HB7⟩
       | succ m3 =>
        have hxd : x < dg := by have := HXI.out; omega
        have hx1 : (x : Int) < (dg : Int) := by omega
        obtain ⟨adx, hadx, hy0⟩ := Kd.at_int HEXr.out (x : Int) (by omega) (by omega)
        subst hadx
        rw [Int.toNat_natCast] at hy0
        rw [rd_at _ x (by have := HDG.out; omega)] at hy0
        have hxe : x < ex.length := by have := HDG.out; omega
        obtain ⟨y, HY⟩ : ∃ y, Aside0 (ex[x] = y) := ⟨_, ⟨rfl⟩⟩
        rw [HY.out] at hy0
        have hy1 := HQS.out y (by rw [← HY.out]; exact List.getElem_mem _)
        have HXE := Aside0.mk hxe
        have hs1 := HSS.out x (by omega)
        have hs2 := HSS.out (x + 1) (by omega)
        rw [HSM.out] at hs1
        replace hy0 : wr.cell? (adx.add x) = _ := (HB3.out.cell (World.block_lt_of_cell? W3 _ hy0)).trans hy0
        by_cases hya : y = a
        ·have q1 : (y == a) = true := beq_iff_eq.mpr hya
         have q2 : (y != a) = false := bne_eq_false_iff_eq.mpr hya
         have hst : sumF own atA atB a b pi ex (x + 1) = s + atA := by rw [sumF_a HAB.out HXE.out (by rw [HY.out]; exact hya), HSM.out]
         have hww : IntKind.i64.wrap (s + atA) = s + atA := IntWalk.i64_in _ (by omega)
         have HST := Aside0.mk hst
         have HJN := Aside0.mk (rowI_skip HJ.out HXE.out (by rw [HY.out]; exact fun h => (HMEM.out y h).2.2.1 hya))
         clear hst hs2 hya
         go_wp2_with (fail)
         go_roundg m3
         case measure => omega
         case rel => exact ⟨x + 1, s + atA, r, by first | rfl | go_num, by first | rfl | go_num, ⟨by have := HXI.out; omega⟩, HST, HJN, HLR, HB3⟩
        ·have q1 : (y == a) = false := beq_eq_false_iff_ne.mpr hya
         have q2 : (y != a) = true := bne_iff_ne.mpr hya
         by_cases hyb : y = b
         ·have q3 : (y == b) = true := beq_iff_eq.mpr hyb
          have q4 : (y != b) = false := bne_eq_false_iff_eq.mpr hyb
          have hst : sumF own atA atB a b pi ex (x + 1) = s + atB := by rw [sumF_b HAB.out HXE.out (by rw [HY.out]; exact hyb), HSM.out]
          have hww : IntKind.i64.wrap (s + atB) = s + atB := IntWalk.i64_in _ (by omega)
          have HST := Aside0.mk hst
          have HJN := Aside0.mk (rowI_skip HJ.out HXE.out (by rw [HY.out]; exact fun h => (HMEM.out y h).2.2.2 hyb))
          clear hst hs2 hya hyb
          go_wp2_with (fail)
          go_roundg m3
          case measure => omega
          case rel => exact ⟨x + 1, s + atB, r, by first | rfl | go_num, by first | rfl | go_num, ⟨by have := HXI.out; omega⟩, HST, HJN, HLR, HB3⟩
         ·have q3 : (y == b) = false := beq_eq_false_iff_ne.mpr hyb
          have q4 : (y != b) = true := bne_iff_ne.mpr hyb
          have hst : sumF own atA atB a b pi ex (x + 1) = s := by rw [sumF_no HXE.out (by rw [HY.out]; exact hya) (by rw [HY.out]; exact hyb), HSM.out]
          have HST := Aside0.mk hst
          obtain ⟨d, hd1, hd2, hidx⟩ := index_c pl y (by have := HM.out; omega) (HIN.out y hy1.1 hy1.2 hya hyb) wr (.slice (some adp) m c8) ⟨some adp, c8, by rw [← HM.out], by rw [← HM.out]; exact HPLc.out, by rw [← HM.out]; exact Kd.C_below HPLr.out HB3.out⟩
          have HIDX := Aside0.mk hidx
          have HJN := Aside0.mk (rowI_hit HND.out HJ.out HXE.out hd1 (by rw [HY.out]; exact hd2))
          have hrl := HJ.out.1
          obtain ⟨_, hcell, hset⟩ := list_cells HLR.out (by have := HM.out; omega)
          have hdm : d < m := by have := HM.out; omega
          have x0 := (hcell d hdm).1
          have y0 := (hcell d hdm).2
          have hrv := HJ.out.2 d hd1
          have hcb : cntL (rd pl (d : Int)) (ex.take x) ≤ x := Nat.le_trans (cntL_le _ _) (by rw [List.length_take]; omega)
          have hvb : -5 ≤ rd r (d : Int) ∧ rd r (d : Int) ≤ 0 := by rw [hrv]; omega
          have HS1 := Aside0.mk (hset d (rd r (d : Int) - 1))
          have HBS : Aside0 (Below W3.heap.size W3 (wr.setCell ⟨gr, d, none⟩ (.int .i64 (rd r (d : Int) - 1)))) := ⟨HB3.out.setCell (p := ⟨gr, d, none⟩) hgs _⟩
          have hdi : (d : Int) < (m : Int) := by omega
          clear hst hs2 hya hyb hidx hd1 hd2 hcell hset hrv hcb hrl
          generalize rd r (d : Int) = rv at *
          have hww : IntKind.i64.wrap (rv - 1) = rv - 1 := IntWalk.i64_in _ (by omega)
          go_wp2_with (go_at_call 117; refine HIDX.out.mono ?_; rintro e w' ⟨rfl, ⟨nd, rfl⟩⟩)
          go_roundg m3
          case measure => omega
          case rel => exact ⟨x + 1, s, r.set d (rv - 1), by first | rfl | go_num, rfl, ⟨by have := HXI.out; omega⟩, HST, HJN, ⟨own_move HS1.out fun k hk => rfl⟩, ⟨(bN_ HB3.out nd).setCell (p := ⟨gr, d, none⟩) hgs _⟩⟩
  | succ m =>
   have hi : (i : Int) < (l.length : Int) := by have := HI.out; omega
   have hml := innerT_len a b i
   have hbs := HB.out.size
   by_cases hia : (i : Int) = a
   ·have q1 : ((i : Int) == a) = true := beq_iff_eq.mpr hia
    have q2 : ((i : Int) != a) = false := bne_eq_false_iff_eq.mpr hia
    have hin := Aside0.mk (innerT_succ_out (a := a) (b := b) (i := i) (fun h => h.1 hia))
    clear hia
    go_wp2_with (fail)
    go_roundg m
    case measure => omega
    case rel => exact ⟨i + 1, A8, c8, by first | rfl | go_num, by rw [hin.out], ⟨by have := HI.out; omega⟩, by rw [hin.out]; exact HL, HB⟩
   ·have q1 : ((i : Int) == a) = false := beq_eq_false_iff_ne.mpr hia
    have q2 : ((i : Int) != a) = true := bne_iff_ne.mpr hia
    by_cases hib : (i : Int) = b
    ·have q3 : ((i : Int) == b) = true := beq_iff_eq.mpr hib
     have q4 : ((i : Int) != b) = false := bne_eq_false_iff_eq.mpr hib
     have hin := Aside0.mk (innerT_succ_out (a := a) (b := b) (i := i) (fun h => h.2 hib))
     clear hia hib
     go_wp2_with (fail)
     go_roundg m
     case measure => omega
     case rel => exact ⟨i + 1, A8, c8, by first | rfl | go_num, by rw [hin.out], ⟨by have := HI.out; omega⟩, by rw [hin.out]; exact HL, HB⟩
    ·have q3 : ((i : Int) == b) = false := beq_eq_false_iff_ne.mpr hib
     have q4 : ((i : Int) != b) = true := bne_iff_ne.mpr hib
     have hin := Aside0.mk (innerT_succ_in (a := a) (b := b) (i := i) ⟨hia, hib⟩)
     clear hia hib
     have HO7 : wr.ownsRow W1.heap.size 3 1 (.slice A8 (innerT a b i).length c8) (innerT a b i).length (nums .i64 (innerT a b i)) := HL.out
     go_wp2_with (at_builtin; go_loud (refine print_append_num (w0 := W1) W1.heap.size rfl (.tmp 46) (.tmp 48) 37 3 .i64 8 rfl Try.underlying37 GA.info3 (by decide) (.slice A8 (innerT a b i).length c8) (innerT a b i) (i : Int) rfl rfl HO7 HB.out hbs (by omega) ?_; intro v9 w9 hown hbel hg hat; obtain ⟨A9, m9, hv9⟩ := own_slice hown; subst hv9; have HL9 := Aside0.mk hown; have HB9 := Aside0.mk hbel; clear hown hbel hg hat))
     go_roundg m
     case measure => omega
     case rel => exact ⟨i + 1, A9, m9, by first | rfl | go_num, by rw [hin.out, List.length_append]; rfl, ⟨by have := HI.out; omega⟩, ⟨by rw [hin.out]; exact HL9.out⟩, HB9⟩
end Go.Proofs.Ytnbnalbomflafaa.DT
namespace Go.Proofs.Ytnbnalbomflafaa.DT
open Go.RowKit YtnbnalbomflafaaW.PrintWords YtnbnalbomflafaaW.PrintLast YtnbnalbomflafaaW.PrintMore
open GA hiding info37
open RA
def lsum : List Int → Int
 | [] => 0
 | x :: t => x + lsum t
theorem sumN_list (f : Int → Int) : ∀ pl : List Int, sumN pl.length (fun j => f (rd pl (j : Int))) = lsum (pl.map f)
 | [] => rfl
 | x :: t => by
  have ih := sumN_list f t
  rw [List.length_cons, sumN_first, List.map_cons, lsum, ← ih]
  congr 1
theorem lsum_sub (f g : Int → Int) : ∀ pl : List Int, lsum (pl.map fun q => f q - g q) = lsum (pl.map f) - lsum (pl.map g)
 | [] => rfl
 | x :: t => by
  have ih := lsum_sub f g t
  simp only [List.map_cons, lsum, ih]
  omega
theorem lsum_add (f g : Int → Int) : ∀ pl : List Int, lsum (pl.map fun q => f q + g q) = lsum (pl.map f) + lsum (pl.map g)
 | [] => rfl
 | x :: t => by
  have ih := lsum_add f g t
  simp only [List.map_cons, lsum, ih]
  omega
theorem lsum_none (c p : Int) : ∀ pl : List Int, p ∉ pl → lsum (pl.map fun q => if q = p then c else 0) = 0
 | [], _ => rfl
 | x :: t, h => by
  simp only [List.mem_cons, not_or] at h
  simp only [List.map_cons, lsum]
  rw [lsum_none c p t h.2, if_neg (fun e => h.1 e.symm)]
  rfl
theorem lsum_one (c p : Int) : ∀ pl : List Int, pl.Nodup → p ∈ pl → lsum (pl.map fun q => if q = p then c else 0) = c
 | [], _, h => by simp at h
 | x :: t, hn, h => by
  rw [List.nodup_cons] at hn
  simp only [List.map_cons, lsum]
  by_cases hx : x = p
  ·rw [if_pos hx, lsum_none c p t (by rw [← hx]; exact hn.1)]
   omega
  ·rw [if_neg hx, lsum_one c p t hn.2 (by simpa [Ne.symm hx] using h)]
   omega
theorem cntL_cons (q x : Int) (ex : List Int) : (cntL q (x :: ex) : Int) = (if q = x then 1 else 0) + (cntL q ex : Int) := by
 unfold cntL
 rw [List.filter_cons]
 by_cases h : x = q
 ·rw [if_pos (by simpa using h), if_pos h.symm, List.length_cons]
  omega
 ·rw [if_neg (by simpa using h), if_neg (fun e => h e.symm)]
  omega
def outs (pl ex : List Int) : Nat := (ex.filter fun x => decide (x ∉ pl)).length
theorem lsum_cnt (pl : List Int) (hn : pl.Nodup) : ∀ ex : List Int, lsum (pl.map fun q => (cntL q ex : Int)) + (outs pl ex : Int) = (ex.length : Int)
 | [] => by
  have : ∀ l : List Int, lsum (l.map fun q => (cntL q [] : Int)) = 0 := fun l => by
   induction l with
   | nil => rfl
   | cons y t ih => simp only [List.map_cons, lsum, ih]; rfl
  rw [this]
  rfl
 | x :: ex => by
  have ih := lsum_cnt pl hn ex
  have e : (fun q => (cntL q (x :: ex) : Int)) = fun q => (if q = x then (1 : Int) else 0) + (cntL q ex : Int) := by
   funext q
   exact cntL_cons q x ex
  rw [e, lsum_add]
  unfold outs at ih ⊢
  rw [List.filter_cons, List.length_cons]
  by_cases hx : x ∈ pl
  ·rw [lsum_one 1 x pl hn hx, if_neg (by simpa using hx)]
   omega
  ·rw [lsum_none 1 x pl hx, if_pos (by simpa using hx), List.length_cons]
   omega
theorem good_facts {l : List (List Int)} {a b : Int} (h : goodB l a b = true) : a ≠ b ∧ 0 ≤ a ∧ a < l.length ∧ 0 ≤ b ∧ b < l.length ∧ l.length ≤ 8 ∧ (∀ v : Int, 0 ≤ v → v < l.length → (rd_L1 l v).length ≤ 5) ∧ (∀ v : Int, 0 ≤ v → v < l.length → ∀ q ∈ rd_L1 l v, 0 ≤ q ∧ q < l.length) ∧ ∀ v : Int, 0 ≤ v → v < l.length → RA.Ends l a b v := by
 obtain ⟨h1, h2, h3, h4⟩ := (goodB_is l a b).2 h
 obtain ⟨hg, _, h8, a0, a1⟩ := KA.place_is h1
 obtain ⟨_, _, _, b0, b1⟩ := KA.place_is h2
 have hrow : ∀ v : Int, 0 ≤ v → v < l.length → rd_L1 l v ∈ l := fun v h0 h1 => by
  obtain ⟨i, rfl⟩ := Int.eq_ofNat_of_zero_le h0
  rw [rdL_at l i (by omega)]
  exact List.getElem_mem _
 exact ⟨h3, a0, a1, b0, b1, h8, fun v h0 h1 => (KA.graph_row hg (hrow v h0 h1)).1, fun v h0 h1 => (KA.graph_row hg (hrow v h0 h1)).2, h4⟩
theorem row_sum (l : List (List Int)) (a b : Int) {i : Nat} (hi : i < (innerL l a b).length) : sumN (innerL l a b).length (matF (matM l a b) i) = (outs (innerL l a b) (rd_L1 l (rd (innerL l a b) (i : Int))) : Int) := by
 have hn := inner_nodup l a b
 rw [sumN_congr (g := fun j => elM l (rd (innerL l a b) (i : Int)) (rd (innerL l a b) (j : Int))) (fun j hj => matM_at l a b hi hj), sumN_list]
 have hm : rd (innerL l a b) (i : Int) ∈ innerL l a b := by rw [rd_at _ i hi]; exact List.getElem_mem _
 generalize rd (innerL l a b) (i : Int) = p at hm ⊢
 have e : elM l p = fun q => (if q = p then ((rd_L1 l p).length : Int) else 0) - (cntL q (rd_L1 l p) : Int) := rfl
 rw [e, lsum_sub, lsum_one _ p _ hn hm]
 have := lsum_cnt (innerL l a b) hn (rd_L1 l p)
 omega
theorem den_pos {l : List (List Int)} {a b : Int} (h : goodB l a b = true) : 0 < denOf l a b := by
 obtain ⟨hab, a0, a1, b0, b1, h8, h5, hq, hE⟩ := good_facts h
 obtain ⟨d, hd⟩ := dist_fun l a b l.length (fun v h0 h1 => dist_ends (hE v h0 h1)) hq
 unfold denOf
 have hmem : ∀ i : Nat, i < (innerL l a b).length → rd (innerL l a b) (i : Int) ∈ innerL l a b := fun i hi => by rw [rd_at _ i hi]; exact List.getElem_mem _
 refine dom_pos (d := fun i => d (rd (innerL l a b) (i : Int))) ⟨fun i j hi hj hij => ?_, fun i hi => ?_, fun i hi hz => ?_⟩
 ·rw [matM_at l a b hi hj]
  unfold elM
  rw [if_neg (fun e => hij (rd_inj (inner_nodup l a b) hj hi e).symm)]
  omega
 ·rw [row_sum l a b hi]
  omega
 ·rw [row_sum l a b hi] at hz
  have hp := inner_mem (hmem i hi)
  obtain ⟨q, hqm, hlt⟩ := hd _ hp.1 hp.2.1 hp.2.2.1 hp.2.2.2
  have hqin : q ∈ innerL l a b := by
   by_cases c : q ∈ innerL l a b
   ·exact c
   ·have h0 : outs (innerL l a b) (rd_L1 l (rd (innerL l a b) (i : Int))) = 0 := by omega
    unfold outs at h0
    have := List.eq_nil_of_length_eq_zero h0
    rw [List.filter_eq_nil_iff] at this
    exact absurd (by simpa using c) (this q hqm)
  obtain ⟨j, hj, hje⟩ := List.mem_iff_getElem.1 hqin
  have hrj : rd (innerL l a b) (j : Int) = q := by rw [rd_at _ j hj, hje]
  refine ⟨j, hj, fun c => ?_, ?_, ?_⟩
  ·subst c
   rw [hrj] at hlt
   omega
  ·rw [matM_at l a b hi hj, hrj]
   unfold elM
   rw [if_neg (fun e => by rw [← e] at hlt; omega)]
   have : 0 < cntL q (rd_L1 l (rd (innerL l a b) (i : Int))) := by
    unfold cntL
    exact List.length_pos_of_mem (List.mem_filter.2 ⟨hqm, by simp⟩)
   omega
  ·show d (rd (innerL l a b) (j : Int)) < d (rd (innerL l a b) (i : Int))
   rw [hrj]
   exact hlt
end Go.Proofs.Ytnbnalbomflafaa.DT
namespace Go.Proofs.Ytnbnalbomflafaa.DT
open Go.RowKit YtnbnalbomflafaaW.PrintWords YtnbnalbomflafaaW.PrintLast YtnbnalbomflafaaW.PrintMore
open GA hiding info37
open RA
open Classical in
theorem S_of_rowsD {w : World} {base : Nat} {ok : Nat → Prop} {v : Value} {rows : List (List Int)} (h : RowsD w base v rows) (hok : ∀ k, base ≤ k → ok k) : Kd.S (Kd.slice 3 (Kd.int .i64)) 37 w base ok v rows := by
 obtain ⟨L, ho, hL⟩ := h
 have hLn : L.length = rows.length := by have := own_len ho; omega
 let f : Nat → Nat := fun k => if h : ∃ i, ∃ u : Value, L[i]? = some u ∧ u.ownBlock = some k then h.choose else 0
 refine ⟨f, fun k hk => hok k (own_base ho k hk), L, by rw [List.length_zipIdx]; exact ho, ?_⟩
 refine ⟨by show L.length = _ * 1; rw [List.length_zipIdx]; omega, fun j p hp => ?_⟩
 obtain ⟨r, i⟩ := p
 rw [List.getElem?_zipIdx] at hp
 obtain ⟨r2, hr2, he⟩ := Option.map_eq_some_iff.1 hp
 simp only [Prod.mk.injEq] at he
 obtain ⟨rfl, hj⟩ := he
 obtain ⟨u, hu, hou⟩ := hL.1 j r2 hr2
 have hjl : j < L.length := (List.getElem?_eq_some_iff.1 hu).1
 have e : L[j] = u := by rw [List.getElem?_eq_getElem hjl] at hu; exact Option.some.inj hu
 have hf : ∀ k, u.ownBlock = some k → f k = j := fun k hk => by
  have hex : ∃ i, ∃ u : Value, L[i]? = some u ∧ u.ownBlock = some k := ⟨j, u, hu, hk⟩
  have hc := hex.choose_spec
  have : f k = hex.choose := dif_pos hex
  rw [this]
  obtain ⟨u2, q1, q2⟩ := hc
  by_cases q : hex.choose = j
  ·exact q
  ·exact absurd hk (hL.2 _ j u2 u k q1 hu q q2)
 refine ⟨u, ?_, ?_⟩
 ·show (L.drop (j * 1)).take 1 = [u]
  rw [Nat.mul_one, List.drop_eq_getElem_cons hjl, e]
  rfl
 ·refine Kd.R_of_own (ok := fun k => (ok k ∧ some k ≠ v.ownBlock) ∧ f k = i) hou fun k hk => ⟨⟨hok k (own_base hou k hk), fun c => ?_⟩, by rw [hf k hk]; omega⟩
  obtain ⟨c1, e1⟩ := own_typed hou k hk
  obtain ⟨c2, e2⟩ := own_typed ho k c.symm
  rw [e1] at e2
  simp at e2
def spec_hiMatrix.f (l0_0 : List (List Int)) (a1 : Int) (a2 : Int) : Option (List Int × List (List Int)) := if KA.isGraphB l0_0 = true then some (innerL l0_0 a1 a2, matM l0_0 a1 a2) else none
theorem graph_facts {l : List (List Int)} (hg : KA.isGraphB l = true) : l.length ≤ 8 ∧ (∀ v : Int, 0 ≤ v → v < l.length → (rd_L1 l v).length ≤ 5) := by
 refine ⟨(KA.graph_len hg).2, fun v h0 h1 => ?_⟩
 obtain ⟨i, rfl⟩ := Int.eq_ofNat_of_zero_le h0
 refine (KA.graph_row hg ?_).1
 rw [rdL_at l i (by omega)]
 exact List.getElem_mem _
theorem spec_hiMatrix.calls (A0_0 : Option Addr) (c0_0 : Nat) (l0_0 : List (List Int)) (a1 : Int) (a2 : Int) (r1 : List Int) (r2 : List (List Int)) (w : World) (hr0_0 : Kd.C (Kd.slice 3 (Kd.int .i64)) w A0_0 l0_0.length l0_0) (hc0_0 : l0_0.length ≤ c0_0) (h : spec_hiMatrix.f l0_0 a1 a2 = some (r1, r2)) :
  Calls Try.prog 88 #[.agg #[.slice A0_0 l0_0.length c0_0], .int .i64 a1, .int .i64 a2] w fun e w' => ∃ v0_ v1_ : Value, e = .returned (.tuple #[v0_, v1_]) ∧ Kd.R (Kd.int .i64) 3 w' w.heap.size (fun _ => True) v0_ r1 ∧ Kd.S (Kd.slice 3 (Kd.int .i64)) 37 w' w.heap.size (fun k_ => some k_ ≠ (v0_ : Value).ownBlock) v1_ r2 ∧ Below w.heap.size w w' := by
 unfold spec_hiMatrix.f at h
 by_cases hg : KA.isGraphB l0_0 = true
 ·rw [if_pos hg] at h
  cases h
  obtain ⟨h8, h5⟩ := graph_facts hg
  refine (hiMatrix_c l0_0 a1 a2 h8 h5 w _ ⟨A0_0, c0_0, rfl, hc0_0, hr0_0⟩).mono ?_
  rintro e w' ⟨v1, v2, rfl, hB, h1, h2⟩
  obtain ⟨B, q1, q2, q3⟩ := h2.out
  exact ⟨v1, v2, rfl, Kd.R_of_own h1.out (fun _ _ => trivial), Kd.S_lower (S_of_rowsD q2 (fun k hk c => by have := q3 k c.symm; omega)) q1, hB⟩
 ·rw [if_neg hg] at h
  cases h
def outL (l : List (List Int)) (own : Int → Int) (atA atB a b : Int) : List Int := (List.range l.length).map fun (i : Nat) => if (i : Int) = a then atA * denOf l a b else if (i : Int) = b then atB * denOf l a b else numOf l own atA atB a b ((innerL l a b).idxOf (i : Int))
theorem out_is {l : List (List Int)} {own : Int → Int} {atA atB a b : Int} {out : List Int} (h : OutK l own atA atB a b (innerL l a b).length out) : out = outL l own atA atB a b := by
 obtain ⟨h1, h2, h3, h4⟩ := h
 refine List.ext_getElem (by simp [outL, h1]) fun i q1 q2 => ?_
 have e : (outL l own atA atB a b)[i] = if (i : Int) = a then atA * denOf l a b else if (i : Int) = b then atB * denOf l a b else numOf l own atA atB a b ((innerL l a b).idxOf (i : Int)) := by simp [outL]
 rw [e]
 by_cases ha : (i : Int) = a
 ·rw [if_pos ha, ← h2, ← ha, rd_at out i q1]
 ·rw [if_neg ha]
  by_cases hb : (i : Int) = b
  ·rw [if_pos hb, ← h3, ← hb, rd_at out i q1]
  ·rw [if_neg hb]
   have hm := mem_inner (l := l) (a := a) (b := b) (p := (i : Int)) (by omega) (by omega) ha hb
   have hlt := List.idxOf_lt_length_iff.2 hm
   rw [← h4 _ hlt, rd_at _ _ hlt]
   have e2 : (innerL l a b)[(innerL l a b).idxOf (i : Int)] = (i : Int) := List.getElem_idxOf hlt
   rw [e2, rd_at out i q1]
set_option maxHeartbeats 1000000 in
theorem own0_c (W : World) (p : Int) : Calls Try.prog 119 #[.int .i64 p] W fun e w' => e = .returned (.int .i64 0) ∧ w' = W := by
 go_enter Try.func119, Try.ntmps119
 go_wp2_with (fail)
 go_ret
 exact ⟨rfl, rfl⟩
end Go.Proofs.Ytnbnalbomflafaa.DT
namespace Go.Proofs.Ytnbnalbomflafaa.DT
open Go.RowKit YtnbnalbomflafaaW.PrintWords YtnbnalbomflafaaW.PrintLast YtnbnalbomflafaaW.PrintMore
open GA hiding info37
open RA
theorem sum_chances {l : List (List Int)} {a b : Int} (h5 : ∀ v : Int, 0 ≤ v → v < l.length → (rd_L1 l v).length ≤ 5) : ∀ p : Int, 0 ≤ p → p < l.length → ∀ x, x ≤ (rd_L1 l p).length → -5 ≤ sumF (fun _ => 0) 1 0 a b p (rd_L1 l p) x ∧ sumF (fun _ => 0) 1 0 a b p (rd_L1 l p) x ≤ 5 := fun p h0 h1 x hx => by
 have hd := h5 p h0 h1
 have h2 : cntL a ((rd_L1 l p).take x) ≤ x := Nat.le_trans (cntL_le _ _) (by rw [List.length_take]; omega)
 simp only [sumF]
 omega
def chL (l : List (List Int)) (a b : Int) : List Int := outL l (fun _ => 0) 1 0 a b
set_option maxHeartbeats 4000000 in
set_option maxRecDepth 100000 in
theorem chances_c (l : List (List Int)) (a b : Int) (h : goodB l a b = true) (w : World) (v : Value) (hv : RowsC w v l) : Calls Try.prog 93 #[.agg #[v], .int .i64 a, .int .i64 b] w fun e w' => ∃ v0, e = .returned (.tuple #[v0, .int .i64 (denOf l a b)]) ∧ Below w.heap.size w w' ∧ Aside0 (ListD w' w.heap.size v0 (chL l a b)) := by
 obtain ⟨hab, a0, a1, b0, b1, h8, h5, hq, _⟩ := good_facts h
 have HV := Aside0.mk hv
 obtain ⟨A, c, rfl, _, _⟩ := hv
 have HF := Aside0.mk (And.intro hab (And.intro h5 hq))
 have HAL : Aside0 (Below w.heap.size w (w.alloc (.cells #[.slice A l.length c] 30))) := ⟨(Below.refl _ _).alloc (Nat.le_refl _) _⟩
 clear hab h5 hq
 go_enter Try.func93, Try.ntmps93
 go_wp2_with (go_at_call 90; refine (solved_c l (fun _ => 0) 1 0 a b HF.out.1 a0 a1 b0 b1 h8 HF.out.2.1 HF.out.2.2 (by omega) (by omega) (sum_chances HF.out.2.1) 119 Try.f119 #[] Try.func119 (by kernel_rfl) rfl _ _ (HV.out.below HAL.out) (fun W _ p _ _ => own0_c W p)).mono ?_; rintro e w1 ⟨v1, out, rfl, hB, hL, hO⟩; have HB := Aside0.mk (HAL.out.trans (hB.mono (by simp))); have HL : Aside0 (ListD w1 w.heap.size v1 (chL l a b)) := ⟨by have e := out_is hO.out; unfold chL; rw [← e]; exact hL.out.lower' (by simp)⟩; clear hB hL hO)
 refine bodyPost_ret (v := .tuple #[v1, .int .i64 (denOf l a b)]) (by simp [results, Try.results93, go_sem]) rfl ?_
 exact ⟨v1, rfl, HB.out, HL⟩
noncomputable def impl_chances.f (l0_0 : List (List Int)) (a1 : Int) (a2 : Int) : Option (List Int × Int) := if goodB l0_0 a1 a2 = true then some (chL l0_0 a1 a2, denOf l0_0 a1 a2) else none
theorem impl_chances.calls (A0_0 : Option Addr) (c0_0 : Nat) (l0_0 : List (List Int)) (a1 : Int) (a2 : Int) (r1 : List Int) (r2 : Int) (w : World) (hr0_0 : Kd.C (Kd.slice 3 (Kd.int .i64)) w A0_0 l0_0.length l0_0) (hc0_0 : l0_0.length ≤ c0_0) (h : impl_chances.f l0_0 a1 a2 = some (r1, r2)) :
  Calls Try.prog 93 #[.agg #[.slice A0_0 l0_0.length c0_0], .int .i64 a1, .int .i64 a2] w fun e w' => ∃ v0_ : Value, e = .returned (.tuple #[v0_, .int .i64 r2]) ∧ Kd.R (Kd.int .i64) 3 w' w.heap.size (fun _ => True) v0_ r1 ∧ Below w.heap.size w w' := by
 unfold impl_chances.f at h
 by_cases hg : goodB l0_0 a1 a2 = true
 ·rw [if_pos hg] at h
  cases h
  refine (chances_c l0_0 a1 a2 hg w _ ⟨A0_0, c0_0, rfl, hc0_0, hr0_0⟩).mono ?_
  rintro e w' ⟨v1, rfl, hB, hL⟩
  exact ⟨v1, rfl, Kd.R_of_own hL.out (fun _ _ => trivial), hB⟩
 ·rw [if_neg hg] at h
  cases h
noncomputable def impl_hits.f (l0_0 : List (List Int)) (l1 : List Int) (a2 : Int) (a3 : Int) (a4 : Int) (a5 : Int) : Option (List Int × List Int × Int × Bool) := some ((hitListA l0_0 l1 a2 a3 a4 a5).1, (behindA l0_0 l1 a2 a3 a4 a5).1, (stepsA l0_0 l1 a2 a3 a4 a5).1, askedB l0_0 l1 a2 a3 a4 a5)
theorem impl_hits.calls (A0_0 : Option Addr) (c0_0 : Nat) (l0_0 : List (List Int)) (A1 : Option Addr) (c1 : Nat) (l1 : List Int) (a2 : Int) (a3 : Int) (a4 : Int) (a5 : Int) (r1 : List Int) (r2 : List Int) (r3 : Int) (r4 : Bool) (w : World) (hr0_0 : Kd.C (Kd.slice 3 (Kd.int .i64)) w A0_0 l0_0.length l0_0) (hc0_0 : l0_0.length ≤ c0_0) (hr1 : Kd.C (Kd.int .i64) w A1 l1.length l1) (hc1 : l1.length ≤ c1) (h : impl_hits.f l0_0 l1 a2 a3 a4 a5 = some (r1, r2, r3, r4)) :
  Calls Try.prog 84 #[.agg #[.slice A0_0 l0_0.length c0_0], .slice A1 l1.length c1, .int .i64 a2, .int .i64 a3, .int .i64 a4, .int .i64 a5] w fun e w' => ∃ v0_ v1_ : Value, e = .returned (.tuple #[v0_, v1_, .int .i64 r3, .bool r4]) ∧ Kd.R (Kd.int .i64) 3 w' w.heap.size (fun _ => True) v0_ r1 ∧ Kd.R (Kd.int .i64) 3 w' w.heap.size (fun _ => True) v1_ r2 ∧ Below w.heap.size w w' := by
 unfold impl_hits.f at h
 simp only [Option.some.injEq, Prod.mk.injEq] at h
 obtain ⟨rfl, rfl, rfl, rfl⟩ := h
 refine (hits_c l0_0 l1 a2 a3 a4 a5 w _ _ ⟨A0_0, c0_0, rfl, hc0_0, hr0_0⟩ ⟨A1, c1, rfl, hc1, hr1⟩).mono ?_
 rintro e w' ⟨v1, v2, rfl, hB, h1, h2⟩
 exact ⟨v1, v2, rfl, Kd.R_of_own h1.out (fun _ _ => trivial), Kd.R_of_own h2.out (fun _ _ => trivial), hB⟩
end Go.Proofs.Ytnbnalbomflafaa.DT
namespace Go.Proofs.Ytnbnalbomflafaa.DT
open Go.RowKit YtnbnalbomflafaaW.PrintWords YtnbnalbomflafaaW.PrintLast YtnbnalbomflafaaW.PrintMore
open GA hiding info37
open RA
def ratV (x d : Int) : Int × Int := (Int.tdiv x (Nat.gcd x.natAbs d.natAbs : Nat), Int.tdiv d (Nat.gcd x.natAbs d.natAbs : Nat))
theorem gcd_loop (Y : Nat) : ∀ (k X : Nat), Y < k → GA.impl_gcd.l0 k (X : Int) (Y : Int) = some ((Nat.gcd X Y : Nat) : Int) := by
 induction Y using Nat.strongRecOn with
 | ind Y ih =>
  intro k X hk
  obtain ⟨k, rfl⟩ := KA.succ_of (show 0 < k by omega)
  unfold GA.impl_gcd.l0
  by_cases h : Y = 0
  ·subst h
   rw [if_pos (show ((0 : Nat) : Int) = 0 from rfl), Nat.gcd_zero_right]
  ·rw [if_neg (by omega), show Int.tmod (X : Int) (Y : Int) = ((X % Y : Nat) : Int) from rfl]
   have hlt := Nat.mod_lt X (Nat.pos_of_ne_zero h)
   rw [ih (X % Y) hlt k Y (by omega)]
   congr 2
   rw [Nat.gcd_comm, ← Nat.gcd_rec, Nat.gcd_comm]
theorem hiRatio_loop (x0 x1 : Int) (Y : Nat) : ∀ (k X : Nat), Y < k → 0 < Nat.gcd X Y → spec_hiRatio.l0 k x0 x1 (X : Int) (Y : Int) = some (wrap64 (Int.tdiv x0 ((Nat.gcd X Y : Nat) : Int)), wrap64 (Int.tdiv x1 ((Nat.gcd X Y : Nat) : Int))) := by
 induction Y using Nat.strongRecOn with
 | ind Y ih =>
  intro k X hk hg
  obtain ⟨k, rfl⟩ := KA.succ_of (show 0 < k by omega)
  unfold spec_hiRatio.l0
  by_cases h : Y = 0
  ·subst h
   rw [Nat.gcd_zero_right] at hg ⊢
   rw [if_neg (by omega), if_neg (by omega)]
  ·have hlt := Nat.mod_lt X (Nat.pos_of_ne_zero h)
   have e : Nat.gcd Y (X % Y) = Nat.gcd X Y := by rw [Nat.gcd_comm, ← Nat.gcd_rec, Nat.gcd_comm]
   rw [if_pos (by omega), if_neg (by omega), show Int.tmod (X : Int) (Y : Int) = ((X % Y : Nat) : Int) from rfl]
   rw [ih (X % Y) hlt k Y (by omega) (by rw [e]; exact hg), e]
theorem tdiv_small {x : Int} {g : Nat} (h : x.natAbs ≤ 1000000000000000) : wrap64 (Int.tdiv x (g : Int)) = Int.tdiv x (g : Int) := by
 have h1 : (Int.tdiv x (g : Int)).natAbs ≤ x.natAbs := by
  rw [Int.natAbs_tdiv]
  exact Nat.div_le_self _ _
 exact wrap_id (by omega) (by omega)
theorem abs_max (x : Int) (h : x.natAbs ≤ 1000000000000000) : mx x (wrap64 (-x)) = (x.natAbs : Int) := by
 rw [wrap_id (by omega) (by omega)]
 unfold mx
 split <;> omega
theorem spec_ratio {x d : Int} (hx : x.natAbs ≤ 1000000000000000) (hd : 0 < d) (hd2 : d ≤ 50000000) (k : Nat) (hk : 100000000 ≤ k) : spec_hiRatio.f k x d = some (ratV x d) := by
 obtain ⟨k, rfl⟩ := KA.succ_of (show 0 < k by omega)
 have hg : 0 < Nat.gcd x.natAbs d.natAbs := Nat.gcd_pos_of_pos_right _ (by omega)
 have e1 : (if x > -x then some x else some (-x)) = some ((x.natAbs : Nat) : Int) := by
  split
  ·rw [show ((x.natAbs : Nat) : Int) = x by omega]
  ·rw [show ((x.natAbs : Nat) : Int) = -x by omega]
 unfold spec_hiRatio.f
 rw [if_neg (by omega)]
 show ((spec_l1Abs.f x).bind fun t => spec_hiRatio.l0 k x d t d) = _
 unfold spec_l1Abs.f spec_l1Most.f
 rw [show wrap64 (-x) = -x from wrap_id (by omega) (by omega), e1]
 simp only [Option.bind_some]
 have e2 : d = ((d.natAbs : Nat) : Int) := by omega
 have := hiRatio_loop x d d.natAbs k x.natAbs (by omega) hg
 rw [← e2] at this
 rw [this, tdiv_small hx, tdiv_small (by omega)]
 rfl
theorem impl_ratio_f {x d : Int} (hx : x.natAbs ≤ 1000000000000000) (hd : 0 < d) (hd2 : d ≤ 50000000) (k : Nat) (hk : 100000000 ≤ k) : GA.impl_ratio.f k x d = some (ratV x d) := by
 have hg : 0 < Nat.gcd x.natAbs d.natAbs := Nat.gcd_pos_of_pos_right _ (by omega)
 unfold GA.impl_ratio.f GA.impl_gcd.f
 rw [abs_max x hx, abs_max d (by omega), gcd_loop _ _ _ (by omega), Option.bind_some, if_neg (by omega), if_neg (by omega), tdiv_small hx, tdiv_small (by omega)]
 rfl
theorem ratV_same {d : Int} (hd : 0 < d) : ratV d d = (1, 1) := by
 have e2 : ((d.natAbs : Nat) : Int) = d := by omega
 unfold ratV
 rw [Nat.gcd_self, e2, Int.tdiv_self (by omega)]
theorem ratV_zero {d : Int} (hd : 0 < d) : ratV 0 d = (0, 1) := by
 have e2 : ((d.natAbs : Nat) : Int) = d := by omega
 unfold ratV
 rw [show (0 : Int).natAbs = 0 from rfl, Nat.gcd_zero_left, e2, Int.tdiv_self (by omega), Int.zero_tdiv]
end Go.Proofs.Ytnbnalbomflafaa.DT
namespace Go.Proofs.Ytnbnalbomflafaa.DT
open Go.RowKit YtnbnalbomflafaaW.PrintWords YtnbnalbomflafaaW.PrintLast YtnbnalbomflafaaW.PrintMore
open GA hiding info37
open GR hiding rd_L1 at_L1
open RA
theorem kt_le {m : Nat} (hm : m ≤ 6) : KT m ≤ 152 := by
 have : m = 0 ∨ m = 1 ∨ m = 2 ∨ m = 3 ∨ m = 4 ∨ m = 5 ∨ m = 6 := by omega
 rcases this with h | h | h | h | h | h | h <;> rw [h] <;> decide
theorem trDet_five {m : Nat} {M : List (List Int)} (hm : m ≤ 6) (h : Sq m M) (hb : ∀ r c, r < m → c < m → (matF M r c).natAbs ≤ 5) (k : Nat) (hk : 152 ≤ k) : spec_trDet.f k M = some (D m (matF M)) :=
 trDet_is m 5 M (by omega) h (by omega) hb (Nat.le_trans (fe_le hm) (by omega)) k (Nat.le_trans (kt_le hm) hk)
theorem solve_l1 {m : Nat} {M : List (List Int)} {R : List Int} (hm : m ≤ 6) (h : Sq m M) (hR : R.length = m) (den : Int) (x7 : List Int) (jj : Int) {j : Nat} (hj : j < m) (d : Nat) : ∀ (k i : Nat), i + d = m →
  spec_hiSolve.l1 (k + d + 1) M R den x7 (j : Int) ((colL M R j).take i) (m : Int) jj M (m : Int) (i : Int) = (spec_trDet.f k (colL M R j)).bind fun t => if x7.length < 17592186044416 then spec_hiSolve.l0 k M R den (x7 ++ [t]) (m : Int) (wrap64 (jj + 1)) else none := by
 have hl := h.len
 have hc := (sq_colL h R j).len
 induction d with
 | zero =>
  intro k i hi
  unfold spec_hiSolve.l1
  rw [if_neg (by omega), List.take_of_length_le (by omega)]
 | succ d ih =>
  intro k i hi
  have him : i < m := by omega
  have hrow := (h.at him).2
  have hget := colL_get h R j him
  have e1 : (colL M R j).take i ++ [(GA.rd_L1 M (i : Int)).set j (rd R (i : Int))] = (colL M R j).take (i + 1) := by
   rw [List.take_add_one, hget]
   rfl
  rw [show k + (d + 1) + 1 = (k + d + 1) + 1 by omega]
  unfold spec_hiSolve.l1
  show (if (i : Int) < (m : Int) then (if 0 ≤ (i : Int) then (if (i : Int) < (M.length : Int) then ((spec_l1Own.f (GA.rd_L1 M (i : Int))).bind _) else none) else none) else _) = _
  rw [if_pos (by omega), if_pos (by omega), if_pos (by omega), own_is _ (by omega), Option.bind_some, if_pos (by omega), if_pos (by omega), if_pos (by omega), if_pos (by simp; omega), Int.toNat_natCast, e1, KA.wrap_up him (by omega)]
  exact ih k (i + 1) (by omega)
def numsL (m : Nat) (M : List (List Int)) (R : List Int) : List Int := (List.range m).map fun j => D m (matF (colL M R j))
theorem solve_l0 {m : Nat} {M : List (List Int)} {R : List Int} (hm : m ≤ 6) (h : Sq m M) (hR : R.length = m) (hb : ∀ r c, r < m → c < m → (matF M r c).natAbs ≤ 5) (hRb : ∀ r : Nat, r < m → (rd R (r : Int)).natAbs ≤ 5) (den : Int) (d : Nat) : ∀ (k j : Nat), j + d = m → 200 + d * 10 ≤ k →
  spec_hiSolve.l0 k M R den ((numsL m M R).take j) (m : Int) (j : Int) = some (numsL m M R, den) := by
 have hn : (numsL m M R).length = m := by simp [numsL]
 induction d with
 | zero =>
  intro k j hj hk
  obtain ⟨k, rfl⟩ := KA.succ_of (show 0 < k by omega)
  unfold spec_hiSolve.l0
  rw [if_neg (by omega), List.take_of_length_le (by omega)]
 | succ d ih =>
  intro k j hj hk
  have hjm : j < m := by omega
  obtain ⟨k2, rfl⟩ : ∃ k2, k = k2 + m + 1 + 1 := ⟨k - m - 2, by omega⟩
  have hl := h.len
  unfold spec_hiSolve.l0
  rw [if_pos (by omega)]
  have e := solve_l1 hm h hR den ((numsL m M R).take j) (j : Int) hjm m k2 0 (by omega)
  rw [List.take_zero] at e
  have e0 : (M.length : Int) = (m : Int) := by omega
  rw [e0]
  have hcb : ∀ r c, r < m → c < m → (matF (colL M R j) r c).natAbs ≤ 5 := fun r c hr hc => by
   rw [colL_at h R hr hc]
   split
   ·exact hRb r hr
   ·exact hb r c hr hc
  refine e.trans ?_
  rw [trDet_five hm (sq_colL h R j) hcb k2 (by omega), Option.bind_some, if_pos (by simp; omega), KA.wrap_up hjm (by omega)]
  have e2 : (numsL m M R).take j ++ [D m (matF (colL M R j))] = (numsL m M R).take (j + 1) := by
   rw [List.take_succ_eq_append_getElem (by omega)]
   congr 2
   simp [numsL]
  rw [e2]
  exact ih k2 (j + 1) (by omega) (by omega)
theorem solve_f {m : Nat} {M : List (List Int)} {R : List Int} (hm : m ≤ 6) (h : Sq m M) (hR : R.length = m) (hb : ∀ r c, r < m → c < m → (matF M r c).natAbs ≤ 5) (hRb : ∀ r : Nat, r < m → (rd R (r : Int)).natAbs ≤ 5) (k : Nat) (hk : 300 ≤ k) : spec_hiSolve.f k M R = some (numsL m M R, D m (matF M)) := by
 unfold spec_hiSolve.f
 rw [trDet_five hm h hb k (by omega), Option.bind_some]
 have hl := h.len
 have e0 : (M.length : Int) = (m : Int) := by omega
 rw [e0]
 exact solve_l0 hm h hR hb hRb _ m k 0 (by omega) (by omega)
end Go.Proofs.Ytnbnalbomflafaa.DT
namespace Go.Proofs.Ytnbnalbomflafaa.GT
open Go.RowKit YtnbnalbomflafaaW.PrintWords YtnbnalbomflafaaW.PrintLast YtnbnalbomflafaaW.PrintMore
open GA GB GD KA GR GQ DT
attribute [local go_sem] RA.field80_0 RA.field80_1 RA.field80_2 max2_int min2_int max_two min_two max_three min_three max_four min_four
def errW : Option Int → Value
 | none => .nilIface
 | some c => .iface 0 (.int .i64 c)
theorem errW_none : errW none = .nilIface := rfl
theorem errW_some (c : Int) : errW (some c) = .iface 0 (.int .i64 c) := rfl
theorem info3 : (Try.prog.info? 3).map (fun i => (i.zero, i.size, i.bytes)) = some (some (.int .i64 0), 1, 8) := by kernel_rfl
theorem info27 : (Try.prog.info? 27).map (fun i => (i.zero, i.size, i.bytes)) = some (some (.agg #[(.int .i64 0), (.int .i64 0)]), 2, 16) := by kernel_rfl
def rd_L1 (xs : List (List Int)) (i : Int) : (List Int) := xs.getD i.toNat ([] : List Int)
theorem at_L1 {w : World} {A : Option Addr} {n : Nat} {xs : List (List Int)} (h : Kd.C (Kd.slice 3 (Kd.int .i64)) w A n xs) (i : Int) (h0 : 0 ≤ i) (h1 : i < n) : ∃ ad A0 c0, A = some ad ∧ w.cell? (ad.add i.toNat) = some (.slice A0 (rd_L1 xs i).length c0) ∧ (rd_L1 xs i).length ≤ c0 ∧ (Kd.int .i64).C w A0 (rd_L1 xs i).length (rd_L1 xs i) := by
 obtain ⟨ad, c, e, _, hK, hc0⟩ := Kd.C_get h ([] : List Int) i h0 h1
 have hc : ∀ j u, c[j]? = some u → w.cell? (ad.add (i.toNat * 1 + j)) = some u := hc0
 obtain ⟨A0, c0, rfl, l0, g0⟩ := hK
 exact ⟨ad, A0, c0, e, by have hq := hc 0 _ rfl; rwa [Nat.mul_one, Nat.add_zero] at hq, l0, g0⟩
structure S27 where
 f0 : Int
 f1 : Int
def z27 : S27 := ⟨(0 : Int), (0 : Int)⟩
def k27 : Kd S27 := Kd.iso (Kd.pair (Kd.int .i64) (Kd.int .i64)) (fun x : S27 => (x.f0, x.f1))
theorem k27_open {w : World} {x : S27} {cs : List Value} (h : k27.K w x cs) : cs = [.int .i64 x.f0, .int .i64 x.f1] := by
 obtain ⟨_, _, rfl, rfl, rfl⟩ := h
 exact rfl
theorem k27_openM {w : World} {base : Nat} {ok : Nat → Prop} {x : S27} {cs : List Value} (h : k27.M w base ok x cs) : cs = [.int .i64 x.f0, .int .i64 x.f1] := by
 obtain ⟨_, _, rfl, rfl, rfl⟩ := h
 exact rfl
theorem k27_mkM (w : World) (base : Nat) (ok : Nat → Prop) (x : S27)  : k27.M w base ok x [.int .i64 x.f0, .int .i64 x.f1] := ⟨[.int .i64 x.f0], [.int .i64 x.f1], rfl, rfl, rfl⟩
def rd_T27 (xs : List S27) (i : Int) : S27 := xs.getD i.toNat z27
theorem at_T27 {w : World} {A : Option Addr} {n : Nat} {xs : List S27} (h : Kd.C k27 w A n xs) (i : Int) (h0 : 0 ≤ i) (h1 : i < n) : ∃ ad , A = some ad ∧ w.cell? (ad.add (i.toNat * 2)) = some (.int .i64 (rd_T27 xs i).f0) ∧ w.cell? ⟨(ad.add (i.toNat * 2)).block, (ad.add (i.toNat * 2)).off + 1, none⟩ = some (.int .i64 (rd_T27 xs i).f1) := by
 obtain ⟨ad, c, e, _, hK, hc0⟩ := Kd.C_get h z27 i h0 h1
 have hc : ∀ j u, c[j]? = some u → w.cell? (ad.add (i.toNat * 2 + j)) = some u := hc0
 obtain rfl := k27_open hK
 exact ⟨ad, e, hc 0 _ rfl, by rw [← add_field _ _ 1 (by omega)]; exact hc 1 _ rfl⟩
end Go.Proofs.Ytnbnalbomflafaa.GT
namespace Go.Proofs.Ytnbnalbomflafaa.GT
open Go.RowKit YtnbnalbomflafaaW.PrintWords YtnbnalbomflafaaW.PrintLast YtnbnalbomflafaaW.PrintMore
open GA GB GD KA GR GQ DT
attribute [local go_sem] RA.field80_0 RA.field80_1 RA.field80_2 max2_int min2_int max_two min_two max_three min_three max_four min_four
mutual
def spec_hiChances.l0 : Nat → Int → Int → List Int → List (List Int) → List Int → List Int → Int → Int → List (List Int) → Option ((List (S27)))
 | 0, _, _, _, _, _, _, _, _, _ => none
 | k + 1, x1, x2, x7, x8, x9, x27, x28, x29, x208000 => if x29 < x28 then (if 0 ≤ x29 then (if x29 < (x27.length : Int) then (if 0 ≤ (rd x27 x29) then (if (rd x27 x29) < (x208000.length : Int) then (spec_hiChances.l1 k x1 x2 x7 x8 x9 0 x27 x28 x29 (rd_L1 x208000 (rd x27 x29)) ((rd_L1 x208000 (rd x27 x29)).length : Int) 0 x208000) else (none)) else (none)) else (none)) else (none)) else ((spec_hiSolve.f k x8 x9).bind fun bt220 => (if 0 ≤ (x208000.length : Int) then (if ((x208000.length : Int) : Int).toNat ≤ 17592186044416 then ((some (List.replicate ((x208000.length : Int) : Int).toNat z27 : List (S27))).bind fun y224 => (if 0 ≤ x1 then (if x1 < (y224.length : Int) then (if 0 ≤ x2 then (if x2 < (y224.length : Int) then (spec_hiChances.l2 k bt220.1 bt220.2 ((y224.set (x1 : Int).toNat (⟨1, 1⟩ : S27)).set (x2 : Int).toNat (⟨0, 1⟩ : S27)) x7 (x7.length : Int) 0) else (none)) else (none)) else (none)) else (none))) else (none)) else (none)))
def spec_hiChances.l1 : Nat → Int → Int → List Int → List (List Int) → List Int → Int → List Int → Int → Int → List Int → Int → Int → List (List Int) → Option ((List (S27)))
 | 0, _, _, _, _, _, _, _, _, _, _, _, _, _ => none
 | k + 1, x1, x2, x7, x8, x9, x12, x27, x28, x29, x37, x38, x39, x208000 => if x39 < x38 then (if 0 ≤ x39 then (if x39 < (x37.length : Int) then (if (rd x37 x39) = x1 then (spec_hiChances.l1 k x1 x2 x7 x8 x9 (wrap64 (x12 + 1)) x27 x28 x29 x37 x38 (wrap64 (x39 + 1)) x208000) else (spec_hiChances.l1 k x1 x2 x7 x8 x9 x12 x27 x28 x29 x37 x38 (wrap64 (x39 + 1)) x208000)) else (none)) else (none)) else (if x9.length < 17592186044416 then (spec_hiChances.l0 k x1 x2 x7 x8 (x9 ++ [x12]) x27 x28 (wrap64 (x29 + 1)) x208000) else (none))
def spec_hiChances.l2 : Nat → List Int → Int → List (S27) → List Int → Int → Int → Option ((List (S27)))
 | 0, _, _, _, _, _, _ => none
 | k + 1, x15, x16, x17, x72, x73, x74 => if x74 < x73 then (if 0 ≤ x74 then (if x74 < (x72.length : Int) then (if x74 < (x15.length : Int) then ((spec_hiRatio.f k (rd x15 x74) x16).bind fun bt231 => (if 0 ≤ (rd x72 x74) then (if (rd x72 x74) < (x17.length : Int) then (spec_hiChances.l2 k x15 x16 (x17.set ((rd x72 x74) : Int).toNat (⟨bt231.1, bt231.2⟩ : S27)) x72 x73 (wrap64 (x74 + 1))) else (none)) else (none))) else (none)) else (none)) else (none)) else (some x17)
end
def spec_hiChances.f (k : Nat) (l0_0 : List (List Int)) (a1 : Int) (a2 : Int) : Option ((List (S27))) := (spec_hiMatrix.f l0_0 a1 a2).bind fun bt208 => (spec_hiChances.l0 k a1 a2 bt208.1 bt208.2 ([] : List Int) bt208.1 (bt208.1.length : Int) 0 l0_0)
set_option maxHeartbeats 8000000 in
set_option maxRecDepth 100000 in
theorem spec_hiChances.calls (k : Nat) (A0_0 : Option Addr) (c0_0 : Nat) (l0_0 : List (List Int)) (a1 : Int) (a2 : Int) (r : List (S27)) (w : World) (hr0_0 : Kd.C (Kd.slice 3 (Kd.int .i64)) w A0_0 l0_0.length l0_0) (hc0_0 : l0_0.length ≤ c0_0) (h : spec_hiChances.f k l0_0 a1 a2 = some r) :
  Calls Try.prog 92 #[.agg #[.slice A0_0 l0_0.length c0_0], .int .i64 a1, .int .i64 a2] w fun e w' => ∃ v0_ : Value, e = .returned (v0_) ∧ Kd.R k27 27 w' w.heap.size (fun _ => True) v0_ r ∧ Below w.heap.size w w' := by
 have hu30 := Try.underlying30
 have hu27 := Try.underlying27
 have HR0_0 := Aside0.mk hr0_0
 have HC0_0 := Aside0.mk hc0_0
 clear hr0_0 hc0_0
 have HB := Aside0.mk (Below.refl w.heap.size w)
 have H : ((spec_hiMatrix.f l0_0 a1 a2).bind fun bt208 => (spec_hiChances.l0 k a1 a2 bt208.1 bt208.2 ([] : List Int) bt208.1 (bt208.1.length : Int) 0 l0_0)) = some r := h
 clear h
 replace H := Option.bind_eq_some_iff.mp H
 obtain ⟨⟨t208, t211⟩, A40, H⟩ := H
 replace H : (spec_hiChances.l0 k a1 a2 t208 t211 ([] : List Int) t208 (t208.length : Int) 0 l0_0) = some r := H
 have A4 := Aside0.mk A40
 clear A40
 have H' := Aside0.mk H
 clear H
 go_enter Try.func92, Try.ntmps92
 go_wp2_with (first | ((with_reducible refine gate_dst (N := 3) rfl ?_); refine box_event ?hg (N := 3) ?hd (cs := #[.slice A0_0 l0_0.length c0_0]) (t := 30) ?hr ?_; (case hd => rfl); (case hg => rfl); (case hr => first | (go_simp; done) | (go_simp; rfl)); intro gb207 hg w5 hbox hb; have n0_ := Aside0.mk (bP_ (by repeat (first | (with_reducible first | exact HB.out | apply bA_ | apply bN_ | apply bD_) | exact HB.out)) hb); have n1_ := Aside0.mk (hbox); have n2_ := Aside0.mk ((by rw [hg]; exact (bZ_ (by repeat (first | (with_reducible first | exact HB.out | apply bA_ | apply bN_ | apply bD_) | exact HB.out))) : w.heap.size ≤ gb207)); have n3_ := Aside0.mk ((by rw [hg]; exact (bZ_ (by repeat (first | (with_reducible first | exact HB.out | apply bA_ | apply bN_ | apply bD_) | exact HB.out))) : w.heap.size ≤ gb207)); clear HB; have HB := n0_; have BK207 := n1_; have GW207 := n2_; have GE207 := n3_; clear n0_ n1_ n2_ n3_; clear hb hbox hg; have hcz6_0 : w5.cell? ⟨gb207, 0, none⟩ = some (.slice A0_0 l0_0.length c0_0) := (blk_cell BK207.out 0).trans rfl; have hfz6_0 := kF_ BK207.out 0) | ((with_reducible refine gate_callee (f := 88) rfl ?_); refine goesL_ (some 24) rfl rfl Try.func88 (by kernel_rfl) rfl #[.agg #[.slice A0_0 l0_0.length c0_0], .int .i64 a1, .int .i64 a2] rfl (by (try simp only [List.map_toArray, List.map_cons, List.map_nil]); first | done | rfl | (simp only [List.length_drop, List.length_take]; rfl)) ?_; (with_reducible refine (spec_hiMatrix.calls _ _ l0_0 a1 a2 t208 t211 _ ?side1 ?side2 A4.out).mono ?_); (case side1 => repeat (first | exact (Kd.C_below HR0_0.out HB.out) | (with_reducible refine Kd.C_alloc ?_ _) | (with_reducible refine Kd.C_drewN ?_ _) | (with_reducible refine Kd.C_drew ?_))); (case side2 => exact HC0_0.out); rintro e w7 ⟨v209, v212, rfl, ho0, ho1, hb⟩; refine ⟨_, rfl, ?_⟩; have n0_ := Aside0.mk (Kd.R_lower ho0 (bZ_ (by repeat (first | (with_reducible first | exact HB.out | apply bA_ | apply bN_ | apply bD_ | refine bS_ ?_ GE207.out) | exact HB.out)))); have n1_ := Aside0.mk (Kd.S_lower ho1 (bZ_ (by repeat (first | (with_reducible first | exact HB.out | apply bA_ | apply bN_ | apply bD_ | refine bS_ ?_ GE207.out) | exact HB.out)))); have n2_ := Aside0.mk (blk_below (g := gb207) (o := .cells #[.slice A0_0 l0_0.length c0_0] 30 (0, 0)) (by (with_reducible repeat (first | refine kN_ ?_ _ | refine kD_ ?_ | refine kA_ ?_ _)); exact BK207.out) hb); have n3_ := Aside0.mk (bP_ (by repeat (first | (with_reducible first | exact HB.out | apply bA_ | apply bN_ | apply bD_ | refine bS_ ?_ GE207.out) | exact HB.out)) hb); clear BK207; clear HB; have HO210 := n0_; have HO213 := n1_; have BK207 := n2_; have HB := n3_; clear n0_ n1_ n2_ n3_; (try clear hb); (try clear hb2); (try clear hk); (try clear hi); (try clear ho0); (try clear ho1); obtain ⟨Ao8, co8, eo8⟩ := Kd.R_slice HO210.out; subst eo8))
 go_loopg [9, 29] k (fun kq v9 v29 w' => ∃ (x9_1 : List Int) (x29_1 : Int), v29 = .int .i64 x29_1 ∧ Aside0 (spec_hiChances.l0 kq a1 a2 t208 t211 x9_1 t208 (t208.length : Int) x29_1 l0_0 = some r) ∧ Aside0 (kq ≤ k) ∧ Aside0 (Kd.R (Kd.int .i64) 3 w' w.heap.size (fun k_ => some k_ ≠ (v9 : Value).ownBlock) (.slice Ao8 t208.length co8) t208) ∧ Aside0 (Kd.S (Kd.slice 3 (Kd.int .i64)) 37 w' w.heap.size (fun k_ => some k_ ≠ ((.slice Ao8 t208.length co8) : Value).ownBlock ∧ some k_ ≠ (v9 : Value).ownBlock ∧ some k_ ≠ ((.slice Ao8 t208.length co8) : Value).ownBlock) v212 t211) ∧ Aside0 (Kd.R (Kd.int .i64) 3 w' w.heap.size (fun k_ => some k_ ≠ ((.slice Ao8 t208.length co8) : Value).ownBlock ∧ some k_ ≠ ((.slice Ao8 t208.length co8) : Value).ownBlock) v9 x9_1) ∧ Aside0 (Kd.R (Kd.int .i64) 3 w' w.heap.size (fun k_ => some k_ ≠ (v9 : Value).ownBlock) (.slice Ao8 t208.length co8) t208) ∧ Aside0 (w'.heap[gb207]? = some (.cells #[(.slice A0_0 l0_0.length c0_0)] 30 (0, 0))) ∧ Aside0 (Below w.heap.size w w'))
 case atStart => exact ⟨(([] : List Int)), (0), (by first | rfl | (simp; done) | (simp [*]; done)), H', ⟨Nat.le_refl _⟩, ⟨by (with_reducible repeat (first | apply Kd.R_alloc | apply Kd.R_drewN | apply Kd.R_drew)); exact Kd.R_mono HO210.out (fun _ hk => (by simp [Value.ownBlock]))⟩, ⟨by (with_reducible repeat (first | apply Kd.S_alloc | apply Kd.S_drewN | apply Kd.S_drew)); exact Kd.S_mono HO213.out (fun _ hk => ⟨hk, ⟨(by simp [Value.ownBlock]), hk⟩⟩)⟩, ⟨by first | exact Kd.R_nil _ _ _ _ _ | exact Kd.N_nil _ _ _ _ _ | exact Kd.V_nil _ _ _ _ _ | exact Kd.Q_nil _ _ _ _ _ | exact Kd.S_nil _ _ _ _ _⟩, ⟨by (with_reducible repeat (first | apply Kd.R_alloc | apply Kd.R_drewN | apply Kd.R_drew)); exact Kd.R_mono HO210.out (fun _ hk => (by simp [Value.ownBlock]))⟩, ⟨by (with_reducible repeat (first | refine kN_ ?_ _ | refine kD_ ?_ | refine kA_ ?_ _)); exact BK207.out⟩, ⟨by repeat (first | (with_reducible first | exact HB.out | apply bA_ | apply bN_ | apply bD_ | refine bS_ ?_ GE207.out) | exact HB.out)⟩⟩
 case round =>
  clear H'
  try clear p2
  try clear c8
  try clear hcz6_0
  try clear hfz6_0
  obtain ⟨x9_1, x29_1, rfl, HA, HK1, HO_7, HO_8, HO_9, HO_27, BK207, HB⟩ := hrel
  cases gk with
  | zero => exact absurd HA.out (by simp [spec_hiChances.l0])
  | succ k1 =>
   have H := HA.out
   clear HA
   simp only [spec_hiChances.l0] at H
   by_cases c9 : x29_1 < (t208.length : Int)
   ·rw [if_pos c9] at H
    have c9b0 : decide (x29_1 < (t208.length : Int)) = true := decide_eq_true c9
    clear c9
    by_cases c10 : 0 ≤ x29_1
    ·rw [if_pos c10] at H
     have c10b0 : decide (0 ≤ x29_1) = true := decide_eq_true c10
     clear c10
     by_cases c11 : x29_1 < (t208.length : Int)
     ·rw [if_pos c11] at H
      have c11b0 : decide (x29_1 < (t208.length : Int)) = true := decide_eq_true c11
      clear c11
      by_cases c12 : 0 ≤ (rd t208 x29_1)
      ·rw [if_pos c12] at H
       have c12b0 : decide (0 ≤ (rd t208 x29_1)) = true := decide_eq_true c12
       clear c12
       by_cases c13 : (rd t208 x29_1) < (l0_0.length : Int)
       ·rw [if_pos c13] at H
        have c13b0 : decide ((rd t208 x29_1) < (l0_0.length : Int)) = true := decide_eq_true c13
        clear c13
        have H' := Aside0.mk H
        clear H
        have p214 : 0 ≤ (x29_1 : Int) := of_decide_eq_true (by first | (with_reducible assumption) | assumption)
        have q214 : x29_1 < (t208.length : Int) := of_decide_eq_true (by first | (with_reducible assumption) | assumption)
        obtain ⟨ad214, e214, hx214_0⟩ := Kd.at_int (Kd.R_reads' HO_27.out).2.2 x29_1 p214 q214
        cases e214
        replace p214 := eq_true p214
        replace q214 := eq_true q214
        have hcz14_0 : wr.cell? ⟨gb207, 0, none⟩ = some (.slice A0_0 l0_0.length c0_0) := (blk_cell BK207.out 0).trans rfl
        have hfz14_0 := kF_ BK207.out 0
        have p215 : 0 ≤ ((rd t208 x29_1) : Int) := of_decide_eq_true (by first | (with_reducible assumption) | assumption)
        have q215 : (rd t208 x29_1) < (l0_0.length : Int) := of_decide_eq_true (by first | (with_reducible assumption) | assumption)
        obtain ⟨ad215, A215_0, c215_0, e215, hx215_0, hl215_0, hi215_0⟩ := at_L1 HR0_0.out (rd t208 x29_1) p215 q215
        cases e215
        replace hx215_0 := (HB.out.cell (World.block_lt_of_cell? w _ hx215_0)).trans hx215_0
        have HR215_0 := Aside0.mk hi215_0
        have HC215_0 := Aside0.mk hl215_0
        clear hi215_0 hl215_0
        replace p215 := eq_true p215
        replace q215 := eq_true q215
        go_wp2
        go_loopg [12, 39] k1 (fun kq v12 v39 w' => ∃ (x12_2 : Int) (x39_2 : Int), v12 = .int .i64 x12_2 ∧ v39 = .int .i64 x39_2 ∧ Aside0 (spec_hiChances.l1 kq a1 a2 t208 t211 x9_1 x12_2 t208 (t208.length : Int) x29_1 (rd_L1 l0_0 (rd t208 x29_1)) ((rd_L1 l0_0 (rd t208 x29_1)).length : Int) x39_2 l0_0 = some r) ∧ Aside0 (kq ≤ k1) ∧ Aside0 (Kd.R (Kd.int .i64) 3 w' w.heap.size (fun k_ => some k_ ≠ (u9 : Value).ownBlock) (.slice (some ad214) t208.length co8) t208) ∧ Aside0 (Kd.S (Kd.slice 3 (Kd.int .i64)) 37 w' w.heap.size (fun k_ => some k_ ≠ ((.slice (some ad214) t208.length co8) : Value).ownBlock ∧ some k_ ≠ (u9 : Value).ownBlock ∧ some k_ ≠ ((.slice (some ad214) t208.length co8) : Value).ownBlock) v212 t211) ∧ Aside0 (Kd.R (Kd.int .i64) 3 w' w.heap.size (fun k_ => some k_ ≠ ((.slice (some ad214) t208.length co8) : Value).ownBlock ∧ some k_ ≠ ((.slice (some ad214) t208.length co8) : Value).ownBlock) u9 x9_1) ∧ Aside0 (Kd.R (Kd.int .i64) 3 w' w.heap.size (fun k_ => some k_ ≠ (u9 : Value).ownBlock) (.slice (some ad214) t208.length co8) t208) ∧ Aside0 (w'.heap[gb207]? = some (.cells #[(.slice (some ad215) l0_0.length c0_0)] 30 (0, 0))) ∧ Aside0 (Below w.heap.size w w'))
        case atStart => exact ⟨(0), (0), (by first | rfl | (simp; done) | (simp [*]; done)), (by first | rfl | (simp; done) | (simp [*]; done)), H', ⟨Nat.le_refl _⟩, ⟨by (with_reducible repeat (first | apply Kd.R_alloc | apply Kd.R_drewN | apply Kd.R_drew)); exact HO_7.out⟩, ⟨by (with_reducible repeat (first | apply Kd.S_alloc | apply Kd.S_drewN | apply Kd.S_drew)); exact HO_8.out⟩, ⟨by (with_reducible repeat (first | apply Kd.R_alloc | apply Kd.R_drewN | apply Kd.R_drew)); exact HO_9.out⟩, ⟨by (with_reducible repeat (first | apply Kd.R_alloc | apply Kd.R_drewN | apply Kd.R_drew)); exact HO_27.out⟩, ⟨by (with_reducible repeat (first | refine kN_ ?_ _ | refine kD_ ?_ | refine kA_ ?_ _)); exact BK207.out⟩, ⟨by repeat (first | (with_reducible first | exact HB.out | apply bA_ | apply bN_ | apply bD_ | refine bS_ ?_ GE207.out) | exact HB.out)⟩⟩
        case round =>
         clear H'
         try clear c1
         try clear c2
         try clear p2
         try clear q2
         try clear hx2
         try clear c8
         try clear c9
         try clear c9b0
         try clear c10
         try clear c10b0
         try clear c11
         try clear c11b0
         try clear c12
         try clear c12b0
         try clear c13
         try clear c13b0
         try clear hcz14_0
         try clear hcz6_0
         try clear hfz14_0
         try clear hfz6_0
         try clear hx214_0
         try clear hx215_0
         try clear p2
         try clear p214
         try clear p215
         try clear q214
         try clear q215
         obtain ⟨x12_2, x39_2, rfl, rfl, HA, HK2, HO_7, HO_8, HO_9, HO_27, BK207, HB⟩ := hrel
         cases gk with
         | zero => exact absurd HA.out (by simp [spec_hiChances.l1])
         | succ k2 =>
          have H := HA.out
          clear HA
          simp only [spec_hiChances.l1] at H
          by_cases c15 : x39_2 < ((rd_L1 l0_0 (rd t208 x29_1)).length : Int)
          ·rw [if_pos c15] at H
           have c15b0 : decide (x39_2 < ((rd_L1 l0_0 (rd t208 x29_1)).length : Int)) = true := decide_eq_true c15
           clear c15
           by_cases c16 : 0 ≤ x39_2
           ·rw [if_pos c16] at H
            have c16b0 : decide (0 ≤ x39_2) = true := decide_eq_true c16
            clear c16
            by_cases c17 : x39_2 < ((rd_L1 l0_0 (rd t208 x29_1)).length : Int)
            ·rw [if_pos c17] at H
             have c17b0 : decide (x39_2 < ((rd_L1 l0_0 (rd t208 x29_1)).length : Int)) = true := decide_eq_true c17
             clear c17
             by_cases c18 : (rd (rd_L1 l0_0 (rd t208 x29_1)) x39_2) = a1
             ·rw [if_pos c18] at H
              have c18b0 : ((rd (rd_L1 l0_0 (rd t208 x29_1)) x39_2) == a1) = true := beq_iff_eq.mpr c18
              have c18b1 : ((rd (rd_L1 l0_0 (rd t208 x29_1)) x39_2) != a1) = false := bne_eq_false_iff_eq.mpr c18
              clear c18
              have H' := Aside0.mk H
              clear H
              have p216 : 0 ≤ (x39_2 : Int) := of_decide_eq_true (by first | (with_reducible assumption) | assumption)
              have q216 : x39_2 < ((rd_L1 l0_0 (rd t208 x29_1)).length : Int) := of_decide_eq_true (by first | (with_reducible assumption) | assumption)
              obtain ⟨ad216, e216, hx216_0⟩ := Kd.at_int HR215_0.out x39_2 p216 q216
              cases e216
              replace hx216_0 := (HB.out.cell (World.block_lt_of_cell? w _ hx216_0)).trans hx216_0
              replace p216 := eq_true p216
              replace q216 := eq_true q216
              go_wp2
              go_roundg k2
              case measure => have := HK1.out; have := HK2.out; omega
              case rel => exact ⟨(wrap64 (x12_2 + 1)), (wrap64 (x39_2 + 1)), (by first | rfl | (simp; done) | (simp [*]; done)), (by first | rfl | (simp; done) | (simp [*]; done)), H', ⟨by have := HK1.out; have := HK2.out; omega⟩, ⟨by (with_reducible repeat (first | apply Kd.R_alloc | apply Kd.R_drewN | apply Kd.R_drew)); exact HO_7.out⟩, ⟨by (with_reducible repeat (first | apply Kd.S_alloc | apply Kd.S_drewN | apply Kd.S_drew)); exact HO_8.out⟩, ⟨by (with_reducible repeat (first | apply Kd.R_alloc | apply Kd.R_drewN | apply Kd.R_drew)); exact HO_9.out⟩, ⟨by (with_reducible repeat (first | apply Kd.R_alloc | apply Kd.R_drewN | apply Kd.R_drew)); exact HO_27.out⟩, ⟨by (with_reducible repeat (first | refine kN_ ?_ _ | refine kD_ ?_ | refine kA_ ?_ _)); exact BK207.out⟩, ⟨by repeat (first | (with_reducible first | exact HB.out | apply bA_ | apply bN_ | apply bD_ | refine bS_ ?_ GE207.out) | exact HB.out)⟩⟩
             ·rw [if_neg c18] at H
              have c18b0 : ((rd (rd_L1 l0_0 (rd t208 x29_1)) x39_2) == a1) = false := beq_eq_false_iff_ne.mpr c18
              have c18b1 : ((rd (rd_L1 l0_0 (rd t208 x29_1)) x39_2) != a1) = true := bne_iff_ne.mpr c18
              have H' := Aside0.mk H
              clear H
              have p216 : 0 ≤ (x39_2 : Int) := of_decide_eq_true (by first | (with_reducible assumption) | assumption)
              have q216 : x39_2 < ((rd_L1 l0_0 (rd t208 x29_1)).length : Int) := of_decide_eq_true (by first | (with_reducible assumption) | assumption)
              obtain ⟨ad216, e216, hx216_0⟩ := Kd.at_int HR215_0.out x39_2 p216 q216
              cases e216
              replace hx216_0 := (HB.out.cell (World.block_lt_of_cell? w _ hx216_0)).trans hx216_0
              replace p216 := eq_true p216
              replace q216 := eq_true q216
              go_wp2
              go_roundg k2
              case measure => have := HK1.out; have := HK2.out; omega
              case rel => exact ⟨(x12_2), (wrap64 (x39_2 + 1)), (by first | rfl | (simp; done) | (simp [*]; done)), (by first | rfl | (simp; done) | (simp [*]; done)), H', ⟨by have := HK1.out; have := HK2.out; omega⟩, ⟨by (with_reducible repeat (first | apply Kd.R_alloc | apply Kd.R_drewN | apply Kd.R_drew)); exact HO_7.out⟩, ⟨by (with_reducible repeat (first | apply Kd.S_alloc | apply Kd.S_drewN | apply Kd.S_drew)); exact HO_8.out⟩, ⟨by (with_reducible repeat (first | apply Kd.R_alloc | apply Kd.R_drewN | apply Kd.R_drew)); exact HO_9.out⟩, ⟨by (with_reducible repeat (first | apply Kd.R_alloc | apply Kd.R_drewN | apply Kd.R_drew)); exact HO_27.out⟩, ⟨by (with_reducible repeat (first | refine kN_ ?_ _ | refine kD_ ?_ | refine kA_ ?_ _)); exact BK207.out⟩, ⟨by repeat (first | (with_reducible first | exact HB.out | apply bA_ | apply bN_ | apply bD_ | refine bS_ ?_ GE207.out) | exact HB.out)⟩⟩
            ·rw [if_neg c17] at H
             exact absurd H (by simp)
           ·rw [if_neg c16] at H
            exact absurd H (by simp)
          ·rw [if_neg c15] at H
           have c15b0 : decide (x39_2 < ((rd_L1 l0_0 (rd t208 x29_1)).length : Int)) = false := decide_eq_false c15
           clear c15
           by_cases c19 : x9_1.length < 17592186044416
           ·rw [if_pos c19] at H
            have LMc19 := Aside0.mk c19
            clear c19
            obtain ⟨y217, hy217⟩ : ∃ y_ : List Int, y_ = (x9_1 ++ [x12_2]) := ⟨_, rfl⟩
            replace H : (spec_hiChances.l0 k2 a1 a2 t208 t211 y217 t208 (t208.length : Int) (wrap64 (x29_1 + 1)) l0_0) = some r := by first | (rw [hy217]; with_reducible exact H) | (have H2_ := (Option.bind_some _ _).symm.trans H; rw [hy217]; with_reducible exact H2_) | (have H2_ := (Option.bind_some _ _).symm.trans H; with_reducible exact H2_) | with_reducible exact H | (rw [hy217]; exact H) | exact H
            have Ny217 := Aside0.mk hy217
            clear hy217
            have H' := Aside0.mk H
            clear H
            go_wp2_with (first | ((with_reducible refine gate_builtin (b := .append) (xs := #[.tmp 49, .tmp 51]) rfl ?_); at_builtin; refine Kd.R_append (Kd.int .i64) (w0 := w) w.heap.size rfl (.tmp 49) (.tmp 51) 37 3 (.int .i64 0) 8 rfl Try.underlying37 info3 rfl (by decide) (by omega) u9 x9_1 x12_2 [.int .i64 x12_2] (fun k_ => some k_ ≠ (.slice (some ad214) t208.length co8 : Value).ownBlock ∧ some k_ ≠ (.slice (some ad214) t208.length co8 : Value).ownBlock) (fun _ => False) rfl rfl ?aP (fun _ hk => hk.elim) ?aF ?aO ?aB ?aS ?aL ?_; (case aP => exact rfl); (case aB => exact (by repeat (first | (with_reducible first | exact HB.out | apply bA_ | apply bN_ | apply bD_ | refine bS_ ?_ GE207.out) | exact HB.out))); (case aF => exact (fun k_ hk => ⟨Kd.fresh' (Kd.R_lt (by (with_reducible repeat (first | apply Kd.R_alloc | apply Kd.R_drewN | apply Kd.R_drew)); exact HO_7.out)) k_ hk, Kd.fresh' (Kd.R_lt (by (with_reducible repeat (first | apply Kd.R_alloc | apply Kd.R_drewN | apply Kd.R_drew)); exact HO_27.out)) k_ hk⟩)); (case aO => exact (by (with_reducible repeat (first | apply Kd.R_alloc | apply Kd.R_drewN | apply Kd.R_drew)); exact HO_9.out)); (case aS => exact (bZ_ (by repeat (first | (with_reducible first | exact HB.out | apply bA_ | apply bN_ | apply bD_ | refine bS_ ?_ GE207.out) | exact HB.out)))); (case aL => have := LMc19.out; omega); intro v218 w20 ho hb hg hat; rw [← Ny217.out] at ho; have n0_ := Aside0.mk (Kd.R_after (ok := (fun _ => True)) (by (with_reducible repeat (first | apply Kd.R_alloc | apply Kd.R_drewN | apply Kd.R_drew)); exact Kd.R_mono HO_7.out (fun _ hk => ⟨trivial, hk⟩)) hg hat); have n1_ := Aside0.mk (Kd.S_after (ok := (fun k_ => some k_ ≠ (.slice (some ad214) t208.length co8 : Value).ownBlock ∧ some k_ ≠ (.slice (some ad214) t208.length co8 : Value).ownBlock)) (by (with_reducible repeat (first | apply Kd.S_alloc | apply Kd.S_drewN | apply Kd.S_drew)); exact Kd.S_mono HO_8.out (fun _ hk => ⟨⟨hk.1, hk.2.2⟩, hk.2.1⟩)) hg hat); have n2_ := Aside0.mk (Kd.R_after (ok := (fun _ => True)) (by (with_reducible repeat (first | apply Kd.R_alloc | apply Kd.R_drewN | apply Kd.R_drew)); exact Kd.R_mono HO_27.out (fun _ hk => ⟨trivial, hk⟩)) hg hat); have n3_ := Aside0.mk (blk_grown (g := gb207) (o := .cells #[.slice (some ad215) l0_0.length c0_0] 30 (0, 0)) (by (with_reducible repeat (first | refine kN_ ?_ _ | refine kD_ ?_ | refine kA_ ?_ _)); exact BK207.out) hg (Kd.R_ne HO_9.out BK207.out (by decide))); have n4_ := Aside0.mk (hb); have n5_ := Aside0.mk (ho); clear HO_7; clear HO_8; clear HO_27; clear BK207; clear HB; clear HO_9; have HO_7 := n0_; have HO_8 := n1_; have HO_27 := n2_; have BK207 := n3_; have HB := n4_; have HO219 := n5_; clear n0_ n1_ n2_ n3_ n4_ n5_; clear ho hb hg hat))
            go_roundg k2
            case measure => have := HK1.out; have := HK2.out; omega
            case rel => exact ⟨(y217), (wrap64 (x29_1 + 1)), (by first | rfl | (simp; done) | (simp [*]; done)), H', ⟨by have := HK1.out; have := HK2.out; omega⟩, ⟨by (with_reducible repeat (first | apply Kd.R_alloc | apply Kd.R_drewN | apply Kd.R_drew)); exact Kd.R_mono HO_7.out (fun _ hk => hk.2)⟩, ⟨by (with_reducible repeat (first | apply Kd.S_alloc | apply Kd.S_drewN | apply Kd.S_drew)); exact Kd.S_mono HO_8.out (fun _ hk => ⟨hk.1.1, ⟨hk.2, hk.1.2⟩⟩)⟩, ⟨by (with_reducible repeat (first | apply Kd.R_alloc | apply Kd.R_drewN | apply Kd.R_drew)); exact HO219.out⟩, ⟨by (with_reducible repeat (first | apply Kd.R_alloc | apply Kd.R_drewN | apply Kd.R_drew)); exact Kd.R_mono HO_27.out (fun _ hk => hk.2)⟩, ⟨by (with_reducible repeat (first | refine kN_ ?_ _ | refine kD_ ?_ | refine kA_ ?_ _)); exact BK207.out⟩, ⟨by repeat (first | (with_reducible first | exact HB.out | apply bA_ | apply bN_ | apply bD_ | refine bS_ ?_ GE207.out) | exact HB.out)⟩⟩
           ·rw [if_neg c19] at H
            exact absurd H (by simp)
       ·rw [if_neg c13] at H
        exact absurd H (by simp)
      ·rw [if_neg c12] at H
       exact absurd H (by simp)
     ·rw [if_neg c11] at H
      exact absurd H (by simp)
    ·rw [if_neg c10] at H
     exact absurd H (by simp)
   ·rw [if_neg c9] at H
    have c9b0 : decide (x29_1 < (t208.length : Int)) = false := decide_eq_false c9
    clear c9
    replace H := Option.bind_eq_some_iff.mp H
    obtain ⟨⟨t220, t221⟩, A210, H⟩ := H
    replace H : (if 0 ≤ (l0_0.length : Int) then (if ((l0_0.length : Int) : Int).toNat ≤ 17592186044416 then ((some (List.replicate ((l0_0.length : Int) : Int).toNat z27 : List (S27))).bind fun y224 => (if 0 ≤ a1 then (if a1 < (y224.length : Int) then (if 0 ≤ a2 then (if a2 < (y224.length : Int) then (spec_hiChances.l2 k1 t220 t221 ((y224.set (a1 : Int).toNat (⟨1, 1⟩ : S27)).set (a2 : Int).toNat (⟨0, 1⟩ : S27)) t208 (t208.length : Int) 0) else (none)) else (none)) else (none)) else (none))) else (none)) else (none)) = some r := H
    have A21 := Aside0.mk A210
    clear A210
    by_cases c22 : 0 ≤ (l0_0.length : Int)
    ·rw [if_pos c22] at H
     have c22b0 := eq_true c22
     have c22b1 : decide (0 ≤ (l0_0.length : Int)) = true := decide_eq_true c22
     clear c22
     by_cases c23 : ((l0_0.length : Int) : Int).toNat ≤ 17592186044416
     ·rw [if_pos c23] at H
      have c23b0 := eq_true c23
      have c23b1 : decide (((l0_0.length : Int) : Int).toNat ≤ 17592186044416) = true := decide_eq_true c23
      clear c23
      obtain ⟨y224, hy224⟩ : ∃ y_ : List (S27), y_ = (List.replicate ((l0_0.length : Int) : Int).toNat z27) := ⟨_, rfl⟩
      replace H : (if 0 ≤ a1 then (if a1 < (y224.length : Int) then (if 0 ≤ a2 then (if a2 < (y224.length : Int) then (spec_hiChances.l2 k1 t220 t221 ((y224.set (a1 : Int).toNat (⟨1, 1⟩ : S27)).set (a2 : Int).toNat (⟨0, 1⟩ : S27)) t208 (t208.length : Int) 0) else (none)) else (none)) else (none)) else (none)) = some r := by first | (rw [hy224]; with_reducible exact H) | (have H2_ := (Option.bind_some _ _).symm.trans H; rw [hy224]; with_reducible exact H2_) | (have H2_ := (Option.bind_some _ _).symm.trans H; with_reducible exact H2_) | with_reducible exact H | (rw [hy224]; exact H) | exact H
      have Ny224 := Aside0.mk hy224
      clear hy224
      by_cases c24 : 0 ≤ a1
      ·rw [if_pos c24] at H
       have c24b0 : decide (0 ≤ a1) = true := decide_eq_true c24
       clear c24
       by_cases c25 : a1 < (y224.length : Int)
       ·rw [if_pos c25] at H
        have c25b0 : decide (a1 < (y224.length : Int)) = true := decide_eq_true c25
        clear c25
        obtain ⟨y227, hy227⟩ : ∃ y_ : List (S27), y_ = (y224.set (a1 : Int).toNat (⟨1, 1⟩ : S27)) := ⟨_, rfl⟩
        replace H : (if 0 ≤ a2 then (if a2 < (y224.length : Int) then (spec_hiChances.l2 k1 t220 t221 (y227.set (a2 : Int).toNat (⟨0, 1⟩ : S27)) t208 (t208.length : Int) 0) else (none)) else (none)) = some r := by first | (rw [hy227]; with_reducible exact H) | (have H2_ := (Option.bind_some _ _).symm.trans H; rw [hy227]; with_reducible exact H2_) | (have H2_ := (Option.bind_some _ _).symm.trans H; with_reducible exact H2_) | with_reducible exact H | (rw [hy227]; exact H) | exact H
        have Ny227 := Aside0.mk hy227
        clear hy227
        by_cases c27 : 0 ≤ a2
        ·rw [if_pos c27] at H
         have c27b0 : decide (0 ≤ a2) = true := decide_eq_true c27
         clear c27
         by_cases c28 : a2 < (y224.length : Int)
         ·rw [if_pos c28] at H
          have c28b0 : decide (a2 < (y224.length : Int)) = true := decide_eq_true c28
          clear c28
          obtain ⟨y228, hy228⟩ : ∃ y_ : List (S27), y_ = (y227.set (a2 : Int).toNat (⟨0, 1⟩ : S27)) := ⟨_, rfl⟩
          replace H : (spec_hiChances.l2 k1 t220 t221 y228 t208 (t208.length : Int) 0) = some r := by first | (rw [hy228]; with_reducible exact H) | (have H2_ := (Option.bind_some _ _).symm.trans H; rw [hy228]; with_reducible exact H2_) | (have H2_ := (Option.bind_some _ _).symm.trans H; with_reducible exact H2_) | with_reducible exact H | (rw [hy228]; exact H) | exact H
          have Ny228 := Aside0.mk hy228
          clear hy228
          have H' := Aside0.mk H
          clear H
          obtain ⟨Ao30, co30, eo30⟩ := Kd.S_slice HO_8.out
          subst eo30
          obtain ⟨Ao31, co31, eo31⟩ := Kd.R_slice HO_9.out
          subst eo31
          go_wp2_with (first | ((with_reducible refine gate_callee (f := 89) rfl ?_); refine goesL_ (some 57) rfl rfl Try.func89 (by kernel_rfl) rfl #[.slice Ao30 t211.length co30, .slice Ao31 x9_1.length co31] rfl (by (try simp only [List.map_toArray, List.map_cons, List.map_nil]); first | done | rfl | (simp only [List.length_drop, List.length_take]; rfl)) ?_; (with_reducible refine (spec_hiSolve.calls k1 _ _ t211 _ _ x9_1 t220 t221 _ ?side1 ?side2 ?side3 ?side4 A21.out).mono ?_); (case side1 => repeat (first | exact (Kd.S_reads' HO_8.out).2.2 | (with_reducible refine Kd.C_alloc ?_ _) | (with_reducible refine Kd.C_drewN ?_ _) | (with_reducible refine Kd.C_drew ?_))); (case side2 => exact (Kd.S_reads' HO_8.out).2.1); (case side3 => repeat (first | exact (Kd.R_reads' HO_9.out).2.2 | (with_reducible refine Kd.C_alloc ?_ _) | (with_reducible refine Kd.C_drewN ?_ _) | (with_reducible refine Kd.C_drew ?_))); (case side4 => exact (Kd.R_reads' HO_9.out).2.1); rintro e w32 ⟨v222, rfl, ho0, hb⟩; refine ⟨_, rfl, ?_⟩; have n0_ := Aside0.mk (Kd.R_elder' (by (with_reducible repeat (first | apply Kd.R_alloc | apply Kd.R_drewN | apply Kd.R_drew)); exact HO_7.out) (Kd.R_base ho0) hb); have n1_ := Aside0.mk (Kd.S_elder' (by (with_reducible repeat (first | apply Kd.S_alloc | apply Kd.S_drewN | apply Kd.S_drew)); exact HO_8.out) (Kd.R_base ho0) hb); have n2_ := Aside0.mk (Kd.R_elder' (by (with_reducible repeat (first | apply Kd.R_alloc | apply Kd.R_drewN | apply Kd.R_drew)); exact HO_9.out) (Kd.R_base ho0) hb); have n3_ := Aside0.mk (Kd.R_elder' (by (with_reducible repeat (first | apply Kd.R_alloc | apply Kd.R_drewN | apply Kd.R_drew)); exact HO_27.out) (Kd.R_base ho0) hb); have n4_ := Aside0.mk (Kd.R_lower (Kd.R_new' (Kd.R_new' (Kd.R_new' ho0 (Kd.R_lt (by (with_reducible repeat (first | apply Kd.R_alloc | apply Kd.R_drewN | apply Kd.R_drew)); exact HO_7.out))) (Kd.R_lt (by (with_reducible repeat (first | apply Kd.R_alloc | apply Kd.R_drewN | apply Kd.R_drew)); exact HO_9.out))) (Kd.R_lt (by (with_reducible repeat (first | apply Kd.R_alloc | apply Kd.R_drewN | apply Kd.R_drew)); exact HO_27.out))) (bZ_ (by repeat (first | (with_reducible first | exact HB.out | apply bA_ | apply bN_ | apply bD_ | refine bS_ ?_ GE207.out) | exact HB.out)))); have n5_ := Aside0.mk (blk_below (g := gb207) (o := .cells #[.slice A0_0 l0_0.length c0_0] 30 (0, 0)) (by (with_reducible repeat (first | refine kN_ ?_ _ | refine kD_ ?_ | refine kA_ ?_ _)); exact BK207.out) hb); have n6_ := Aside0.mk (bP_ (by repeat (first | (with_reducible first | exact HB.out | apply bA_ | apply bN_ | apply bD_ | refine bS_ ?_ GE207.out) | exact HB.out)) hb); clear HO_7; clear HO_8; clear HO_9; clear HO_27; clear BK207; clear HB; have HO_7 := n0_; have HO_8 := n1_; have HO_9 := n2_; have HO_27 := n3_; have HO223 := n4_; have BK207 := n5_; have HB := n6_; clear n0_ n1_ n2_ n3_ n4_ n5_ n6_; (try clear hb); (try clear hb2); (try clear hk); (try clear hi); (try clear ho0); have hcz33_0 : w32.cell? ⟨gb207, 0, none⟩ = some (.slice A0_0 l0_0.length c0_0) := (blk_cell BK207.out 0).trans rfl; have hfz33_0 := kF_ BK207.out 0) | ((with_reducible refine gate_dst (N := 63) rfl ?_); refine Kd.R_make k27 _ 27 rfl (N := 63) rfl 49 _ _ rfl (l0_0.length : Int) rfl rfl Try.underlying49 (.agg #[(.int .i64 0), (.int .i64 0)]) 16 info27 rfl (by decide) (by omega) z27 (ok := fun _ => True) (okp := fun _ => True) (k27_mkM _ _ _ z27 ) (fun _ hk => hk) trivial (of_decide_eq_true (by first | (with_reducible assumption) | assumption)) (Nat.le_trans (Nat.mul_le_mul_right _ (of_decide_eq_true (by first | (with_reducible assumption) | assumption) : (l0_0.length : Int).toNat ≤ 17592186044416)) (by omega)) (Below.refl _ _) (Nat.le_refl _) ?_; intro v225 w34 ho35 hb hg_ hnew_; clear hg_ hnew_; (first | rw [← Ny224.out] at ho35 | (simp only [Int.reduceToNat] at ho35; rw [← Ny224.out] at ho35)); have n0_ := Aside0.mk (Kd.R_below (by (with_reducible repeat (first | apply Kd.R_alloc | apply Kd.R_drewN | apply Kd.R_drew)); exact HO_7.out) hb); have n1_ := Aside0.mk (Kd.S_below (by (with_reducible repeat (first | apply Kd.S_alloc | apply Kd.S_drewN | apply Kd.S_drew)); exact HO_8.out) hb); have n2_ := Aside0.mk (Kd.R_below (by (with_reducible repeat (first | apply Kd.R_alloc | apply Kd.R_drewN | apply Kd.R_drew)); exact HO_9.out) hb); have n3_ := Aside0.mk (Kd.R_below (by (with_reducible repeat (first | apply Kd.R_alloc | apply Kd.R_drewN | apply Kd.R_drew)); exact HO_27.out) hb); have n4_ := Aside0.mk (Kd.R_below (by (with_reducible repeat (first | apply Kd.R_alloc | apply Kd.R_drewN | apply Kd.R_drew)); exact HO223.out) hb); have n5_ := Aside0.mk (Kd.R_lower ho35 (bZ_ (by repeat (first | (with_reducible first | exact HB.out | apply bA_ | apply bN_ | apply bD_ | refine bS_ ?_ GE207.out) | exact HB.out)))); have n6_ := Aside0.mk (blk_below (g := gb207) (o := .cells #[.slice A0_0 l0_0.length c0_0] 30 (0, 0)) (by (with_reducible repeat (first | refine kN_ ?_ _ | refine kD_ ?_ | refine kA_ ?_ _)); exact BK207.out) hb); have n7_ := Aside0.mk (bP_ (by repeat (first | (with_reducible first | exact HB.out | apply bA_ | apply bN_ | apply bD_ | refine bS_ ?_ GE207.out) | exact HB.out)) hb); clear HO_7; clear HO_8; clear HO_9; clear HO_27; clear HO223; clear BK207; clear HB; have HO_7 := n0_; have HO_8 := n1_; have HO_9 := n2_; have HO_27 := n3_; have HO223 := n4_; have HO226 := n5_; have BK207 := n6_; have HB := n7_; clear n0_ n1_ n2_ n3_ n4_ n5_ n6_ n7_; clear hb ho35; have p26 : 0 ≤ (a1 : Int) := of_decide_eq_true (by first | (with_reducible assumption) | assumption); have q26 : (a1 : Int) < ((y224.length : Int) : Int) := of_decide_eq_true (by first | (with_reducible assumption) | assumption); obtain ⟨go26, co26, eo26, gb26, gl26, cl26, HG26⟩ := Kd.R_form HO226.out (by omega); (first | cases eo26 | (injection eo26 with ea_ en_ ec_; (first | subst ea_ | (injection ea_ with ea_; subst ea_)); subst ec_; clear en_)); have GB26 := Aside0.mk gb26; have GG26 := Aside0.mk HG26; clear gb26 gl26 HG26; obtain ⟨ce26, hcl26, hM26, hcc26, hfr26⟩ := Kd.R_elem HO226.out z27 (a1 : Int) p26 q26; obtain rfl := k27_openM hM26; have hx26_0 : w34.cell? ⟨go26, (a1 : Int).toNat * 2, none⟩ = some (.int .i64 ((rd_T27 y224 a1).f0)) := hcc26 0 _ rfl; have hx26_1 : w34.cell? ⟨go26, (a1 : Int).toNat * 2 + 1, none⟩ = some (.int .i64 ((rd_T27 y224 a1).f1)) := hcc26 1 _ rfl; have hf26_0 : w34.frozen? ⟨go26, (a1 : Int).toNat * 2, none⟩ = false := hfr26 0; have hf26_1 : w34.frozen? ⟨go26, (a1 : Int).toNat * 2 + 1, none⟩ = false := hfr26 1; clear hcl26 hcc26 hfr26; (try clear hM26); replace p26 := eq_true p26; replace q26 := eq_true q26; have HX36 := Aside0.mk (show Kd.R k27 27 w34 w.heap.size (fun _ => True) (.slice (some ⟨go26, 0, none⟩) y224.length co26) y224 from (by (with_reducible repeat (first | apply Kd.R_alloc | apply Kd.R_drewN | apply Kd.R_drew)); exact HO226.out)); obtain ⟨ce36, hcl36, hM36, hcc36, hfr36⟩ := Kd.R_elem HX36.out z27 (a1 : Int) (of_decide_eq_true (by first | (with_reducible assumption) | assumption)) (by have h_ : (a1 : Int) < ((y224.length : Int) : Int) := of_decide_eq_true (by first | (with_reducible assumption) | assumption); first | exact h_ | (have e_ := (Kd.R_reads' HO226.out).1; omega) | simpa using h_); obtain rfl := k27_openM hM36; have HP36 := Kd.R_seg HX36.out (a1 : Int) (of_decide_eq_true (by first | (with_reducible assumption) | assumption)) (by have h_ : (a1 : Int) < ((y224.length : Int) : Int) := of_decide_eq_true (by first | (with_reducible assumption) | assumption); first | exact h_ | (have e_ := (Kd.R_reads' HO226.out).1; omega) | simpa using h_) (seg := [.int .i64 1, .int .i64 1]) (j := 0) hcl36 hcc36 (show 2 ≤ 2 from by decide) (x' := (⟨1, 1⟩ : S27)) (k27_mkM _ _ _ (⟨1, 1⟩ : S27) ) (fun _ hk => hk); have hx36_0 := hcc36 0 _ rfl; (try simp only [show (k27).sz = 2 from rfl, Nat.mul_one, Nat.add_zero] at hx36_0); have hf36_0 := hfr36 0; (try simp only [show (k27).sz = 2 from rfl, Nat.mul_one, Nat.add_zero] at hf36_0); have hx36_1 := hcc36 1 _ rfl; (try simp only [show (k27).sz = 2 from rfl, Nat.mul_one, Nat.add_zero] at hx36_1); have hf36_1 := hfr36 1; (try simp only [show (k27).sz = 2 from rfl, Nat.mul_one, Nat.add_zero] at hf36_1); clear hcl36 hcc36 hfr36; (try clear hM36)) | ((with_reducible refine gate_store (t := 27) (p := 67) rfl ?_); refine store_event (t := 27) (p := 67) (v := ?vo_w37) (w1 := ((w34.setCell ⟨go26, (a1 : Int).toNat * 2, none⟩ (.int .i64 1)).setCell ⟨go26, (a1 : Int).toNat * 2 + 1, none⟩ (.int .i64 1))) ?hg ?ho ?hn ?hr ?_; (case ho => rfl); (case hg => rfl); (case hn => rfl); (case hr => first | (go_simp; done) | (go_simp; rfl)); intro w37 hw; have hg : w34.grownBy w37 (some go26) := (by rw [hw]; exact HP36.2); have hp_ : Kd.R k27 27 w37 w.heap.size (fun _ => True) (.slice (some ⟨go26, 0, none⟩) y224.length co26) y227 := (by rw [hw, Ny227.out]; exact HP36.1); clear HP36; have n0_ := Aside0.mk (Kd.R_over' (v := (.slice (some ⟨go26, 0, none⟩) y224.length co26)) (by (with_reducible repeat (first | apply Kd.R_alloc | apply Kd.R_drewN | apply Kd.R_drew)); exact HO_7.out) (Kd.R_typed HO226.out) (by decide) hg); have n1_ := Aside0.mk (Kd.S_over' (v := (.slice (some ⟨go26, 0, none⟩) y224.length co26)) (by (with_reducible repeat (first | apply Kd.S_alloc | apply Kd.S_drewN | apply Kd.S_drew)); exact HO_8.out) (Kd.R_typed HO226.out) (by decide) hg); have n2_ := Aside0.mk (Kd.R_over' (v := (.slice (some ⟨go26, 0, none⟩) y224.length co26)) (by (with_reducible repeat (first | apply Kd.R_alloc | apply Kd.R_drewN | apply Kd.R_drew)); exact HO_9.out) (Kd.R_typed HO226.out) (by decide) hg); have n3_ := Aside0.mk (Kd.R_over' (v := (.slice (some ⟨go26, 0, none⟩) y224.length co26)) (by (with_reducible repeat (first | apply Kd.R_alloc | apply Kd.R_drewN | apply Kd.R_drew)); exact HO_27.out) (Kd.R_typed HO226.out) (by decide) hg); have n4_ := Aside0.mk (blk_grown (g := gb207) (o := .cells #[.slice A0_0 l0_0.length c0_0] 30 (0, 0)) (by (with_reducible repeat (first | refine kN_ ?_ _ | refine kD_ ?_ | refine kA_ ?_ _)); exact BK207.out) hg (Kd.R_ne HO226.out BK207.out (by decide))); have n5_ := Aside0.mk (Kd.R_over' (v := (.slice (some ⟨go26, 0, none⟩) y224.length co26)) (by (with_reducible repeat (first | apply Kd.R_alloc | apply Kd.R_drewN | apply Kd.R_drew)); exact HO223.out) (Kd.R_typed HO226.out) (by decide) hg); have n6_ := Aside0.mk (hp_); have n7_ := Aside0.mk ((by rw [hw]; exact bS_ (bS_ (HB.out) GB26.out) GB26.out : Below w.heap.size w w37)); clear HO_7; clear HO_8; clear HO_9; clear HO_27; clear BK207; clear HO223; clear HO226; clear HB; have HO_7 := n0_; have HO_8 := n1_; have HO_9 := n2_; have HO_27 := n3_; have BK207 := n4_; have HO223 := n5_; have HO226 := n6_; have HB := n7_; clear n0_ n1_ n2_ n3_ n4_ n5_ n6_ n7_; clear hg hw hp_; have p29 : 0 ≤ (a2 : Int) := of_decide_eq_true (by first | (with_reducible assumption) | assumption); have q29 : (a2 : Int) < ((y224.length : Int) : Int) := of_decide_eq_true (by first | (with_reducible assumption) | assumption); obtain ⟨ce29, hcl29, hM29, hcc29, hfr29⟩ := Kd.R_elem HO226.out z27 (a2 : Int) p29 q29; obtain rfl := k27_openM hM29; have hx29_0 : w37.cell? ⟨go26, (a2 : Int).toNat * 2, none⟩ = some (.int .i64 ((rd_T27 y227 a2).f0)) := hcc29 0 _ rfl; have hx29_1 : w37.cell? ⟨go26, (a2 : Int).toNat * 2 + 1, none⟩ = some (.int .i64 ((rd_T27 y227 a2).f1)) := hcc29 1 _ rfl; have hf29_0 : w37.frozen? ⟨go26, (a2 : Int).toNat * 2, none⟩ = false := hfr29 0; have hf29_1 : w37.frozen? ⟨go26, (a2 : Int).toNat * 2 + 1, none⟩ = false := hfr29 1; clear hcl29 hcc29 hfr29; (try clear hM29); replace p29 := eq_true p29; replace q29 := eq_true q29; have HX38 := Aside0.mk (show Kd.R k27 27 w37 w.heap.size (fun _ => True) (.slice (some ⟨go26, 0, none⟩) y224.length co26) y227 from (by (with_reducible repeat (first | apply Kd.R_alloc | apply Kd.R_drewN | apply Kd.R_drew)); exact HO226.out)); obtain ⟨ce38, hcl38, hM38, hcc38, hfr38⟩ := Kd.R_elem HX38.out z27 (a2 : Int) (of_decide_eq_true (by first | (with_reducible assumption) | assumption)) (by have h_ : (a2 : Int) < ((y224.length : Int) : Int) := of_decide_eq_true (by first | (with_reducible assumption) | assumption); first | exact h_ | (have e_ := (Kd.R_reads' HO226.out).1; omega) | simpa using h_); obtain rfl := k27_openM hM38; have HP38 := Kd.R_seg HX38.out (a2 : Int) (of_decide_eq_true (by first | (with_reducible assumption) | assumption)) (by have h_ : (a2 : Int) < ((y224.length : Int) : Int) := of_decide_eq_true (by first | (with_reducible assumption) | assumption); first | exact h_ | (have e_ := (Kd.R_reads' HO226.out).1; omega) | simpa using h_) (seg := [.int .i64 0, .int .i64 1]) (j := 0) hcl38 hcc38 (show 2 ≤ 2 from by decide) (x' := (⟨0, 1⟩ : S27)) (k27_mkM _ _ _ (⟨0, 1⟩ : S27) ) (fun _ hk => hk); have hx38_0 := hcc38 0 _ rfl; (try simp only [show (k27).sz = 2 from rfl, Nat.mul_one, Nat.add_zero] at hx38_0); have hf38_0 := hfr38 0; (try simp only [show (k27).sz = 2 from rfl, Nat.mul_one, Nat.add_zero] at hf38_0); have hx38_1 := hcc38 1 _ rfl; (try simp only [show (k27).sz = 2 from rfl, Nat.mul_one, Nat.add_zero] at hx38_1); have hf38_1 := hfr38 1; (try simp only [show (k27).sz = 2 from rfl, Nat.mul_one, Nat.add_zero] at hf38_1); clear hcl38 hcc38 hfr38; (try clear hM38)) | ((with_reducible refine gate_store (t := 27) (p := 71) rfl ?_); refine store_event (t := 27) (p := 71) (v := ?vo_w39) (w1 := ((w37.setCell ⟨go26, (a2 : Int).toNat * 2, none⟩ (.int .i64 0)).setCell ⟨go26, (a2 : Int).toNat * 2 + 1, none⟩ (.int .i64 1))) ?hg ?ho ?hn ?hr ?_; (case ho => rfl); (case hg => rfl); (case hn => rfl); (case hr => first | (go_simp; done) | (go_simp; rfl)); intro w39 hw; have hg : w37.grownBy w39 (some go26) := (by rw [hw]; exact HP38.2); have hp_ : Kd.R k27 27 w39 w.heap.size (fun _ => True) (.slice (some ⟨go26, 0, none⟩) y224.length co26) y228 := (by rw [hw, Ny228.out]; exact HP38.1); clear HP38; have n0_ := Aside0.mk (Kd.R_over' (v := (.slice (some ⟨go26, 0, none⟩) y224.length co26)) (by (with_reducible repeat (first | apply Kd.R_alloc | apply Kd.R_drewN | apply Kd.R_drew)); exact HO_7.out) (Kd.R_typed HO226.out) (by decide) hg); have n1_ := Aside0.mk (Kd.S_over' (v := (.slice (some ⟨go26, 0, none⟩) y224.length co26)) (by (with_reducible repeat (first | apply Kd.S_alloc | apply Kd.S_drewN | apply Kd.S_drew)); exact HO_8.out) (Kd.R_typed HO226.out) (by decide) hg); have n2_ := Aside0.mk (Kd.R_over' (v := (.slice (some ⟨go26, 0, none⟩) y224.length co26)) (by (with_reducible repeat (first | apply Kd.R_alloc | apply Kd.R_drewN | apply Kd.R_drew)); exact HO_9.out) (Kd.R_typed HO226.out) (by decide) hg); have n3_ := Aside0.mk (Kd.R_over' (v := (.slice (some ⟨go26, 0, none⟩) y224.length co26)) (by (with_reducible repeat (first | apply Kd.R_alloc | apply Kd.R_drewN | apply Kd.R_drew)); exact HO_27.out) (Kd.R_typed HO226.out) (by decide) hg); have n4_ := Aside0.mk (blk_grown (g := gb207) (o := .cells #[.slice A0_0 l0_0.length c0_0] 30 (0, 0)) (by (with_reducible repeat (first | refine kN_ ?_ _ | refine kD_ ?_ | refine kA_ ?_ _)); exact BK207.out) hg (Kd.R_ne HO226.out BK207.out (by decide))); have n5_ := Aside0.mk (Kd.R_over' (v := (.slice (some ⟨go26, 0, none⟩) y224.length co26)) (by (with_reducible repeat (first | apply Kd.R_alloc | apply Kd.R_drewN | apply Kd.R_drew)); exact HO223.out) (Kd.R_typed HO226.out) (by decide) hg); have n6_ := Aside0.mk (hp_); have n7_ := Aside0.mk ((by rw [hw]; exact bS_ (bS_ (HB.out) GB26.out) GB26.out : Below w.heap.size w w39)); clear HO_7; clear HO_8; clear HO_9; clear HO_27; clear BK207; clear HO223; clear HO226; clear HB; have HO_7 := n0_; have HO_8 := n1_; have HO_9 := n2_; have HO_27 := n3_; have BK207 := n4_; have HO223 := n5_; have HO226 := n6_; have HB := n7_; clear n0_ n1_ n2_ n3_ n4_ n5_ n6_ n7_; clear hg hw hp_))
          go_loopg [74] k1 (fun kq v74 w' => ∃ (x17_2 : List (S27)) (x74_2 : Int), v74 = .int .i64 x74_2 ∧ Aside0 (spec_hiChances.l2 kq t220 t221 x17_2 t208 (t208.length : Int) x74_2 = some r) ∧ Aside0 (kq ≤ k1) ∧ Aside0 (Kd.R (Kd.int .i64) 3 w' w.heap.size (fun k_ => some k_ ≠ ((.slice Ao8 t208.length co8) : Value).ownBlock) v222 t220) ∧ Aside0 (Kd.R k27 27 w' w.heap.size (fun _ => True) (.slice (some ⟨go26, 0, none⟩) y224.length co26) x17_2) ∧ Aside0 (Kd.R (Kd.int .i64) 3 w' w.heap.size (fun k_ => some k_ ≠ (v222 : Value).ownBlock) (.slice Ao8 t208.length co8) t208) ∧ Aside0 (w'.heap[gb207]? = some (.cells #[(.slice A0_0 l0_0.length c0_0)] 30 (0, 0))) ∧ Aside0 (Below w.heap.size w w'))
          case atStart => exact ⟨(y228), (0), (by first | rfl | (simp; done) | (simp [*]; done)), H', ⟨Nat.le_refl _⟩, ⟨by (with_reducible repeat (first | apply Kd.R_alloc | apply Kd.R_drewN | apply Kd.R_drew)); exact Kd.R_mono HO223.out (fun _ hk => hk.1.1.2)⟩, ⟨by (with_reducible repeat (first | apply Kd.R_alloc | apply Kd.R_drewN | apply Kd.R_drew)); exact HO226.out⟩, ⟨by (with_reducible repeat (first | apply Kd.R_alloc | apply Kd.R_drewN | apply Kd.R_drew)); exact Kd.R_mono HO_7.out (fun _ hk => hk.2)⟩, ⟨by (with_reducible repeat (first | refine kN_ ?_ _ | refine kD_ ?_ | refine kA_ ?_ _)); exact BK207.out⟩, ⟨by repeat (first | (with_reducible first | exact HB.out | apply bA_ | apply bN_ | apply bD_ | refine bS_ ?_ GE207.out) | exact HB.out)⟩⟩
          case round =>
           clear H'
           try clear c1
           try clear c2
           try clear p2
           try clear q2
           try clear hx2
           try clear c3
           try clear hx3
           try clear hf3
           try clear p6
           try clear c8
           try clear c9
           try clear c9b0
           try clear c10
           try clear c10b0
           try clear c11
           try clear c11b0
           try clear c12
           try clear c12b0
           try clear c13
           try clear c13b0
           try clear c15
           try clear c15b0
           try clear c16
           try clear c16b0
           try clear c17
           try clear c17b0
           try clear c18
           try clear c18b0
           try clear c18b1
           try clear c19
           try clear c21
           try clear p21
           try clear q21
           try clear hx21
           try clear c22
           try clear c22b0
           try clear c22b1
           try clear c23
           try clear c23b0
           try clear c23b1
           try clear c24
           try clear c24b0
           try clear c25
           try clear c25b0
           try clear c26
           try clear p26
           try clear q26
           try clear hx26
           try clear hf26
           try clear c27
           try clear c27b0
           try clear c28
           try clear c28b0
           try clear c29
           try clear p29
           try clear q29
           try clear hx29
           try clear hf29
           try clear c36
           try clear hx36
           try clear hf36
           try clear c38
           try clear hx38
           try clear hf38
           try clear hcz14_0
           try clear hcz33_0
           try clear hcz6_0
           try clear hfz14_0
           try clear hfz33_0
           try clear hfz6_0
           try clear hx214_0
           try clear hx215_0
           try clear hx216_0
           try clear hx26_0
           try clear hx26_1
           try clear hx29_0
           try clear hx29_1
           try clear hx36_0
           try clear hx36_1
           try clear hx38_0
           try clear hx38_1
           try clear p2
           try clear p214
           try clear p215
           try clear p216
           try clear p26
           try clear p29
           try clear q2
           try clear q214
           try clear q215
           try clear q216
           try clear q26
           try clear q29
           obtain ⟨x17_2, x74_2, rfl, HA, HK2, HO_15, HO_17, HO_72, BK207, HB⟩ := hrel
           have hl17_2 := (Kd.R_reads' HO_17.out).1
           rw [hl17_2] at HO_17
           (try simp only [hl17_2])
           (try simp only [hl17_2] at BK207)
           (try simp only [hl17_2] at HO_15)
           (try simp only [hl17_2] at HO_72)
           cases gk with
           | zero => exact absurd HA.out (by simp [spec_hiChances.l2])
           | succ k2 =>
            have H := HA.out
            clear HA
            simp only [spec_hiChances.l2] at H
            by_cases c40 : x74_2 < (t208.length : Int)
            ·rw [if_pos c40] at H
             have c40b0 : decide (x74_2 < (t208.length : Int)) = true := decide_eq_true c40
             clear c40
             by_cases c41 : 0 ≤ x74_2
             ·rw [if_pos c41] at H
              have c41b0 : decide (0 ≤ x74_2) = true := decide_eq_true c41
              clear c41
              by_cases c42 : x74_2 < (t208.length : Int)
              ·rw [if_pos c42] at H
               have c42b0 : decide (x74_2 < (t208.length : Int)) = true := decide_eq_true c42
               clear c42
               by_cases c43 : x74_2 < (t220.length : Int)
               ·rw [if_pos c43] at H
                have c43b0 : decide (x74_2 < (t220.length : Int)) = true := decide_eq_true c43
                clear c43
                replace H := Option.bind_eq_some_iff.mp H
                obtain ⟨⟨t231, t232⟩, A440, H⟩ := H
                replace H : (if 0 ≤ (rd t208 x74_2) then (if (rd t208 x74_2) < (x17_2.length : Int) then (spec_hiChances.l2 k2 t220 t221 (x17_2.set ((rd t208 x74_2) : Int).toNat (⟨t231, t232⟩ : S27)) t208 (t208.length : Int) (wrap64 (x74_2 + 1))) else (none)) else (none)) = some r := H
                have A44 := Aside0.mk A440
                clear A440
                by_cases c45 : 0 ≤ (rd t208 x74_2)
                ·rw [if_pos c45] at H
                 have c45b0 : decide (0 ≤ (rd t208 x74_2)) = true := decide_eq_true c45
                 clear c45
                 by_cases c46 : (rd t208 x74_2) < (x17_2.length : Int)
                 ·rw [if_pos c46] at H
                  have c46b0 : decide ((rd t208 x74_2) < (x17_2.length : Int)) = true := decide_eq_true c46
                  clear c46
                  obtain ⟨y233, hy233⟩ : ∃ y_ : List (S27), y_ = (x17_2.set ((rd t208 x74_2) : Int).toNat (⟨t231, t232⟩ : S27)) := ⟨_, rfl⟩
                  replace H : (spec_hiChances.l2 k2 t220 t221 y233 t208 (t208.length : Int) (wrap64 (x74_2 + 1))) = some r := by first | (rw [hy233]; with_reducible exact H) | (have H2_ := (Option.bind_some _ _).symm.trans H; rw [hy233]; with_reducible exact H2_) | (have H2_ := (Option.bind_some _ _).symm.trans H; with_reducible exact H2_) | with_reducible exact H | (rw [hy233]; exact H) | exact H
                  have Ny233 := Aside0.mk hy233
                  clear hy233
                  have H' := Aside0.mk H
                  clear H
                  have p229 : 0 ≤ (x74_2 : Int) := of_decide_eq_true (by first | (with_reducible assumption) | assumption)
                  have q229 : x74_2 < (t208.length : Int) := of_decide_eq_true (by first | (with_reducible assumption) | assumption)
                  obtain ⟨ad229, e229, hx229_0⟩ := Kd.at_int (Kd.R_reads' HO_72.out).2.2 x74_2 p229 q229
                  cases e229
                  replace p229 := eq_true p229
                  replace q229 := eq_true q229
                  obtain ⟨Ao48, co48, eo48⟩ := Kd.R_slice HO_15.out
                  subst eo48
                  have p230 : 0 ≤ (x74_2 : Int) := of_decide_eq_true (by first | (with_reducible assumption) | assumption)
                  have q230 : x74_2 < (t220.length : Int) := of_decide_eq_true (by first | (with_reducible assumption) | assumption)
                  obtain ⟨ad230, e230, hx230_0⟩ := Kd.at_int (Kd.R_reads' HO_15.out).2.2 x74_2 p230 q230
                  cases e230
                  replace p230 := eq_true p230
                  replace q230 := eq_true q230
                  go_wp2_with (first | ((with_reducible refine gate_callee (f := 74) rfl ?_); refine goesL_ (some 86) rfl rfl Try.func74 (by kernel_rfl) rfl #[.int .i64 (rd t220 x74_2), .int .i64 t221] rfl (by (try simp only [List.map_toArray, List.map_cons, List.map_nil]); first | done | rfl | (simp only [List.length_drop, List.length_take]; rfl)) ?_; (with_reducible refine (spec_hiRatio.calls k2 (rd t220 x74_2) t221 t231 t232 _ A44.out).mono ?_); rintro e w49 ⟨rfl, hb⟩; refine ⟨_, rfl, ?_⟩; have n0_ := Aside0.mk (Kd.R_below (by (with_reducible repeat (first | apply Kd.R_alloc | apply Kd.R_drewN | apply Kd.R_drew)); exact HO_15.out) hb); have n1_ := Aside0.mk (Kd.R_below (by (with_reducible repeat (first | apply Kd.R_alloc | apply Kd.R_drewN | apply Kd.R_drew)); exact HO_17.out) hb); have n2_ := Aside0.mk (Kd.R_below (by (with_reducible repeat (first | apply Kd.R_alloc | apply Kd.R_drewN | apply Kd.R_drew)); exact HO_72.out) hb); have n3_ := Aside0.mk (blk_below (g := gb207) (o := .cells #[.slice A0_0 l0_0.length c0_0] 30 (0, 0)) (by (with_reducible repeat (first | refine kN_ ?_ _ | refine kD_ ?_ | refine kA_ ?_ _)); exact BK207.out) hb); have n4_ := Aside0.mk (bP_ (by repeat (first | (with_reducible first | exact HB.out | apply bA_ | apply bN_ | apply bD_ | refine bS_ ?_ GE207.out) | exact HB.out)) hb); clear HO_15; clear HO_17; clear HO_72; clear BK207; clear HB; have HO_15 := n0_; have HO_17 := n1_; have HO_72 := n2_; have BK207 := n3_; have HB := n4_; clear n0_ n1_ n2_ n3_ n4_; (try clear hb); (try clear hb2); (try clear hk); (try clear hi); have p47 : 0 ≤ ((rd t208 x74_2) : Int) := of_decide_eq_true (by first | (with_reducible assumption) | assumption); have q47 : ((rd t208 x74_2) : Int) < ((x17_2.length : Int) : Int) := of_decide_eq_true (by first | (with_reducible assumption) | assumption); obtain ⟨ce47, hcl47, hM47, hcc47, hfr47⟩ := Kd.R_elem HO_17.out z27 ((rd t208 x74_2) : Int) p47 q47; obtain rfl := k27_openM hM47; have hx47_0 : w49.cell? ⟨go26, ((rd t208 x74_2) : Int).toNat * 2, none⟩ = some (.int .i64 ((rd_T27 x17_2 (rd t208 x74_2)).f0)) := hcc47 0 _ rfl; have hx47_1 : w49.cell? ⟨go26, ((rd t208 x74_2) : Int).toNat * 2 + 1, none⟩ = some (.int .i64 ((rd_T27 x17_2 (rd t208 x74_2)).f1)) := hcc47 1 _ rfl; have hf47_0 : w49.frozen? ⟨go26, ((rd t208 x74_2) : Int).toNat * 2, none⟩ = false := hfr47 0; have hf47_1 : w49.frozen? ⟨go26, ((rd t208 x74_2) : Int).toNat * 2 + 1, none⟩ = false := hfr47 1; clear hcl47 hcc47 hfr47; (try clear hM47); replace p47 := eq_true p47; replace q47 := eq_true q47; have HX50 := Aside0.mk (show Kd.R k27 27 w49 w.heap.size (fun _ => True) (.slice (some ⟨go26, 0, none⟩) x17_2.length co26) x17_2 from (by (with_reducible repeat (first | apply Kd.R_alloc | apply Kd.R_drewN | apply Kd.R_drew)); exact HO_17.out)); obtain ⟨ce50, hcl50, hM50, hcc50, hfr50⟩ := Kd.R_elem HX50.out z27 ((rd t208 x74_2) : Int) (of_decide_eq_true (by first | (with_reducible assumption) | assumption)) (by have h_ : ((rd t208 x74_2) : Int) < ((x17_2.length : Int) : Int) := of_decide_eq_true (by first | (with_reducible assumption) | assumption); first | exact h_ | (have e_ := (Kd.R_reads' HO_17.out).1; omega) | simpa using h_); obtain rfl := k27_openM hM50; have HP50 := Kd.R_seg HX50.out ((rd t208 x74_2) : Int) (of_decide_eq_true (by first | (with_reducible assumption) | assumption)) (by have h_ : ((rd t208 x74_2) : Int) < ((x17_2.length : Int) : Int) := of_decide_eq_true (by first | (with_reducible assumption) | assumption); first | exact h_ | (have e_ := (Kd.R_reads' HO_17.out).1; omega) | simpa using h_) (seg := [.int .i64 t231, .int .i64 t232]) (j := 0) hcl50 hcc50 (show 2 ≤ 2 from by decide) (x' := (⟨t231, t232⟩ : S27)) (k27_mkM _ _ _ (⟨t231, t232⟩ : S27) ) (fun _ hk => hk); have hx50_0 := hcc50 0 _ rfl; (try simp only [show (k27).sz = 2 from rfl, Nat.mul_one, Nat.add_zero] at hx50_0); have hf50_0 := hfr50 0; (try simp only [show (k27).sz = 2 from rfl, Nat.mul_one, Nat.add_zero] at hf50_0); have hx50_1 := hcc50 1 _ rfl; (try simp only [show (k27).sz = 2 from rfl, Nat.mul_one, Nat.add_zero] at hx50_1); have hf50_1 := hfr50 1; (try simp only [show (k27).sz = 2 from rfl, Nat.mul_one, Nat.add_zero] at hf50_1); clear hcl50 hcc50 hfr50; (try clear hM50)) | ((with_reducible refine gate_store (t := 27) (p := 87) rfl ?_); refine store_event (t := 27) (p := 87) (v := ?vo_w51) (w1 := ((w49.setCell ⟨go26, ((rd t208 x74_2) : Int).toNat * 2, none⟩ (.int .i64 t231)).setCell ⟨go26, ((rd t208 x74_2) : Int).toNat * 2 + 1, none⟩ (.int .i64 t232))) ?hg ?ho ?hn ?hr ?_; (case ho => rfl); (case hg => rfl); (case hn => rfl); (case hr => first | (go_simp; done) | (go_simp; rfl)); intro w51 hw; have hg : w49.grownBy w51 (some go26) := (by rw [hw]; exact HP50.2); have hp_ : Kd.R k27 27 w51 w.heap.size (fun _ => True) (.slice (some ⟨go26, 0, none⟩) x17_2.length co26) y233 := (by rw [hw, Ny233.out]; exact HP50.1); clear HP50; have n0_ := Aside0.mk (Kd.R_over' (v := (.slice (some ⟨go26, 0, none⟩) x17_2.length co26)) (by (with_reducible repeat (first | apply Kd.R_alloc | apply Kd.R_drewN | apply Kd.R_drew)); exact HO_15.out) (Kd.R_typed HO_17.out) (by decide) hg); have n1_ := Aside0.mk (hp_); have n2_ := Aside0.mk (Kd.R_over' (v := (.slice (some ⟨go26, 0, none⟩) x17_2.length co26)) (by (with_reducible repeat (first | apply Kd.R_alloc | apply Kd.R_drewN | apply Kd.R_drew)); exact HO_72.out) (Kd.R_typed HO_17.out) (by decide) hg); have n3_ := Aside0.mk (blk_grown (g := gb207) (o := .cells #[.slice A0_0 l0_0.length c0_0] 30 (0, 0)) (by (with_reducible repeat (first | refine kN_ ?_ _ | refine kD_ ?_ | refine kA_ ?_ _)); exact BK207.out) hg (Kd.R_ne HO_17.out BK207.out (by decide))); have n4_ := Aside0.mk ((by rw [hw]; exact bS_ (bS_ (HB.out) GB26.out) GB26.out : Below w.heap.size w w51)); clear HO_15; clear HO_17; clear HO_72; clear BK207; clear HB; have HO_15 := n0_; have HO_17 := n1_; have HO_72 := n2_; have BK207 := n3_; have HB := n4_; clear n0_ n1_ n2_ n3_ n4_; clear hg hw hp_))
                  (try simp only [← hl17_2])
                  go_roundg k2
                  case measure => have := HK1.out; have := HK2.out; omega
                  case rel => exact ⟨(y233), (wrap64 (x74_2 + 1)), (by first | rfl | (simp; done) | (simp [*]; done)), H', ⟨by have := HK1.out; have := HK2.out; omega⟩, ⟨by (try simp only [hl17_2]); (with_reducible repeat (first | apply Kd.R_alloc | apply Kd.R_drewN | apply Kd.R_drew)); exact HO_15.out⟩, ⟨by (try simp only [hl17_2]); (with_reducible repeat (first | apply Kd.R_alloc | apply Kd.R_drewN | apply Kd.R_drew)); exact HO_17.out⟩, ⟨by (try simp only [hl17_2]); (with_reducible repeat (first | apply Kd.R_alloc | apply Kd.R_drewN | apply Kd.R_drew)); exact HO_72.out⟩, ⟨by (try simp only [hl17_2]); (with_reducible repeat (first | refine kN_ ?_ _ | refine kD_ ?_ | refine kA_ ?_ _)); exact BK207.out⟩, ⟨by repeat (first | (with_reducible first | exact HB.out | apply bA_ | apply bN_ | apply bD_ | refine bS_ ?_ GE207.out) | exact HB.out)⟩⟩
                 ·rw [if_neg c46] at H
                  exact absurd H (by simp)
                ·rw [if_neg c45] at H
                 exact absurd H (by simp)
               ·rw [if_neg c43] at H
                exact absurd H (by simp)
              ·rw [if_neg c42] at H
               exact absurd H (by simp)
             ·rw [if_neg c41] at H
              exact absurd H (by simp)
            ·rw [if_neg c40] at H
             have c40b0 : decide (x74_2 < (t208.length : Int)) = false := decide_eq_false c40
             clear c40
             obtain rfl := Option.some.inj H
             go_wp2
             go_ret
             exact ⟨_, by first | rfl | (simp [errW_none, errW_some] <;> rfl) | (simp [*, errW_none, errW_some] <;> rfl), by (with_reducible repeat (first | apply Kd.R_alloc | apply Kd.R_drewN | apply Kd.R_drew)); exact HO_17.out, by repeat (first | (with_reducible first | exact HB.out | apply bA_ | apply bN_ | apply bD_ | refine bS_ ?_ GE207.out) | exact HB.out)⟩
         ·rw [if_neg c28] at H
          exact absurd H (by simp)
        ·rw [if_neg c27] at H
         exact absurd H (by simp)
       ·rw [if_neg c25] at H
        exact absurd H (by simp)
      ·rw [if_neg c24] at H
       exact absurd H (by simp)
     ·rw [if_neg c23] at H
      exact absurd H (by simp)
    ·rw [if_neg c22] at H
     exact absurd H (by simp)
end Go.Proofs.Ytnbnalbomflafaa.GT
namespace Go.Proofs.Ytnbnalbomflafaa.GT
open Go.RowKit YtnbnalbomflafaaW.PrintWords YtnbnalbomflafaaW.PrintLast YtnbnalbomflafaaW.PrintMore
open GA GB GD KA GR GQ DT
attribute [local go_sem] RA.field80_0 RA.field80_1 RA.field80_2 max2_int min2_int max_two min_two max_three min_three max_four min_four
def spec_HitGap.f (k : Nat) (l0_0 : List (List Int)) (l1 : List Int) (a2 : Int) (a3 : Int) (a4 : Int) (a5 : Int) : Option (Int × Int × Bool) := (spec_hiAsked.f k l0_0 l1 a2 a3 a4 a5).bind fun t305 => (if t305 = true then ((spec_hiChances.f k l0_0 a3 a4).bind fun t306 => (if 0 ≤ a2 then (if a2 < (t306.length : Int) then ((spec_hiRun.f k l0_0 l1 a2 a3 a4 a5).bind fun bt311 => ((spec_hiSum.f k bt311.1).bind fun t318 => ((spec_l1Abs.f (wrap64 ((wrap64 (t318 * ((rd_T27 t306 a2).f1))) - (wrap64 (a5 * ((rd_T27 t306 a2).f0)))))).bind fun t319 => ((spec_hiRatio.f k t319 ((rd_T27 t306 a2).f1)).bind fun bt320 => (some (bt320.1, bt320.2, true)))))) else (none)) else (none))) else (some (0, 0, false)))
def spec_HitGap.T5 : Bool × List (List Nat × List Nat) := (true, [([], []), ([], []), ([1], [1]), ([0, 2], [0, 2]), ([], []), ([], []), ([5], [5]), ([4, 6], [4, 6]), ([3, 7], [3, 7]), ([8], [8]), ([], []), ([10], [10]), ([9, 11, 9], [9, 11]), ([12, 12, 0, 1, 2, 3, 4, 5, 6, 7, 8, 9, 10, 11, 12], [12]), ([13, 0, 1, 2, 3, 4, 5, 6, 7, 8, 9, 10, 11, 12, 13], [])])
def spec_HitGap.B5 : List Nat := [0, 0, 2, 7, 0, 0, 32, 112, 255, 511, 0, 1024, 4095, 8191, 16383]
theorem spec_HitGap.tab5 : rtab .any (opsOf Try.f51 5) = spec_HitGap.T5 := by kernel_rfl
theorem spec_HitGap.bits5 : waitsOk spec_HitGap.T5.2 spec_HitGap.B5 = true := by kernel_rfl
set_option maxHeartbeats 8000000 in
set_option maxRecDepth 100000 in
theorem spec_HitGap.calls (k : Nat) (A0_0 : Option Addr) (c0_0 : Nat) (l0_0 : List (List Int)) (A1 : Option Addr) (c1 : Nat) (l1 : List Int) (a2 : Int) (a3 : Int) (a4 : Int) (a5 : Int) (r1 : Int) (r2 : Int) (r3 : Bool) (w : World) (hr0_0 : Kd.C (Kd.slice 3 (Kd.int .i64)) w A0_0 l0_0.length l0_0) (hc0_0 : l0_0.length ≤ c0_0) (hr1 : Kd.C (Kd.int .i64) w A1 l1.length l1) (hc1 : l1.length ≤ c1) (h : spec_HitGap.f k l0_0 l1 a2 a3 a4 a5 = some (r1, r2, r3)) :
  Calls Try.prog 51 #[.agg #[.slice A0_0 l0_0.length c0_0], .slice A1 l1.length c1, .int .i64 a2, .int .i64 a3, .int .i64 a4, .int .i64 a5] w fun e w' => e = .returned (.tuple #[.agg #[.int .i64 r1, .int .i64 r2], .bool r3]) ∧ Below w.heap.size w w' := by
 have hu30 := Try.underlying30
 have hu27 := Try.underlying27
 have HR0_0 := Aside0.mk hr0_0
 have HC0_0 := Aside0.mk hc0_0
 clear hr0_0 hc0_0
 have HR1 := Aside0.mk hr1
 have HC1 := Aside0.mk hc1
 clear hr1 hc1
 have HB := Aside0.mk (Below.refl w.heap.size w)
 have H : ((spec_hiAsked.f k l0_0 l1 a2 a3 a4 a5).bind fun t305 => (if t305 = true then ((spec_hiChances.f k l0_0 a3 a4).bind fun t306 => (if 0 ≤ a2 then (if a2 < (t306.length : Int) then ((spec_hiRun.f k l0_0 l1 a2 a3 a4 a5).bind fun bt311 => ((spec_hiSum.f k bt311.1).bind fun t318 => ((spec_l1Abs.f (wrap64 ((wrap64 (t318 * ((rd_T27 t306 a2).f1))) - (wrap64 (a5 * ((rd_T27 t306 a2).f0)))))).bind fun t319 => ((spec_hiRatio.f k t319 ((rd_T27 t306 a2).f1)).bind fun bt320 => (some (bt320.1, bt320.2, true)))))) else (none)) else (none))) else (some (0, 0, false)))) = some (r1, r2, r3) := h
 clear h
 replace H := Option.bind_eq_some_iff.mp H
 obtain ⟨t305, A70, H⟩ := H
 replace H : (if t305 = true then ((spec_hiChances.f k l0_0 a3 a4).bind fun t306 => (if 0 ≤ a2 then (if a2 < (t306.length : Int) then ((spec_hiRun.f k l0_0 l1 a2 a3 a4 a5).bind fun bt311 => ((spec_hiSum.f k bt311.1).bind fun t318 => ((spec_l1Abs.f (wrap64 ((wrap64 (t318 * ((rd_T27 t306 a2).f1))) - (wrap64 (a5 * ((rd_T27 t306 a2).f0)))))).bind fun t319 => ((spec_hiRatio.f k t319 ((rd_T27 t306 a2).f1)).bind fun bt320 => (some (bt320.1, bt320.2, true)))))) else (none)) else (none))) else (some (0, 0, false))) = some (r1, r2, r3) := H
 have A7 := Aside0.mk A70
 clear A70
 by_cases c8 : t305 = true
 ·subst c8
  have H1 : ((spec_hiChances.f k l0_0 a3 a4).bind fun t306 => (if 0 ≤ a2 then (if a2 < (t306.length : Int) then ((spec_hiRun.f k l0_0 l1 a2 a3 a4 a5).bind fun bt311 => ((spec_hiSum.f k bt311.1).bind fun t318 => ((spec_l1Abs.f (wrap64 ((wrap64 (t318 * ((rd_T27 t306 a2).f1))) - (wrap64 (a5 * ((rd_T27 t306 a2).f0)))))).bind fun t319 => ((spec_hiRatio.f k t319 ((rd_T27 t306 a2).f1)).bind fun bt320 => (some (bt320.1, bt320.2, true)))))) else (none)) else (none))) = some (r1, r2, r3) := by rw [if_pos rfl] at H; exact H
  clear H
  have H := H1
  clear H1
  replace H := Option.bind_eq_some_iff.mp H
  obtain ⟨t306, A90, H⟩ := H
  replace H : (if 0 ≤ a2 then (if a2 < (t306.length : Int) then ((spec_hiRun.f k l0_0 l1 a2 a3 a4 a5).bind fun bt311 => ((spec_hiSum.f k bt311.1).bind fun t318 => ((spec_l1Abs.f (wrap64 ((wrap64 (t318 * ((rd_T27 t306 a2).f1))) - (wrap64 (a5 * ((rd_T27 t306 a2).f0)))))).bind fun t319 => ((spec_hiRatio.f k t319 ((rd_T27 t306 a2).f1)).bind fun bt320 => (some (bt320.1, bt320.2, true)))))) else (none)) else (none)) = some (r1, r2, r3) := H
  have A9 := Aside0.mk A90
  clear A90
  by_cases c10 : 0 ≤ a2
  ·rw [if_pos c10] at H
   have c10b0 : decide (0 ≤ a2) = true := decide_eq_true c10
   clear c10
   by_cases c11 : a2 < (t306.length : Int)
   ·rw [if_pos c11] at H
    have c11b0 : decide (a2 < (t306.length : Int)) = true := decide_eq_true c11
    clear c11
    replace H := Option.bind_eq_some_iff.mp H
    obtain ⟨⟨t311, t314, t317⟩, A120, H⟩ := H
    replace H : ((spec_hiSum.f k t311).bind fun t318 => ((spec_l1Abs.f (wrap64 ((wrap64 (t318 * ((rd_T27 t306 a2).f1))) - (wrap64 (a5 * ((rd_T27 t306 a2).f0)))))).bind fun t319 => ((spec_hiRatio.f k t319 ((rd_T27 t306 a2).f1)).bind fun bt320 => (some (bt320.1, bt320.2, true))))) = some (r1, r2, r3) := H
    have A12 := Aside0.mk A120
    clear A120
    replace H := Option.bind_eq_some_iff.mp H
    obtain ⟨t318, A130, H⟩ := H
    replace H : ((spec_l1Abs.f (wrap64 ((wrap64 (t318 * ((rd_T27 t306 a2).f1))) - (wrap64 (a5 * ((rd_T27 t306 a2).f0)))))).bind fun t319 => ((spec_hiRatio.f k t319 ((rd_T27 t306 a2).f1)).bind fun bt320 => (some (bt320.1, bt320.2, true)))) = some (r1, r2, r3) := H
    have A13 := Aside0.mk A130
    clear A130
    replace H := Option.bind_eq_some_iff.mp H
    obtain ⟨t319, A140, H⟩ := H
    replace H : ((spec_hiRatio.f k t319 ((rd_T27 t306 a2).f1)).bind fun bt320 => (some (bt320.1, bt320.2, true))) = some (r1, r2, r3) := H
    have A14 := Aside0.mk A140
    clear A140
    replace H := Option.bind_eq_some_iff.mp H
    obtain ⟨⟨t320, t321⟩, A150, H⟩ := H
    replace H : (some (t320, t321, true)) = some (r1, r2, r3) := H
    have A15 := Aside0.mk A150
    clear A150
    simp only [Option.some.injEq, Prod.mk.injEq] at H
    obtain ⟨rfl, rfl, rfl⟩ := H
    go_enter Try.func51, Try.ntmps51
    try go_wp2_with (first | ((with_reducible refine gate_dst (N := 6) rfl ?_); refine box_event ?hg (N := 6) ?hd (cs := #[.slice A0_0 l0_0.length c0_0]) (t := 30) ?hr ?_; (case hd => rfl); (case hg => rfl); (case hr => first | (go_simp; done) | (go_simp; rfl)); intro gb303 hg w16 hbox hb; have n0_ := Aside0.mk (bP_ (by repeat (first | (with_reducible first | exact HB.out | apply bA_ | apply bN_ | apply bD_) | exact HB.out)) hb); have n1_ := Aside0.mk (hbox); have n2_ := Aside0.mk ((by rw [hg]; exact (bZ_ (by repeat (first | (with_reducible first | exact HB.out | apply bA_ | apply bN_ | apply bD_) | exact HB.out))) : w.heap.size ≤ gb303)); have n3_ := Aside0.mk ((by rw [hg]; exact (bZ_ (by repeat (first | (with_reducible first | exact HB.out | apply bA_ | apply bN_ | apply bD_) | exact HB.out))) : w.heap.size ≤ gb303)); clear HB; have HB := n0_; have BK303 := n1_; have GW303 := n2_; have GE303 := n3_; clear n0_ n1_ n2_ n3_; clear hb hbox hg) | ((with_reducible refine gate_dst (N := 12) rfl ?_); refine box_event ?hg (N := 12) ?hd (cs := #[.int .i64 0, .int .i64 0]) (t := 27) ?hr ?_; (case hd => rfl); (case hg => rfl); (case hr => first | (go_simp; done) | (go_simp; rfl)); intro gb304 hg w17 hbox hb; have n0_ := Aside0.mk (blk_below (g := gb303) (o := .cells #[.slice A0_0 l0_0.length c0_0] 30 (0, 0)) (by (with_reducible repeat (first | refine kN_ ?_ _ | refine kD_ ?_ | refine kA_ ?_ _)); exact BK303.out) hb); have n1_ := Aside0.mk (bP_ (by repeat (first | (with_reducible first | exact HB.out | apply bA_ | apply bN_ | apply bD_ | refine bS_ ?_ GE303.out) | exact HB.out)) hb); have n2_ := Aside0.mk (hbox); have n3_ := Aside0.mk ((by rw [hg]; exact (bZ_ (by repeat (first | (with_reducible first | exact HB.out | apply bA_ | apply bN_ | apply bD_ | refine bS_ ?_ GE303.out) | exact HB.out))) : w.heap.size ≤ gb304)); have n4_ := Aside0.mk ((by rw [hg]; exact (bZ_ (by repeat (first | (with_reducible first | exact HB.out | apply bA_ | apply bN_ | apply bD_ | refine bS_ ?_ GE303.out) | exact HB.out))) : w.heap.size ≤ gb304)); have n5_ := Aside0.mk ((by rw [hg]; exact Nat.ne_of_lt (blk_lt (g := gb303) (o := .cells #[.slice A0_0 l0_0.length c0_0] 30 (0, 0)) (by (with_reducible repeat (first | refine kN_ ?_ _ | refine kD_ ?_ | refine kA_ ?_ _)); exact BK303.out)) : gb303 ≠ gb304)); have n6_ := Aside0.mk ((by rw [hg]; exact Nat.ne_of_gt (blk_lt (g := gb303) (o := .cells #[.slice A0_0 l0_0.length c0_0] 30 (0, 0)) (by (with_reducible repeat (first | refine kN_ ?_ _ | refine kD_ ?_ | refine kA_ ?_ _)); exact BK303.out)) : gb304 ≠ gb303)); clear BK303; clear HB; have BK303 := n0_; have HB := n1_; have BK304 := n2_; have GW304 := n3_; have GE304 := n4_; have NB303_304 := n5_; have NB304_303 := n6_; clear n0_ n1_ n2_ n3_ n4_ n5_ n6_; clear hb hbox hg; have hnb18 := NB303_304.out; have hnc18 := NB304_303.out; have hcz19_0 : w17.cell? ⟨gb303, 0, none⟩ = some (.slice A0_0 l0_0.length c0_0) := (blk_cell BK303.out 0).trans rfl; have hfz19_0 := kF_ BK303.out 0) | ((with_reducible refine gate_callee (f := 82) rfl ?_); refine goesL_ (some 22) rfl rfl Try.func82 (by kernel_rfl) rfl #[.agg #[.slice A0_0 l0_0.length c0_0], .slice A1 l1.length c1, .int .i64 a2, .int .i64 a3, .int .i64 a4, .int .i64 a5] rfl (by (try simp only [List.map_toArray, List.map_cons, List.map_nil]); first | done | rfl | (simp only [List.length_drop, List.length_take]; rfl)) ?_; (with_reducible refine (spec_hiAsked.calls k _ _ l0_0 _ _ l1 a2 a3 a4 a5 true _ ?side1 ?side2 ?side3 ?side4 A7.out).mono ?_); (case side1 => repeat (first | exact (Kd.C_below HR0_0.out HB.out) | (with_reducible refine Kd.C_alloc ?_ _) | (with_reducible refine Kd.C_drewN ?_ _) | (with_reducible refine Kd.C_drew ?_))); (case side2 => exact HC0_0.out); (case side3 => repeat (first | exact (Kd.C_below HR1.out HB.out) | (with_reducible refine Kd.C_alloc ?_ _) | (with_reducible refine Kd.C_drewN ?_ _) | (with_reducible refine Kd.C_drew ?_))); (case side4 => exact HC1.out); rintro e w20 ⟨rfl, hb⟩; refine ⟨_, rfl, ?_⟩; have n0_ := Aside0.mk (blk_below (g := gb303) (o := .cells #[.slice A0_0 l0_0.length c0_0] 30 (0, 0)) (by (with_reducible repeat (first | refine kN_ ?_ _ | refine kD_ ?_ | refine kA_ ?_ _)); exact BK303.out) hb); have n1_ := Aside0.mk (blk_below (g := gb304) (o := .cells #[.int .i64 0, .int .i64 0] 27 (0, 0)) (by (with_reducible repeat (first | refine kN_ ?_ _ | refine kD_ ?_ | refine kA_ ?_ _)); exact BK304.out) hb); have n2_ := Aside0.mk (bP_ (by repeat (first | (with_reducible first | exact HB.out | apply bA_ | apply bN_ | apply bD_ | refine bS_ ?_ GE303.out | refine bS_ ?_ GE304.out) | exact HB.out)) hb); clear BK303; clear BK304; clear HB; have BK303 := n0_; have BK304 := n1_; have HB := n2_; clear n0_ n1_ n2_; (try clear hb); (try clear hb2); (try clear hk); (try clear hi); have hcz21_0 : w20.cell? ⟨gb303, 0, none⟩ = some (.slice A0_0 l0_0.length c0_0) := (blk_cell BK303.out 0).trans rfl; have hfz21_0 := kF_ BK303.out 0) | ((with_reducible refine gate_callee (f := 92) rfl ?_); refine goesL_ (some 28) rfl rfl Try.func92 (by kernel_rfl) rfl #[.agg #[.slice A0_0 l0_0.length c0_0], .int .i64 a3, .int .i64 a4] rfl (by (try simp only [List.map_toArray, List.map_cons, List.map_nil]); first | done | rfl | (simp only [List.length_drop, List.length_take]; rfl)) ?_; (with_reducible refine (spec_hiChances.calls k _ _ l0_0 a3 a4 t306 _ ?side1 ?side2 A9.out).mono ?_); (case side1 => repeat (first | exact (Kd.C_below HR0_0.out HB.out) | (with_reducible refine Kd.C_alloc ?_ _) | (with_reducible refine Kd.C_drewN ?_ _) | (with_reducible refine Kd.C_drew ?_))); (case side2 => exact HC0_0.out); rintro e w22 ⟨v307, rfl, ho0, hb⟩; refine ⟨_, rfl, ?_⟩; have n0_ := Aside0.mk (Kd.R_lower (Kd.R_newB ho0 (g := gb304) (o := .cells #[.int .i64 0, .int .i64 0] 27 (0, 0)) (by (with_reducible repeat (first | refine kN_ ?_ _ | refine kD_ ?_ | refine kA_ ?_ _)); exact BK304.out)) (bZ_ (by repeat (first | (with_reducible first | exact HB.out | apply bA_ | apply bN_ | apply bD_ | refine bS_ ?_ GE303.out | refine bS_ ?_ GE304.out) | exact HB.out)))); have n1_ := Aside0.mk (blk_below (g := gb303) (o := .cells #[.slice A0_0 l0_0.length c0_0] 30 (0, 0)) (by (with_reducible repeat (first | refine kN_ ?_ _ | refine kD_ ?_ | refine kA_ ?_ _)); exact BK303.out) hb); have n2_ := Aside0.mk (blk_below (g := gb304) (o := .cells #[.int .i64 0, .int .i64 0] 27 (0, 0)) (by (with_reducible repeat (first | refine kN_ ?_ _ | refine kD_ ?_ | refine kA_ ?_ _)); exact BK304.out) hb); have n3_ := Aside0.mk (bP_ (by repeat (first | (with_reducible first | exact HB.out | apply bA_ | apply bN_ | apply bD_ | refine bS_ ?_ GE303.out | refine bS_ ?_ GE304.out) | exact HB.out)) hb); clear BK303; clear BK304; clear HB; have HO308 := n0_; have BK303 := n1_; have BK304 := n2_; have HB := n3_; clear n0_ n1_ n2_ n3_; (try clear hb); (try clear hb2); (try clear hk); (try clear hi); (try clear ho0); obtain ⟨Ao23, co23, eo23⟩ := Kd.R_slice HO308.out; subst eo23; have p309 : 0 ≤ (a2 : Int) := of_decide_eq_true (by first | (with_reducible assumption) | assumption); have q309 : a2 < (t306.length : Int) := of_decide_eq_true (by first | (with_reducible assumption) | assumption); obtain ⟨ad309, e309, hx309_0, hx309_1⟩ := at_T27 (Kd.R_reads' HO308.out).2.2 a2 p309 q309; cases e309; replace p309 := eq_true p309; replace q309 := eq_true q309) | ((with_reducible refine gate_dst (N := 14) rfl ?_); refine box_event ?hg (N := 14) ?hd (cs := #[.int .i64 0, .int .i64 0]) (t := 27) ?hr ?_; (case hd => rfl); (case hg => rfl); (case hr => first | (go_simp; done) | (go_simp; rfl)); intro gb310 hg w24 hbox hb; have n0_ := Aside0.mk (Kd.R_below (Kd.R_elderB (by (with_reducible repeat (first | apply Kd.R_alloc | apply Kd.R_drewN | apply Kd.R_drew)); exact HO308.out) gb310 (Nat.le_of_eq hg.symm)) hb); have n1_ := Aside0.mk (blk_below (g := gb303) (o := .cells #[.slice A0_0 l0_0.length c0_0] 30 (0, 0)) (by (with_reducible repeat (first | refine kN_ ?_ _ | refine kD_ ?_ | refine kA_ ?_ _)); exact BK303.out) hb); have n2_ := Aside0.mk (blk_below (g := gb304) (o := .cells #[.int .i64 0, .int .i64 0] 27 (0, 0)) (by (with_reducible repeat (first | refine kN_ ?_ _ | refine kD_ ?_ | refine kA_ ?_ _)); exact BK304.out) hb); have n3_ := Aside0.mk (bP_ (by repeat (first | (with_reducible first | exact HB.out | apply bA_ | apply bN_ | apply bD_ | refine bS_ ?_ GE303.out | refine bS_ ?_ GE304.out) | exact HB.out)) hb); have n4_ := Aside0.mk (hbox); have n5_ := Aside0.mk ((by rw [hg]; exact (bZ_ (by repeat (first | (with_reducible first | exact HB.out | apply bA_ | apply bN_ | apply bD_ | refine bS_ ?_ GE303.out | refine bS_ ?_ GE304.out) | exact HB.out))) : w.heap.size ≤ gb310)); have n6_ := Aside0.mk ((by rw [hg]; exact (bZ_ (by repeat (first | (with_reducible first | exact HB.out | apply bA_ | apply bN_ | apply bD_ | refine bS_ ?_ GE303.out | refine bS_ ?_ GE304.out) | exact HB.out))) : w.heap.size ≤ gb310)); have n7_ := Aside0.mk ((by rw [hg]; exact Nat.ne_of_lt (blk_lt (g := gb303) (o := .cells #[.slice A0_0 l0_0.length c0_0] 30 (0, 0)) (by (with_reducible repeat (first | refine kN_ ?_ _ | refine kD_ ?_ | refine kA_ ?_ _)); exact BK303.out)) : gb303 ≠ gb310)); have n8_ := Aside0.mk ((by rw [hg]; exact Nat.ne_of_gt (blk_lt (g := gb303) (o := .cells #[.slice A0_0 l0_0.length c0_0] 30 (0, 0)) (by (with_reducible repeat (first | refine kN_ ?_ _ | refine kD_ ?_ | refine kA_ ?_ _)); exact BK303.out)) : gb310 ≠ gb303)); have n9_ := Aside0.mk ((by rw [hg]; exact Nat.ne_of_lt (blk_lt (g := gb304) (o := .cells #[.int .i64 0, .int .i64 0] 27 (0, 0)) (by (with_reducible repeat (first | refine kN_ ?_ _ | refine kD_ ?_ | refine kA_ ?_ _)); exact BK304.out)) : gb304 ≠ gb310)); have n10_ := Aside0.mk ((by rw [hg]; exact Nat.ne_of_gt (blk_lt (g := gb304) (o := .cells #[.int .i64 0, .int .i64 0] 27 (0, 0)) (by (with_reducible repeat (first | refine kN_ ?_ _ | refine kD_ ?_ | refine kA_ ?_ _)); exact BK304.out)) : gb310 ≠ gb304)); clear HO308; clear BK303; clear BK304; clear HB; have HO308 := n0_; have BK303 := n1_; have BK304 := n2_; have HB := n3_; have BK310 := n4_; have GW310 := n5_; have GE310 := n6_; have NB303_310 := n7_; have NB310_303 := n8_; have NB304_310 := n9_; have NB310_304 := n10_; clear n0_ n1_ n2_ n3_ n4_ n5_ n6_ n7_ n8_ n9_ n10_; clear hb hbox hg; have hnb25 := NB310_303.out; have hnc25 := NB303_310.out; have hnb26 := NB310_304.out; have hnc26 := NB304_310.out; have hcz27_0 : w24.cell? ⟨gb310, 0, none⟩ = some (.int .i64 0) := (blk_cell BK310.out 0).trans rfl; have hcz27_1 : w24.cell? ⟨gb310, 1, none⟩ = some (.int .i64 0) := (blk_cell BK310.out 1).trans rfl; have hfz27_0 := kF_ BK310.out 0; have hfz27_1 := kF_ BK310.out 1; have hcz28_0 : w24.cell? ⟨gb303, 0, none⟩ = some (.slice A0_0 l0_0.length c0_0) := (blk_cell BK303.out 0).trans rfl; have hfz28_0 := kF_ BK303.out 0) | ((with_reducible refine gate_callee (f := 83) rfl ?_); refine goesL_ (some 38) rfl rfl Try.func83 (by kernel_rfl) rfl #[.agg #[.slice A0_0 l0_0.length c0_0], .slice A1 l1.length c1, .int .i64 a2, .int .i64 a3, .int .i64 a4, .int .i64 a5] rfl (by (try simp only [List.map_toArray, List.map_cons, List.map_nil]); first | done | rfl | (simp only [List.length_drop, List.length_take]; rfl)) ?_; (with_reducible refine (spec_hiRun.calls k _ _ l0_0 _ _ l1 a2 a3 a4 a5 t311 t314 t317 _ ?side1 ?side2 ?side3 ?side4 A12.out).mono ?_); (case side1 => exact Kd.C_below HR0_0.out (by repeat (first | (with_reducible first | exact HB.out | apply bA_ | apply bN_ | apply bD_ | refine bS_ ?_ GE303.out | refine bS_ ?_ GE304.out | refine bS_ ?_ GE310.out) | exact HB.out))); (case side2 => exact HC0_0.out); (case side3 => exact Kd.C_below HR1.out (by repeat (first | (with_reducible first | exact HB.out | apply bA_ | apply bN_ | apply bD_ | refine bS_ ?_ GE303.out | refine bS_ ?_ GE304.out | refine bS_ ?_ GE310.out) | exact HB.out))); (case side4 => exact HC1.out); rintro e w29 ⟨v312, v315, rfl, ho0, ho1, hb⟩; refine ⟨_, rfl, ?_⟩; have n0_ := Aside0.mk (Kd.R_below (by (with_reducible repeat (first | apply Kd.R_alloc | apply Kd.R_drewN | apply Kd.R_drew)); exact (Kd.R_mono (Kd.R_far (p := ⟨gb310, 1, none⟩) (Kd.R_far (p := ⟨gb310, 0, none⟩) (Kd.R_mono HO308.out (fun k_ hk => (⟨hk, hk.2⟩ : _ ∧ k_ ≠ gb310))) (fun _ hk => hk.2) (.int .i64 ((rd_T27 t306 a2).f0))) (fun _ hk => hk.2) (.int .i64 ((rd_T27 t306 a2).f1))) (fun _ h_ => h_.1))) hb); have n1_ := Aside0.mk (Kd.R_lower ho0 (bZ_ (by repeat (first | (with_reducible first | exact HB.out | apply bA_ | apply bN_ | apply bD_ | refine bS_ ?_ GE303.out | refine bS_ ?_ GE304.out | refine bS_ ?_ GE310.out) | exact HB.out)))); have n2_ := Aside0.mk (Kd.R_lower ho1 (bZ_ (by repeat (first | (with_reducible first | exact HB.out | apply bA_ | apply bN_ | apply bD_ | refine bS_ ?_ GE303.out | refine bS_ ?_ GE304.out | refine bS_ ?_ GE310.out) | exact HB.out)))); have n3_ := Aside0.mk (blk_below (g := gb303) (o := .cells #[.slice A0_0 l0_0.length c0_0] 30 (0, 0)) (by (with_reducible repeat (first | refine kN_ ?_ _ | refine kD_ ?_ | refine kA_ ?_ _)); refine blk_far ?_ NB303_310.out _; (with_reducible repeat (first | refine kN_ ?_ _ | refine kD_ ?_ | refine kA_ ?_ _)); refine blk_far ?_ NB303_310.out _; (with_reducible repeat (first | refine kN_ ?_ _ | refine kD_ ?_ | refine kA_ ?_ _)); exact BK303.out) hb); have n4_ := Aside0.mk (blk_below (g := gb304) (o := .cells #[.int .i64 0, .int .i64 0] 27 (0, 0)) (by (with_reducible repeat (first | refine kN_ ?_ _ | refine kD_ ?_ | refine kA_ ?_ _)); refine blk_far ?_ NB304_310.out _; (with_reducible repeat (first | refine kN_ ?_ _ | refine kD_ ?_ | refine kA_ ?_ _)); refine blk_far ?_ NB304_310.out _; (with_reducible repeat (first | refine kN_ ?_ _ | refine kD_ ?_ | refine kA_ ?_ _)); exact BK304.out) hb); have n5_ := Aside0.mk (blk_below (g := gb310) (o := .cells #[.int .i64 ((rd_T27 t306 a2).f0), .int .i64 ((rd_T27 t306 a2).f1)] 27 (0, 0)) (by (with_reducible repeat (first | refine kN_ ?_ _ | refine kD_ ?_ | refine kA_ ?_ _)); refine blk_put (cs := #[.int .i64 ((rd_T27 t306 a2).f0), .int .i64 0]) ?_ 1 _ rfl; (with_reducible repeat (first | refine kN_ ?_ _ | refine kD_ ?_ | refine kA_ ?_ _)); refine blk_put (cs := #[.int .i64 0, .int .i64 0]) ?_ 0 _ rfl; (with_reducible repeat (first | refine kN_ ?_ _ | refine kD_ ?_ | refine kA_ ?_ _)); exact BK310.out) hb); have n6_ := Aside0.mk (bP_ (by repeat (first | (with_reducible first | exact HB.out | apply bA_ | apply bN_ | apply bD_ | refine bS_ ?_ GE303.out | refine bS_ ?_ GE304.out | refine bS_ ?_ GE310.out) | exact HB.out)) hb); clear HO308; clear BK303; clear BK304; clear BK310; clear HB; have HO308 := n0_; have HO313 := n1_; have HO316 := n2_; have BK303 := n3_; have BK304 := n4_; have BK310 := n5_; have HB := n6_; clear n0_ n1_ n2_ n3_ n4_ n5_ n6_; (try clear hb); (try clear hb2); (try clear hk); (try clear hi); (try clear ho0); (try clear ho1); obtain ⟨Ao30, co30, eo30⟩ := Kd.R_slice HO313.out; subst eo30) | ((with_reducible refine gate_callee (f := 85) rfl ?_); refine goesL_ (some 40) rfl rfl Try.func85 (by kernel_rfl) rfl #[.slice Ao30 t311.length co30] rfl (by (try simp only [List.map_toArray, List.map_cons, List.map_nil]); first | done | rfl | (simp only [List.length_drop, List.length_take]; rfl)) ?_; (with_reducible refine (spec_hiSum.calls k _ _ t311 t318 _ ?side1 ?side2 A13.out).mono ?_); (case side1 => repeat (first | exact (Kd.R_reads' HO313.out).2.2 | (with_reducible refine Kd.C_alloc ?_ _) | (with_reducible refine Kd.C_drewN ?_ _) | (with_reducible refine Kd.C_drew ?_))); (case side2 => exact (Kd.R_reads' HO313.out).2.1); rintro e w' ⟨rfl, ⟨nd, rfl⟩⟩; refine ⟨_, rfl, ?_⟩; (try (rw [drewN_self w29]; generalize hq_ : World.drewN w29 _ = w29; have n0_ : Aside0 (Kd.R k27 27 w29 w.heap.size (fun k_ => k_ ≠ gb304 ∧ k_ ≠ gb310) (.slice (some ad309) t306.length co23) t306) := ⟨by rw [← hq_]; exact (by (with_reducible repeat (first | apply Kd.R_alloc | apply Kd.R_drewN | apply Kd.R_drew)); exact Kd.R_mono HO308.out (fun _ hk => ⟨hk.1.2, hk.2⟩))⟩; have n1_ : Aside0 (Kd.R (Kd.int .i64) 3 w29 w.heap.size (fun k_ => some k_ ≠ (v315 : Value).ownBlock) (.slice Ao30 t311.length co30) t311) := ⟨by rw [← hq_]; exact (by (with_reducible repeat (first | apply Kd.R_alloc | apply Kd.R_drewN | apply Kd.R_drew)); exact HO313.out)⟩; have n2_ : Aside0 (Kd.R (Kd.int .i64) 3 w29 w.heap.size (fun k_ => some k_ ≠ (.slice Ao30 t311.length co30 : Value).ownBlock) v315 t314) := ⟨by rw [← hq_]; exact (by (with_reducible repeat (first | apply Kd.R_alloc | apply Kd.R_drewN | apply Kd.R_drew)); exact HO316.out)⟩; have n3_ : Aside0 (w29.heap[gb303]? = some (.cells #[.slice A0_0 l0_0.length c0_0] 30 (0, 0))) := ⟨by rw [← hq_]; exact (by (with_reducible repeat (first | refine kN_ ?_ _ | refine kD_ ?_ | refine kA_ ?_ _)); exact BK303.out)⟩; have n4_ : Aside0 (w29.heap[gb304]? = some (.cells #[.int .i64 0, .int .i64 0] 27 (0, 0))) := ⟨by rw [← hq_]; exact (by (with_reducible repeat (first | refine kN_ ?_ _ | refine kD_ ?_ | refine kA_ ?_ _)); exact BK304.out)⟩; have n5_ : Aside0 (w29.heap[gb310]? = some (.cells #[.int .i64 ((rd_T27 t306 a2).f0), .int .i64 ((rd_T27 t306 a2).f1)] 27 (0, 0))) := ⟨by rw [← hq_]; exact (by (with_reducible repeat (first | refine kN_ ?_ _ | refine kD_ ?_ | refine kA_ ?_ _)); exact BK310.out)⟩; have n6_ : Aside0 (Below w.heap.size w w29) := ⟨by rw [← hq_]; exact (by repeat (first | (with_reducible first | exact HB.out | apply bA_ | apply bN_ | apply bD_ | refine bS_ ?_ GE303.out | refine bS_ ?_ GE304.out | refine bS_ ?_ GE310.out) | exact HB.out))⟩; clear HO308 HO313 HO316 BK303 BK304 BK310 HB hq_; have HO308 := n0_; have HO313 := n1_; have HO316 := n2_; have BK303 := n3_; have BK304 := n4_; have BK310 := n5_; have HB := n6_; clear n0_ n1_ n2_ n3_ n4_ n5_ n6_))))
    have n0_ := Aside0.mk (Kd.R_drew HO308.out)
    have n1_ := Aside0.mk (Kd.R_drew HO313.out)
    have n2_ := Aside0.mk (Kd.R_drew HO316.out)
    have n3_ := Aside0.mk (kD_ BK303.out)
    have n4_ := Aside0.mk (kD_ BK304.out)
    have n5_ := Aside0.mk (kD_ BK310.out)
    have n6_ := Aside0.mk (bD_ HB.out)
    clear HO308
    clear HO313
    clear HO316
    clear BK303
    clear BK304
    clear BK310
    clear HB
    have HO308 := n0_
    have HO313 := n1_
    have HO316 := n2_
    have BK303 := n3_
    have BK304 := n4_
    have BK310 := n5_
    have HB := n6_
    clear n0_ n1_ n2_ n3_ n4_ n5_ n6_
    refine start_ (n := 15) (S := fun w' => w'.cell? ⟨gb310, 0, none⟩ = some (.int .i64 ((rd_T27 t306 a2).f0)) ∧ w'.cell? ⟨gb310, 1, none⟩ = some (.int .i64 ((rd_T27 t306 a2).f1))) (ds := []) #[false, false, false, false, false, false, false, false, false, false, false, false, false, false, false] (by kernel_rfl) rfl rfl ⟨(blk_cell BK310.out 0).trans rfl, (blk_cell BK310.out 1).trans rfl⟩ (fun hHeld => ?_); refine with_tabW spec_HitGap.tab5 spec_HitGap.bits5 (fun HT_ HW_ => ?_)
    generalize w29.drew = w31 at HO308 HO313 HO316 BK303 BK304 BK310 HB hHeld ⊢
    refine pu_ (i := 0) (N := some 41) (v := ?_) (a' := ?_) HT_.out rfl rfl (Or.inl ⟨by rfl, ?_⟩) ?_ ?_
    rotate_left
    ·intro w'
     go_simp
     with_reducible rfl
    rotate_left
    ·simp only [sp_]
     rfl
    refine pu_ (i := 1) (N := some 42) (v := ?_) (a' := ?_) HT_.out rfl rfl (Or.inl ⟨by rfl, ?_⟩) ?_ ?_
    rotate_left
    ·intro w'
     go_simp
     with_reducible rfl
    rotate_left
    ·simp only [sp_]
     rfl
    refine pu_ (i := 4) (N := some 45) (v := ?_) (a' := ?_) HT_.out rfl rfl (Or.inl ⟨by rfl, ?_⟩) ?_ ?_
    rotate_left
    ·intro w'
     go_simp
     with_reducible rfl
    rotate_left
    ·simp only [sp_]
     rfl
    refine pu_ (i := 5) (N := some 46) (v := ?_) (a' := ?_) HT_.out rfl rfl (Or.inl ⟨by rfl, ?_⟩) ?_ ?_
    rotate_left
    ·intro w'
     go_simp
     with_reducible rfl
    rotate_left
    ·simp only [sp_]
     rfl
    refine pu_ (i := 10) (N := some 51) (v := ?_) (a' := ?_) HT_.out rfl rfl (Or.inl ⟨by rfl, ?_⟩) ?_ ?_
    rotate_left
    ·intro w'
     go_simp
     with_reducible rfl
    rotate_left
    ·simp only [sp_]
     rfl
    refine tk_ (i := 2) (N := some 43) (v := ?_) (a' := ?_) HT_.out HW_.out rfl rfl (Or.inl ⟨by rfl, ?_⟩) hHeld ?_ ?_
    rotate_left
    ·rintro w' ⟨s0, s1⟩
     go_simp
     with_reducible rfl
    rotate_left
    ·simp only [sp_]
     rfl
    refine pu_ (i := 3) (N := some 44) (v := ?_) (a' := ?_) HT_.out rfl rfl (Or.inl ⟨by rfl, ?_⟩) ?_ ?_
    rotate_left
    ·intro w'
     go_simp
     with_reducible rfl
    rotate_left
    ·simp only [sp_]
     rfl
    refine tk_ (i := 6) (N := some 47) (v := ?_) (a' := ?_) HT_.out HW_.out rfl rfl (Or.inl ⟨by rfl, ?_⟩) hHeld ?_ ?_
    rotate_left
    ·rintro w' ⟨s0, s1⟩
     go_simp
     with_reducible rfl
    rotate_left
    ·simp only [sp_]
     rfl
    refine pu_ (i := 7) (N := some 48) (v := ?_) (a' := ?_) HT_.out rfl rfl (Or.inl ⟨by rfl, ?_⟩) ?_ ?_
    rotate_left
    ·intro w'
     go_simp
     with_reducible rfl
    rotate_left
    ·simp only [sp_]
     rfl
    refine pu_ (i := 8) (N := some 49) (v := ?_) (a' := ?_) HT_.out rfl rfl (Or.inl ⟨by rfl, ?_⟩) ?_ ?_
    rotate_left
    ·intro w'
     go_simp
     with_reducible rfl
    rotate_left
    ·simp only [sp_]
     rfl
    refine tk_ (i := 11) (N := some 52) (v := ?_) (a' := ?_) HT_.out HW_.out rfl rfl (Or.inl ⟨by rfl, ?_⟩) hHeld ?_ ?_
    rotate_left
    ·rintro w' ⟨s0, s1⟩
     go_simp
     with_reducible rfl
    rotate_left
    ·simp only [sp_]
     rfl
    refine one_ (i := 9) (N := some 50) #[true, true, true, true, true, true, true, true, true, true, true, true, false, false, false] rfl rfl (one_of HT_.out (by kernel_rfl)) (by decide) (fun K hK => ?_)
    refine goes_ Try.func96 (by kernel_rfl) rfl #[.int .i64 (wrap64 ((wrap64 (t318 * ((rd_T27 t306 a2).f1))) - (wrap64 (a5 * ((rd_T27 t306 a2).f0)))))] (by rfl) rfl rfl (by (try simp only [List.map_toArray, List.map_cons, List.map_nil]); first | done | rfl | (simp only [List.length_drop, List.length_take]; rfl)) ?_
    with_reducible refine (spec_l1Abs.calls (wrap64 ((wrap64 (t318 * ((rd_T27 t306 a2).f1))) - (wrap64 (a5 * ((rd_T27 t306 a2).f0))))) t319 _ A14.out).mono ?_
    rintro e w' ⟨rfl, ⟨nd, rfl⟩⟩
    refine ⟨_, rfl, ?_⟩
    refine hK.out _ _ ⟨(blk_cell BK310.out 0).trans rfl, (blk_cell BK310.out 1).trans rfl⟩ (fun hHeld => ?_)
    clear hK K
    refine norm_ (a' := ?_) ?_ ?_
    rotate_left
    ·show Act.put _ (some 50) _ = _
     simp only [sp_]
     rfl
    refine one_ (i := 12) (N := some 53) #[true, true, true, true, true, true, true, true, true, true, true, true, true, false, false] rfl rfl (one_of HT_.out (by kernel_rfl)) (by decide) (fun K hK => ?_)
    refine goes_ Try.func74 (by kernel_rfl) rfl #[.int .i64 t319, .int .i64 ((rd_T27 t306 a2).f1)] (by rfl) rfl rfl (by (try simp only [List.map_toArray, List.map_cons, List.map_nil]); first | done | rfl | (simp only [List.length_drop, List.length_take]; rfl)) ?_
    with_reducible refine (spec_hiRatio.calls k t319 ((rd_T27 t306 a2).f1) t320 t321 _ A15.out).mono ?_
    rintro e w32 ⟨rfl, hb⟩
    refine ⟨_, rfl, ?_⟩
    have n0_ := Aside0.mk (Kd.R_below (by (with_reducible repeat (first | apply Kd.R_alloc | apply Kd.R_drewN | apply Kd.R_drew)); exact HO308.out) hb)
    have n1_ := Aside0.mk (Kd.R_below (by (with_reducible repeat (first | apply Kd.R_alloc | apply Kd.R_drewN | apply Kd.R_drew)); exact HO313.out) hb)
    have n2_ := Aside0.mk (Kd.R_below (by (with_reducible repeat (first | apply Kd.R_alloc | apply Kd.R_drewN | apply Kd.R_drew)); exact HO316.out) hb)
    have n3_ := Aside0.mk (blk_below (g := gb303) (o := .cells #[.slice A0_0 l0_0.length c0_0] 30 (0, 0)) (by (with_reducible repeat (first | refine kN_ ?_ _ | refine kD_ ?_ | refine kA_ ?_ _)); exact BK303.out) hb)
    have n4_ := Aside0.mk (blk_below (g := gb304) (o := .cells #[.int .i64 0, .int .i64 0] 27 (0, 0)) (by (with_reducible repeat (first | refine kN_ ?_ _ | refine kD_ ?_ | refine kA_ ?_ _)); exact BK304.out) hb)
    have n5_ := Aside0.mk (blk_below (g := gb310) (o := .cells #[.int .i64 ((rd_T27 t306 a2).f0), .int .i64 ((rd_T27 t306 a2).f1)] 27 (0, 0)) (by (with_reducible repeat (first | refine kN_ ?_ _ | refine kD_ ?_ | refine kA_ ?_ _)); exact BK310.out) hb)
    have n6_ := Aside0.mk (bP_ (by repeat (first | (with_reducible first | exact HB.out | apply bA_ | apply bN_ | apply bD_ | refine bS_ ?_ GE303.out | refine bS_ ?_ GE304.out | refine bS_ ?_ GE310.out) | exact HB.out)) hb)
    clear HO308
    clear HO313
    clear HO316
    clear BK303
    clear BK304
    clear BK310
    clear HB
    have HO308 := n0_
    have HO313 := n1_
    have HO316 := n2_
    have BK303 := n3_
    have BK304 := n4_
    have BK310 := n5_
    have HB := n6_
    clear n0_ n1_ n2_ n3_ n4_ n5_ n6_
    (try clear hb)
    (try clear hb2)
    (try clear hk)
    (try clear hi)
    refine hK.out _ _ ⟨(blk_cell BK310.out 0).trans rfl, (blk_cell BK310.out 1).trans rfl⟩ (fun hHeld => ?_)
    clear hK K
    refine norm_ (a' := ?_) ?_ ?_
    rotate_left
    ·show Act.put _ (some 53) _ = _
     simp only [sp_]
     rfl
    refine one_ (i := 13) (N := none) #[true, true, true, true, true, true, true, true, true, true, true, true, true, true, false] rfl rfl (one_of HT_.out (by kernel_rfl)) (by decide) (fun K hK => ?_)
    have hs33 : w32.cell? ⟨gb304, 0, none⟩ = some (.int .i64 0) := (blk_cell BK304.out 0).trans rfl
    have hfs33 := kF_ BK304.out 0
    have hns33_0 := NB303_304.out
    have hns33_2 := NB310_304.out
    have hms33_0 := NB304_303.out
    have hms33_2 := NB304_310.out
    have hs34 : w32.cell? ⟨gb304, 1, none⟩ = some (.int .i64 0) := (blk_cell BK304.out 1).trans rfl
    have hfs34 := kF_ BK304.out 1
    have hns34_0 := NB303_304.out
    have hns34_2 := NB310_304.out
    have hms34_0 := NB304_303.out
    have hms34_2 := NB304_310.out
    refine skip_ (w1 := ?_) (by rfl) rfl ?_ ?_
    rotate_left
    ·go_simp
     rfl
    refine hK.out _ _ ⟨((cell_far (p := ⟨gb304, _, none⟩) NB310_304.out _).trans (((cell_far (p := ⟨gb304, _, none⟩) NB310_304.out _).trans (hHeld.1)))), ((cell_far (p := ⟨gb304, _, none⟩) NB310_304.out _).trans (((cell_far (p := ⟨gb304, _, none⟩) NB310_304.out _).trans (hHeld.2))))⟩ (fun hHeld => ?_)
    clear hK K
    refine pu_ (i := 14) (N := some 13) (v := ?_) (a' := ?_) HT_.out rfl rfl (Or.inl ⟨by rfl, ?_⟩) ?_ ?_
    rotate_left
    ·intro w'
     go_simp
     with_reducible rfl
    rotate_left
    ·simp only [sp_]
     rfl
    refine done_ (done_of HT_.out (by kernel_rfl)) ?_
    try go_wp2
    refine bodyPost_ret (results_ct rfl _ _ gb304 27 #[.int .i64 t320, .int .i64 t321] (0, 0) _ rfl (by (with_reducible repeat (first | refine kN_ ?_ _ | refine kD_ ?_ | refine kA_ ?_ _)); refine blk_put (cs := #[.int .i64 t320, .int .i64 0]) ?_ 1 _ rfl; (with_reducible repeat (first | refine kN_ ?_ _ | refine kD_ ?_ | refine kA_ ?_ _)); refine blk_put (cs := #[.int .i64 0, .int .i64 0]) ?_ 0 _ rfl; (with_reducible repeat (first | refine kN_ ?_ _ | refine kD_ ?_ | refine kA_ ?_ _)); exact BK304.out) Try.underlying27 rfl (by kernel_rfl)) rfl ?_
    exact ⟨by first | rfl | (simp [errW_none, errW_some] <;> rfl) | (simp [*, errW_none, errW_some] <;> rfl), by repeat (first | (with_reducible first | exact HB.out | apply bA_ | apply bN_ | apply bD_ | refine bS_ ?_ GE303.out | refine bS_ ?_ GE304.out | refine bS_ ?_ GE310.out) | exact HB.out)⟩
   ·rw [if_neg c11] at H
    exact absurd H (by simp)
  ·rw [if_neg c10] at H
   exact absurd H (by simp)
 ·replace c8 := Bool.eq_false_iff.mpr c8
  subst c8
  have H1 : (some (0, 0, false)) = some (r1, r2, r3) := by rw [if_neg (show ¬ (false = true) by decide)] at H; exact H
  clear H
  have H := H1
  clear H1
  simp only [Option.some.injEq, Prod.mk.injEq] at H
  obtain ⟨rfl, rfl, rfl⟩ := H
  go_enter Try.func51, Try.ntmps51
  go_wp2_with (first | ((with_reducible refine gate_dst (N := 6) rfl ?_); refine box_event ?hg (N := 6) ?hd (cs := #[.slice A0_0 l0_0.length c0_0]) (t := 30) ?hr ?_; (case hd => rfl); (case hg => rfl); (case hr => first | (go_simp; done) | (go_simp; rfl)); intro gb303 hg w35 hbox hb; have n0_ := Aside0.mk (bP_ (by repeat (first | (with_reducible first | exact HB.out | apply bA_ | apply bN_ | apply bD_) | exact HB.out)) hb); have n1_ := Aside0.mk (hbox); have n2_ := Aside0.mk ((by rw [hg]; exact (bZ_ (by repeat (first | (with_reducible first | exact HB.out | apply bA_ | apply bN_ | apply bD_) | exact HB.out))) : w.heap.size ≤ gb303)); have n3_ := Aside0.mk ((by rw [hg]; exact (bZ_ (by repeat (first | (with_reducible first | exact HB.out | apply bA_ | apply bN_ | apply bD_) | exact HB.out))) : w.heap.size ≤ gb303)); clear HB; have HB := n0_; have BK303 := n1_; have GW303 := n2_; have GE303 := n3_; clear n0_ n1_ n2_ n3_; clear hb hbox hg) | ((with_reducible refine gate_dst (N := 12) rfl ?_); refine box_event ?hg (N := 12) ?hd (cs := #[.int .i64 0, .int .i64 0]) (t := 27) ?hr ?_; (case hd => rfl); (case hg => rfl); (case hr => first | (go_simp; done) | (go_simp; rfl)); intro gb304 hg w36 hbox hb; have n0_ := Aside0.mk (blk_below (g := gb303) (o := .cells #[.slice A0_0 l0_0.length c0_0] 30 (0, 0)) (by (with_reducible repeat (first | refine kN_ ?_ _ | refine kD_ ?_ | refine kA_ ?_ _)); exact BK303.out) hb); have n1_ := Aside0.mk (bP_ (by repeat (first | (with_reducible first | exact HB.out | apply bA_ | apply bN_ | apply bD_ | refine bS_ ?_ GE303.out) | exact HB.out)) hb); have n2_ := Aside0.mk (hbox); have n3_ := Aside0.mk ((by rw [hg]; exact (bZ_ (by repeat (first | (with_reducible first | exact HB.out | apply bA_ | apply bN_ | apply bD_ | refine bS_ ?_ GE303.out) | exact HB.out))) : w.heap.size ≤ gb304)); have n4_ := Aside0.mk ((by rw [hg]; exact (bZ_ (by repeat (first | (with_reducible first | exact HB.out | apply bA_ | apply bN_ | apply bD_ | refine bS_ ?_ GE303.out) | exact HB.out))) : w.heap.size ≤ gb304)); have n5_ := Aside0.mk ((by rw [hg]; exact Nat.ne_of_lt (blk_lt (g := gb303) (o := .cells #[.slice A0_0 l0_0.length c0_0] 30 (0, 0)) (by (with_reducible repeat (first | refine kN_ ?_ _ | refine kD_ ?_ | refine kA_ ?_ _)); exact BK303.out)) : gb303 ≠ gb304)); have n6_ := Aside0.mk ((by rw [hg]; exact Nat.ne_of_gt (blk_lt (g := gb303) (o := .cells #[.slice A0_0 l0_0.length c0_0] 30 (0, 0)) (by (with_reducible repeat (first | refine kN_ ?_ _ | refine kD_ ?_ | refine kA_ ?_ _)); exact BK303.out)) : gb304 ≠ gb303)); clear BK303; clear HB; have BK303 := n0_; have HB := n1_; have BK304 := n2_; have GW304 := n3_; have GE304 := n4_; have NB303_304 := n5_; have NB304_303 := n6_; clear n0_ n1_ n2_ n3_ n4_ n5_ n6_; clear hb hbox hg; have hnb37 := NB303_304.out; have hnc37 := NB304_303.out; have hcz38_0 : w36.cell? ⟨gb303, 0, none⟩ = some (.slice A0_0 l0_0.length c0_0) := (blk_cell BK303.out 0).trans rfl; have hfz38_0 := kF_ BK303.out 0) | ((with_reducible refine gate_callee (f := 82) rfl ?_); refine goesL_ (some 22) rfl rfl Try.func82 (by kernel_rfl) rfl #[.agg #[.slice A0_0 l0_0.length c0_0], .slice A1 l1.length c1, .int .i64 a2, .int .i64 a3, .int .i64 a4, .int .i64 a5] rfl (by (try simp only [List.map_toArray, List.map_cons, List.map_nil]); first | done | rfl | (simp only [List.length_drop, List.length_take]; rfl)) ?_; (with_reducible refine (spec_hiAsked.calls k _ _ l0_0 _ _ l1 a2 a3 a4 a5 false _ ?side1 ?side2 ?side3 ?side4 A7.out).mono ?_); (case side1 => repeat (first | exact (Kd.C_below HR0_0.out HB.out) | (with_reducible refine Kd.C_alloc ?_ _) | (with_reducible refine Kd.C_drewN ?_ _) | (with_reducible refine Kd.C_drew ?_))); (case side2 => exact HC0_0.out); (case side3 => repeat (first | exact (Kd.C_below HR1.out HB.out) | (with_reducible refine Kd.C_alloc ?_ _) | (with_reducible refine Kd.C_drewN ?_ _) | (with_reducible refine Kd.C_drew ?_))); (case side4 => exact HC1.out); rintro e w39 ⟨rfl, hb⟩; refine ⟨_, rfl, ?_⟩; have n0_ := Aside0.mk (blk_below (g := gb303) (o := .cells #[.slice A0_0 l0_0.length c0_0] 30 (0, 0)) (by (with_reducible repeat (first | refine kN_ ?_ _ | refine kD_ ?_ | refine kA_ ?_ _)); exact BK303.out) hb); have n1_ := Aside0.mk (blk_below (g := gb304) (o := .cells #[.int .i64 0, .int .i64 0] 27 (0, 0)) (by (with_reducible repeat (first | refine kN_ ?_ _ | refine kD_ ?_ | refine kA_ ?_ _)); exact BK304.out) hb); have n2_ := Aside0.mk (bP_ (by repeat (first | (with_reducible first | exact HB.out | apply bA_ | apply bN_ | apply bD_ | refine bS_ ?_ GE303.out | refine bS_ ?_ GE304.out) | exact HB.out)) hb); clear BK303; clear BK304; clear HB; have BK303 := n0_; have BK304 := n1_; have HB := n2_; clear n0_ n1_ n2_; (try clear hb); (try clear hb2); (try clear hk); (try clear hi); have hcz40_0 : w39.cell? ⟨gb304, 0, none⟩ = some (.int .i64 0) := (blk_cell BK304.out 0).trans rfl; have hcz40_1 : w39.cell? ⟨gb304, 1, none⟩ = some (.int .i64 0) := (blk_cell BK304.out 1).trans rfl; have hfz40_0 := kF_ BK304.out 0; have hfz40_1 := kF_ BK304.out 1))
  refine bodyPost_ret (results_ct rfl _ _ gb304 27 #[.int .i64 0, .int .i64 0] (0, 0) _ rfl (by (with_reducible repeat (first | refine kN_ ?_ _ | refine kD_ ?_ | refine kA_ ?_ _)); refine blk_put (cs := #[.int .i64 0, .int .i64 0]) ?_ 1 _ rfl; (with_reducible repeat (first | refine kN_ ?_ _ | refine kD_ ?_ | refine kA_ ?_ _)); refine blk_put (cs := #[.int .i64 0, .int .i64 0]) ?_ 0 _ rfl; (with_reducible repeat (first | refine kN_ ?_ _ | refine kD_ ?_ | refine kA_ ?_ _)); exact BK304.out) Try.underlying27 rfl (by kernel_rfl)) rfl ?_
  exact ⟨by first | rfl | (simp [errW_none, errW_some] <;> rfl) | (simp [*, errW_none, errW_some] <;> rfl), by repeat (first | (with_reducible first | exact HB.out | apply bA_ | apply bN_ | apply bD_ | refine bS_ ?_ GE303.out | refine bS_ ?_ GE304.out) | exact HB.out)⟩
end Go.Proofs.Ytnbnalbomflafaa.GT
namespace Go.Proofs.Ytnbnalbomflafaa.DT
open Go.RowKit YtnbnalbomflafaaW.PrintWords YtnbnalbomflafaaW.PrintLast YtnbnalbomflafaaW.PrintMore
open GA hiding info37
open GR hiding rd_L1 at_L1
open RA
structure Eqs (l : List (List Int)) (own : Int → Int) (atA a b : Int) : Prop where
 m6 : (innerL l a b).length ≤ 6
 sq : Sq (innerL l a b).length (matM l a b)
 bM : ∀ r c, r < (innerL l a b).length → c < (innerL l a b).length → (matF (matM l a b) r c).natAbs ≤ 5
 lR : (rightL l own atA 0 a b (innerL l a b)).length = (innerL l a b).length
 bR : ∀ r : Nat, r < (innerL l a b).length → (rd (rightL l own atA 0 a b (innerL l a b)) (r : Int)).natAbs ≤ 5
theorem eqs_of {l : List (List Int)} {own : Int → Int} {atA a b : Int} (h : goodB l a b = true) (hS : ∀ p : Int, 0 ≤ p → p < l.length → ∀ x, x ≤ (rd_L1 l p).length → -5 ≤ sumF own atA 0 a b p (rd_L1 l p) x ∧ sumF own atA 0 a b p (rd_L1 l p) x ≤ 5) : Eqs l own atA a b := by
 obtain ⟨hab, a0, a1, b0, b1, h8, h5, _, _⟩ := good_facts h
 refine ⟨inner_six h8 a0 a1 b0 b1 hab, sq_matM l a b, fun r c hr hc => matM_bound h5 hr hc, by simp [rightL], fun r hr => ?_⟩
 rw [rightL_at l own atA 0 a b _ hr]
 have hm := inner_mem (l := l) (a := a) (b := b) (p := rd (innerL l a b) (r : Int)) (by rw [rd_at _ r hr]; exact List.getElem_mem _)
 have := hS _ hm.1 hm.2.1 _ (Nat.le_refl _)
 omega
theorem eqs_solve {l : List (List Int)} {own : Int → Int} {atA a b : Int} (h : Eqs l own atA a b) (k : Nat) (hk : 300 ≤ k) : spec_hiSolve.f k (matM l a b) (rightL l own atA 0 a b (innerL l a b)) = some (numsL (innerL l a b).length (matM l a b) (rightL l own atA 0 a b (innerL l a b)), denOf l a b) := solve_f h.m6 h.sq h.lR h.bM h.bR k hk
theorem nums_at (l : List (List Int)) (own : Int → Int) (atA a b : Int) {j : Nat} (hj : j < (innerL l a b).length) : rd (numsL (innerL l a b).length (matM l a b) (rightL l own atA 0 a b (innerL l a b))) (j : Int) = numOf l own atA 0 a b j := by
 rw [rd_at _ j (by simpa [numsL] using hj)]
 simp [numsL, numOf]
theorem num_bound {l : List (List Int)} {own : Int → Int} {atA a b : Int} (h : Eqs l own atA a b) {j : Nat} (hj : j < (innerL l a b).length) : (numOf l own atA 0 a b j).natAbs ≤ 11250000 := by
 unfold numOf
 refine det_le h.m6 fun r c hr hc => ?_
 rw [colL_at h.sq _ hr hc]
 split
 ·exact h.bR r hr
 ·exact h.bM r c hr hc
theorem den_bound {l : List (List Int)} {own : Int → Int} {atA a b : Int} (h : Eqs l own atA a b) : (denOf l a b).natAbs ≤ 11250000 := det_le h.m6 h.bM
theorem good_graph {l : List (List Int)} {a b : Int} (h : goodB l a b = true) : KA.isGraphB l = true := (KA.place_is ((goodB_is l a b).2 h).1).1
theorem outL_at {l : List (List Int)} {own : Int → Int} {atA a b : Int} {p : Int} (h0 : 0 ≤ p) (h1 : p < l.length) : rd (outL l own atA 0 a b) p = if p = a then atA * denOf l a b else if p = b then 0 * denOf l a b else numOf l own atA 0 a b ((innerL l a b).idxOf p) := by
 obtain ⟨i, rfl⟩ := Int.eq_ofNat_of_zero_le h0
 rw [rd_at _ i (by simp [outL]; omega)]
 simp [outL]
theorem out_bound {l : List (List Int)} {own : Int → Int} {atA a b : Int} (h : Eqs l own atA a b) (hA : -1 ≤ atA ∧ atA ≤ 1) {p : Int} (h0 : 0 ≤ p) (h1 : p < l.length) : (rd (outL l own atA 0 a b) p).natAbs ≤ 11250000 := by
 rw [outL_at h0 h1]
 have hd := den_bound h
 split
 ·rw [Int.natAbs_mul]
  have h2 : atA.natAbs ≤ 1 := by omega
  have := Nat.mul_le_mul h2 hd
  omega
 ·split
  ·simp
  ·rename_i q1 q2
   exact num_bound h (List.idxOf_lt_length_iff.2 (mem_inner h0 h1 q1 q2))
end Go.Proofs.Ytnbnalbomflafaa.DT
namespace Go.Proofs.Ytnbnalbomflafaa.DT
open Go.RowKit YtnbnalbomflafaaW.PrintWords YtnbnalbomflafaaW.PrintLast YtnbnalbomflafaaW.PrintMore
open GA hiding info37
open RA
def RatC (w : World) (R : Int × Int) (ok : Bool) (e : Ending) (w' : World) : Prop := e = .returned (.tuple #[.agg #[.int .i64 R.1, .int .i64 R.2], .bool ok]) ∧ Below w.heap.size w w'
end Go.Proofs.Ytnbnalbomflafaa.DT
namespace Go.Proofs.Ytnbnalbomflafaa.RA
open Go.RowKit YtnbnalbomflafaaW.PrintWords YtnbnalbomflafaaW.PrintLast YtnbnalbomflafaaW.PrintMore
open DT
theorem eqRat_c (w : World) (x y : Int) : Calls Try.prog 23 #[.agg #[.int .i64 x, .int .i64 y], .agg #[.int .i64 x, .int .i64 y]] w fun e w' => e = .returned (.bool true) ∧ Below w.heap.size w w' :=
 GA.laws_eqRatio.calls x y x y true w (by simp [GA.laws_eqRatio.f])
end Go.Proofs.Ytnbnalbomflafaa.RA
namespace Go.Proofs.Ytnbnalbomflafaa.HA
open Go.RowKit YtnbnalbomflafaaW.PrintWords YtnbnalbomflafaaW.PrintLast YtnbnalbomflafaaW.PrintMore
open GA KA
attribute [local go_sem] max2_int min2_int max_two min_two max_three min_three max_four min_four
def errW : Option Int → Value
 | none => .nilIface
 | some c => .iface 0 (.int .i64 c)
theorem errW_none : errW none = .nilIface := rfl
theorem errW_some (c : Int) : errW (some c) = .iface 0 (.int .i64 c) := rfl
end Go.Proofs.Ytnbnalbomflafaa.HA
namespace Go.Proofs.Ytnbnalbomflafaa.GU
open Go.RowKit YtnbnalbomflafaaW.PrintWords YtnbnalbomflafaaW.PrintLast YtnbnalbomflafaaW.PrintMore
open GA
attribute [local go_sem] max2_int min2_int max_two min_two max_three min_three max_four min_four
def errW : Option Int → Value
 | none => .nilIface
 | some c => .iface 0 (.int .i64 c)
theorem errW_none : errW none = .nilIface := rfl
theorem errW_some (c : Int) : errW (some c) = .iface 0 (.int .i64 c) := rfl
end Go.Proofs.Ytnbnalbomflafaa.GU
namespace Go.Proofs.Ytnbnalbomflafaa.GU
open Go.RowKit YtnbnalbomflafaaW.PrintWords YtnbnalbomflafaaW.PrintLast YtnbnalbomflafaaW.PrintMore
open GA
attribute [local go_sem] max2_int min2_int max_two min_two max_three min_three max_four min_four
def impl_sum.l0 : Nat → Int → List Int → Int → Int → Option (Int)
 | 0, _, _, _, _ => none
 | k + 1, x3, x6, x7, x8 => if x8 < x7 then (if 0 ≤ x8 then (if x8 < (x6.length : Int) then (impl_sum.l0 k (wrap64 (x3 + (rd x6 x8))) x6 x7 (wrap64 (x8 + 1))) else (none)) else (none)) else (some x3)
def impl_sum.f (k : Nat) (l0 : List Int) : Option (Int) := impl_sum.l0 k 0 l0 (l0.length : Int) 0
set_option maxHeartbeats 8000000 in
set_option maxRecDepth 100000 in
theorem impl_sum.calls (k : Nat) (A0 : Option Addr) (c0 : Nat) (l0 : List Int) (r : Int) (w : World) (hr0 : Kd.C (Kd.int .i64) w A0 l0.length l0) (hc0 : l0.length ≤ c0) (h : impl_sum.f k l0 = some r) :
  Calls Try.prog 86 #[.slice A0 l0.length c0] w fun e w' => e = .returned (.int .i64 r) ∧ Drawn0 w w' := by
 have HR0 := Aside0.mk hr0
 have HC0 := Aside0.mk hc0
 clear hr0 hc0
 have H : (impl_sum.l0 k 0 l0 (l0.length : Int) 0) = some r := h
 clear h
 have H' := Aside0.mk H
 clear H
 go_enter Try.func86, Try.ntmps86
 go_wp2
 go_loopg [3, 8] k (fun kq v3 v8 w' => ∃ (x3_1 : Int) (x8_1 : Int), v3 = .int .i64 x3_1 ∧ v8 = .int .i64 x8_1 ∧ Aside0 (impl_sum.l0 kq x3_1 l0 (l0.length : Int) x8_1 = some r) ∧ Aside0 (kq ≤ k) ∧ Drawn0 w w')
 case atStart => exact ⟨(0), (0), (by first | rfl | (simp; done) | (simp [*]; done)), (by first | rfl | (simp; done) | (simp [*]; done)), H', ⟨Nat.le_refl _⟩, by repeat (first | exact Drawn0.refl _ | apply Drawn0.step)⟩
 case round =>
  clear H'
  obtain ⟨x3_1, x8_1, rfl, rfl, HA, HK1, ⟨m1, rfl⟩⟩ := hrel
  cases gk with
  | zero => exact absurd HA.out (by simp [impl_sum.l0])
  | succ k1 =>
   have H := HA.out
   clear HA
   simp only [impl_sum.l0] at H
   by_cases c2 : x8_1 < (l0.length : Int)
   ·rw [if_pos c2] at H
    have c2b0 : decide (x8_1 < (l0.length : Int)) = true := decide_eq_true c2
    clear c2
    by_cases c3 : 0 ≤ x8_1
    ·rw [if_pos c3] at H
     have c3b0 : decide (0 ≤ x8_1) = true := decide_eq_true c3
     clear c3
     by_cases c4 : x8_1 < (l0.length : Int)
     ·rw [if_pos c4] at H
      have c4b0 : decide (x8_1 < (l0.length : Int)) = true := decide_eq_true c4
      clear c4
      have H' := Aside0.mk H
      clear H
      have p101 : 0 ≤ (x8_1 : Int) := of_decide_eq_true (by first | (with_reducible assumption) | assumption)
      have q101 : x8_1 < (l0.length : Int) := of_decide_eq_true (by first | (with_reducible assumption) | assumption)
      obtain ⟨ad101, e101, hx101_0⟩ := Kd.at_int HR0.out x8_1 p101 q101
      cases e101
      replace p101 := eq_true p101
      replace q101 := eq_true q101
      go_wp2
      go_roundg k1
      case measure => have := HK1.out; omega
      case rel => exact ⟨(wrap64 (x3_1 + (rd l0 x8_1))), (wrap64 (x8_1 + 1)), (by first | rfl | (simp; done) | (simp [*]; done)), (by first | rfl | (simp; done) | (simp [*]; done)), H', ⟨by have := HK1.out; omega⟩, by repeat (first | exact Drawn0.refl _ | apply Drawn0.step)⟩
     ·rw [if_neg c4] at H
      exact absurd H (by simp)
    ·rw [if_neg c3] at H
     exact absurd H (by simp)
   ·rw [if_neg c2] at H
    have c2b0 : decide (x8_1 < (l0.length : Int)) = false := decide_eq_false c2
    clear c2
    obtain rfl := Option.some.inj H
    go_wp2
    go_ret
    exact ⟨by first | rfl | (simp; done) | (simp [*]; done), by repeat (first | exact Drawn0.refl _ | apply Drawn0.step)⟩
end Go.Proofs.Ytnbnalbomflafaa.GU
namespace Go.Proofs.Ytnbnalbomflafaa.GV
open Go.RowKit YtnbnalbomflafaaW.PrintWords YtnbnalbomflafaaW.PrintLast YtnbnalbomflafaaW.PrintMore
open GA KA GU HA DT
attribute [local go_sem] max2_int min2_int max_two min_two max_three min_three max_four min_four
def errW : Option Int → Value
 | none => .nilIface
 | some c => .iface 0 (.int .i64 c)
theorem errW_none : errW none = .nilIface := rfl
theorem errW_some (c : Int) : errW (some c) = .iface 0 (.int .i64 c) := rfl
end Go.Proofs.Ytnbnalbomflafaa.GV
namespace Go.Proofs.Ytnbnalbomflafaa.GV
open Go.RowKit YtnbnalbomflafaaW.PrintWords YtnbnalbomflafaaW.PrintLast YtnbnalbomflafaaW.PrintMore
open GA KA GU HA DT
attribute [local go_sem] max2_int min2_int max_two min_two max_three min_three max_four min_four
noncomputable def impl_size.f (a0 : Int) : Option (Int) := some (mx a0 (wrap64 (-a0)))
set_option maxHeartbeats 8000000 in
set_option maxRecDepth 100000 in
theorem impl_size.calls (a0 : Int) (r : Int) (w : World) (h : impl_size.f a0 = some r) :
  Calls Try.prog 95 #[.int .i64 a0] w fun e w' => e = .returned (.int .i64 r) ∧ Below w.heap.size w w' := by
 have HB := Aside0.mk (Below.refl w.heap.size w)
 have H : (some (mx a0 (wrap64 (-a0)))) = some r := h
 clear h
 obtain ⟨ji2, hji2⟩ : ∃ j_ : Int, (mx a0 (wrap64 (-a0))) = j_ := ⟨_, rfl⟩
 replace H : (some ji2) = some r := by first | (rw [hji2] at H; exact H) | (simp only [hji2] at H ⊢; exact H)
 have hji2_ : (if a0 < (wrap64 (-a0)) then (wrap64 (-a0)) else a0) = ji2 := hji2
 obtain rfl := Option.some.inj H
 go_enter Try.func95, Try.ntmps95
 go_wp2
 go_ret
 exact ⟨by first | rfl | (simp [errW_none, errW_some] <;> rfl) | (simp only [← hji2]; first | rfl | (simp [errW_none, errW_some] <;> rfl)) | (simp [*, errW_none, errW_some] <;> rfl), by repeat (first | (with_reducible first | exact HB.out | apply bA_ | apply bN_ | apply bD_) | exact HB.out)⟩
end Go.Proofs.Ytnbnalbomflafaa.GV
namespace Go.Proofs.Ytnbnalbomflafaa.GV
open Go.RowKit YtnbnalbomflafaaW.PrintWords YtnbnalbomflafaaW.PrintLast YtnbnalbomflafaaW.PrintMore
open GA KA GU HA DT
attribute [local go_sem] max2_int min2_int max_two min_two max_three min_three max_four min_four
noncomputable def impl_HitGap.f (k : Nat) (l0_0 : List (List Int)) (l1 : List Int) (a2 : Int) (a3 : Int) (a4 : Int) (a5 : Int) : Option (Int × Int × Bool) := (impl_hits.f l0_0 l1 a2 a3 a4 a5).bind fun bt176 => (if bt176.2.2.2 = true then ((impl_chances.f l0_0 a3 a4).bind fun bt184 => ((impl_sum.f k bt176.1).bind fun t188 => (if 0 ≤ a2 then (if a2 < (bt184.1.length : Int) then ((impl_size.f (wrap64 ((wrap64 (t188 * bt184.2)) - (wrap64 (a5 * (rd bt184.1 a2)))))).bind fun t190 => ((impl_size.f bt184.2).bind fun t191 => ((impl_ratio.f k t190 t191).bind fun bt192 => (some (bt192.1, bt192.2, true))))) else (none)) else (none)))) else (some (0, 0, false)))
noncomputable def impl_HitGap.T5 : Bool × List (List Nat × List Nat) := (true, [([], []), ([0], [0]), ([], []), ([1, 2], [1, 2]), ([], []), ([], []), ([], []), ([5, 6], [5, 6]), ([7], [7]), ([4, 8], [4, 8]), ([3, 9], [3, 9]), ([10, 1], [10]), ([], []), ([12, 11], [12]), ([11, 13, 13], [11, 13]), ([14, 14, 0, 1, 2, 3, 4, 5, 6, 7, 8, 9, 10, 11, 12, 13, 14], [14]), ([15, 0, 1, 2, 3, 4, 5, 6, 7, 8, 9, 10, 11, 12, 13, 14, 15], [])])
noncomputable def impl_HitGap.B5 : List Nat := [0, 1, 0, 7, 0, 0, 0, 96, 224, 496, 1023, 2047, 0, 8191, 16383, 32767, 65535]
theorem impl_HitGap.tab5 : rtab .any (opsOf Try.f52 5) = impl_HitGap.T5 := by kernel_rfl
theorem impl_HitGap.bits5 : waitsOk impl_HitGap.T5.2 impl_HitGap.B5 = true := by kernel_rfl
set_option maxHeartbeats 8000000 in
set_option maxRecDepth 100000 in
theorem impl_HitGap.calls (k : Nat) (A0_0 : Option Addr) (c0_0 : Nat) (l0_0 : List (List Int)) (A1 : Option Addr) (c1 : Nat) (l1 : List Int) (a2 : Int) (a3 : Int) (a4 : Int) (a5 : Int) (r1 : Int) (r2 : Int) (r3 : Bool) (w : World) (hr0_0 : Kd.C (Kd.slice 3 (Kd.int .i64)) w A0_0 l0_0.length l0_0) (hc0_0 : l0_0.length ≤ c0_0) (hr1 : Kd.C (Kd.int .i64) w A1 l1.length l1) (hc1 : l1.length ≤ c1) (h : impl_HitGap.f k l0_0 l1 a2 a3 a4 a5 = some (r1, r2, r3)) :
  Calls Try.prog 52 #[.agg #[.slice A0_0 l0_0.length c0_0], .slice A1 l1.length c1, .int .i64 a2, .int .i64 a3, .int .i64 a4, .int .i64 a5] w fun e w' => e = .returned (.tuple #[.agg #[.int .i64 r1, .int .i64 r2], .bool r3]) ∧ Below w.heap.size w w' := by
 have hu30 := Try.underlying30
 have hu27 := Try.underlying27
 have HR0_0 := Aside0.mk hr0_0
 have HC0_0 := Aside0.mk hc0_0
 clear hr0_0 hc0_0
 have HR1 := Aside0.mk hr1
 have HC1 := Aside0.mk hc1
 clear hr1 hc1
 have HB := Aside0.mk (Below.refl w.heap.size w)
 have H : ((impl_hits.f l0_0 l1 a2 a3 a4 a5).bind fun bt176 => (if bt176.2.2.2 = true then ((impl_chances.f l0_0 a3 a4).bind fun bt184 => ((impl_sum.f k bt176.1).bind fun t188 => (if 0 ≤ a2 then (if a2 < (bt184.1.length : Int) then ((impl_size.f (wrap64 ((wrap64 (t188 * bt184.2)) - (wrap64 (a5 * (rd bt184.1 a2)))))).bind fun t190 => ((impl_size.f bt184.2).bind fun t191 => ((impl_ratio.f k t190 t191).bind fun bt192 => (some (bt192.1, bt192.2, true))))) else (none)) else (none)))) else (some (0, 0, false)))) = some (r1, r2, r3) := h
 clear h
 replace H := Option.bind_eq_some_iff.mp H
 obtain ⟨⟨t176, t179, t182, t183⟩, A70, H⟩ := H
 replace H : (if t183 = true then ((impl_chances.f l0_0 a3 a4).bind fun bt184 => ((impl_sum.f k t176).bind fun t188 => (if 0 ≤ a2 then (if a2 < (bt184.1.length : Int) then ((impl_size.f (wrap64 ((wrap64 (t188 * bt184.2)) - (wrap64 (a5 * (rd bt184.1 a2)))))).bind fun t190 => ((impl_size.f bt184.2).bind fun t191 => ((impl_ratio.f k t190 t191).bind fun bt192 => (some (bt192.1, bt192.2, true))))) else (none)) else (none)))) else (some (0, 0, false))) = some (r1, r2, r3) := H
 have A7 := Aside0.mk A70
 clear A70
 by_cases c8 : t183 = true
 ·subst c8
  have H1 : ((impl_chances.f l0_0 a3 a4).bind fun bt184 => ((impl_sum.f k t176).bind fun t188 => (if 0 ≤ a2 then (if a2 < (bt184.1.length : Int) then ((impl_size.f (wrap64 ((wrap64 (t188 * bt184.2)) - (wrap64 (a5 * (rd bt184.1 a2)))))).bind fun t190 => ((impl_size.f bt184.2).bind fun t191 => ((impl_ratio.f k t190 t191).bind fun bt192 => (some (bt192.1, bt192.2, true))))) else (none)) else (none)))) = some (r1, r2, r3) := by rw [if_pos rfl] at H; exact H
  clear H
  have H := H1
  clear H1
  replace H := Option.bind_eq_some_iff.mp H
  obtain ⟨⟨t184, t187⟩, A90, H⟩ := H
  replace H : ((impl_sum.f k t176).bind fun t188 => (if 0 ≤ a2 then (if a2 < (t184.length : Int) then ((impl_size.f (wrap64 ((wrap64 (t188 * t187)) - (wrap64 (a5 * (rd t184 a2)))))).bind fun t190 => ((impl_size.f t187).bind fun t191 => ((impl_ratio.f k t190 t191).bind fun bt192 => (some (bt192.1, bt192.2, true))))) else (none)) else (none))) = some (r1, r2, r3) := H
  have A9 := Aside0.mk A90
  clear A90
  replace H := Option.bind_eq_some_iff.mp H
  obtain ⟨t188, A100, H⟩ := H
  replace H : (if 0 ≤ a2 then (if a2 < (t184.length : Int) then ((impl_size.f (wrap64 ((wrap64 (t188 * t187)) - (wrap64 (a5 * (rd t184 a2)))))).bind fun t190 => ((impl_size.f t187).bind fun t191 => ((impl_ratio.f k t190 t191).bind fun bt192 => (some (bt192.1, bt192.2, true))))) else (none)) else (none)) = some (r1, r2, r3) := H
  have A10 := Aside0.mk A100
  clear A100
  by_cases c11 : 0 ≤ a2
  ·rw [if_pos c11] at H
   have c11b0 : decide (0 ≤ a2) = true := decide_eq_true c11
   clear c11
   by_cases c12 : a2 < (t184.length : Int)
   ·rw [if_pos c12] at H
    have c12b0 : decide (a2 < (t184.length : Int)) = true := decide_eq_true c12
    clear c12
    replace H := Option.bind_eq_some_iff.mp H
    obtain ⟨t190, A130, H⟩ := H
    replace H : ((impl_size.f t187).bind fun t191 => ((impl_ratio.f k t190 t191).bind fun bt192 => (some (bt192.1, bt192.2, true)))) = some (r1, r2, r3) := H
    have A13 := Aside0.mk A130
    clear A130
    replace H := Option.bind_eq_some_iff.mp H
    obtain ⟨t191, A140, H⟩ := H
    replace H : ((impl_ratio.f k t190 t191).bind fun bt192 => (some (bt192.1, bt192.2, true))) = some (r1, r2, r3) := H
    have A14 := Aside0.mk A140
    clear A140
    replace H := Option.bind_eq_some_iff.mp H
    obtain ⟨⟨t192, t193⟩, A150, H⟩ := H
    replace H : (some (t192, t193, true)) = some (r1, r2, r3) := H
    have A15 := Aside0.mk A150
    clear A150
    simp only [Option.some.injEq, Prod.mk.injEq] at H
    obtain ⟨rfl, rfl, rfl⟩ := H
    go_enter Try.func52, Try.ntmps52
    try go_wp2_with (first | ((with_reducible refine gate_dst (N := 6) rfl ?_); refine box_event ?hg (N := 6) ?hd (cs := #[.slice A0_0 l0_0.length c0_0]) (t := 30) ?hr ?_; (case hd => rfl); (case hg => rfl); (case hr => first | (go_simp; done) | (go_simp; rfl)); intro gb174 hg w16 hbox hb; have n0_ := Aside0.mk (bP_ (by repeat (first | (with_reducible first | exact HB.out | apply bA_ | apply bN_ | apply bD_) | exact HB.out)) hb); have n1_ := Aside0.mk (hbox); have n2_ := Aside0.mk ((by rw [hg]; exact (bZ_ (by repeat (first | (with_reducible first | exact HB.out | apply bA_ | apply bN_ | apply bD_) | exact HB.out))) : w.heap.size ≤ gb174)); have n3_ := Aside0.mk ((by rw [hg]; exact (bZ_ (by repeat (first | (with_reducible first | exact HB.out | apply bA_ | apply bN_ | apply bD_) | exact HB.out))) : w.heap.size ≤ gb174)); clear HB; have HB := n0_; have BK174 := n1_; have GW174 := n2_; have GE174 := n3_; clear n0_ n1_ n2_ n3_; clear hb hbox hg) | ((with_reducible refine gate_dst (N := 12) rfl ?_); refine box_event ?hg (N := 12) ?hd (cs := #[.int .i64 0, .int .i64 0]) (t := 27) ?hr ?_; (case hd => rfl); (case hg => rfl); (case hr => first | (go_simp; done) | (go_simp; rfl)); intro gb175 hg w17 hbox hb; have n0_ := Aside0.mk (blk_below (g := gb174) (o := .cells #[.slice A0_0 l0_0.length c0_0] 30 (0, 0)) (by (with_reducible repeat (first | refine kN_ ?_ _ | refine kD_ ?_ | refine kA_ ?_ _)); exact BK174.out) hb); have n1_ := Aside0.mk (bP_ (by repeat (first | (with_reducible first | exact HB.out | apply bA_ | apply bN_ | apply bD_ | refine bS_ ?_ GE174.out) | exact HB.out)) hb); have n2_ := Aside0.mk (hbox); have n3_ := Aside0.mk ((by rw [hg]; exact (bZ_ (by repeat (first | (with_reducible first | exact HB.out | apply bA_ | apply bN_ | apply bD_ | refine bS_ ?_ GE174.out) | exact HB.out))) : w.heap.size ≤ gb175)); have n4_ := Aside0.mk ((by rw [hg]; exact (bZ_ (by repeat (first | (with_reducible first | exact HB.out | apply bA_ | apply bN_ | apply bD_ | refine bS_ ?_ GE174.out) | exact HB.out))) : w.heap.size ≤ gb175)); have n5_ := Aside0.mk ((by rw [hg]; exact Nat.ne_of_lt (blk_lt (g := gb174) (o := .cells #[.slice A0_0 l0_0.length c0_0] 30 (0, 0)) (by (with_reducible repeat (first | refine kN_ ?_ _ | refine kD_ ?_ | refine kA_ ?_ _)); exact BK174.out)) : gb174 ≠ gb175)); have n6_ := Aside0.mk ((by rw [hg]; exact Nat.ne_of_gt (blk_lt (g := gb174) (o := .cells #[.slice A0_0 l0_0.length c0_0] 30 (0, 0)) (by (with_reducible repeat (first | refine kN_ ?_ _ | refine kD_ ?_ | refine kA_ ?_ _)); exact BK174.out)) : gb175 ≠ gb174)); clear BK174; clear HB; have BK174 := n0_; have HB := n1_; have BK175 := n2_; have GW175 := n3_; have GE175 := n4_; have NB174_175 := n5_; have NB175_174 := n6_; clear n0_ n1_ n2_ n3_ n4_ n5_ n6_; clear hb hbox hg; have hnb18 := NB174_175.out; have hnc18 := NB175_174.out; have hcz19_0 : w17.cell? ⟨gb174, 0, none⟩ = some (.slice A0_0 l0_0.length c0_0) := (blk_cell BK174.out 0).trans rfl; have hfz19_0 := kF_ BK174.out 0) | ((with_reducible refine gate_callee (f := 84) rfl ?_); refine goesL_ (some 27) rfl rfl Try.func84 (by kernel_rfl) rfl #[.agg #[.slice A0_0 l0_0.length c0_0], .slice A1 l1.length c1, .int .i64 a2, .int .i64 a3, .int .i64 a4, .int .i64 a5] rfl (by (try simp only [List.map_toArray, List.map_cons, List.map_nil]); first | done | rfl | (simp only [List.length_drop, List.length_take]; rfl)) ?_; (with_reducible refine (impl_hits.calls _ _ l0_0 _ _ l1 a2 a3 a4 a5 t176 t179 t182 true _ ?side1 ?side2 ?side3 ?side4 A7.out).mono ?_); (case side1 => repeat (first | exact (Kd.C_below HR0_0.out HB.out) | (with_reducible refine Kd.C_alloc ?_ _) | (with_reducible refine Kd.C_drewN ?_ _) | (with_reducible refine Kd.C_drew ?_))); (case side2 => exact HC0_0.out); (case side3 => repeat (first | exact (Kd.C_below HR1.out HB.out) | (with_reducible refine Kd.C_alloc ?_ _) | (with_reducible refine Kd.C_drewN ?_ _) | (with_reducible refine Kd.C_drew ?_))); (case side4 => exact HC1.out); rintro e w20 ⟨v177, v180, rfl, ho0, ho1, hb⟩; refine ⟨_, rfl, ?_⟩; have n0_ := Aside0.mk (Kd.R_lower ho0 (bZ_ (by repeat (first | (with_reducible first | exact HB.out | apply bA_ | apply bN_ | apply bD_ | refine bS_ ?_ GE174.out | refine bS_ ?_ GE175.out) | exact HB.out)))); have n1_ := Aside0.mk (Kd.R_lower ho1 (bZ_ (by repeat (first | (with_reducible first | exact HB.out | apply bA_ | apply bN_ | apply bD_ | refine bS_ ?_ GE174.out | refine bS_ ?_ GE175.out) | exact HB.out)))); have n2_ := Aside0.mk (blk_below (g := gb174) (o := .cells #[.slice A0_0 l0_0.length c0_0] 30 (0, 0)) (by (with_reducible repeat (first | refine kN_ ?_ _ | refine kD_ ?_ | refine kA_ ?_ _)); exact BK174.out) hb); have n3_ := Aside0.mk (blk_below (g := gb175) (o := .cells #[.int .i64 0, .int .i64 0] 27 (0, 0)) (by (with_reducible repeat (first | refine kN_ ?_ _ | refine kD_ ?_ | refine kA_ ?_ _)); exact BK175.out) hb); have n4_ := Aside0.mk (bP_ (by repeat (first | (with_reducible first | exact HB.out | apply bA_ | apply bN_ | apply bD_ | refine bS_ ?_ GE174.out | refine bS_ ?_ GE175.out) | exact HB.out)) hb); clear BK174; clear BK175; clear HB; have HO178 := n0_; have HO181 := n1_; have BK174 := n2_; have BK175 := n3_; have HB := n4_; clear n0_ n1_ n2_ n3_ n4_; (try clear hb); (try clear hb2); (try clear hk); (try clear hi); (try clear ho0); (try clear ho1); have hcz21_0 : w20.cell? ⟨gb174, 0, none⟩ = some (.slice A0_0 l0_0.length c0_0) := (blk_cell BK174.out 0).trans rfl; have hfz21_0 := kF_ BK174.out 0) | ((with_reducible refine gate_callee (f := 93) rfl ?_); refine goesL_ (some 39) rfl rfl Try.func93 (by kernel_rfl) rfl #[.agg #[.slice A0_0 l0_0.length c0_0], .int .i64 a3, .int .i64 a4] rfl (by (try simp only [List.map_toArray, List.map_cons, List.map_nil]); first | done | rfl | (simp only [List.length_drop, List.length_take]; rfl)) ?_; (with_reducible refine (impl_chances.calls _ _ l0_0 a3 a4 t184 t187 _ ?side1 ?side2 A9.out).mono ?_); (case side1 => repeat (first | exact (Kd.C_below HR0_0.out HB.out) | (with_reducible refine Kd.C_alloc ?_ _) | (with_reducible refine Kd.C_drewN ?_ _) | (with_reducible refine Kd.C_drew ?_))); (case side2 => exact HC0_0.out); rintro e w22 ⟨v185, rfl, ho0, hb⟩; refine ⟨_, rfl, ?_⟩; have n0_ := Aside0.mk (Kd.R_elder' (by (with_reducible repeat (first | apply Kd.R_alloc | apply Kd.R_drewN | apply Kd.R_drew)); exact HO178.out) (Kd.R_base ho0) hb); have n1_ := Aside0.mk (Kd.R_elder' (by (with_reducible repeat (first | apply Kd.R_alloc | apply Kd.R_drewN | apply Kd.R_drew)); exact HO181.out) (Kd.R_base ho0) hb); have n2_ := Aside0.mk (Kd.R_lower (Kd.R_new' (Kd.R_new' ho0 (Kd.R_lt (by (with_reducible repeat (first | apply Kd.R_alloc | apply Kd.R_drewN | apply Kd.R_drew)); exact HO178.out))) (Kd.R_lt (by (with_reducible repeat (first | apply Kd.R_alloc | apply Kd.R_drewN | apply Kd.R_drew)); exact HO181.out))) (bZ_ (by repeat (first | (with_reducible first | exact HB.out | apply bA_ | apply bN_ | apply bD_ | refine bS_ ?_ GE174.out | refine bS_ ?_ GE175.out) | exact HB.out)))); have n3_ := Aside0.mk (blk_below (g := gb174) (o := .cells #[.slice A0_0 l0_0.length c0_0] 30 (0, 0)) (by (with_reducible repeat (first | refine kN_ ?_ _ | refine kD_ ?_ | refine kA_ ?_ _)); exact BK174.out) hb); have n4_ := Aside0.mk (blk_below (g := gb175) (o := .cells #[.int .i64 0, .int .i64 0] 27 (0, 0)) (by (with_reducible repeat (first | refine kN_ ?_ _ | refine kD_ ?_ | refine kA_ ?_ _)); exact BK175.out) hb); have n5_ := Aside0.mk (bP_ (by repeat (first | (with_reducible first | exact HB.out | apply bA_ | apply bN_ | apply bD_ | refine bS_ ?_ GE174.out | refine bS_ ?_ GE175.out) | exact HB.out)) hb); clear HO178; clear HO181; clear BK174; clear BK175; clear HB; have HO178 := n0_; have HO181 := n1_; have HO186 := n2_; have BK174 := n3_; have BK175 := n4_; have HB := n5_; clear n0_ n1_ n2_ n3_ n4_ n5_; (try clear hb); (try clear hb2); (try clear hk); (try clear hi); (try clear ho0)))
    have n0_ := Aside0.mk (Kd.R_drew HO178.out)
    have n1_ := Aside0.mk (Kd.R_drew HO181.out)
    have n2_ := Aside0.mk (Kd.R_drew HO186.out)
    have n3_ := Aside0.mk (kD_ BK174.out)
    have n4_ := Aside0.mk (kD_ BK175.out)
    have n5_ := Aside0.mk (bD_ HB.out)
    clear HO178
    clear HO181
    clear HO186
    clear BK174
    clear BK175
    clear HB
    have HO178 := n0_
    have HO181 := n1_
    have HO186 := n2_
    have BK174 := n3_
    have BK175 := n4_
    have HB := n5_
    clear n0_ n1_ n2_ n3_ n4_ n5_
    obtain ⟨Ao24, co24, eo24⟩ := Kd.R_slice HO186.out
    (first | subst eo24 | (injection eo24 with f1_ f2_ f3_; have f4_ := f1_.symm; have f5_ := f3_.symm; clear f1_ f2_ f3_; subst f4_; subst f5_))
    have p189 : 0 ≤ (a2 : Int) := of_decide_eq_true (by first | (with_reducible assumption) | assumption)
    have q189 : a2 < (t184.length : Int) := of_decide_eq_true (by first | (with_reducible assumption) | assumption)
    obtain ⟨ad189, e189, hx189_0⟩ := Kd.at_int (Kd.R_reads' HO186.out).2.2 a2 p189 q189
    cases e189
    replace p189 := eq_true p189
    replace q189 := eq_true q189
    obtain ⟨Ao25, co25, eo25⟩ := Kd.R_slice HO178.out
    (first | subst eo25 | (injection eo25 with f1_ f2_ f3_; have f4_ := f1_.symm; have f5_ := f3_.symm; clear f1_ f2_ f3_; subst f4_; subst f5_))
    refine start_ (n := 17) (S := fun w' => w'.cell? (ad189.add (a2).toNat) = some (.int .i64 (rd t184 a2))) (ds := []) #[false, false, false, false, false, false, false, false, false, false, false, false, false, false, false, false, false] (by kernel_rfl) rfl rfl (hx189_0) (fun hHeld => ?_); refine with_tabW impl_HitGap.tab5 impl_HitGap.bits5 (fun HT_ HW_ => ?_)
    generalize w22.drew = w23 at HO178 HO181 HO186 BK174 BK175 HB hx189_0 hHeld ⊢
    refine pu_ (i := 0) (N := some 42) (v := ?_) (a' := ?_) HT_.out rfl rfl (Or.inl ⟨by rfl, ?_⟩) ?_ ?_
    rotate_left
    ·intro w'
     go_simp
     with_reducible rfl
    rotate_left
    ·simp only [sp_]
     rfl
    refine pu_ (i := 2) (N := some 44) (v := ?_) (a' := ?_) HT_.out rfl rfl (Or.inl ⟨by rfl, ?_⟩) ?_ ?_
    rotate_left
    ·intro w'
     go_simp
     with_reducible rfl
    rotate_left
    ·simp only [sp_]
     rfl
    refine pu_ (i := 4) (N := some 46) (v := ?_) (a' := ?_) HT_.out rfl rfl (Or.inl ⟨by rfl, ?_⟩) ?_ ?_
    rotate_left
    ·intro w'
     go_simp
     with_reducible rfl
    rotate_left
    ·simp only [sp_]
     rfl
    refine pu_ (i := 5) (N := some 47) (v := ?_) (a' := ?_) HT_.out rfl rfl (Or.inl ⟨by rfl, ?_⟩) ?_ ?_
    rotate_left
    ·intro w'
     go_simp
     with_reducible rfl
    rotate_left
    ·simp only [sp_]
     rfl
    refine pu_ (i := 6) (N := some 48) (v := ?_) (a' := ?_) HT_.out rfl rfl (Or.inl ⟨by rfl, ?_⟩) ?_ ?_
    rotate_left
    ·intro w'
     go_simp
     with_reducible rfl
    rotate_left
    ·simp only [sp_]
     rfl
    refine pu_ (i := 7) (N := some 49) (v := ?_) (a' := ?_) HT_.out rfl rfl (Or.inl ⟨by rfl, ?_⟩) ?_ ?_
    rotate_left
    ·intro w'
     go_simp
     with_reducible rfl
    rotate_left
    ·simp only [sp_]
     rfl
    refine pu_ (i := 12) (N := some 54) (v := ?_) (a' := ?_) HT_.out rfl rfl (Or.inl ⟨by rfl, ?_⟩) ?_ ?_
    rotate_left
    ·intro w'
     go_simp
     with_reducible rfl
    rotate_left
    ·simp only [sp_]
     rfl
    refine tk_ (i := 8) (N := some 50) (v := ?_) (a' := ?_) HT_.out HW_.out rfl rfl (Or.inl ⟨by rfl, ?_⟩) hHeld ?_ ?_
    rotate_left
    ·intro w' s0
     go_simp
     with_reducible rfl
    rotate_left
    ·simp only [sp_]
     rfl
    refine pu_ (i := 9) (N := some 51) (v := ?_) (a' := ?_) HT_.out rfl rfl (Or.inl ⟨by rfl, ?_⟩) ?_ ?_
    rotate_left
    ·intro w'
     go_simp
     with_reducible rfl
    rotate_left
    ·simp only [sp_]
     rfl
    refine one_ (i := 1) (N := some 43) #[true, true, true, false, true, true, true, true, true, true, false, false, true, false, false, false, false] rfl rfl (one_of HT_.out (by kernel_rfl)) (by decide) (fun K hK => ?_)
    refine goes_ Try.func86 (by kernel_rfl) rfl #[.slice Ao25 t176.length co25] (by rfl) rfl rfl (by (try simp only [List.map_toArray, List.map_cons, List.map_nil]); first | done | rfl | (simp only [List.length_drop, List.length_take]; rfl)) ?_
    with_reducible refine (impl_sum.calls k _ _ t176 t188 _ ?side1 ?side2 A10.out).mono ?_
    (case side1 => repeat (first | exact (Kd.R_reads' HO178.out).2.2 | (with_reducible refine Kd.C_alloc ?_ _) | (with_reducible refine Kd.C_drewN ?_ _) | (with_reducible refine Kd.C_drew ?_)))
    (case side2 => exact (Kd.R_reads' HO178.out).2.1)
    rintro e w' ⟨rfl, ⟨nd, rfl⟩⟩
    refine ⟨_, rfl, ?_⟩
    refine hK.out _ _ (hHeld) (fun hHeld => ?_)
    clear hK K
    refine norm_ (a' := ?_) ?_ ?_
    rotate_left
    ·show Act.put _ (some 43) _ = _
     simp only [sp_]
     rfl
    refine pu_ (i := 3) (N := some 45) (v := ?_) (a' := ?_) HT_.out rfl rfl (Or.inl ⟨by rfl, ?_⟩) ?_ ?_
    rotate_left
    ·intro w'
     go_simp
     with_reducible rfl
    rotate_left
    ·simp only [sp_]
     rfl
    refine pu_ (i := 10) (N := some 52) (v := ?_) (a' := ?_) HT_.out rfl rfl (Or.inl ⟨by rfl, ?_⟩) ?_ ?_
    rotate_left
    ·intro w'
     go_simp
     with_reducible rfl
    rotate_left
    ·simp only [sp_]
     rfl
    refine one_ (i := 11) (N := some 53) #[true, true, true, true, true, true, true, true, true, true, true, true, true, false, false, false, false] rfl rfl (one_of HT_.out (by kernel_rfl)) (by decide) (fun K hK => ?_)
    refine goes_ Try.func95 (by kernel_rfl) rfl #[.int .i64 (wrap64 ((wrap64 (t188 * t187)) - (wrap64 (a5 * (rd t184 a2)))))] (by rfl) rfl rfl (by (try simp only [List.map_toArray, List.map_cons, List.map_nil]); first | done | rfl | (simp only [List.length_drop, List.length_take]; rfl)) ?_
    with_reducible refine (impl_size.calls (wrap64 ((wrap64 (t188 * t187)) - (wrap64 (a5 * (rd t184 a2))))) t190 _ A13.out).mono ?_
    rintro e w26 ⟨rfl, hb⟩
    have HS0_ := (hb.cell (World.block_lt_of_cell? _ _ (hHeld))).trans (hHeld)
    refine ⟨_, rfl, ?_⟩
    have n0_ := Aside0.mk (Kd.R_below (by (with_reducible repeat (first | apply Kd.R_alloc | apply Kd.R_drewN | apply Kd.R_drew)); exact HO178.out) hb)
    have n1_ := Aside0.mk (Kd.R_below (by (with_reducible repeat (first | apply Kd.R_alloc | apply Kd.R_drewN | apply Kd.R_drew)); exact HO181.out) hb)
    have n2_ := Aside0.mk (Kd.R_below (by (with_reducible repeat (first | apply Kd.R_alloc | apply Kd.R_drewN | apply Kd.R_drew)); exact HO186.out) hb)
    have n3_ := Aside0.mk (blk_below (g := gb174) (o := .cells #[.slice A0_0 l0_0.length c0_0] 30 (0, 0)) (by (with_reducible repeat (first | refine kN_ ?_ _ | refine kD_ ?_ | refine kA_ ?_ _)); exact BK174.out) hb)
    have n4_ := Aside0.mk (blk_below (g := gb175) (o := .cells #[.int .i64 0, .int .i64 0] 27 (0, 0)) (by (with_reducible repeat (first | refine kN_ ?_ _ | refine kD_ ?_ | refine kA_ ?_ _)); exact BK175.out) hb)
    have n5_ := Aside0.mk (bP_ (by repeat (first | (with_reducible first | exact HB.out | apply bA_ | apply bN_ | apply bD_ | refine bS_ ?_ GE174.out | refine bS_ ?_ GE175.out) | exact HB.out)) hb)
    clear HO178
    clear HO181
    clear HO186
    clear BK174
    clear BK175
    clear HB
    have HO178 := n0_
    have HO181 := n1_
    have HO186 := n2_
    have BK174 := n3_
    have BK175 := n4_
    have HB := n5_
    clear n0_ n1_ n2_ n3_ n4_ n5_
    (try clear hb)
    (try clear hb2)
    (try clear hk)
    (try clear hi)
    refine hK.out _ _ (HS0_) (fun hHeld => ?_)
    clear hK K
    refine norm_ (a' := ?_) ?_ ?_
    rotate_left
    ·show Act.put _ (some 53) _ = _
     simp only [sp_]
     rfl
    refine one_ (i := 13) (N := some 55) #[true, true, true, true, true, true, true, true, true, true, true, true, true, true, false, false, false] rfl rfl (one_of HT_.out (by kernel_rfl)) (by decide) (fun K hK => ?_)
    refine goes_ Try.func95 (by kernel_rfl) rfl #[.int .i64 t187] (by rfl) rfl rfl (by (try simp only [List.map_toArray, List.map_cons, List.map_nil]); first | done | rfl | (simp only [List.length_drop, List.length_take]; rfl)) ?_
    with_reducible refine (impl_size.calls t187 t191 _ A14.out).mono ?_
    rintro e w27 ⟨rfl, hb⟩
    have HS0_ := (hb.cell (World.block_lt_of_cell? _ _ (hHeld))).trans (hHeld)
    refine ⟨_, rfl, ?_⟩
    have n0_ := Aside0.mk (Kd.R_below (by (with_reducible repeat (first | apply Kd.R_alloc | apply Kd.R_drewN | apply Kd.R_drew)); exact HO178.out) hb)
    have n1_ := Aside0.mk (Kd.R_below (by (with_reducible repeat (first | apply Kd.R_alloc | apply Kd.R_drewN | apply Kd.R_drew)); exact HO181.out) hb)
    have n2_ := Aside0.mk (Kd.R_below (by (with_reducible repeat (first | apply Kd.R_alloc | apply Kd.R_drewN | apply Kd.R_drew)); exact HO186.out) hb)
    have n3_ := Aside0.mk (blk_below (g := gb174) (o := .cells #[.slice A0_0 l0_0.length c0_0] 30 (0, 0)) (by (with_reducible repeat (first | refine kN_ ?_ _ | refine kD_ ?_ | refine kA_ ?_ _)); exact BK174.out) hb)
    have n4_ := Aside0.mk (blk_below (g := gb175) (o := .cells #[.int .i64 0, .int .i64 0] 27 (0, 0)) (by (with_reducible repeat (first | refine kN_ ?_ _ | refine kD_ ?_ | refine kA_ ?_ _)); exact BK175.out) hb)
    have n5_ := Aside0.mk (bP_ (by repeat (first | (with_reducible first | exact HB.out | apply bA_ | apply bN_ | apply bD_ | refine bS_ ?_ GE174.out | refine bS_ ?_ GE175.out) | exact HB.out)) hb)
    clear HO178
    clear HO181
    clear HO186
    clear BK174
    clear BK175
    clear HB
    have HO178 := n0_
    have HO181 := n1_
    have HO186 := n2_
    have BK174 := n3_
    have BK175 := n4_
    have HB := n5_
    clear n0_ n1_ n2_ n3_ n4_ n5_
    (try clear hb)
    (try clear hb2)
    (try clear hk)
    (try clear hi)
    refine hK.out _ _ (HS0_) (fun hHeld => ?_)
    clear hK K
    refine norm_ (a' := ?_) ?_ ?_
    rotate_left
    ·show Act.put _ (some 55) _ = _
     simp only [sp_]
     rfl
    refine one_ (i := 14) (N := some 56) #[true, true, true, true, true, true, true, true, true, true, true, true, true, true, true, false, false] rfl rfl (one_of HT_.out (by kernel_rfl)) (by decide) (fun K hK => ?_)
    refine goes_ Try.func78 (by kernel_rfl) rfl #[.int .i64 t190, .int .i64 t191] (by rfl) rfl rfl (by (try simp only [List.map_toArray, List.map_cons, List.map_nil]); first | done | rfl | (simp only [List.length_drop, List.length_take]; rfl)) ?_
    with_reducible refine (impl_ratio.calls k t190 t191 t192 t193 _ A15.out).mono ?_
    rintro e w28 ⟨rfl, hb⟩
    have HS0_ := (hb.cell (World.block_lt_of_cell? _ _ (hHeld))).trans (hHeld)
    refine ⟨_, rfl, ?_⟩
    have n0_ := Aside0.mk (Kd.R_below (by (with_reducible repeat (first | apply Kd.R_alloc | apply Kd.R_drewN | apply Kd.R_drew)); exact HO178.out) hb)
    have n1_ := Aside0.mk (Kd.R_below (by (with_reducible repeat (first | apply Kd.R_alloc | apply Kd.R_drewN | apply Kd.R_drew)); exact HO181.out) hb)
    have n2_ := Aside0.mk (Kd.R_below (by (with_reducible repeat (first | apply Kd.R_alloc | apply Kd.R_drewN | apply Kd.R_drew)); exact HO186.out) hb)
    have n3_ := Aside0.mk (blk_below (g := gb174) (o := .cells #[.slice A0_0 l0_0.length c0_0] 30 (0, 0)) (by (with_reducible repeat (first | refine kN_ ?_ _ | refine kD_ ?_ | refine kA_ ?_ _)); exact BK174.out) hb)
    have n4_ := Aside0.mk (blk_below (g := gb175) (o := .cells #[.int .i64 0, .int .i64 0] 27 (0, 0)) (by (with_reducible repeat (first | refine kN_ ?_ _ | refine kD_ ?_ | refine kA_ ?_ _)); exact BK175.out) hb)
    have n5_ := Aside0.mk (bP_ (by repeat (first | (with_reducible first | exact HB.out | apply bA_ | apply bN_ | apply bD_ | refine bS_ ?_ GE174.out | refine bS_ ?_ GE175.out) | exact HB.out)) hb)
    clear HO178
    clear HO181
    clear HO186
    clear BK174
    clear BK175
    clear HB
    have HO178 := n0_
    have HO181 := n1_
    have HO186 := n2_
    have BK174 := n3_
    have BK175 := n4_
    have HB := n5_
    clear n0_ n1_ n2_ n3_ n4_ n5_
    (try clear hb)
    (try clear hb2)
    (try clear hk)
    (try clear hi)
    refine hK.out _ _ (HS0_) (fun hHeld => ?_)
    clear hK K
    refine norm_ (a' := ?_) ?_ ?_
    rotate_left
    ·show Act.put _ (some 56) _ = _
     simp only [sp_]
     rfl
    refine one_ (i := 15) (N := none) #[true, true, true, true, true, true, true, true, true, true, true, true, true, true, true, true, false] rfl rfl (one_of HT_.out (by kernel_rfl)) (by decide) (fun K hK => ?_)
    have hs29 : w28.cell? ⟨gb175, 0, none⟩ = some (.int .i64 0) := (blk_cell BK175.out 0).trans rfl
    have hfs29 := kF_ BK175.out 0
    have hns29_0 := NB174_175.out
    have hms29_0 := NB175_174.out
    have hs30 : w28.cell? ⟨gb175, 1, none⟩ = some (.int .i64 0) := (blk_cell BK175.out 1).trans rfl
    have hfs30 := kF_ BK175.out 1
    have hns30_0 := NB174_175.out
    have hms30_0 := NB175_174.out
    refine skip_ (w1 := ?_) (by rfl) rfl ?_ ?_
    rotate_left
    ·go_simp
     rfl
    refine hK.out _ _ (((cell_far (p := ⟨gb175, _, none⟩) (by first | exact Kd.own_blk (Kd.R_ne HO186.out BK175.out (by decide)) | (rw [add_block]; exact Kd.own_blk (Kd.R_ne HO186.out BK175.out (by decide))) | (show (Addr.add _ _).block ≠ _; rw [add_block]; exact Kd.own_blk (Kd.R_ne HO186.out BK175.out (by decide))) | (dsimp only; exact Kd.own_blk (Kd.R_ne HO186.out BK175.out (by decide)))) _).trans (((cell_far (p := ⟨gb175, _, none⟩) (by first | exact Kd.own_blk (Kd.R_ne HO186.out BK175.out (by decide)) | (rw [add_block]; exact Kd.own_blk (Kd.R_ne HO186.out BK175.out (by decide))) | (show (Addr.add _ _).block ≠ _; rw [add_block]; exact Kd.own_blk (Kd.R_ne HO186.out BK175.out (by decide))) | (dsimp only; exact Kd.own_blk (Kd.R_ne HO186.out BK175.out (by decide)))) _).trans (hHeld))))) (fun hHeld => ?_)
    clear hK K
    refine pu_ (i := 16) (N := some 13) (v := ?_) (a' := ?_) HT_.out rfl rfl (Or.inl ⟨by rfl, ?_⟩) ?_ ?_
    rotate_left
    ·intro w'
     go_simp
     with_reducible rfl
    rotate_left
    ·simp only [sp_]
     rfl
    refine done_ (done_of HT_.out (by kernel_rfl)) ?_
    try go_wp2
    refine bodyPost_ret (results_ct rfl _ _ gb175 27 #[.int .i64 t192, .int .i64 t193] (0, 0) _ rfl (by (with_reducible repeat (first | refine kN_ ?_ _ | refine kD_ ?_ | refine kA_ ?_ _)); refine blk_put (cs := #[.int .i64 t192, .int .i64 0]) ?_ 1 _ rfl; (with_reducible repeat (first | refine kN_ ?_ _ | refine kD_ ?_ | refine kA_ ?_ _)); refine blk_put (cs := #[.int .i64 0, .int .i64 0]) ?_ 0 _ rfl; (with_reducible repeat (first | refine kN_ ?_ _ | refine kD_ ?_ | refine kA_ ?_ _)); exact BK175.out) Try.underlying27 rfl (by kernel_rfl)) rfl ?_
    exact ⟨by first | rfl | (simp [errW_none, errW_some] <;> rfl) | (simp [*, errW_none, errW_some] <;> rfl), by repeat (first | (with_reducible first | exact HB.out | apply bA_ | apply bN_ | apply bD_ | refine bS_ ?_ GE174.out | refine bS_ ?_ GE175.out) | exact HB.out)⟩
   ·rw [if_neg c12] at H
    exact absurd H (by simp)
  ·rw [if_neg c11] at H
   exact absurd H (by simp)
 ·replace c8 := Bool.eq_false_iff.mpr c8
  subst c8
  have H1 : (some (0, 0, false)) = some (r1, r2, r3) := by rw [if_neg (show ¬ (false = true) by decide)] at H; exact H
  clear H
  have H := H1
  clear H1
  simp only [Option.some.injEq, Prod.mk.injEq] at H
  obtain ⟨rfl, rfl, rfl⟩ := H
  go_enter Try.func52, Try.ntmps52
  go_wp2_with (first | ((with_reducible refine gate_dst (N := 6) rfl ?_); refine box_event ?hg (N := 6) ?hd (cs := #[.slice A0_0 l0_0.length c0_0]) (t := 30) ?hr ?_; (case hd => rfl); (case hg => rfl); (case hr => first | (go_simp; done) | (go_simp; rfl)); intro gb174 hg w31 hbox hb; have n0_ := Aside0.mk (bP_ (by repeat (first | (with_reducible first | exact HB.out | apply bA_ | apply bN_ | apply bD_) | exact HB.out)) hb); have n1_ := Aside0.mk (hbox); have n2_ := Aside0.mk ((by rw [hg]; exact (bZ_ (by repeat (first | (with_reducible first | exact HB.out | apply bA_ | apply bN_ | apply bD_) | exact HB.out))) : w.heap.size ≤ gb174)); have n3_ := Aside0.mk ((by rw [hg]; exact (bZ_ (by repeat (first | (with_reducible first | exact HB.out | apply bA_ | apply bN_ | apply bD_) | exact HB.out))) : w.heap.size ≤ gb174)); clear HB; have HB := n0_; have BK174 := n1_; have GW174 := n2_; have GE174 := n3_; clear n0_ n1_ n2_ n3_; clear hb hbox hg) | ((with_reducible refine gate_dst (N := 12) rfl ?_); refine box_event ?hg (N := 12) ?hd (cs := #[.int .i64 0, .int .i64 0]) (t := 27) ?hr ?_; (case hd => rfl); (case hg => rfl); (case hr => first | (go_simp; done) | (go_simp; rfl)); intro gb175 hg w32 hbox hb; have n0_ := Aside0.mk (blk_below (g := gb174) (o := .cells #[.slice A0_0 l0_0.length c0_0] 30 (0, 0)) (by (with_reducible repeat (first | refine kN_ ?_ _ | refine kD_ ?_ | refine kA_ ?_ _)); exact BK174.out) hb); have n1_ := Aside0.mk (bP_ (by repeat (first | (with_reducible first | exact HB.out | apply bA_ | apply bN_ | apply bD_ | refine bS_ ?_ GE174.out) | exact HB.out)) hb); have n2_ := Aside0.mk (hbox); have n3_ := Aside0.mk ((by rw [hg]; exact (bZ_ (by repeat (first | (with_reducible first | exact HB.out | apply bA_ | apply bN_ | apply bD_ | refine bS_ ?_ GE174.out) | exact HB.out))) : w.heap.size ≤ gb175)); have n4_ := Aside0.mk ((by rw [hg]; exact (bZ_ (by repeat (first | (with_reducible first | exact HB.out | apply bA_ | apply bN_ | apply bD_ | refine bS_ ?_ GE174.out) | exact HB.out))) : w.heap.size ≤ gb175)); have n5_ := Aside0.mk ((by rw [hg]; exact Nat.ne_of_lt (blk_lt (g := gb174) (o := .cells #[.slice A0_0 l0_0.length c0_0] 30 (0, 0)) (by (with_reducible repeat (first | refine kN_ ?_ _ | refine kD_ ?_ | refine kA_ ?_ _)); exact BK174.out)) : gb174 ≠ gb175)); have n6_ := Aside0.mk ((by rw [hg]; exact Nat.ne_of_gt (blk_lt (g := gb174) (o := .cells #[.slice A0_0 l0_0.length c0_0] 30 (0, 0)) (by (with_reducible repeat (first | refine kN_ ?_ _ | refine kD_ ?_ | refine kA_ ?_ _)); exact BK174.out)) : gb175 ≠ gb174)); clear BK174; clear HB; have BK174 := n0_; have HB := n1_; have BK175 := n2_; have GW175 := n3_; have GE175 := n4_; have NB174_175 := n5_; have NB175_174 := n6_; clear n0_ n1_ n2_ n3_ n4_ n5_ n6_; clear hb hbox hg; have hnb33 := NB174_175.out; have hnc33 := NB175_174.out; have hcz34_0 : w32.cell? ⟨gb174, 0, none⟩ = some (.slice A0_0 l0_0.length c0_0) := (blk_cell BK174.out 0).trans rfl; have hfz34_0 := kF_ BK174.out 0) | ((with_reducible refine gate_callee (f := 84) rfl ?_); refine goesL_ (some 27) rfl rfl Try.func84 (by kernel_rfl) rfl #[.agg #[.slice A0_0 l0_0.length c0_0], .slice A1 l1.length c1, .int .i64 a2, .int .i64 a3, .int .i64 a4, .int .i64 a5] rfl (by (try simp only [List.map_toArray, List.map_cons, List.map_nil]); first | done | rfl | (simp only [List.length_drop, List.length_take]; rfl)) ?_; (with_reducible refine (impl_hits.calls _ _ l0_0 _ _ l1 a2 a3 a4 a5 t176 t179 t182 false _ ?side1 ?side2 ?side3 ?side4 A7.out).mono ?_); (case side1 => repeat (first | exact (Kd.C_below HR0_0.out HB.out) | (with_reducible refine Kd.C_alloc ?_ _) | (with_reducible refine Kd.C_drewN ?_ _) | (with_reducible refine Kd.C_drew ?_))); (case side2 => exact HC0_0.out); (case side3 => repeat (first | exact (Kd.C_below HR1.out HB.out) | (with_reducible refine Kd.C_alloc ?_ _) | (with_reducible refine Kd.C_drewN ?_ _) | (with_reducible refine Kd.C_drew ?_))); (case side4 => exact HC1.out); rintro e w35 ⟨v177, v180, rfl, ho0, ho1, hb⟩; refine ⟨_, rfl, ?_⟩; have n0_ := Aside0.mk (Kd.R_lower ho0 (bZ_ (by repeat (first | (with_reducible first | exact HB.out | apply bA_ | apply bN_ | apply bD_ | refine bS_ ?_ GE174.out | refine bS_ ?_ GE175.out) | exact HB.out)))); have n1_ := Aside0.mk (Kd.R_lower ho1 (bZ_ (by repeat (first | (with_reducible first | exact HB.out | apply bA_ | apply bN_ | apply bD_ | refine bS_ ?_ GE174.out | refine bS_ ?_ GE175.out) | exact HB.out)))); have n2_ := Aside0.mk (blk_below (g := gb174) (o := .cells #[.slice A0_0 l0_0.length c0_0] 30 (0, 0)) (by (with_reducible repeat (first | refine kN_ ?_ _ | refine kD_ ?_ | refine kA_ ?_ _)); exact BK174.out) hb); have n3_ := Aside0.mk (blk_below (g := gb175) (o := .cells #[.int .i64 0, .int .i64 0] 27 (0, 0)) (by (with_reducible repeat (first | refine kN_ ?_ _ | refine kD_ ?_ | refine kA_ ?_ _)); exact BK175.out) hb); have n4_ := Aside0.mk (bP_ (by repeat (first | (with_reducible first | exact HB.out | apply bA_ | apply bN_ | apply bD_ | refine bS_ ?_ GE174.out | refine bS_ ?_ GE175.out) | exact HB.out)) hb); clear BK174; clear BK175; clear HB; have HO178 := n0_; have HO181 := n1_; have BK174 := n2_; have BK175 := n3_; have HB := n4_; clear n0_ n1_ n2_ n3_ n4_; (try clear hb); (try clear hb2); (try clear hk); (try clear hi); (try clear ho0); (try clear ho1); have hcz36_0 : w35.cell? ⟨gb175, 0, none⟩ = some (.int .i64 0) := (blk_cell BK175.out 0).trans rfl; have hcz36_1 : w35.cell? ⟨gb175, 1, none⟩ = some (.int .i64 0) := (blk_cell BK175.out 1).trans rfl; have hfz36_0 := kF_ BK175.out 0; have hfz36_1 := kF_ BK175.out 1))
  refine bodyPost_ret (results_ct rfl _ _ gb175 27 #[.int .i64 0, .int .i64 0] (0, 0) _ rfl (by (with_reducible repeat (first | refine kN_ ?_ _ | refine kD_ ?_ | refine kA_ ?_ _)); refine blk_put (cs := #[.int .i64 0, .int .i64 0]) ?_ 1 _ rfl; (with_reducible repeat (first | refine kN_ ?_ _ | refine kD_ ?_ | refine kA_ ?_ _)); refine blk_put (cs := #[.int .i64 0, .int .i64 0]) ?_ 0 _ rfl; (with_reducible repeat (first | refine kN_ ?_ _ | refine kD_ ?_ | refine kA_ ?_ _)); exact BK175.out) Try.underlying27 rfl (by kernel_rfl)) rfl ?_
  exact ⟨by first | rfl | (simp [errW_none, errW_some] <;> rfl) | (simp [*, errW_none, errW_some] <;> rfl), by repeat (first | (with_reducible first | exact HB.out | apply bA_ | apply bN_ | apply bD_ | refine bS_ ?_ GE174.out | refine bS_ ?_ GE175.out) | exact HB.out)⟩
end Go.Proofs.Ytnbnalbomflafaa.GV
namespace Go.Proofs.Ytnbnalbomflafaa.DT
open Go.RowKit YtnbnalbomflafaaW.PrintWords YtnbnalbomflafaaW.PrintLast YtnbnalbomflafaaW.PrintMore
open GA hiding info37
open GR hiding rd_L1 at_L1
open RA
def zeroOwn : Int → Int := fun _ => 0
theorem chance_right (l : List (List Int)) (a b : Int) : rightL l zeroOwn 1 0 a b (innerL l a b) = (innerL l a b).map fun p => (cntL a (rd_L1 l p) : Int) := by
 unfold rightL
 refine List.map_congr_left fun p _ => ?_
 simp only [sumF, zeroOwn]
 rw [List.take_of_length_le (Nat.le_refl _)]
 omega
structure RatK (l : List (List Int)) (a b : Int) (K : Nat) (x : List GT.S27) : Prop where
 len : x.length = l.length
 atA : GT.rd_T27 x a = ⟨1, 1⟩
 atB : GT.rd_T27 x b = ⟨0, 1⟩
 at_ : ∀ k : Nat, k < K → GT.rd_T27 x (rd (innerL l a b) (k : Int)) = ⟨(ratV (numOf l zeroOwn 1 0 a b k) (denOf l a b)).1, (ratV (numOf l zeroOwn 1 0 a b k) (denOf l a b)).2⟩
theorem rdT_same {x : List GT.S27} {q : Int} (y : GT.S27) (h0 : 0 ≤ q) (h1 : q < x.length) : GT.rd_T27 (x.set q.toNat y) q = y := by
 unfold GT.rd_T27
 rw [List.getD_eq_getElem?_getD, List.getElem?_set_self (by omega)]
 rfl
theorem rdT_other {x : List GT.S27} {q v : Int} (y : GT.S27) (h0 : 0 ≤ q) (h1 : 0 ≤ v) (hne : v ≠ q) : GT.rd_T27 (x.set q.toNat y) v = GT.rd_T27 x v := by
 unfold GT.rd_T27
 rw [List.getD_eq_getElem?_getD, List.getElem?_set_ne (by omega), ← List.getD_eq_getElem?_getD]
theorem ratK_start {l : List (List Int)} {a b : Int} (a0 : 0 ≤ a) (a1 : a < l.length) (b0 : 0 ≤ b) (b1 : b < l.length) (hab : a ≠ b) : RatK l a b 0 (((List.replicate l.length GT.z27).set a.toNat ⟨1, 1⟩).set b.toNat ⟨0, 1⟩) :=
 ⟨by simp, by rw [rdT_other _ b0 a0 hab, rdT_same _ a0 (by simpa using a1)], by rw [rdT_same _ b0 (by simpa using b1)], fun k hk => by omega⟩
theorem ratK_more {l : List (List Int)} {a b : Int} {K : Nat} {x : List GT.S27} (h : RatK l a b K x) (hK : K < (innerL l a b).length) (a0 : 0 ≤ a) (b0 : 0 ≤ b) : RatK l a b (K + 1) (x.set (rd (innerL l a b) (K : Int)).toNat ⟨(ratV (numOf l zeroOwn 1 0 a b K) (denOf l a b)).1, (ratV (numOf l zeroOwn 1 0 a b K) (denOf l a b)).2⟩) := by
 have hm := inner_mem (l := l) (a := a) (b := b) (p := rd (innerL l a b) (K : Int)) (by rw [rd_at _ K hK]; exact List.getElem_mem _)
 have hl := h.len
 refine ⟨by rw [List.length_set]; exact hl, ?_, ?_, fun k hk => ?_⟩
 ·rw [rdT_other _ hm.1 a0 (fun e => hm.2.2.1 e.symm)]
  exact h.atA
 ·rw [rdT_other _ hm.1 b0 (fun e => hm.2.2.2 e.symm)]
  exact h.atB
 ·by_cases hkK : k = K
  ·subst hkK
   rw [rdT_same _ hm.1 (by omega)]
  ·have hm2 := inner_mem (l := l) (a := a) (b := b) (p := rd (innerL l a b) (k : Int)) (by rw [rd_at _ k (by omega)]; exact List.getElem_mem _)
   rw [rdT_other _ hm.1 hm2.1 (fun e => hkK (rd_inj (inner_nodup l a b) (by omega) hK e))]
   exact h.at_ k (by omega)
theorem chance_l2 {l : List (List Int)} {a b : Int} (h : Eqs l zeroOwn 1 a b) (hd : 0 < denOf l a b) (a0 : 0 ≤ a) (b0 : 0 ≤ b) (d : Nat) : ∀ (k i : Nat) (x : List GT.S27), i + d = (innerL l a b).length → 100000000 + d < k → RatK l a b i x →
  ∃ y, GT.spec_hiChances.l2 k (numsL (innerL l a b).length (matM l a b) (rightL l zeroOwn 1 0 a b (innerL l a b))) (denOf l a b) x (innerL l a b) ((innerL l a b).length : Int) (i : Int) = some y ∧ RatK l a b (innerL l a b).length y := by
 have hn : (numsL (innerL l a b).length (matM l a b) (rightL l zeroOwn 1 0 a b (innerL l a b))).length = (innerL l a b).length := by simp [numsL]
 have hdb := den_bound h
 have hm6 := h.m6
 induction d with
 | zero =>
  intro k i x hi hk hx
  obtain ⟨k, rfl⟩ := KA.succ_of (show 0 < k by omega)
  obtain rfl : i = (innerL l a b).length := by omega
  refine ⟨x, ?_, hx⟩
  unfold GT.spec_hiChances.l2
  rw [if_neg (by omega)]
 | succ d ih =>
  intro k i x hi hk hx
  obtain ⟨k, rfl⟩ := KA.succ_of (show 0 < k by omega)
  have him : i < (innerL l a b).length := by omega
  have hm := inner_mem (l := l) (a := a) (b := b) (p := rd (innerL l a b) (i : Int)) (by rw [rd_at _ i him]; exact List.getElem_mem _)
  have hl := hx.len
  have hnb := num_bound h him
  have hnx := ratK_more hx him a0 b0
  unfold GT.spec_hiChances.l2
  rw [if_pos (by omega), if_pos (by omega), if_pos (by omega), if_pos (by omega), nums_at l zeroOwn 1 a b him, spec_ratio (by omega) hd (by omega) k (by omega), Option.bind_some, if_pos hm.1, if_pos (by omega), KA.wrap_up him (by omega)]
  exact ih k (i + 1) _ (by omega) (by omega) hnx
theorem chance_l1 {l : List (List Int)} {a b : Int} (pl : List Int) (M : List (List Int)) (rs xs : List Int) (n i : Int) {p : Int} (h5 : (rd_L1 l p).length ≤ 5) (hrs : rs.length < 1000) (d : Nat) : ∀ (k x : Nat), x + d = (rd_L1 l p).length →
  GT.spec_hiChances.l1 (k + d + 1) a b pl M rs (cntL a ((rd_L1 l p).take x) : Int) xs n i (rd_L1 l p) ((rd_L1 l p).length : Int) (x : Int) l = GT.spec_hiChances.l0 k a b pl M (rs ++ [(cntL a (rd_L1 l p) : Int)]) xs n (wrap64 (i + 1)) l := by
 induction d with
 | zero =>
  intro k x hx
  unfold GT.spec_hiChances.l1
  rw [if_neg (by omega), if_pos (by omega), List.take_of_length_le (by omega)]
 | succ d ih =>
  intro k x hx
  have hxl : x < (rd_L1 l p).length := by omega
  have hc : cntL a ((rd_L1 l p).take x) ≤ 5 := Nat.le_trans (cntL_le _ _) (by rw [List.length_take]; omega)
  have hst := cntL_step (q := a) hxl
  rw [show k + (d + 1) + 1 = (k + d + 1) + 1 by omega]
  unfold GT.spec_hiChances.l1
  rw [if_pos (by omega), if_pos (by omega), if_pos (by omega), rd_at _ x hxl, KA.wrap_up hxl (by omega)]
  by_cases hq : (rd_L1 l p)[x] = a
  ·rw [if_pos hq]
   rw [if_pos hq] at hst
   have e : wrap64 ((cntL a ((rd_L1 l p).take x) : Int) + 1) = (cntL a ((rd_L1 l p).take (x + 1)) : Int) := by
    rw [hst, wrap_id (by omega) (by omega)]
    omega
   rw [e]
   exact ih k (x + 1) (by omega)
  ·rw [if_neg hq]
   rw [if_neg hq, Nat.add_zero] at hst
   have := ih k (x + 1) (by omega)
   rw [hst] at this
   exact this
theorem chance_l0 {l : List (List Int)} {a b : Int} (hg : goodB l a b = true) (h : Eqs l zeroOwn 1 a b) (d : Nat) : ∀ (k i : Nat), i + d = (innerL l a b).length → 100000100 + d * 10 < k →
  ∃ y, GT.spec_hiChances.l0 k a b (innerL l a b) (matM l a b) ((rightL l zeroOwn 1 0 a b (innerL l a b)).take i) (innerL l a b) ((innerL l a b).length : Int) (i : Int) l = some y ∧ RatK l a b (innerL l a b).length y := by
 obtain ⟨hab, a0, a1, b0, b1, h8, h5, _, _⟩ := good_facts hg
 have hlR := h.lR
 have hm6 := h.m6
 induction d with
 | zero =>
  intro k i hi hk
  obtain ⟨k, rfl⟩ := KA.succ_of (show 0 < k by omega)
  obtain ⟨y, hy, hR⟩ := chance_l2 h (den_pos hg) a0 b0 (innerL l a b).length k 0 _ (by omega) (by omega) (ratK_start a0 a1 b0 b1 hab)
  refine ⟨y, ?_, hR⟩
  unfold GT.spec_hiChances.l0
  rw [if_neg (by omega), List.take_of_length_le (by omega), eqs_solve h k (by omega), Option.bind_some, if_pos (by omega), if_pos (by omega), Option.bind_some, Int.toNat_natCast, if_pos a0, if_pos (by simpa using a1), if_pos b0, if_pos (by simpa using b1)]
  exact hy
 | succ d ih =>
  intro k i hi hk
  have him : i < (innerL l a b).length := by omega
  have hm := inner_mem (l := l) (a := a) (b := b) (p := rd (innerL l a b) (i : Int)) (by rw [rd_at _ i him]; exact List.getElem_mem _)
  have hdg := h5 _ hm.1 hm.2.1
  obtain ⟨k2, rfl⟩ : ∃ k2, k = k2 + (rd_L1 l (rd (innerL l a b) (i : Int))).length + 1 + 1 := ⟨k - (rd_L1 l (rd (innerL l a b) (i : Int))).length - 2, by omega⟩
  have e : (rightL l zeroOwn 1 0 a b (innerL l a b)).take i ++ [(cntL a (rd_L1 l (rd (innerL l a b) (i : Int))) : Int)] = (rightL l zeroOwn 1 0 a b (innerL l a b)).take (i + 1) := by
   rw [List.take_succ_eq_append_getElem (by omega)]
   congr 2
   have := chance_right l a b
   simp only [this, List.getElem_map]
   rw [rd_at _ i him]
  obtain ⟨y, hy, hR⟩ := ih k2 (i + 1) (by omega) (by omega)
  refine ⟨y, ?_, hR⟩
  unfold GT.spec_hiChances.l0
  rw [if_pos (by omega), if_pos (by omega), if_pos (by omega), if_pos hm.1, if_pos hm.2.1]
  have e1 := chance_l1 (l := l) (a := a) (b := b) (innerL l a b) (matM l a b) ((rightL l zeroOwn 1 0 a b (innerL l a b)).take i) (innerL l a b) ((innerL l a b).length : Int) (i : Int) hdg (by simp; omega) (rd_L1 l (rd (innerL l a b) (i : Int))).length k2 0 (by omega)
  rw [List.take_zero] at e1
  refine Eq.trans e1 ?_
  rw [e, KA.wrap_up him (by omega)]
  exact hy
theorem hiChances_f {l : List (List Int)} {a b : Int} (hg : goodB l a b = true) (k : Nat) (hk : 150000000 ≤ k) : ∃ y, GT.spec_hiChances.f k l a b = some y ∧ RatK l a b (innerL l a b).length y := by
 obtain ⟨_, _, _, _, _, _, h5, _, _⟩ := good_facts hg
 have h : Eqs l zeroOwn 1 a b := eqs_of hg (sum_chances h5)
 have hm6 := h.m6
 obtain ⟨y, hy, hR⟩ := chance_l0 hg h (innerL l a b).length k 0 (by omega) (by omega)
 refine ⟨y, ?_, hR⟩
 unfold GT.spec_hiChances.f
 have hM : spec_hiMatrix.f l a b = some (innerL l a b, matM l a b) := by unfold spec_hiMatrix.f; rw [if_pos (good_graph hg)]
 rw [hM, Option.bind_some]
 rw [List.take_zero] at hy
 exact hy
theorem ratK_at {l : List (List Int)} {a b : Int} (hg : goodB l a b = true) {y : List GT.S27} (h : RatK l a b (innerL l a b).length y) {p : Int} (p0 : 0 ≤ p) (p1 : p < l.length) : GT.rd_T27 y p = ⟨(ratV (rd (chL l a b) p) (denOf l a b)).1, (ratV (rd (chL l a b) p) (denOf l a b)).2⟩ := by
 have hd := den_pos hg
 unfold chL
 rw [show (fun _ : Int => (0 : Int)) = zeroOwn from rfl, outL_at p0 p1]
 by_cases hpa : p = a
 ·rw [if_pos hpa, Int.one_mul, ratV_same hd, hpa, h.atA]
 ·rw [if_neg hpa]
  by_cases hpb : p = b
  ·rw [if_pos hpb, Int.zero_mul, ratV_zero hd, hpb, h.atB]
  ·rw [if_neg hpb]
   have hm := mem_inner p0 p1 hpa hpb
   have hlt := List.idxOf_lt_length_iff.2 hm
   have := h.at_ _ hlt
   rw [rd_at _ _ hlt, List.getElem_idxOf hlt] at this
   exact this
end Go.Proofs.Ytnbnalbomflafaa.DT
namespace Go.Proofs.Ytnbnalbomflafaa.RA
open Go.RowKit YtnbnalbomflafaaW.PrintWords YtnbnalbomflafaaW.PrintLast YtnbnalbomflafaaW.PrintMore
open DT
end Go.Proofs.Ytnbnalbomflafaa.RA
