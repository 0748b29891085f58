/-
  Growth by rotors reckoned by the kernel: 250 chips on the grid come to rest within fifteen steps of the middle. The counter in the low bits is for the kernel: it tells numbers apart by these. Growth by rotors, as plain numbers: fields, runs and chips; and that 250 chips stay within fifteen steps of the middle. Growth by rotors on the line: what is grown is a stretch, and each chip's walk ends: each step raises a bounded sum by one. The program's exits of a cell, walked. The map of grown cells: its keys, and what field it tells.
-/
import Derived.Test.YtjedhjeijpbobaaGA1
import Derived.DeepKeys4
import Derived.Maps.OwnSet
/-! ## Pk -/
namespace Go.Proofs.Ytjedhjeijpbobaa.G8
/-! ### The kernel's reckoning -/
/-- A number that is reckoned before it is handed on. -/
def fN {α : Type} (n : Nat) (f : Nat → α) : α := match n with | 0 => f 0 | m + 1 => f (m + 1)
theorem fN_eq {α : Type} (n : Nat) (f : Nat → α) : fN n f = f n := by cases n <;> rfl


def runP : Nat → Nat → Nat → Nat → Nat → Option (Nat × Nat × Nat × Nat)
  | 0, _, _, _, _ => none
  | k + 1, X, Y, s, M =>
    bif (Nat.ble 1 X && Nat.ble X 31 && Nat.ble 1 Y && Nat.ble Y 31 && Nat.blt s 16000000) then
      fN ((M >>> (24 + 3 * (32 * X + Y))) % 8) fun old =>
      bif Nat.beq old 0 then some (X, Y, s, M) else
      fN (old % 4 + 1) fun c =>
      fN ((M + 1 + c <<< (24 + 3 * (32 * X + Y))) - old <<< (24 + 3 * (32 * X + Y))) fun M1 =>
      fN (s + 1) fun s1 =>
      bif Nat.beq c 1 then fN (X + 1) fun X1 => runP k X1 Y s1 M1
      else bif Nat.beq c 2 then fN (Y + 1) fun Y1 => runP k X Y1 s1 M1
      else bif Nat.beq c 3 then fN (X - 1) fun X1 => runP k X1 Y s1 M1
      else fN (Y - 1) fun Y1 => runP k X Y1 s1 M1
    else none
def chipsP (K k0 : Nat) : Nat → Nat → Nat → Bool
  | 0, _, _ => true
  | n + 1, s, M => match runP K 16 16 s M with
    | none => false
    | some (X, Y, s1, M1) => fN (M1 + (k0 + 1) <<< (24 + 3 * (32 * X + Y))) fun M2 => chipsP K k0 n s1 M2
theorem all_okP : (chipsP 5000 0 250 0 0 && chipsP 5000 1 250 0 0 && chipsP 5000 2 250 0 0 && chipsP 5000 3 250 0 0) = true := by decide +kernel
end Go.Proofs.Ytjedhjeijpbobaa.G8

/-! ## Pg -/
namespace Go.Proofs.Ytjedhjeijpbobaa.G8
set_option linter.unusedVariables false
set_option linter.unusedSimpArgs false
def nth (l : List Nat) (i : Nat) : Nat := l.getD i 0
/-- The rotors of grown cells. -/
abbrev Fld := Int → Int → Option Int
def upd (F : Fld) (x y r : Int) : Fld := fun a b => if a = x ∧ b = y then some r else F a b
/-- The cell behind an exit. -/
def mv4 (r x y : Int) : Int × Int := if r = 0 then (x + 1, y) else if r = 1 then (x, y + 1) else if r = 2 then (x - 1, y) else (x, y - 1)
def mv2 (r x y : Int) : Int × Int := if r = 0 then (x + 1, y) else (x - 1, y)
/-- One chip walks until it comes to a cell that is not grown; all its places are within B of the middle. -/
def run (ex B : Int) (mv : Int → Int → Int → Int × Int) : Nat → Fld → Int → Int → Int → Option (Fld × Int × Int × Int)
  | 0, _, _, _, _ => none
  | k + 1, F, x, y, s => if -B ≤ x ∧ x ≤ B ∧ -B ≤ y ∧ y ≤ B then
      match F x y with
      | none => some (F, x, y, s)
      | some r => run ex B mv k (upd F x y ((r + 1) % ex)) (mv ((r + 1) % ex) x y).1 (mv ((r + 1) % ex) x y).2 (s + 1)
    else none
structure St where
  f : Fld
  cells : List (Int × Int)
  steps : Int
/-- n chips, each at most K steps. -/
def chips (ex B : Int) (mv : Int → Int → Int → Int × Int) (K : Nat) (k0 : Int) : Nat → St → Option St
  | 0, S => some S
  | n + 1, S => (run ex B mv K S.f 0 0 S.steps).bind fun o => chips ex B mv K k0 n ⟨upd o.1 o.2.1 o.2.2.1 k0, S.cells ++ [(o.2.1, o.2.2.1)], o.2.2.2⟩
def st0 : St := ⟨fun _ _ => none, [], 0⟩
theorem chips_add (ex B : Int) (mv : Int → Int → Int → Int × Int) (K : Nat) (k0 : Int) : ∀ (m n : Nat) (S : St), chips ex B mv K k0 (m + n) S = (chips ex B mv K k0 m S).bind (chips ex B mv K k0 n)
  | 0, n, S => by simp [chips]
  | m + 1, n, S => by
    rw [Nat.add_right_comm]
    simp only [chips]
    cases h : run ex B mv K S.f 0 0 S.steps with
    | none => rfl
    | some o => simp only [Option.bind_some]; exact chips_add ex B mv K k0 m n _

/-! ### Packed lists -/
/-- A list as one number. -/
def pk (B : Nat) : List Nat → Nat
  | [] => 0
  | x :: t => x + B * pk B t
theorem pk_get (B : Nat) (hB : 0 < B) : ∀ (l : List Nat) (i : Nat), (∀ x ∈ l, x < B) → pk B l / B ^ i % B = nth l i
  | [], i, _ => by simp [pk, nth]
  | x :: t, 0, h => by
    have hx : x < B := h x (by simp)
    simp [pk, nth, Nat.add_mul_mod_self_left, Nat.mod_eq_of_lt hx]
  | x :: t, i + 1, h => by
    have hx : x < B := h x (by simp)
    have ih := pk_get B hB t i (fun y hy => h y (by simp [hy]))
    have e : (x + B * pk B t) / B ^ (i + 1) = pk B t / B ^ i := by
      rw [Nat.pow_succ, Nat.mul_comm (B ^ i) B, ← Nat.div_div_eq_div_mul, Nat.add_mul_div_left _ _ hB, Nat.div_eq_of_lt hx, Nat.zero_add]
    simp only [pk]
    rw [e, ih]
    simp [nth]
theorem pk_set (B : Nat) : ∀ (l : List Nat) (i r : Nat), i < l.length → pk B (l.set i r) + nth l i * B ^ i = pk B l + r * B ^ i
  | [], i, r, h => by simp at h
  | x :: t, 0, r, _ => by simp [pk, nth]; omega
  | x :: t, i + 1, r, h => by
    have ih := pk_set B t i r (by simpa using h)
    simp only [List.set_cons_succ, pk]
    have e1 : nth (x :: t) (i + 1) = nth t i := by simp [nth]
    rw [e1]
    have hp : B ^ (i + 1) = B * B ^ i := by rw [Nat.pow_succ, Nat.mul_comm]
    have m1 : nth t i * (B * B ^ i) = B * (nth t i * B ^ i) := by rw [Nat.mul_left_comm]
    have m2 : r * (B * B ^ i) = B * (r * B ^ i) := by rw [Nat.mul_left_comm]
    rw [hp, m1, m2]
    have := congrArg (B * ·) ih
    simp only [Nat.mul_add] at this
    omega
theorem pk_set_eq (B : Nat) (l : List Nat) (i r : Nat) (h : i < l.length) : (pk B l + r * B ^ i) - nth l i * B ^ i = pk B (l.set i r) := by
  have := pk_set B l i r h
  omega

theorem pk_replicate0 (B n : Nat) : pk B (List.replicate n 0) = 0 := by
  induction n with
  | zero => rfl
  | succ n ih => simp [List.replicate_succ, pk, ih]
theorem mem_set {l : List Nat} {i r B : Nat} (h : ∀ x ∈ l, x < B) (hr : r < B) : ∀ x ∈ l.set i r, x < B := by
  intro x hx
  rcases List.mem_or_eq_of_mem_set hx with h1 | h1
  · exact h x h1
  · rw [h1]; exact hr
structure Fits (l : List Nat) : Prop where
  len : l.length = 1024
  low : ∀ x ∈ l, x < 5
theorem Fits.low8 {l : List Nat} (f : Fits l) : ∀ x ∈ l, x < 8 := fun x hx => Nat.lt_of_lt_of_le (f.low x hx) (by decide)
theorem getM {l : List Nat} (f : Fits l) (i : Nat) : (pk 8 l >>> (3 * i)) % 8 = nth l i := by
  rw [Nat.shiftRight_eq_div_pow, Nat.pow_mul]
  exact pk_get 8 (by decide) l i f.low8
theorem setM {l : List Nat} (f : Fits l) (i r : Nat) (hi : i < 1024) : (pk 8 l + r <<< (3 * i)) - nth l i <<< (3 * i) = pk 8 (l.set i r) := by
  rw [Nat.shiftLeft_eq, Nat.shiftLeft_eq, Nat.pow_mul]
  exact pk_set_eq 8 l i r (by rw [f.len]; exact hi)
theorem addM {l : List Nat} (f : Fits l) (i r : Nat) (hi : i < 1024) (h0 : nth l i = 0) : pk 8 l + r <<< (3 * i) = pk 8 (l.set i r) := by
  have h := setM f i r hi
  rw [h0, Nat.zero_shiftLeft] at h
  exact h
def pkS (s : Nat) (l : List Nat) : Nat := s + 16777216 * pk 8 l
theorem getS {l : List Nat} (f : Fits l) (s i : Nat) (hs : s < 16000000) : (pkS s l >>> (24 + 3 * i)) % 8 = nth l i := by
  rw [Nat.shiftRight_add, ← getM f i]
  congr 2
  unfold pkS
  rw [Nat.shiftRight_eq_div_pow]
  generalize pk 8 l = m
  omega
theorem shl24 (c i : Nat) : c <<< (24 + i) = 16777216 * c <<< i := by
  rw [Nat.shiftLeft_eq, Nat.shiftLeft_eq, Nat.pow_add, Nat.mul_left_comm]
theorem setS {l : List Nat} (f : Fits l) (s i r : Nat) (hi : i < 1024) : (pkS s l + 1 + r <<< (24 + 3 * i)) - nth l i <<< (24 + 3 * i) = pkS (s + 1) (l.set i r) := by
  rw [shl24, shl24]
  have h := pk_set 8 l i r (by rw [f.len]; exact hi)
  have e1 : r <<< (3 * i) = r * 8 ^ i := by rw [Nat.shiftLeft_eq, Nat.pow_mul]
  have e2 : nth l i <<< (3 * i) = nth l i * 8 ^ i := by rw [Nat.shiftLeft_eq, Nat.pow_mul]
  rw [e1, e2]
  unfold pkS
  generalize nth l i * 8 ^ i = u at *
  generalize r * 8 ^ i = v at *
  generalize pk 8 l = m at *
  generalize pk 8 (l.set i r) = m1 at *
  omega
theorem addS {l : List Nat} (f : Fits l) (s i r : Nat) (hi : i < 1024) (h0 : nth l i = 0) : pkS s l + r <<< (24 + 3 * i) = pkS s (l.set i r) := by
  have h := setS f s i r hi
  rw [h0, Nat.zero_shiftLeft] at h
  unfold pkS at *
  omega
/-- The field that a list of codes tells: 0 for a cell that is not grown, else the rotor and one. -/
def fOf (l : List Nat) : Fld := fun x y => if -16 ≤ x ∧ x ≤ 15 ∧ -16 ≤ y ∧ y ≤ 15 then (if nth l (32 * (x + 16).toNat + (y + 16).toNat) = 0 then none else some ((nth l (32 * (x + 16).toNat + (y + 16).toNat) : Int) - 1)) else none
theorem nth_set (l : List Nat) (i j r : Nat) (hi : i < l.length) : nth (l.set i r) j = if j = i then r else nth l j := by
  unfold nth
  rw [List.getD_eq_getElem?_getD, List.getD_eq_getElem?_getD, List.getElem?_set]
  split
  · rename_i h; subst h; simp [hi]
  · rename_i h; rw [if_neg (fun e => h e.symm)]
theorem fOf_at (l : List Nat) (X Y : Nat) (hX : X < 32) (hY : Y < 32) : fOf l ((X : Int) - 16) ((Y : Int) - 16) = if nth l (32 * X + Y) = 0 then none else some ((nth l (32 * X + Y) : Int) - 1) := by
  unfold fOf
  rw [if_pos (by omega)]
  have e1 : ((X : Int) - 16 + 16).toNat = X := by omega
  have e2 : ((Y : Int) - 16 + 16).toNat = Y := by omega
  rw [e1, e2]
theorem upd_fOf (l : List Nat) (X Y c : Nat) (hl : l.length = 1024) (hX : X < 32) (hY : Y < 32) (hc : 0 < c) : upd (fOf l) ((X : Int) - 16) ((Y : Int) - 16) ((c : Int) - 1) = fOf (l.set (32 * X + Y) c) := by
  funext a b
  unfold upd
  by_cases hin : -16 ≤ a ∧ a ≤ 15 ∧ -16 ≤ b ∧ b ≤ 15
  · unfold fOf
    rw [if_pos hin, if_pos hin, nth_set _ _ _ _ (by rw [hl]; omega)]
    by_cases he : a = (X : Int) - 16 ∧ b = (Y : Int) - 16
    · have e : 32 * (a + 16).toNat + (b + 16).toNat = 32 * X + Y := by omega
      rw [if_pos he]
      simp only [e, if_true]
      rw [if_neg (by omega)]
    · have e : ¬ 32 * (a + 16).toNat + (b + 16).toNat = 32 * X + Y := by omega
      rw [if_neg he]
      simp only [e, if_false]
  · unfold fOf
    rw [if_neg hin, if_neg hin, if_neg (by omega)]
theorem fOf_none (l : List Nat) (h : ∀ i, nth l i = 0) : fOf l = fun _ _ => none := by
  funext x y
  unfold fOf
  split
  · rw [if_pos (h _)]
  · rfl
theorem run_of_P : ∀ (k X Y s : Nat) (l : List Nat), Fits l → ∀ X1 Y1 s1 M1, runP k X Y s (pkS s l) = some (X1, Y1, s1, M1) →
    ∃ l1, Fits l1 ∧ M1 = pkS s1 l1 ∧ X1 < 32 ∧ Y1 < 32 ∧ nth l1 (32 * X1 + Y1) = 0 ∧ run 4 15 mv4 k (fOf l) ((X : Int) - 16) ((Y : Int) - 16) (s : Int) = some (fOf l1, (X1 : Int) - 16, (Y1 : Int) - 16, (s1 : Int)) := by
  intro k
  induction k with
  | zero => intro X Y s l f X1 Y1 s1 M1 h; simp [runP] at h
  | succ k ih =>
    intro X Y s l f X1 Y1 s1 M1 h
    unfold runP at h
    simp only [fN_eq] at h
    cases hb : (Nat.ble 1 X && Nat.ble X 31 && Nat.ble 1 Y && Nat.ble Y 31 && Nat.blt s 16000000) with
    | false => rw [hb] at h; simp at h
    | true =>
      rw [hb] at h
      simp only [cond_true] at h
      simp only [Bool.and_eq_true, Nat.ble_eq, Nat.blt_eq] at hb
      rw [getS f _ _ hb.2] at h
      unfold run
      rw [if_pos (by omega), fOf_at l X Y (by omega) (by omega)]
      cases h0 : Nat.beq (nth l (32 * X + Y)) 0 with
      | true =>
        rw [h0] at h
        simp only [cond_true, Option.some.injEq, Prod.mk.injEq] at h
        obtain ⟨rfl, rfl, rfl, rfl⟩ := h
        have h0' : nth l (32 * X + Y) = 0 := Nat.eq_of_beq_eq_true h0
        rw [if_pos h0']
        exact ⟨l, f, rfl, by omega, by omega, h0', rfl⟩
      | false =>
        rw [h0] at h
        simp only [cond_false] at h
        have h0' : nth l (32 * X + Y) ≠ 0 := Nat.ne_of_beq_eq_false h0
        rw [if_neg h0']
        have hold : nth l (32 * X + Y) < 5 := by
          unfold nth
          rw [List.getD_eq_getElem?_getD]
          cases hg : l[32 * X + Y]? with
          | none => simp
          | some v => exact f.low v (List.mem_of_getElem? hg)
        rw [setS f _ _ _ (by omega)] at h
        have f1 : Fits (l.set (32 * X + Y) (nth l (32 * X + Y) % 4 + 1)) := ⟨by rw [List.length_set]; exact f.len, mem_set f.low (by omega)⟩
        have hr : ((nth l (32 * X + Y) : Int) - 1 + 1) % 4 = ((nth l (32 * X + Y) % 4 + 1 : Nat) : Int) - 1 := by omega
        simp only
        rw [hr, upd_fOf l X Y _ f.len (by omega) (by omega) (by omega)]
        obtain ⟨c, hc⟩ : ∃ c, c = nth l (32 * X + Y) % 4 + 1 := ⟨_, rfl⟩
        rw [← hc] at h f1 ⊢
        have hs : (s : Int) + 1 = ((s + 1 : Nat) : Int) := by omega
        have hc5 : 1 ≤ c ∧ c ≤ 4 := by omega
        rw [hs]
        cases h1 : Nat.beq c 1 with
        | true =>
          rw [h1] at h
          simp only [cond_true] at h
          have e1 : c = 1 := Nat.eq_of_beq_eq_true h1
          have em : mv4 ((c : Int) - 1) ((X : Int) - 16) ((Y : Int) - 16) = (((X + 1 : Nat) : Int) - 16, (Y : Int) - 16) := by unfold mv4; rw [if_pos (by omega)]; congr 1; omega
          rw [em]
          exact ih _ _ _ _ f1 _ _ _ _ h
        | false =>
          rw [h1] at h
          simp only [cond_false] at h
          have n1 : c ≠ 1 := Nat.ne_of_beq_eq_false h1
          cases h2 : Nat.beq c 2 with
          | true =>
            rw [h2] at h
            simp only [cond_true] at h
            have e1 : c = 2 := Nat.eq_of_beq_eq_true h2
            have em : mv4 ((c : Int) - 1) ((X : Int) - 16) ((Y : Int) - 16) = ((X : Int) - 16, ((Y + 1 : Nat) : Int) - 16) := by unfold mv4; rw [if_neg (by omega), if_pos (by omega)]; congr 1; omega
            rw [em]
            exact ih _ _ _ _ f1 _ _ _ _ h
          | false =>
            rw [h2] at h
            simp only [cond_false] at h
            have n2 : c ≠ 2 := Nat.ne_of_beq_eq_false h2
            cases h3 : Nat.beq c 3 with
            | true =>
              rw [h3] at h
              simp only [cond_true] at h
              have e1 : c = 3 := Nat.eq_of_beq_eq_true h3
              have em : mv4 ((c : Int) - 1) ((X : Int) - 16) ((Y : Int) - 16) = (((X - 1 : Nat) : Int) - 16, (Y : Int) - 16) := by unfold mv4; rw [if_neg (by omega), if_neg (by omega), if_pos (by omega)]; congr 1; omega
              rw [em]
              exact ih _ _ _ _ f1 _ _ _ _ h
            | false =>
              rw [h3] at h
              simp only [cond_false] at h
              have n3 : c ≠ 3 := Nat.ne_of_beq_eq_false h3
              have em : mv4 ((c : Int) - 1) ((X : Int) - 16) ((Y : Int) - 16) = ((X : Int) - 16, ((Y - 1 : Nat) : Int) - 16) := by unfold mv4; rw [if_neg (by omega), if_neg (by omega), if_neg (by omega)]; congr 1; omega
              rw [em]
              exact ih _ _ _ _ f1 _ _ _ _ h
theorem chips_of_P (K k0 : Nat) (hk : k0 < 4) : ∀ (n s : Nat) (l : List Nat) (cs : List (Int × Int)), Fits l → chipsP K k0 n s (pkS s l) = true → ∃ S, chips 4 15 mv4 K (k0 : Int) n ⟨fOf l, cs, (s : Int)⟩ = some S := by
  intro n
  induction n with
  | zero => intro s l cs f h; exact ⟨_, rfl⟩
  | succ n ih =>
    intro s l cs f h
    unfold chipsP at h
    cases hr : runP K 16 16 s (pkS s l) with
    | none => rw [hr] at h; simp at h
    | some o =>
      obtain ⟨X, Y, s1, M1⟩ := o
      rw [hr] at h
      simp only [fN_eq] at h
      obtain ⟨l1, f1, rfl, hX, hY, h0, hrun⟩ := run_of_P K 16 16 s l f X Y s1 M1 hr
      rw [addS f1 _ _ _ (by omega) h0] at h
      have f2 : Fits (l1.set (32 * X + Y) (k0 + 1)) := ⟨by rw [List.length_set]; exact f1.len, mem_set f1.low (by omega)⟩
      unfold chips
      have e0 : ((16 : Nat) : Int) - 16 = 0 := by omega
      rw [e0] at hrun
      rw [hrun, Option.bind_some]
      have e1 : ((k0 + 1 : Nat) : Int) - 1 = (k0 : Int) := by omega
      have hu := upd_fOf l1 X Y (k0 + 1) f1.len hX hY (by omega)
      rw [e1] at hu
      simp only
      rw [hu]
      exact ih s1 _ _ f2 h
theorem grid_250 (k0 : Nat) (hk : k0 < 4) : ∃ S, chips 4 15 mv4 5000 (k0 : Int) 250 st0 = some S := by
  have hh : chipsP 5000 0 250 0 0 = true ∧ chipsP 5000 1 250 0 0 = true ∧ chipsP 5000 2 250 0 0 = true ∧ chipsP 5000 3 250 0 0 = true := by
    have h := all_okP
    rw [Bool.and_eq_true, Bool.and_eq_true, Bool.and_eq_true] at h
    exact ⟨h.1.1.1, h.1.1.2, h.1.2, h.2⟩
  have h : chipsP 5000 k0 250 0 0 = true := by
    rcases (show k0 = 0 ∨ k0 = 1 ∨ k0 = 2 ∨ k0 = 3 by omega) with e | e | e | e
    · rw [e]; exact hh.1
    · rw [e]; exact hh.2.1
    · rw [e]; exact hh.2.2.1
    · rw [e]; exact hh.2.2.2
  have f : Fits (List.replicate 1024 0) := ⟨List.length_replicate, fun x hx => by rw [(List.mem_replicate.1 hx).2]; decide⟩
  have hz : pkS 0 (List.replicate 1024 0) = 0 := by unfold pkS; rw [pk_replicate0]
  have h' : chipsP 5000 k0 250 0 (pkS 0 (List.replicate 1024 0)) = true := (congrArg (chipsP 5000 k0 250 0) hz).trans h
  obtain ⟨S, hS⟩ := chips_of_P 5000 k0 hk 250 0 (List.replicate 1024 0) [] f h'
  have h0 : ∀ i, nth (List.replicate 1024 0) i = 0 := fun i => by
    unfold nth
    rw [List.getD_eq_getElem?_getD, List.getElem?_replicate]
    split <;> rfl
  have he : st0 = ⟨fOf (List.replicate 1024 0), [], ((0 : Nat) : Int)⟩ := by
    rw [fOf_none _ h0]
    rfl
  rw [← he] at hS
  exact ⟨S, hS⟩
/-- What n chips make on the grid. -/
theorem grid_n (n k0 : Nat) (hn : n ≤ 250) (hk : k0 < 4) : ∃ S, chips 4 15 mv4 5000 (k0 : Int) n st0 = some S := by
  obtain ⟨S, hS⟩ := grid_250 k0 hk
  rw [show 250 = n + (250 - n) by omega, chips_add] at hS
  cases h : chips 4 15 mv4 5000 (k0 : Int) n st0 with
  | none => rw [h] at hS; simp at hS
  | some S1 => exact ⟨S1, rfl⟩
end Go.Proofs.Ytjedhjeijpbobaa.G8

/-! ## Pl -/
namespace Go.Proofs.Ytjedhjeijpbobaa.G8
set_option linter.unusedVariables false
set_option linter.unusedSimpArgs false
def psum (f : Int → Int) : Nat → Int → Int
  | 0, _ => 0
  | n + 1, lo => f lo + psum f n (lo + 1)
theorem psum_far (f g : Int → Int) : ∀ (n : Nat) (lo : Int), (∀ c, lo ≤ c → c < lo + n → f c = g c) → psum f n lo = psum g n lo
  | 0, _, _ => rfl
  | n + 1, lo, h => by
    simp only [psum]
    rw [h lo (by omega) (by omega), psum_far f g n (lo + 1) (fun c h1 h2 => h c (by omega) (by omega))]
theorem psum_upd (f g : Int → Int) (x : Int) (hg : ∀ c, c ≠ x → g c = f c) : ∀ (n : Nat) (lo : Int), lo ≤ x → x < lo + n → psum g n lo = psum f n lo + (g x - f x)
  | 0, lo, h1, h2 => by omega
  | n + 1, lo, h1, h2 => by
    simp only [psum]
    by_cases e : lo = x
    · subst e
      rw [psum_far g f n (lo + 1) (fun c h3 h4 => hg c (by omega))]
      omega
    · rw [hg lo e, psum_upd f g x hg n (lo + 1) (by omega) (by omega)]
      omega
theorem psum_bd (f : Int → Int) (B : Int) : ∀ (n : Nat) (lo : Int), (∀ c, lo ≤ c → c < lo + n → -B ≤ f c ∧ f c ≤ B) → -(n * B) ≤ psum f n lo ∧ psum f n lo ≤ n * B
  | 0, _, _ => by simp [psum]
  | n + 1, lo, h => by
    have h0 := h lo (by omega) (by omega)
    have h1 := psum_bd f B n (lo + 1) (fun c h2 h3 => h c (by omega) (by omega))
    simp only [psum]
    have e : ((n + 1 : Nat) : Int) * B = n * B + B := by rw [Int.natCast_add, Int.add_mul]; simp
    rw [e]
    omega
def wt (F : Fld) (c : Int) : Int := if F c 0 = some 0 then -c else c
theorem sq_bd (x : Int) (h0 : -301 ≤ x) (h1 : x ≤ 301) : 0 ≤ x * x ∧ x * x ≤ 90601 := by
  have h := Nat.mul_le_mul (show x.natAbs ≤ 301 by omega) (show x.natAbs ≤ 301 by omega)
  rw [← Int.natAbs_mul] at h
  have h2 : 0 ≤ x * x := by
    rcases Int.le_total 0 x with h3 | h3
    · exact Int.mul_nonneg h3 h3
    · have := Int.mul_nonneg (show 0 ≤ -x by omega) (show 0 ≤ -x by omega)
      rwa [Int.neg_mul_neg] at this
  generalize x * x = z at *
  omega
/-- What is grown is the stretch from lo to hi, and rotors are 0 or 1. -/
structure Line (F : Fld) (lo : Int) (n : Nat) : Prop where
  on : ∀ c, lo ≤ c → c < lo + n → F c 0 = some 0 ∨ F c 0 = some 1
  off : ∀ a b, ¬ (b = 0 ∧ lo ≤ a ∧ a < lo + n) → F a b = none
def pot (F : Fld) (lo : Int) (n : Nat) (x : Int) : Int := x * x + psum (wt F) n lo
theorem pot_bd {F : Fld} {lo : Int} {n : Nat} {x : Int} (hn : n ≤ 250) (h0 : -250 ≤ lo) (h1 : lo ≤ 1) (hx0 : lo - 1 ≤ x) (hx1 : x ≤ lo + n) : -62500 ≤ pot F lo n x ∧ pot F lo n x ≤ 153101 := by
  have hb := psum_bd (wt F) 250 n lo (fun c h2 h3 => by unfold wt; split <;> omega)
  have hs := sq_bd x (by omega) (by omega)
  unfold pot
  omega
theorem line_step {F : Fld} {lo x r : Int} {n : Nat} (L : Line F lo n) (h0 : lo ≤ x) (h1 : x < lo + n) (hr : F x 0 = some r) :
    Line (upd F x 0 ((r + 1) % 2)) lo n ∧ pot (upd F x 0 ((r + 1) % 2)) lo n (mv2 ((r + 1) % 2) x 0).1 = pot F lo n x + 1 ∧ (mv2 ((r + 1) % 2) x 0).2 = 0 ∧ lo - 1 ≤ (mv2 ((r + 1) % 2) x 0).1 ∧ (mv2 ((r + 1) % 2) x 0).1 ≤ lo + n := by
  have hu : ∀ c r1, c ≠ x → upd F x 0 r1 c 0 = F c 0 := fun c r1 hc => by unfold upd; rw [if_neg (fun e => hc e.1)]
  have hu0 : ∀ r1, upd F x 0 r1 x 0 = some r1 := fun r1 => by unfold upd; rw [if_pos ⟨rfl, rfl⟩]
  have hL : ∀ r1, r1 = 0 ∨ r1 = 1 → Line (upd F x 0 r1) lo n := fun r1 h => by
    refine ⟨fun c h2 h3 => ?_, fun a b hab => ?_⟩
    · by_cases e : c = x
      · subst e; rw [hu0]; rcases h with rfl | rfl <;> simp
      · rw [hu c r1 e]; exact L.on c h2 h3
    · have hne : ¬ (a = x ∧ b = 0) := fun e => hab ⟨e.2, by omega, by omega⟩
      unfold upd
      rw [if_neg hne]
      exact L.off a b hab
  have hp : ∀ r1, psum (wt (upd F x 0 r1)) n lo = psum (wt F) n lo + (wt (upd F x 0 r1) x - wt F x) := fun r1 => psum_upd _ _ x (fun c hc => by unfold wt; rw [hu c r1 hc]) n lo h0 h1
  have hsq1 : (x + 1) * (x + 1) = x * x + 2 * x + 1 := by rw [Int.add_mul, Int.mul_add]; omega
  have hsq2 : (x - 1) * (x - 1) = x * x - 2 * x + 1 := by rw [Int.sub_mul, Int.mul_sub]; omega
  rcases L.on x h0 h1 with h | h
  · rw [h] at hr
    cases hr
    have e : ((0 : Int) + 1) % 2 = 1 := by decide
    rw [e]
    have e1 : mv2 1 x 0 = (x - 1, 0) := by unfold mv2; rw [if_neg (by omega)]
    rw [e1]
    refine ⟨hL 1 (.inr rfl), ?_, rfl, by simp only; omega, by simp only; omega⟩
    unfold pot
    rw [hp, hsq2]
    have w1 : wt (upd F x 0 1) x = x := by unfold wt; rw [hu0, if_neg (by decide)]
    have w2 : wt F x = -x := by unfold wt; rw [h, if_pos rfl]
    rw [w1, w2]
    omega
  · rw [h] at hr
    cases hr
    have e : ((1 : Int) + 1) % 2 = 0 := by decide
    rw [e]
    have e1 : mv2 0 x 0 = (x + 1, 0) := by unfold mv2; rw [if_pos rfl]
    rw [e1]
    refine ⟨hL 0 (.inl rfl), ?_, rfl, by simp only; omega, by simp only; omega⟩
    unfold pot
    rw [hp, hsq1]
    have w1 : wt (upd F x 0 0) x = -x := by unfold wt; rw [hu0, if_pos rfl]
    have w2 : wt F x = x := by unfold wt; rw [h, if_neg (by decide)]
    rw [w1, w2]
    omega
theorem line_run {lo : Int} {n : Nat} (hn : n ≤ 250) (hlo : -250 ≤ lo) (hl1 : lo ≤ 1) (hhi : lo + n ≤ 251) : ∀ (k : Nat) (F : Fld) (x s : Int), Line F lo n → lo - 1 ≤ x → x ≤ lo + n → 153102 - pot F lo n x ≤ k →
    ∃ F1 x1 s1, run 2 300 mv2 (k + 1) F x 0 s = some (F1, x1, 0, s1) ∧ Line F1 lo n ∧ (x1 = lo - 1 ∨ x1 = lo + n) ∧ s ≤ s1 ∧ s1 ≤ s + k := by
  intro k
  induction k with
  | zero =>
    intro F x s L h0 h1 hk
    have := (pot_bd (F := F) hn hlo hl1 h0 h1).2
    omega
  | succ k ih =>
    intro F x s L h0 h1 hk
    by_cases hin : lo ≤ x ∧ x < lo + n
    · obtain ⟨r, hr⟩ : ∃ r, F x 0 = some r := by rcases L.on x hin.1 hin.2 with h | h <;> exact ⟨_, h⟩
      obtain ⟨L1, hp, hm, h2, h3⟩ := line_step L hin.1 hin.2 hr
      unfold run
      rw [if_pos (by omega), hr]
      simp only
      rw [hm]
      obtain ⟨F1, x1, s1, hrun, L2, hx, hs0, hs1⟩ := ih _ _ (s + 1) L1 h2 h3 (by omega)
      exact ⟨F1, x1, s1, hrun, L2, hx, by omega, by omega⟩
    · unfold run
      rw [if_pos (by omega), L.off x 0 (fun h => hin h.2)]
      exact ⟨F, x, s, rfl, L, by omega, by omega, by omega⟩
/-- A stretch that holds the middle, or nothing. -/
theorem line_chips (k0 : Int) (hk : k0 = 0 ∨ k0 = 1) : ∀ (m n : Nat) (lo : Int) (F : Fld) (cs : List (Int × Int)) (s : Int), n + m ≤ 250 → -n ≤ lo → lo ≤ 1 → 0 < lo + n → lo + n ≤ n + 1 → Line F lo n →
    ∃ S lo1, chips 2 300 mv2 215603 k0 m ⟨F, cs, s⟩ = some S ∧ Line S.f lo1 (n + m) ∧ lo1 ≤ 1 ∧ 0 < lo1 + (n + m : Nat) ∧ -(n + m : Nat) ≤ lo1 ∧ s ≤ S.steps ∧ S.steps ≤ s + 215603 * m := by
  intro m
  induction m with
  | zero =>
    intro n lo F cs s hnm h0 h1 h2 h3 L
    exact ⟨_, lo, rfl, L, h1, h2, h0, by simp, by simp⟩
  | succ m ih =>
    intro n lo F cs s hnm h0 h1 h2 h3 L
    have hp := (pot_bd (F := F) (x := 0) (show n ≤ 250 by omega) (by omega) h1 (by omega) (by omega)).1
    obtain ⟨F1, x1, s1, hrun, L1, hx, hs0, hs1⟩ := line_run (show n ≤ 250 by omega) (by omega) h1 (by omega) 215602 F 0 s L (by omega) (by omega) (by omega)
    simp only [chips]
    rw [hrun, Option.bind_some]
    simp only
    have hu : ∀ lo2 : Int, (lo2 = lo ∧ x1 = lo + n ∨ lo2 = lo - 1 ∧ x1 = lo - 1) → Line (upd F1 x1 0 k0) lo2 (n + 1) := fun lo2 hlo => by
      refine ⟨fun c h4 h5 => ?_, fun a b hab => ?_⟩
      · by_cases e : c = x1
        · subst e; unfold upd; rw [if_pos ⟨rfl, rfl⟩]; rcases hk with rfl | rfl <;> simp
        · unfold upd; rw [if_neg (fun h => e h.1)]; exact L1.on c (by omega) (by omega)
      · unfold upd
        rw [if_neg (fun h => hab ⟨h.2, by omega, by omega⟩)]
        exact L1.off a b (fun h => hab ⟨h.1, by omega, by omega⟩)
    rcases hx with hx | hx
    · obtain ⟨S, lo1, hS, L2, g1, g2, g3, g4, g5⟩ := ih (n + 1) (lo - 1) (upd F1 x1 0 k0) (cs ++ [(x1, 0)]) s1 (by omega) (by omega) (by omega) (by omega) (by omega) (hu _ (.inr ⟨rfl, hx⟩))
      have e : n + 1 + m = n + (m + 1) := by omega
      rw [e] at L2 g2 g3
      exact ⟨S, lo1, hS, L2, g1, g2, g3, by omega, by omega⟩
    · obtain ⟨S, lo1, hS, L2, g1, g2, g3, g4, g5⟩ := ih (n + 1) lo (upd F1 x1 0 k0) (cs ++ [(x1, 0)]) s1 (by omega) (by omega) (by omega) (by omega) (by omega) (hu _ (.inl ⟨rfl, hx⟩))
      have e : n + 1 + m = n + (m + 1) := by omega
      rw [e] at L2 g2 g3
      exact ⟨S, lo1, hS, L2, g1, g2, g3, by omega, by omega⟩
/-- What n chips make on the line. -/
theorem line_n (n : Nat) (k0 : Int) (hn : n ≤ 250) (hk : k0 = 0 ∨ k0 = 1) : ∃ S, chips 2 300 mv2 215603 k0 n st0 = some S := by
  obtain ⟨S, lo1, h, _⟩ := line_chips k0 hk n 0 1 (fun _ _ => none) [] 0 (by omega) (by omega) (by omega) (by omega) (by omega) ⟨fun c h0 h1 => by omega, fun a b h => rfl⟩
  exact ⟨S, h⟩
end Go.Proofs.Ytjedhjeijpbobaa.G8

/-! ## Ma -/
namespace Go.Proofs.Ytjedhjeijpbobaa.G8
open Go.RowKit Go.Proofs.YtjedhjeijpbobaaW.PrintWords Go.Proofs.YtjedhjeijpbobaaW.PrintLast Go.Proofs.YtjedhjeijpbobaaW.PrintMore
set_option linter.unusedVariables false
set_option linter.unusedSimpArgs false
theorem wrap_id {x : Int} (h0 : -9223372036854775808 ≤ x) (h1 : x ≤ 9223372036854775807) : wrap64 x = x := by unfold wrap64; omega
set_option maxHeartbeats 4000000 in
set_option maxRecDepth 100000 in
theorem exit0 (x y : Int) (w : World) (hx : -100000 ≤ x ∧ x ≤ 100000) (hy : -100000 ≤ y ∧ y ≤ 100000) :
    Calls Try.prog 98 #[.agg #[.int .i64 x, .int .i64 y], .int .i64 0] w fun e w' => e = .returned (.agg #[.int .i64 (x + 1), .int .i64 y]) ∧ Below w.heap.size w w' := by
  have hw := wrap_id (x := x + 1) (by omega) (by omega)
  have hu76 := Try.underlying76
  clear hx hy
  go_enter Try.func98, Try.ntmps98
  go_wp2
  refine bodyPost_ret (v := .agg #[.int .i64 (x + 1), .int .i64 y]) (by simp [results, Try.results98, go_sem]) rfl ⟨rfl, ?_⟩
  exact ((Below.refl _ _).alloc (Nat.le_refl _) _).alloc (by simp) _
set_option maxHeartbeats 4000000 in
set_option maxRecDepth 100000 in
theorem exit1 (x y : Int) (w : World) (hx : -100000 ≤ x ∧ x ≤ 100000) (hy : -100000 ≤ y ∧ y ≤ 100000) :
    Calls Try.prog 98 #[.agg #[.int .i64 x, .int .i64 y], .int .i64 1] w fun e w' => e = .returned (.agg #[.int .i64 x, .int .i64 (y + 1)]) ∧ Below w.heap.size w w' := by
  have hw := wrap_id (x := y + 1) (by omega) (by omega)
  have hu76 := Try.underlying76
  clear hx hy
  go_enter Try.func98, Try.ntmps98
  go_wp2
  refine bodyPost_ret (v := .agg #[.int .i64 x, .int .i64 (y + 1)]) (by simp [results, Try.results98, go_sem]) rfl ⟨rfl, ?_⟩
  exact ((Below.refl _ _).alloc (Nat.le_refl _) _).alloc (by simp) _
set_option maxHeartbeats 4000000 in
set_option maxRecDepth 100000 in
theorem exit2 (x y : Int) (w : World) (hx : -100000 ≤ x ∧ x ≤ 100000) (hy : -100000 ≤ y ∧ y ≤ 100000) :
    Calls Try.prog 98 #[.agg #[.int .i64 x, .int .i64 y], .int .i64 2] w fun e w' => e = .returned (.agg #[.int .i64 (x - 1), .int .i64 y]) ∧ Below w.heap.size w w' := by
  have hw := wrap_id (x := x - 1) (by omega) (by omega)
  have hu76 := Try.underlying76
  clear hx hy
  go_enter Try.func98, Try.ntmps98
  go_wp2
  refine bodyPost_ret (v := .agg #[.int .i64 (x - 1), .int .i64 y]) (by simp [results, Try.results98, go_sem]) rfl ⟨rfl, ?_⟩
  exact ((Below.refl _ _).alloc (Nat.le_refl _) _).alloc (by simp) _
set_option maxHeartbeats 4000000 in
set_option maxRecDepth 100000 in
theorem exit3 (x y : Int) (w : World) (hx : -100000 ≤ x ∧ x ≤ 100000) (hy : -100000 ≤ y ∧ y ≤ 100000) :
    Calls Try.prog 98 #[.agg #[.int .i64 x, .int .i64 y], .int .i64 3] w fun e w' => e = .returned (.agg #[.int .i64 x, .int .i64 (y - 1)]) ∧ Below w.heap.size w w' := by
  have hw := wrap_id (x := y - 1) (by omega) (by omega)
  have hu76 := Try.underlying76
  clear hx hy
  go_enter Try.func98, Try.ntmps98
  go_wp2
  refine bodyPost_ret (v := .agg #[.int .i64 x, .int .i64 (y - 1)]) (by simp [results, Try.results98, go_sem]) rfl ⟨rfl, ?_⟩
  exact ((Below.refl _ _).alloc (Nat.le_refl _) _).alloc (by simp) _
theorem blk_two (w : World) (o1 o2 : Obj) : ((w.alloc o1).alloc o2).heap[w.heap.size + 1]? = some o2 := by
  have h := blk_new (w.alloc o1) o2
  simpa using h
theorem exit_calls (x y r : Int) (w : World) (hx : -100000 ≤ x ∧ x ≤ 100000) (hy : -100000 ≤ y ∧ y ≤ 100000) (hr : 0 ≤ r ∧ r ≤ 3) :
    Calls Try.prog 98 #[.agg #[.int .i64 x, .int .i64 y], .int .i64 r] w fun e w' => e = .returned (.agg #[.int .i64 (mv4 r x y).1, .int .i64 (mv4 r x y).2]) ∧ Below w.heap.size w w' := by
  rcases (show r = 0 ∨ r = 1 ∨ r = 2 ∨ r = 3 by omega) with rfl | rfl | rfl | rfl
  · exact exit0 x y w hx hy
  · exact exit1 x y w hx hy
  · exact exit2 x y w hx hy
  · exact exit3 x y w hx hy
set_option maxHeartbeats 4000000 in
set_option maxRecDepth 100000 in
theorem line_exit (x y r : Int) (w : World) (hx : -100000 ≤ x ∧ x ≤ 100000) (hy : -100000 ≤ y ∧ y ≤ 100000) (hr : 0 ≤ r ∧ r ≤ 1) :
    Calls Try.prog 99 #[.agg #[.int .i64 x, .int .i64 y], .int .i64 r] w fun e w' => e = .returned (.agg #[.int .i64 (mv2 r x y).1, .int .i64 (mv2 r x y).2]) ∧ Below w.heap.size w w' := by
  have hw := wrap_id (x := 2 * r) (by omega) (by omega)
  have hu76 := Try.underlying76
  have hm : mv4 (2 * r) x y = mv2 r x y := by
    unfold mv4 mv2
    rcases (show r = 0 ∨ r = 1 by omega) with rfl | rfl <;> simp
  have HE := fun W => exit_calls x y (2 * r) W hx hy (by omega)
  rw [hm] at HE
  replace HE := Aside0.mk HE
  clear hx hy hr hm
  generalize mv2 r x y = q at *
  go_enter Try.func99, Try.ntmps99
  go_wp2_with (first | (go_at_call 98; refine (HE.out _).mono ?_; rintro e w1 ⟨rfl, hB⟩; have BK := ((hB.block (w.heap.size + 1) (by simp)).trans (blk_two w (.cells #[.int .i64 x, .int .i64 y] 76) (.cells #[.int .i64 0, .int .i64 0] 76))); have k0 := blk_cell BK 0; have k1 := blk_cell BK 1; have fz := blk_frozen BK; simp at k0 k1; have HB := Aside0.mk hB; clear hB BK))
  refine bodyPost_ret (v := .agg #[.int .i64 q.1, .int .i64 q.2]) (by simp [results, Try.results99, go_sem, k0, k1]) rfl ⟨rfl, ?_⟩
  exact below_set (below_set (below_then (((Below.refl _ _).alloc (Nat.le_refl _) _).alloc (by simp) _) (by simp; omega) HB.out) (Nat.le_succ _)) (Nat.le_succ _)
end Go.Proofs.Ytjedhjeijpbobaa.G8

/-! ## Mb -/
namespace Go.Proofs.Ytjedhjeijpbobaa.G8
open Go.RowKit Go.Maps Go.Proofs.YtjedhjeijpbobaaW.PrintWords Go.Proofs.YtjedhjeijpbobaaW.PrintLast Go.Proofs.YtjedhjeijpbobaaW.PrintMore
set_option linter.unusedVariables false
set_option linter.unusedSimpArgs false
theorem laidOut : laidOutB Try.prog = true := by kernel_rfl
theorem row76 : (76 : TypeId) < Try.prog.types.size := of_decide_eq_true (by kernel_rfl)
theorem keyAt76 : Try.prog.keyTypeAt 2 76 = true := by kernel_rfl
theorem klaw76 : WideMaps.KeyLaw Try.prog 76 := deep_law_laid laidOut (m := 2) (by omega) row76 keyAt76 (by rw [Try.underlying76])
theorem law76 : Keyed Try.prog 76 := Keyed.of_law klaw76
theorem cells76 : Try.prog.cellsOf 76 = 2 := by kernel_rfl
theorem cells3 : Try.prog.cellsOf 3 = 1 := by kernel_rfl
theorem keyType76 : Try.prog.keyType 76 = true := by kernel_rfl
theorem zero3 (w : World) : (zeroValue 3).run Try.prog w = .ok (.int .i64 0) w := by kernel_rfl
abbrev cellV (x y : Int) : Value := .agg #[.int .i64 x, .int .i64 y]
def keyLit (x y : Int) : Lit := .string (keyBytes [.int .i64 x, .int .i64 y])
theorem key_lits (d : Nat) (x y : Int) (hx : (Lit.int .i64 x).wf = true) (hy : (Lit.int .i64 y).wf = true) : Try.prog.keyLits (d + 2) 76 [.int .i64 x, .int .i64 y] = some [.int .i64 x, .int .i64 y] := by
  unfold Program.keyLits
  rw [Try.underlying76]
  simp [cells76, cells3, Program.keyLits, Try.underlying3, hx, hy]
theorem key_is (x y : Int) (hx : (Lit.int .i64 x).wf = true) (hy : (Lit.int .i64 y).wf = true) : keyOf Try.prog 76 (cellV x y) = some (keyLit x y) := by
  obtain ⟨d, hd⟩ : ∃ d, Try.prog.types.size + 1 = d + 2 := ⟨Try.prog.types.size - 1, by have h : 76 < Try.prog.types.size := row76; omega⟩
  have hf : (cellV x y).formed Try.prog 76 = true := by simp [Value.formed, Try.underlying76, cells76]
  have hc : (cellV x y).cells.toList = [.int .i64 x, .int .i64 y] := rfl
  unfold keyOf
  rw [Try.underlying76, keyType76, hf, hc, hd, key_lits d x y hx hy]
  rfl
/-- The map's datum tells the field F. -/
structure FieldIs {H : Type} (D : DataW H) (F : Fld) : Prop where
  has : ∀ x y : Int, (Lit.int .i64 x).wf = true → (Lit.int .i64 y).wf = true → Maps.has D (keyLit x y) = (F x y).isSome
  val : ∀ (x y r : Int), (Lit.int .i64 x).wf = true → (Lit.int .i64 y).wf = true → F x y = some r → D.atKey (keyLit x y) (.lit (.int .i64 0)) = .lit (.int .i64 r)
theorem key_ne {x y a b : Int} (hx : (Lit.int .i64 x).wf = true) (hy : (Lit.int .i64 y).wf = true) (ha : (Lit.int .i64 a).wf = true) (hb : (Lit.int .i64 b).wf = true) (h : ¬ (a = x ∧ b = y)) : keyLit a b ≠ keyLit x y := by
  intro e
  have h1 := key_is a b ha hb
  rw [e] at h1
  have h2 := law76.inj h1 (key_is x y hx hy)
  injection h2 with h2
  apply h
  have h3 := congrArg Array.toList h2
  simp at h3
  exact h3
theorem FieldIs.put {H : Type} {D : DataW H} {F : Fld} (h : FieldIs D F) (hD : IsMap D) {x y r : Int} (hx : (Lit.int .i64 x).wf = true) (hy : (Lit.int .i64 y).wf = true) : FieldIs (D.put (keyLit x y) (.lit (.int .i64 r))) (upd F x y r) := by
  have hk : WideAt.IsKeyLit (keyLit x y) := law76.key (key_is x y hx hy)
  refine ⟨fun a b ha hb => ?_, fun a b r1 ha hb hr => ?_⟩
  · unfold upd
    by_cases e : a = x ∧ b = y
    · rw [if_pos e, e.1, e.2, Maps.has_put_same hD hk]; rfl
    · rw [if_neg e, Maps.has_put_other (key_ne hx hy ha hb e)]; exact h.has a b ha hb
  · unfold upd at hr
    by_cases e : a = x ∧ b = y
    · rw [if_pos e] at hr
      cases hr
      rw [e.1, e.2, Maps.atKey_put_same hD hk]
    · rw [if_neg e] at hr
      rw [Maps.atKey_put_other (key_ne hx hy ha hb e)]
      exact h.val a b r1 ha hb hr
theorem FieldIs.nil {H : Type} : FieldIs (DataW.map (H := H) []) (fun _ _ => none) := ⟨fun _ _ _ _ => rfl, fun _ _ _ _ _ h => by cases h⟩
end Go.Proofs.Ytjedhjeijpbobaa.G8
