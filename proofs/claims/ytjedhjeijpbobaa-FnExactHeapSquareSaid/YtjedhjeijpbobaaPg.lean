/-
  Growth by rotors, as plain numbers: fields, runs and chips; and that 250 chips stay within fifteen steps of the middle.
-/
import Derived.Test.YtjedhjeijpbobaaPk
namespace Go.Proofs.Ytjedhjeijpbobaa.G8
set_option linter.unusedVariables false
set_option linter.unusedSimpArgs false
def nth (l : List Nat) (i : Nat) : Nat := l.getD i 0
/-- The rotors of grown cells. -/
abbrev Fld := Int → Int → Option Int
def upd (F : Fld) (x y r : Int) : Fld := fun a b => if a = x ∧ b = y then some r else F a b
/-- The cell behind an exit. -/
def mv4 (r x y : Int) : Int × Int := if r = 0 then (x + 1, y) else if r = 1 then (x, y + 1) else if r = 2 then (x - 1, y) else (x, y - 1)
def mv2 (r x y : Int) : Int × Int := if r = 0 then (x + 1, y) else (x - 1, y)
/-- One chip walks until it comes to a cell that is not grown; all its places are within B of the middle. -/
def run (ex B : Int) (mv : Int → Int → Int → Int × Int) : Nat → Fld → Int → Int → Int → Option (Fld × Int × Int × Int)
  | 0, _, _, _, _ => none
  | k + 1, F, x, y, s => if -B ≤ x ∧ x ≤ B ∧ -B ≤ y ∧ y ≤ B then
      match F x y with
      | none => some (F, x, y, s)
      | some r => run ex B mv k (upd F x y ((r + 1) % ex)) (mv ((r + 1) % ex) x y).1 (mv ((r + 1) % ex) x y).2 (s + 1)
    else none
structure St where
  f : Fld
  cells : List (Int × Int)
  steps : Int
/-- n chips, each at most K steps. -/
def chips (ex B : Int) (mv : Int → Int → Int → Int × Int) (K : Nat) (k0 : Int) : Nat → St → Option St
  | 0, S => some S
  | n + 1, S => (run ex B mv K S.f 0 0 S.steps).bind fun o => chips ex B mv K k0 n ⟨upd o.1 o.2.1 o.2.2.1 k0, S.cells ++ [(o.2.1, o.2.2.1)], o.2.2.2⟩
def st0 : St := ⟨fun _ _ => none, [], 0⟩
theorem chips_add (ex B : Int) (mv : Int → Int → Int → Int × Int) (K : Nat) (k0 : Int) : ∀ (m n : Nat) (S : St), chips ex B mv K k0 (m + n) S = (chips ex B mv K k0 m S).bind (chips ex B mv K k0 n)
  | 0, n, S => by simp [chips]
  | m + 1, n, S => by
    rw [Nat.add_right_comm]
    simp only [chips]
    cases h : run ex B mv K S.f 0 0 S.steps with
    | none => rfl
    | some o => simp only [Option.bind_some]; exact chips_add ex B mv K k0 m n _

/-! ### Packed lists -/
/-- A list as one number. -/
def pk (B : Nat) : List Nat → Nat
  | [] => 0
  | x :: t => x + B * pk B t
theorem pk_get (B : Nat) (hB : 0 < B) : ∀ (l : List Nat) (i : Nat), (∀ x ∈ l, x < B) → pk B l / B ^ i % B = nth l i
  | [], i, _ => by simp [pk, nth]
  | x :: t, 0, h => by
    have hx : x < B := h x (by simp)
    simp [pk, nth, Nat.add_mul_mod_self_left, Nat.mod_eq_of_lt hx]
  | x :: t, i + 1, h => by
    have hx : x < B := h x (by simp)
    have ih := pk_get B hB t i (fun y hy => h y (by simp [hy]))
    have e : (x + B * pk B t) / B ^ (i + 1) = pk B t / B ^ i := by
      rw [Nat.pow_succ, Nat.mul_comm (B ^ i) B, ← Nat.div_div_eq_div_mul, Nat.add_mul_div_left _ _ hB, Nat.div_eq_of_lt hx, Nat.zero_add]
    simp only [pk]
    rw [e, ih]
    simp [nth]
theorem pk_set (B : Nat) : ∀ (l : List Nat) (i r : Nat), i < l.length → pk B (l.set i r) + nth l i * B ^ i = pk B l + r * B ^ i
  | [], i, r, h => by simp at h
  | x :: t, 0, r, _ => by simp [pk, nth]; omega
  | x :: t, i + 1, r, h => by
    have ih := pk_set B t i r (by simpa using h)
    simp only [List.set_cons_succ, pk]
    have e1 : nth (x :: t) (i + 1) = nth t i := by simp [nth]
    rw [e1]
    have hp : B ^ (i + 1) = B * B ^ i := by rw [Nat.pow_succ, Nat.mul_comm]
    have m1 : nth t i * (B * B ^ i) = B * (nth t i * B ^ i) := by rw [Nat.mul_left_comm]
    have m2 : r * (B * B ^ i) = B * (r * B ^ i) := by rw [Nat.mul_left_comm]
    rw [hp, m1, m2]
    have := congrArg (B * ·) ih
    simp only [Nat.mul_add] at this
    omega
theorem pk_set_eq (B : Nat) (l : List Nat) (i r : Nat) (h : i < l.length) : (pk B l + r * B ^ i) - nth l i * B ^ i = pk B (l.set i r) := by
  have := pk_set B l i r h
  omega

theorem pk_replicate0 (B n : Nat) : pk B (List.replicate n 0) = 0 := by
  induction n with
  | zero => rfl
  | succ n ih => simp [List.replicate_succ, pk, ih]
theorem mem_set {l : List Nat} {i r B : Nat} (h : ∀ x ∈ l, x < B) (hr : r < B) : ∀ x ∈ l.set i r, x < B := by
  intro x hx
  rcases List.mem_or_eq_of_mem_set hx with h1 | h1
  · exact h x h1
  · rw [h1]; exact hr
structure Fits (l : List Nat) : Prop where
  len : l.length = 1024
  low : ∀ x ∈ l, x < 5
theorem Fits.low8 {l : List Nat} (f : Fits l) : ∀ x ∈ l, x < 8 := fun x hx => Nat.lt_of_lt_of_le (f.low x hx) (by decide)
theorem getM {l : List Nat} (f : Fits l) (i : Nat) : (pk 8 l >>> (3 * i)) % 8 = nth l i := by
  rw [Nat.shiftRight_eq_div_pow, Nat.pow_mul]
  exact pk_get 8 (by decide) l i f.low8
theorem setM {l : List Nat} (f : Fits l) (i r : Nat) (hi : i < 1024) : (pk 8 l + r <<< (3 * i)) - nth l i <<< (3 * i) = pk 8 (l.set i r) := by
  rw [Nat.shiftLeft_eq, Nat.shiftLeft_eq, Nat.pow_mul]
  exact pk_set_eq 8 l i r (by rw [f.len]; exact hi)
theorem addM {l : List Nat} (f : Fits l) (i r : Nat) (hi : i < 1024) (h0 : nth l i = 0) : pk 8 l + r <<< (3 * i) = pk 8 (l.set i r) := by
  have h := setM f i r hi
  rw [h0, Nat.zero_shiftLeft] at h
  exact h
def pkS (s : Nat) (l : List Nat) : Nat := s + 16777216 * pk 8 l
theorem getS {l : List Nat} (f : Fits l) (s i : Nat) (hs : s < 16000000) : (pkS s l >>> (24 + 3 * i)) % 8 = nth l i := by
  rw [Nat.shiftRight_add, ← getM f i]
  congr 2
  unfold pkS
  rw [Nat.shiftRight_eq_div_pow]
  generalize pk 8 l = m
  omega
theorem shl24 (c i : Nat) : c <<< (24 + i) = 16777216 * c <<< i := by
  rw [Nat.shiftLeft_eq, Nat.shiftLeft_eq, Nat.pow_add, Nat.mul_left_comm]
theorem setS {l : List Nat} (f : Fits l) (s i r : Nat) (hi : i < 1024) : (pkS s l + 1 + r <<< (24 + 3 * i)) - nth l i <<< (24 + 3 * i) = pkS (s + 1) (l.set i r) := by
  rw [shl24, shl24]
  have h := pk_set 8 l i r (by rw [f.len]; exact hi)
  have e1 : r <<< (3 * i) = r * 8 ^ i := by rw [Nat.shiftLeft_eq, Nat.pow_mul]
  have e2 : nth l i <<< (3 * i) = nth l i * 8 ^ i := by rw [Nat.shiftLeft_eq, Nat.pow_mul]
  rw [e1, e2]
  unfold pkS
  generalize nth l i * 8 ^ i = u at *
  generalize r * 8 ^ i = v at *
  generalize pk 8 l = m at *
  generalize pk 8 (l.set i r) = m1 at *
  omega
theorem addS {l : List Nat} (f : Fits l) (s i r : Nat) (hi : i < 1024) (h0 : nth l i = 0) : pkS s l + r <<< (24 + 3 * i) = pkS s (l.set i r) := by
  have h := setS f s i r hi
  rw [h0, Nat.zero_shiftLeft] at h
  unfold pkS at *
  omega
/-- The field that a list of codes tells: 0 for a cell that is not grown, else the rotor and one. -/
def fOf (l : List Nat) : Fld := fun x y => if -16 ≤ x ∧ x ≤ 15 ∧ -16 ≤ y ∧ y ≤ 15 then (if nth l (32 * (x + 16).toNat + (y + 16).toNat) = 0 then none else some ((nth l (32 * (x + 16).toNat + (y + 16).toNat) : Int) - 1)) else none
theorem nth_set (l : List Nat) (i j r : Nat) (hi : i < l.length) : nth (l.set i r) j = if j = i then r else nth l j := by
  unfold nth
  rw [List.getD_eq_getElem?_getD, List.getD_eq_getElem?_getD, List.getElem?_set]
  split
  · rename_i h; subst h; simp [hi]
  · rename_i h; rw [if_neg (fun e => h e.symm)]
theorem fOf_at (l : List Nat) (X Y : Nat) (hX : X < 32) (hY : Y < 32) : fOf l ((X : Int) - 16) ((Y : Int) - 16) = if nth l (32 * X + Y) = 0 then none else some ((nth l (32 * X + Y) : Int) - 1) := by
  unfold fOf
  rw [if_pos (by omega)]
  have e1 : ((X : Int) - 16 + 16).toNat = X := by omega
  have e2 : ((Y : Int) - 16 + 16).toNat = Y := by omega
  rw [e1, e2]
theorem upd_fOf (l : List Nat) (X Y c : Nat) (hl : l.length = 1024) (hX : X < 32) (hY : Y < 32) (hc : 0 < c) : upd (fOf l) ((X : Int) - 16) ((Y : Int) - 16) ((c : Int) - 1) = fOf (l.set (32 * X + Y) c) := by
  funext a b
  unfold upd
  by_cases hin : -16 ≤ a ∧ a ≤ 15 ∧ -16 ≤ b ∧ b ≤ 15
  · unfold fOf
    rw [if_pos hin, if_pos hin, nth_set _ _ _ _ (by rw [hl]; omega)]
    by_cases he : a = (X : Int) - 16 ∧ b = (Y : Int) - 16
    · have e : 32 * (a + 16).toNat + (b + 16).toNat = 32 * X + Y := by omega
      rw [if_pos he]
      simp only [e, if_true]
      rw [if_neg (by omega)]
    · have e : ¬ 32 * (a + 16).toNat + (b + 16).toNat = 32 * X + Y := by omega
      rw [if_neg he]
      simp only [e, if_false]
  · unfold fOf
    rw [if_neg hin, if_neg hin, if_neg (by omega)]
theorem fOf_none (l : List Nat) (h : ∀ i, nth l i = 0) : fOf l = fun _ _ => none := by
  funext x y
  unfold fOf
  split
  · rw [if_pos (h _)]
  · rfl
theorem run_of_P : ∀ (k X Y s : Nat) (l : List Nat), Fits l → ∀ X1 Y1 s1 M1, runP k X Y s (pkS s l) = some (X1, Y1, s1, M1) →
    ∃ l1, Fits l1 ∧ M1 = pkS s1 l1 ∧ X1 < 32 ∧ Y1 < 32 ∧ nth l1 (32 * X1 + Y1) = 0 ∧ run 4 15 mv4 k (fOf l) ((X : Int) - 16) ((Y : Int) - 16) (s : Int) = some (fOf l1, (X1 : Int) - 16, (Y1 : Int) - 16, (s1 : Int)) := by
  intro k
  induction k with
  | zero => intro X Y s l f X1 Y1 s1 M1 h; simp [runP] at h
  | succ k ih =>
    intro X Y s l f X1 Y1 s1 M1 h
    unfold runP at h
    simp only [fN_eq] at h
    cases hb : (Nat.ble 1 X && Nat.ble X 31 && Nat.ble 1 Y && Nat.ble Y 31 && Nat.blt s 16000000) with
    | false => rw [hb] at h; simp at h
    | true =>
      rw [hb] at h
      simp only [cond_true] at h
      simp only [Bool.and_eq_true, Nat.ble_eq, Nat.blt_eq] at hb
      rw [getS f _ _ hb.2] at h
      unfold run
      rw [if_pos (by omega), fOf_at l X Y (by omega) (by omega)]
      cases h0 : Nat.beq (nth l (32 * X + Y)) 0 with
      | true =>
        rw [h0] at h
        simp only [cond_true, Option.some.injEq, Prod.mk.injEq] at h
        obtain ⟨rfl, rfl, rfl, rfl⟩ := h
        have h0' : nth l (32 * X + Y) = 0 := Nat.eq_of_beq_eq_true h0
        rw [if_pos h0']
        exact ⟨l, f, rfl, by omega, by omega, h0', rfl⟩
      | false =>
        rw [h0] at h
        simp only [cond_false] at h
        have h0' : nth l (32 * X + Y) ≠ 0 := Nat.ne_of_beq_eq_false h0
        rw [if_neg h0']
        have hold : nth l (32 * X + Y) < 5 := by
          unfold nth
          rw [List.getD_eq_getElem?_getD]
          cases hg : l[32 * X + Y]? with
          | none => simp
          | some v => exact f.low v (List.mem_of_getElem? hg)
        rw [setS f _ _ _ (by omega)] at h
        have f1 : Fits (l.set (32 * X + Y) (nth l (32 * X + Y) % 4 + 1)) := ⟨by rw [List.length_set]; exact f.len, mem_set f.low (by omega)⟩
        have hr : ((nth l (32 * X + Y) : Int) - 1 + 1) % 4 = ((nth l (32 * X + Y) % 4 + 1 : Nat) : Int) - 1 := by omega
        simp only
        rw [hr, upd_fOf l X Y _ f.len (by omega) (by omega) (by omega)]
        obtain ⟨c, hc⟩ : ∃ c, c = nth l (32 * X + Y) % 4 + 1 := ⟨_, rfl⟩
        rw [← hc] at h f1 ⊢
        have hs : (s : Int) + 1 = ((s + 1 : Nat) : Int) := by omega
        have hc5 : 1 ≤ c ∧ c ≤ 4 := by omega
        rw [hs]
        cases h1 : Nat.beq c 1 with
        | true =>
          rw [h1] at h
          simp only [cond_true] at h
          have e1 : c = 1 := Nat.eq_of_beq_eq_true h1
          have em : mv4 ((c : Int) - 1) ((X : Int) - 16) ((Y : Int) - 16) = (((X + 1 : Nat) : Int) - 16, (Y : Int) - 16) := by unfold mv4; rw [if_pos (by omega)]; congr 1; omega
          rw [em]
          exact ih _ _ _ _ f1 _ _ _ _ h
        | false =>
          rw [h1] at h
          simp only [cond_false] at h
          have n1 : c ≠ 1 := Nat.ne_of_beq_eq_false h1
          cases h2 : Nat.beq c 2 with
          | true =>
            rw [h2] at h
            simp only [cond_true] at h
            have e1 : c = 2 := Nat.eq_of_beq_eq_true h2
            have em : mv4 ((c : Int) - 1) ((X : Int) - 16) ((Y : Int) - 16) = ((X : Int) - 16, ((Y + 1 : Nat) : Int) - 16) := by unfold mv4; rw [if_neg (by omega), if_pos (by omega)]; congr 1; omega
            rw [em]
            exact ih _ _ _ _ f1 _ _ _ _ h
          | false =>
            rw [h2] at h
            simp only [cond_false] at h
            have n2 : c ≠ 2 := Nat.ne_of_beq_eq_false h2
            cases h3 : Nat.beq c 3 with
            | true =>
              rw [h3] at h
              simp only [cond_true] at h
              have e1 : c = 3 := Nat.eq_of_beq_eq_true h3
              have em : mv4 ((c : Int) - 1) ((X : Int) - 16) ((Y : Int) - 16) = (((X - 1 : Nat) : Int) - 16, (Y : Int) - 16) := by unfold mv4; rw [if_neg (by omega), if_neg (by omega), if_pos (by omega)]; congr 1; omega
              rw [em]
              exact ih _ _ _ _ f1 _ _ _ _ h
            | false =>
              rw [h3] at h
              simp only [cond_false] at h
              have n3 : c ≠ 3 := Nat.ne_of_beq_eq_false h3
              have em : mv4 ((c : Int) - 1) ((X : Int) - 16) ((Y : Int) - 16) = ((X : Int) - 16, ((Y - 1 : Nat) : Int) - 16) := by unfold mv4; rw [if_neg (by omega), if_neg (by omega), if_neg (by omega)]; congr 1; omega
              rw [em]
              exact ih _ _ _ _ f1 _ _ _ _ h
theorem chips_of_P (K k0 : Nat) (hk : k0 < 4) : ∀ (n s : Nat) (l : List Nat) (cs : List (Int × Int)), Fits l → chipsP K k0 n s (pkS s l) = true → ∃ S, chips 4 15 mv4 K (k0 : Int) n ⟨fOf l, cs, (s : Int)⟩ = some S := by
  intro n
  induction n with
  | zero => intro s l cs f h; exact ⟨_, rfl⟩
  | succ n ih =>
    intro s l cs f h
    unfold chipsP at h
    cases hr : runP K 16 16 s (pkS s l) with
    | none => rw [hr] at h; simp at h
    | some o =>
      obtain ⟨X, Y, s1, M1⟩ := o
      rw [hr] at h
      simp only [fN_eq] at h
      obtain ⟨l1, f1, rfl, hX, hY, h0, hrun⟩ := run_of_P K 16 16 s l f X Y s1 M1 hr
      rw [addS f1 _ _ _ (by omega) h0] at h
      have f2 : Fits (l1.set (32 * X + Y) (k0 + 1)) := ⟨by rw [List.length_set]; exact f1.len, mem_set f1.low (by omega)⟩
      unfold chips
      have e0 : ((16 : Nat) : Int) - 16 = 0 := by omega
      rw [e0] at hrun
      rw [hrun, Option.bind_some]
      have e1 : ((k0 + 1 : Nat) : Int) - 1 = (k0 : Int) := by omega
      have hu := upd_fOf l1 X Y (k0 + 1) f1.len hX hY (by omega)
      rw [e1] at hu
      simp only
      rw [hu]
      exact ih s1 _ _ f2 h
theorem grid_250 (k0 : Nat) (hk : k0 < 4) : ∃ S, chips 4 15 mv4 5000 (k0 : Int) 250 st0 = some S := by
  have hh : chipsP 5000 0 250 0 0 = true ∧ chipsP 5000 1 250 0 0 = true ∧ chipsP 5000 2 250 0 0 = true ∧ chipsP 5000 3 250 0 0 = true := by
    have h := all_okP
    rw [Bool.and_eq_true, Bool.and_eq_true, Bool.and_eq_true] at h
    exact ⟨h.1.1.1, h.1.1.2, h.1.2, h.2⟩
  have h : chipsP 5000 k0 250 0 0 = true := by
    rcases (show k0 = 0 ∨ k0 = 1 ∨ k0 = 2 ∨ k0 = 3 by omega) with e | e | e | e
    · rw [e]; exact hh.1
    · rw [e]; exact hh.2.1
    · rw [e]; exact hh.2.2.1
    · rw [e]; exact hh.2.2.2
  have f : Fits (List.replicate 1024 0) := ⟨List.length_replicate, fun x hx => by rw [(List.mem_replicate.1 hx).2]; decide⟩
  have hz : pkS 0 (List.replicate 1024 0) = 0 := by unfold pkS; rw [pk_replicate0]
  have h' : chipsP 5000 k0 250 0 (pkS 0 (List.replicate 1024 0)) = true := (congrArg (chipsP 5000 k0 250 0) hz).trans h
  obtain ⟨S, hS⟩ := chips_of_P 5000 k0 hk 250 0 (List.replicate 1024 0) [] f h'
  have h0 : ∀ i, nth (List.replicate 1024 0) i = 0 := fun i => by
    unfold nth
    rw [List.getD_eq_getElem?_getD, List.getElem?_replicate]
    split <;> rfl
  have he : st0 = ⟨fOf (List.replicate 1024 0), [], ((0 : Nat) : Int)⟩ := by
    rw [fOf_none _ h0]
    rfl
  rw [← he] at hS
  exact ⟨S, hS⟩
/-- What n chips make on the grid. -/
theorem grid_n (n k0 : Nat) (hn : n ≤ 250) (hk : k0 < 4) : ∃ S, chips 4 15 mv4 5000 (k0 : Int) n st0 = some S := by
  obtain ⟨S, hS⟩ := grid_250 k0 hk
  rw [show 250 = n + (250 - n) by omega, chips_add] at hS
  cases h : chips 4 15 mv4 5000 (k0 : Int) n st0 with
  | none => rw [h] at hS; simp at hS
  | some S1 => exact ⟨S1, rfl⟩
end Go.Proofs.Ytjedhjeijpbobaa.G8
