/-
  Growth by rotors reckoned by the kernel: 250 chips on the grid come to rest within fifteen steps of the middle. The counter in the low bits is for the kernel: it tells numbers apart by these.
-/
namespace Go.Proofs.Ytjedhjeijpbobaa.G8
/-! ### The kernel's reckoning -/
/-- A number that is reckoned before it is handed on. -/
def fN {α : Type} (n : Nat) (f : Nat → α) : α := match n with | 0 => f 0 | m + 1 => f (m + 1)
theorem fN_eq {α : Type} (n : Nat) (f : Nat → α) : fN n f = f n := by cases n <;> rfl


def runP : Nat → Nat → Nat → Nat → Nat → Option (Nat × Nat × Nat × Nat)
  | 0, _, _, _, _ => none
  | k + 1, X, Y, s, M =>
    bif (Nat.ble 1 X && Nat.ble X 31 && Nat.ble 1 Y && Nat.ble Y 31 && Nat.blt s 16000000) then
      fN ((M >>> (24 + 3 * (32 * X + Y))) % 8) fun old =>
      bif Nat.beq old 0 then some (X, Y, s, M) else
      fN (old % 4 + 1) fun c =>
      fN ((M + 1 + c <<< (24 + 3 * (32 * X + Y))) - old <<< (24 + 3 * (32 * X + Y))) fun M1 =>
      fN (s + 1) fun s1 =>
      bif Nat.beq c 1 then fN (X + 1) fun X1 => runP k X1 Y s1 M1
      else bif Nat.beq c 2 then fN (Y + 1) fun Y1 => runP k X Y1 s1 M1
      else bif Nat.beq c 3 then fN (X - 1) fun X1 => runP k X1 Y s1 M1
      else fN (Y - 1) fun Y1 => runP k X Y1 s1 M1
    else none
def chipsP (K k0 : Nat) : Nat → Nat → Nat → Bool
  | 0, _, _ => true
  | n + 1, s, M => match runP K 16 16 s M with
    | none => false
    | some (X, Y, s1, M1) => fN (M1 + (k0 + 1) <<< (24 + 3 * (32 * X + Y))) fun M2 => chipsP K k0 n s1 M2
theorem all_okP : (chipsP 5000 0 250 0 0 && chipsP 5000 1 250 0 0 && chipsP 5000 2 250 0 0 && chipsP 5000 3 250 0 0) = true := by decide +kernel
end Go.Proofs.Ytjedhjeijpbobaa.G8
