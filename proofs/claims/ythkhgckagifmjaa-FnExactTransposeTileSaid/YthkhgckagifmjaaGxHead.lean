/- The words that stand at the head of this seat's translation, read once: so that the row's closed facts about them stay small. -/
import Derived.Test.YthkhgckagifmjaaRows
import Derived.JoinedOf
import Derived.KernelRfl
namespace Go.Proofs.Ythkhgckagifmjaa.Head
def w1 : List Char := [Char.ofNat 104, Char.ofNat 97, Char.ofNat 114, Char.ofNat 110, Char.ofNat 101, Char.ofNat 115, Char.ofNat 115]
def w2 : List Char := [Char.ofNat 100, Char.ofNat 52, Char.ofNat 54, Char.ofNat 54, Char.ofNat 98, Char.ofNat 52, Char.ofNat 53, Char.ofNat 51, Char.ofNat 52, Char.ofNat 100, Char.ofNat 98, Char.ofNat 52, Char.ofNat 53, Char.ofNat 56, Char.ofNat 53, Char.ofNat 50, Char.ofNat 97, Char.ofNat 97, Char.ofNat 56, Char.ofNat 97, Char.ofNat 97, Char.ofNat 51, Char.ofNat 50, Char.ofNat 49, Char.ofNat 55, Char.ofNat 48, Char.ofNat 99, Char.ofNat 100, Char.ofNat 55, Char.ofNat 101, Char.ofNat 100, Char.ofNat 53, Char.ofNat 52, Char.ofNat 56, Char.ofNat 48, Char.ofNat 99, Char.ofNat 57, Char.ofNat 97, Char.ofNat 97, Char.ofNat 51, Char.ofNat 101, Char.ofNat 55, Char.ofNat 55, Char.ofNat 99, Char.ofNat 99, Char.ofNat 54, Char.ofNat 49, Char.ofNat 97, Char.ofNat 49, Char.ofNat 55, Char.ofNat 100, Char.ofNat 57, Char.ofNat 100, Char.ofNat 54, Char.ofNat 49, Char.ofNat 48, Char.ofNat 49, Char.ofNat 49, Char.ofNat 101, Char.ofNat 48, Char.ofNat 52, Char.ofNat 97, Char.ofNat 52, Char.ofNat 49]
def w3 : List Char := [Char.ofNat 99, Char.ofNat 117, Char.ofNat 116]
def wt : List Char := [Char.ofNat 97, Char.ofNat 116, Char.ofNat 32, Char.ofNat 108, Char.ofNat 111, Char.ofNat 111, Char.ofNat 112, Char.ofNat 46, Char.ofNat 101, Char.ofNat 120, Char.ofNat 97, Char.ofNat 109, Char.ofNat 112, Char.ofNat 108, Char.ofNat 101, Char.ofNat 47, Char.ofNat 103, Char.ofNat 48, Char.ofNat 48, Char.ofNat 57, Char.ofNat 56, Char.ofNat 53, Char.ofNat 47, Char.ofNat 108, Char.ofNat 97, Char.ofNat 119, Char.ofNat 115, Char.ofNat 46, Char.ofNat 70, Char.ofNat 110, Char.ofNat 69, Char.ofNat 120, Char.ofNat 97, Char.ofNat 99, Char.ofNat 116, Char.ofNat 84, Char.ofNat 114, Char.ofNat 97, Char.ofNat 110, Char.ofNat 115, Char.ofNat 112, Char.ofNat 111, Char.ofNat 115, Char.ofNat 101, Char.ofNat 84, Char.ofNat 105, Char.ofNat 108, Char.ofNat 101]
theorem lit : Try.prog.initOrder = String.ofList (w1 ++ Char.ofNat 32 :: (w2 ++ Char.ofNat 32 :: (w3 ++ Char.ofNat 32 :: wt))) := by kernel_rfl
theorem one (c : Char) (r : List Char) (h : c ≠ Char.ofNat 32) : ∀ w ws, wordsSigns r = w :: ws → wordsSigns (c :: r) = (c :: w) :: ws := by
  intro w ws e
  rw [wordsSigns]
  · rw [e]
  · exact h
theorem app (a r : List Char) (h : a.all (fun c => decide (c ≠ Char.ofNat 32)) = true) : wordsSigns (a ++ Char.ofNat 32 :: r) = a :: wordsSigns r := by
  induction a with
  | nil => rfl
  | cons c a ih =>
    simp only [List.all_cons, Bool.and_eq_true, decide_eq_true_eq] at h
    exact one c _ h.1 _ _ (ih h.2)
theorem words : ∃ t, wordsSigns Try.prog.initOrder.toList = w1 :: w2 :: w3 :: t :=
  ⟨wordsSigns wt, by rw [lit, String.toList_ofList, app w1 _ (by kernel_rfl), app w2 _ (by kernel_rfl), app w3 _ (by kernel_rfl)]⟩
theorem mayEnter : Try.prog.mayEnter = true := by
  obtain ⟨t, ht⟩ := words
  rw [Program.mayEnter, ht]
  kernel_rfl
theorem liftsFinal : Try.prog.liftsFinal = false := by
  obtain ⟨t, ht⟩ := words
  rw [Program.liftsFinal, Program.headLifts, ht]
  kernel_rfl
theorem make : Try.prog.make = some .cut := by
  obtain ⟨t, ht⟩ := words
  rw [Program.make, ht]
  kernel_rfl
end Go.Proofs.Ythkhgckagifmjaa.Head
