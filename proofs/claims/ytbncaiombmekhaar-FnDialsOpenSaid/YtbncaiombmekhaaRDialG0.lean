/- Chapter 7, the plain law of opening turns: what they are, that they stop at their code, how long they are. -/
import Derived.Test.YtbncaiombmekhaaRBx0
import Derived.Test.YtbncaiombmekhaaRDialD0
namespace Go.Proofs.YtbncaiombmekhaaR.Pure
open Go.RowKit Go.Proofs.YtbncaiombmekhaaR.B Go.Proofs.YtbncaiombmekhaaRW.PrintWords Go.Proofs.YtbncaiombmekhaaRW.PrintLast Go.Proofs.YtbncaiombmekhaaRW.PrintMore
set_option linter.unusedVariables false

/-- The opening turns of a code. -/
def openL (m : Int) : Int → Int → List Int → List Int
  | _, _, [] => []
  | by_, s, n :: ns => by_ * (firstP m s n by_ + (ns.length : Int) * m) :: openL m (-by_) n ns
def smallAll (l : List Int) : Bool := l.all (fun x => decide (-1000 ≤ x ∧ x ≤ 1000))
theorem openL_length (m : Int) : ∀ (l : List Int) (by_ s : Int), (openL m by_ s l).length = l.length
  | [], _, _ => rfl
  | n :: ns, by_, s => by simp [openL, openL_length m ns]
theorem openL_nonzero (m : Int) (hm : 2 ≤ m) : ∀ (l : List Int) (by_ s : Int), (by_ = 1 ∨ by_ = -1) → ∀ x ∈ openL m by_ s l, x ≠ 0
  | [], _, _, _, x, hx => by simp [openL] at hx
  | n :: ns, by_, s, hb, x, hx => by
    unfold openL at hx
    rcases List.mem_cons.mp hx with rfl | hx
    · have h1 := (firstP_bound m s n by_ hm).1
      have h2 : 0 ≤ (ns.length : Int) * m := Int.mul_nonneg (by omega) (by omega)
      rcases hb with rfl | rfl <;> omega
    · exact openL_nonzero m hm ns (-by_) n (by omega) x hx
/-- A single step's size, as the reference has it. -/
theorem far_eq (m s n by_ : Int) (hm : 2 ≤ m) : (by_ * (n - s) - 1) % m + 1 = firstP m s n by_ := by
  rw [Int.mul_comm, emod_next m _ hm]
  have h1 : 0 ≤ ((n - s) * by_) % m := Int.emod_nonneg _ (by omega)
  unfold firstP
  by_cases h : ((n - s) * by_) % m = 0
  · rw [if_pos h, if_neg (by omega)]
    omega
  · rw [if_neg h, if_pos (by omega)]
    omega
theorem openL_stops (m : Int) (hm : 2 ≤ m) : ∀ (l : List Int) (by_ s : Int), (by_ = 1 ∨ by_ = -1) → (∀ x ∈ l, 0 ≤ x ∧ x ≤ m - 1) → stopsP m s (openL m by_ s l) = l
  | [], _, _, _, _ => rfl
  | n :: ns, by_, s, hb, hl => by
    have hn := hl n List.mem_cons_self
    have e : (s + by_ * (firstP m s n by_ + (ns.length : Int) * m)) % m = n := by
      have e1 : (s + by_ * (firstP m s n by_ + (ns.length : Int) * m)) % m = (s + by_ * firstP m s n by_) % m := by
        rw [Int.mul_add, ← Int.add_assoc, ← Int.mul_assoc, Int.add_mul_emod_self_right]
      have e2 : firstP m s n by_ % m = ((n - s) * by_) % m := by
        unfold firstP
        have h1 : 0 ≤ ((n - s) * by_) % m := Int.emod_nonneg _ (by omega)
        split
        · exact Int.emod_emod_of_dvd _ (Int.dvd_refl m)
        · rw [Int.emod_self]
          omega
      have e3 : (s + by_ * firstP m s n by_) % m = (s + by_ * ((n - s) * by_)) % m := by
        rw [Int.add_emod, Int.mul_emod, e2, ← Int.mul_emod, ← Int.add_emod]
      have e4 : s + by_ * ((n - s) * by_) = n := by rcases hb with rfl | rfl <;> omega
      rw [e1, e3, e4, Int.emod_eq_of_lt (by omega) (by omega)]
    unfold openL
    rw [stopsP, e, openL_stops m hm ns (-by_) n (by omega) (fun x hx => hl x (List.mem_cons_of_mem _ hx))]
theorem openL_bound (m : Int) (hm : 2 ≤ m ∧ m ≤ 100) : ∀ (l : List Int) (by_ s : Int), (by_ = 1 ∨ by_ = -1) → ∀ x ∈ openL m by_ s l, -((l.length : Int) * 100) ≤ x ∧ x ≤ (l.length : Int) * 100
  | [], _, _, _, x, hx => by simp [openL] at hx
  | n :: ns, by_, s, hb, x, hx => by
    have hl : ((n :: ns).length : Int) = (ns.length : Int) + 1 := by simp
    rw [hl]
    unfold openL at hx
    rcases List.mem_cons.mp hx with rfl | hx
    · have h1 := firstP_bound m s n by_ hm.1
      have h2 : 0 ≤ (ns.length : Int) * m := Int.mul_nonneg (by omega) (by omega)
      have h3 : (ns.length : Int) * m ≤ (ns.length : Int) * 100 := Int.mul_le_mul_of_nonneg_left (by omega) (by omega)
      rcases hb with rfl | rfl <;> omega
    · have := openL_bound m hm ns (-by_) n (by omega) x hx
      omega
theorem openL_ok (m by_ s : Int) (hm : 2 ≤ m) (hb : by_ = 1 ∨ by_ = -1) (l : List Int) (hl : l.length ≤ 12) : stepsOk (openL m by_ s l) = smallAll (openL m by_ s l) := by
  rw [Bool.eq_iff_iff, stepsOk_iff]
  unfold smallAll
  rw [List.all_eq_true]
  simp only [decide_eq_true_iff, openL_length]
  constructor
  · exact fun h x hx => (h.2 x hx).2
  · exact fun h => ⟨hl, fun x hx => ⟨openL_nonzero m hm l by_ s hb x hx, h x hx⟩⟩
/-- The sum of sizes. -/
def lenP : List Int → Int
  | [] => 0
  | x :: xs => max x (-x) + lenP xs
theorem lenP_nonneg : ∀ l : List Int, 0 ≤ lenP l
  | [] => by simp [lenP]
  | x :: xs => by
    have := lenP_nonneg xs
    unfold lenP
    omega
end Go.Proofs.YtbncaiombmekhaaR.Pure
