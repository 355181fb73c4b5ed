/- The program's NeedlessHints returns what the reference's returns, for all arguments; no condition beyond the law's own. -/
import Derived.Test.YthikcnbjfnkglaaUx0
import Derived.Test.YthikcnbjfnkglaaUx1
import Derived.Test.YthikcnbjfnkglaaUx8
import Derived.Test.YthikcnbjfnkglaaUx9
import Derived.Test.YthikcnbjfnkglaaHintN
import Derived.Test.YthikcnbjfnkglaaHintH
import Derived.Test.YthikcnbjfnkglaaHintE
import Derived.Test.YthikcnbjfnkglaaHintT
import Derived.Test.YthikcnbjfnkglaaStatFnExactNeedlessHints
namespace Go.Proofs.Ythikcnbjfnkglaa.Pure
open Go.RowKit Go.Proofs.Ythikcnbjfnkglaa.U Go.Proofs.YthikcnbjfnkglaaW.PrintWords Go.Proofs.YthikcnbjfnkglaaW.PrintLast Go.Proofs.YthikcnbjfnkglaaW.PrintMore
set_option linter.unusedVariables false
theorem FnExactNeedlessHints : laws_FnExactNeedlessHints.Pure := by
  intro a b l _ _ hl
  apply Ev.rounds
  unfold laws_FnExactNeedlessHints.f
  obtain ⟨r, hr, hc⟩ := szHintS_ev l hl.1 (fun x hx => (hl.2 x hx).1)
  refine Ev.bind hr ?_
  by_cases h0 : r < 0
  · exact Ev.pos h0 (Ev.now _)
  refine Ev.neg h0 ?_
  obtain ⟨hn, hs⟩ := hc.resolve_left h0
  have hm : ∀ x ∈ l.map toH, x.f0.size < 1099511627776 := by
    intro x hx
    obtain ⟨y, hy, rfl⟩ := List.mem_map.mp hx
    have := hs y hy
    show y.f0.size < _
    omega
  have ht := toHintS_ev l (by omega)
  have hlk : laws_toLock.f a b = some (a, b) := rfl
  have hi := implNdl_ev a b (l.map toH) (by simp; omega) hm
  have hsp := specNdl_ev a b (l.map toH) hm
  have hlen := ndlV_length a b (l.map toH)
  rw [List.length_map] at hlen
  generalize ndlV a b (l.map toH) = v at hi hsp hlen
  obtain ⟨l', v⟩ := v
  simp only at hlen
  obtain ⟨ys, hmk⟩ := markHintS_ev (l.map toH) (by simp; omega)
  have heq : Ev (fun k => laws_eqIntS.f k l' l') true := Ev.val (eqIntS_ev l' l' (by omega)) (by simp)
  have hmi := markIntS_ev l' (by omega)
  have hhi := heldIntS_ev l'.length (by omega)
  refine Ev.let_ hlk (Ev.bind ht (Ev.bind hsp (Ev.bind ht (Ev.let_ hlk (Ev.bind hi (Ev.bind heq (Ev.pos rfl ?_)))))))
  refine Ev.step (fun k => by rw [laws_FnExactNeedlessHints.j0]) ?_
  refine Ev.neg (by simp) (Ev.bind ht (Ev.bind (eqHintS_ev _ (by simp; omega)) (Ev.pos rfl (Ev.bind hmk (Ev.neg (by simp only []; omega) (Ev.bind heq (Ev.pos rfl ?_)))))))
  refine Ev.step (fun k => by rw [laws_FnExactNeedlessHints.j1]) ?_
  refine Ev.neg (by simp) (Ev.bind hmi (Ev.bind hhi (Ev.neg (by omega) (Ev.pos rfl (Ev.let_ hlk (Ev.bind ht (Ev.bind hi (Ev.bind heq (Ev.pos rfl ?_)))))))))
  refine Ev.step (fun k => by rw [laws_FnExactNeedlessHints.j2]) ?_
  exact Ev.neg (by simp) (Ev.bind hhi (Ev.neg (by omega) (Ev.pos rfl (Ev.now _))))
end Go.Proofs.Ythikcnbjfnkglaa.Pure
