import Derived.Test.YtcpnmiempaofdaaGreatHintO
namespace Go.Proofs.YtcpnmiempaofdaaGreat.Pure
open Go.RowKit Go.Proofs.YtcpnmiempaofdaaGreat.G Go.Proofs.YtcpnmiempaofdaaGreatW.PrintWords Go.Proofs.YtcpnmiempaofdaaGreatW.PrintLast Go.Proofs.YtcpnmiempaofdaaGreatW.PrintMore
set_option linter.unusedVariables false
theorem divmod_of (N a b q : Nat) (hb : b < N) (h : a * N + b = q) : a = q / N ∧ b = q % N := by
 subst h
 constructor
 ·rw [Nat.mul_comm, Nat.mul_add_div (by omega), Nat.div_eq_of_lt hb, Nat.add_zero]
 ·rw [Nat.mul_comm, Nat.mul_add_mod, Nat.mod_eq_of_lt hb]
theorem ixW_iff (w : Nat) (hw : w ≤ 6) (g s : ByteArray) (hg : digsB g ∧ g.size = w) (q : Nat) : ixW w g s = q ↔ (hintV g s).1 = ((q / (w + 1) : Nat) : Int) ∧ (hintV g s).2 = ((q % (w + 1) : Nat) : Int) := by
 have hb := hint_bd g s hg.1
 rw [hg.2] at hb
 obtain ⟨a, ha⟩ := Int.eq_ofNat_of_zero_le hb.1
 obtain ⟨b, hb2⟩ := Int.eq_ofNat_of_zero_le hb.2.1
 have e : ixW w g s = a * (w + 1) + b := by
  unfold ixW
  rw [ha, hb2]
  have : ((a : Int) * ((w : Int) + 1) + (b : Int)) = ((a * (w + 1) + b : Nat) : Int) := by simp
  rw [this, Int.toNat_natCast]
 rw [e, ha, hb2]
 constructor
 ·intro h
  have := divmod_of (w + 1) a b q (by omega) h
  exact ⟨by rw [this.1], by rw [this.2]⟩
 ·rintro ⟨h1, h2⟩
  have h1' := Int.ofNat_inj.mp h1
  have h2' := Int.ofNat_inj.mp h2
  rw [h1', h2', Nat.mul_comm]
  exact Nat.div_add_mod q (w + 1)
end Go.Proofs.YtcpnmiempaofdaaGreat.Pure
