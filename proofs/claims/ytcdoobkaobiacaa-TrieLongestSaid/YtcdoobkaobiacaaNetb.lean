/- The contracts of net.Of and net.Join. -/
import Derived.Test.YtcdoobkaobiacaaNet
import Derived.Test.YtcdoobkaobiacaaKitb
import Derived.Test.YtcdoobkaobiacaaFB
import Derived.Test.YtcdoobkaobiacaaMathNet
namespace Go.Proofs.Ytcdoobkaobiacaa
open Go.RowKit
set_option linter.unusedVariables false
set_option linter.unusedSimpArgs false

set_option maxHeartbeats 400000 in
theorem of_any (x k : Nat) (n : Int) (w : World) (e : n = (k : Int)) (hx : x < 4294967296) (hk : k ≤ 32) :
    Calls Try.prog 40 #[.int .u32 (x : Int), .int .i64 n] w fun e w' => e = .returned (.tuple #[netV (pcut x k) k, .int .i64 0]) ∧ Below w.heap.size w w' := by
  subst e
  have hb : bits .and .u32 (x : Int) ((pmask k : Nat) : Int) = ((pcut x k : Nat) : Int) := by
    rw [u32_and_nat x (pmask k) hx (pmask_lt k), and_pmask x k hx hk]
  go_enter Try.func40, Try.ntmps40
  go_wp2_with (go_at_call 20; (with_reducible refine (mask_any k _ _ rfl hk).mono ?_); rintro e w1 ⟨rfl, rfl⟩)
  refine bodyPost_ret (v := .tuple #[netV (pcut x k) k, .int .i64 0]) (by simp [results, Try.results40, go_sem]) rfl ⟨rfl, ?_⟩
  exact (((Below.refl _ _).alloc (Nat.le_refl _) _))
end Go.Proofs.Ytcdoobkaobiacaa
