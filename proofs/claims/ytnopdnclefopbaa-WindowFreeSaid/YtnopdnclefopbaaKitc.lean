/- The builtin min of a number and a constant, its outcome under a name. -/
import Derived.Test.YtnopdnclefopbaaRows
import Derived.Test.YtnopdnclefopbaaKit
namespace Go.Proofs.Ytnopdnclefopbaa
open Go.RowKit
set_option linter.unusedVariables false

theorem wpList_min {ops : Array Oper} {rest : List Oper} {o : Oper} {a : Act} {Q : Exit → Act → World → Prop} {w : World} (hgd : o.guard = none) (s : Operand) (c : Int)
    (ho : o.op = .call { callee := .builtin .min, args := #[s, .const (.int .i64 c)], argTypes := #[3, 3] }) (x n : Int) (hs : a.eval s = .int .i64 x) (hn : min x c = n)
    (h : wpList Try.prog ops Q rest (a.put o.dst (.int .i64 n)) w) : wpList Try.prog ops Q (o :: rest) a w := by
  refine wpList_plain hgd fun K hK => ?_
  have hK := hK _ _ h
  have he : a.eval (.const (.int .i64 c)) = .int .i64 c := rfl
  unfold Oper.wp execOp
  simp only [ho, resolve, invoke, builtin, Sem.run_bind, Sem.run_pure, Result.andThen_ok, List.map_toArray, List.map_cons, List.map_nil, hs, he]
  have e : (if c < x then c else x) = n := by split <;> omega
  have hr : Sem.run Try.prog (Builtin.min_ #[3, 3] o.type #[.int .i64 x, .int .i64 c]) w = .ok (.int .i64 n) w := by
    rw [← e]; rfl
  rw [hr]
  simpa [Oper.upon] using hK
end Go.Proofs.Ytnopdnclefopbaa
