/- Conversions between whole numbers, as a drawn region meets them; condition: the number fits. -/
import Derived.Test.YtbfjebglaimcmaaCore
import Derived.IntWalk
namespace Go.Proofs.Ytbfjebglaimcmaa
open Go.RowKit Go.Hav
theorem conv_any {src dst : TypeId} {k k' : IntKind} (hs : (Try.prog.underlying src).isSome = true) (hd : (Try.prog.underlying dst) = some (.int k')) (hk : Try.prog.intKind dst = k') {a : Act} {o : Oper} {x : Operand} {n : Int} (ho : o.op = .convert src dst x) (hx : a.eval x = .int k n) (hw : k'.wrap n = n) (w : World) :
    (execOp a.eval o).run Try.prog w = .ok (.value (.int k' n)) w := by
  have hd' : Try.prog.underlying dst = some (.int (Try.prog.intKind dst)) := by rw [hk]; exact hd
  have h := run_convert_int (P := Try.prog) w src dst k n hs hd'
  rw [hk, hw] at h
  unfold execOp
  rw [ho]
  simp only [hx]
  show Sem.run Try.prog (do pure (Next.value (← convert src dst (.int k n)))) w = _
  simp [go_sem, h]
theorem conv_raw {src dst : TypeId} {k k' : IntKind} (hs : (Try.prog.underlying src).isSome = true) (hd : (Try.prog.underlying dst) = some (.int k')) (hk : Try.prog.intKind dst = k') {a : Act} {o : Oper} {x : Operand} {n : Int} (ho : o.op = .convert src dst x) (hx : a.eval x = .int k n) (w : World) :
    (execOp a.eval o).run Try.prog w = .ok (.value (.int k' (k'.wrap n))) w := by
  have hd' : Try.prog.underlying dst = some (.int (Try.prog.intKind dst)) := by rw [hk]; exact hd
  have h := run_convert_int (P := Try.prog) w src dst k n hs hd'
  rw [hk] at h
  unfold execOp
  rw [ho]
  simp only [hx]
  show Sem.run Try.prog (do pure (Next.value (← convert src dst (.int k n)))) w = _
  simp [go_sem, h]
/-- int to uint, whatever the number. -/
theorem convW {a : Act} {o : Oper} {x : Operand} {n : Int} (ho : o.op = .convert 3 93 x) (hx : a.eval x = .int .i64 n) (w : World) : (execOp a.eval o).run Try.prog w = .ok (.value (.int .u64 (IntKind.u64.wrap n))) w :=
  conv_raw (by kernel_rfl) Try.underlying93 (by kernel_rfl) ho hx w
theorem wrap_u64 {n : Int} (h0 : 0 ≤ n) (h1 : n ≤ 4611686018427387904) : IntKind.u64.wrap n = n := by rw [IntKind.wrap_u64]; omega
theorem wrap_i64 {n : Int} (h0 : -4611686018427387904 ≤ n) (h1 : n ≤ 4611686018427387904) : IntKind.i64.wrap n = n := IntWalk.i64_in n (by omega)
/-- int to uint. -/
theorem convU {a : Act} {o : Oper} {x : Operand} {n : Int} (ho : o.op = .convert 3 93 x) (hx : a.eval x = .int .i64 n) (h0 : 0 ≤ n) (h1 : n ≤ 4611686018427387904) (w : World) : (execOp a.eval o).run Try.prog w = .ok (.value (.int .u64 n)) w :=
  conv_any (by kernel_rfl) Try.underlying93 (by kernel_rfl) ho hx (wrap_u64 h0 h1) w
/-- uint to int. -/
theorem convS {a : Act} {o : Oper} {x : Operand} {n : Int} (ho : o.op = .convert 93 3 x) (hx : a.eval x = .int .u64 n) (h0 : 0 ≤ n) (h1 : n ≤ 4611686018427387904) (w : World) : (execOp a.eval o).run Try.prog w = .ok (.value (.int .i64 n)) w :=
  conv_any (by kernel_rfl) Try.underlying3 (by kernel_rfl) ho hx (wrap_i64 (by omega) h1) w
/-- uint16 to int. -/
theorem conv16 {a : Act} {o : Oper} {x : Operand} {n : Int} (ho : o.op = .convert 46 3 x) (hx : a.eval x = .int .u16 n) (h0 : 0 ≤ n) (h1 : n ≤ 4611686018427387904) (w : World) : (execOp a.eval o).run Try.prog w = .ok (.value (.int .i64 n)) w :=
  conv_any (by kernel_rfl) Try.underlying3 (by kernel_rfl) ho hx (wrap_i64 (by omega) h1) w
/-- uint8 to int. -/
theorem conv8 {a : Act} {o : Oper} {x : Operand} {n : Int} (ho : o.op = .convert 5 3 x) (hx : a.eval x = .int .u8 n) (h0 : 0 ≤ n) (h1 : n ≤ 4611686018427387904) (w : World) : (execOp a.eval o).run Try.prog w = .ok (.value (.int .i64 n)) w :=
  conv_any (by kernel_rfl) Try.underlying3 (by kernel_rfl) ho hx (wrap_i64 (by omega) h1) w
end Go.Proofs.Ytbfjebglaimcmaa
