/- Cheap looks ahead of a dear step of a walk. -/
import Derived.Test.YtgbphkckiekehaaDoorWWords
import Derived.Test.YtgbphkckiekehaaDoorWLast
import Derived.Test.YtgbphkckiekehaaDoorWTab
import Derived.Test.YtgbphkckiekehaaDoorWEqStruct
import Derived.Test.YtgbphkckiekehaaDoorWRepsOne
namespace Go.Proofs.YtgbphkckiekehaaDoorW.PrintWords
open Go.RowKit
theorem gate_callee {P : Program} {ops : Array Oper} {rest : List Oper} {o : Oper} {a : Act} {Q : Exit → Act → World → Prop} {W : World} {f : FuncId} {as : Array Operand} {ts : Array TypeId} (_ho : o.op = .call { callee := .value (.func f), args := as, argTypes := ts }) (h : wpList P ops Q (o :: rest) a W) : wpList P ops Q (o :: rest) a W := h
theorem gate_builtin {P : Program} {ops : Array Oper} {rest : List Oper} {o : Oper} {a : Act} {Q : Exit → Act → World → Prop} {W : World} {b : Builtin} {xs : Array Operand} {ts : Array TypeId} (_ho : o.op = .call { callee := .builtin b, args := xs, argTypes := ts }) (h : wpList P ops Q (o :: rest) a W) : wpList P ops Q (o :: rest) a W := h
end Go.Proofs.YtgbphkckiekehaaDoorW.PrintWords
