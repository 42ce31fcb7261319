/- '==' at blame.Line. -/
import Derived.Test.YtanfebljiblhbaaGreatDoorHBlmD
set_option linter.unusedVariables false
set_option linter.unusedSimpArgs false
namespace Go.Proofs.YtanfebljiblhbaaGreatDoor
open Go Go.RowKit

theorem stoodLine:Tryz.prog.stoodInHeld 42=false:=by kernel_rfl
theorem guardLine:Tryz.prog.eqGuardType Tryz.prog.depth 42=false:=by kernel_rfl
set_option maxHeartbeats 4000000 in
theorem equal_line(d:Nat)(x y:TLine)(w:World):(Op.equalIn (d+6) 42 (tlV x) (tlV y)).run Tryz.prog w=.ok (decide (x=y)) w:=by
 have hf:=Tryz.underlying42
 have hff:=fields_of hf
 unfold tlV
 rw [run_equalIn_struct (d:=d+5) w 42 _ _ (by rw [hff];exact hf) stoodLine,hff]
 have i6:=Tryz.underlying9
 have hp:∀(u v:VidM) w,(Op.equalIn (d+5) 27 (.agg #[.int .u8 u.pid.author.toNat,.int .u16 u.pid.seq.toNat,.int .u8 u.n.toNat]) (.agg #[.int .u8 v.pid.author.toNat,.int .u16 v.pid.seq.toNat,.int .u8 v.n.toNat])).run Tryz.prog w=.ok (decide (u=v)) w:=fun u v w=>equal_vid (d+1) u v w
 have z1:=Tryz.sizeOf27
 have z3:=Tryz.isAgg27
 have z5:=Tryz.sizeOf9
 have z6:=Tryz.isAgg9
 simp [go_sem,i6,z1,z3,z5,z6,hp,ba_list]
 obtain⟨a,b⟩:=x
 obtain⟨a',b'⟩:=y
 by_cases e1:a=a' <;> by_cases e2:b=b' <;> simp [e1,e2]
theorem eql_line(x y:TLine)(b:Bool)(h:decide (x=y)=b)(w:World):(binOp .eql 42 (tlV x) (tlV y)).run Tryz.prog w=.ok (.bool b) w:=by
 unfold tlV
 rw [run_eql_struct,show(10000:Nat)=9994+6 from rfl,equal_line 9994 x y,← h];rfl
theorem neq_line(x y:TLine)(b:Bool)(h:(!decide (x=y))=b)(w:World):(binOp .neq 42 (tlV x) (tlV y)).run Tryz.prog w=.ok (.bool b) w:=by
 unfold tlV
 rw [run_neq_struct,show(10000:Nat)=9994+6 from rfl,equal_line 9994 x y,← h];rfl
theorem guard_line(op:BinOp)(p q:Operand)(xs ys:Array Value)(w:World):(eqGuard op 42 p q (.agg xs) (.agg ys)).run Tryz.prog w=.ok () w:=run_eqGuard_agg w op _ p q xs ys guardLine
end Go.Proofs.YtanfebljiblhbaaGreatDoor
