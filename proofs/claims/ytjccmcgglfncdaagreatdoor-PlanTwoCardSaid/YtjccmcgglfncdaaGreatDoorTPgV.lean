/- What is proved: PlanTwo, for every input; of the listed tables the walk needs the powers of ten. -/
import Derived.Test.YtjccmcgglfncdaaGreatDoorTGrE2
import Derived.ChangeKeysEq
set_option linter.unusedVariables false
set_option linter.unusedSimpArgs false
namespace Go.Proofs.YtjccmcgglfncdaaGreatDoor
open Go Go.RowKit
variable{b be bv:Nat}{w:World}
theorem guardVec:Tryz.prog.eqGuardType Tryz.prog.depth 54=false:=by kernel_rfl
theorem plainU16:Tryz.prog.plainKey 23=true:=by kernel_rfl
theorem infoU16:(Tryz.prog.info? 23).isSome=true:=by kernel_rfl
theorem cellsU16:Tryz.prog.cellsOf 23=1:=by kernel_rfl
theorem items_self(d:Nat)(xs:Array Value)(w:World):∀ is:List Nat,(∀ i∈is,∃ z,xs[i]? = some (.int .u16 z))→(Op.eqItems (d+1) 23 1 xs xs is).run Tryz.prog w=.ok true w
 | [],_=>by simp [Op.eqItems]
 | i :: is,h=>by
  obtain⟨z,hz⟩:=h i (List.mem_cons_self ..);have hp:(part 23 xs (i*1)).run Tryz.prog w=.ok (.int .u16 z) w:=run_part_plain w plainU16 (by rw [Nat.mul_one];exact hz);have he:(Op.equalIn (d+1) 23 (.int .u16 z) (.int .u16 z)).run Tryz.prog w=.ok true w:=by rw [run_equalIn_int w d 23 .u16 .u16 z z Tryz.underlying23];simp
  have ih:=items_self d xs w is fun j hj=>h j (List.mem_cons_of_mem _ hj);simp only [Op.eqItems,Sem.run_bind,hp,he,Result.andThen_ok];simpa using ih
theorem vecL_int(f:VecM){i:Nat}(hi:i<64):∃ z,(vecL f).toArray[i]? = some (.int .u16 z):=by refine⟨((f (UInt8.ofNat (i+1)):Nat):Int),?_⟩;rw [List.getElem?_toArray];unfold vecL;rw [List.getElem?_map,List.getElem?_range hi];rfl
theorem equal_vec(f:VecM)(w:World):(Op.equalIn 10000 54 (vecV f) (vecV f)).run Tryz.prog w=.ok true w:=by obtain⟨i16,hi16⟩:=Option.isSome_iff_exists.1 infoU16;have h:=run_equalIn_array (P:=Tryz.prog) w 9999 (t:=54) (e:=23) (n:=64) (vecL f).toArray (vecL f).toArray Tryz.underlying54 hi16;rw [show(9999+1:Nat)=10000 from rfl,cellsU16] at h;refine h.trans (items_self 9998 _ w _ fun i hi=>vecL_int f (List.mem_range.1 hi))
theorem guard_vec(op:BinOp)(p q:Operand)(xs ys:Array Value)(w:World):(eqGuard op 54 p q (.agg xs) (.agg ys)).run Tryz.prog w=.ok () w:=run_eqGuard_agg w op _ p q xs ys guardVec
def BexT(w:World)(b bv be:Nat):Type:={w':World // Bex b bv be w w'}
theorem bex_refl(w:World)(b bv be:Nat):Bex b bv be w w:=bex_of (Below.refl _ _)
instance (w:World) (b bv be:Nat):Nonempty (BexT w b bv be):=⟨⟨w,bex_refl _ _ _ _⟩⟩
def IsBex(w:World)(b bv be:Nat):World→Prop:=fun w'=>∃ x:BexT w b bv be,w'=x.1
@[go_sem] theorem isBex_all   {p:World→Prop}:(∀ w',IsBex w b bv be w'→p w')↔∀ x:BexT w b bv be,p x.1:=⟨fun h x=>h _ ⟨x,rfl⟩,fun h w' ⟨x,hx⟩=>hx▸h x⟩
@[simp,go_sem] theorem bexT_cell   (x:BexT w b bv be) {a:Addr} (h:a.block<w.heap.size) (n1:¬ a.block=b) (n2:¬ a.block=bv) (n3:¬ a.block=be):World.cell? x.1 a=w.cell? a:=x.2.cell h n1 n2 n3
@[simp,go_sem] theorem bexT_frozen   (x:BexT w b bv be) {a:Addr} (h:a.block<w.heap.size) (n1:¬ a.block=b) (n2:¬ a.block=bv) (n3:¬ a.block=be):World.frozen? x.1 a=w.frozen? a:=by have:=x.2.block _ h n1 n2 n3;unfold World.frozen?;rw [this]
end Go.Proofs.YtjccmcgglfncdaaGreatDoor
