/- '==' at names, operations, vertices, steps. Contracts of pid.Cmp, Good, vid.Cmp, Good, patch.Vid, op.Makes; of the references' sign, Cmp, Good, Vid, Makes. Contracts of the references' sign, Cmp; of Makes, Vid, Refs on both sides. Contracts of Makes, Vid, Refs on both sides. -/
import Derived.Test.YtllcipobiengiaaGreatYPid
import Derived.Laws.StructEq
set_option linter.unusedVariables false
set_option linter.unusedSimpArgs false
namespace Go.Proofs.YtllcipobiengiaaGreat
open Go Go.RowKit

theorem fields_of{P:Program}{t:TypeId}{fs:Array Field}(h:P.underlying t=some (.struct fs)):P.fieldsOf t=fs:=by unfold Program.fieldsOf;rw [h]
theorem u8_int(a b:UInt8):((a.toNat:Int)=(b.toNat:Int))=(a=b):=by
 rw [eq_iff_iff]
 exact⟨fun h=>UInt8.toNat_inj.1 (by omega),fun h=>by rw [h]⟩
theorem u16_int(a b:UInt16):((a.toNat:Int)=(b.toNat:Int))=(a=b):=by
 rw [eq_iff_iff]
 exact⟨fun h=>UInt16.toNat_inj.1 (by omega),fun h=>by rw [h]⟩
theorem stoodPid:Tryz.prog.stoodInHeld 26=false:=by kernel_rfl
theorem guardPid:Tryz.prog.eqGuardType Tryz.prog.depth 26=false:=by kernel_rfl
theorem stoodVid:Tryz.prog.stoodInHeld 40=false:=by kernel_rfl
theorem guardVid:Tryz.prog.eqGuardType Tryz.prog.depth 40=false:=by kernel_rfl
set_option maxHeartbeats 1000000 in
theorem equal_pid(d:Nat)(x y:PidM)(w:World):(Op.equalIn (d+2) 26 (pidV x) (pidV y)).run Tryz.prog w=.ok (decide (x=y)) w:=by
 have hf:=Tryz.underlying26
 have hff:=fields_of hf
 unfold pidV
 rw [run_equalIn_struct (d:=d+1) w 26 _ _ (by rw [hff];exact hf) stoodPid,hff]
 have i5:=Tryz.underlying5
 have i9:=Tryz.underlying24
 simp only [go_sem,i5,i9]
 obtain⟨a,b⟩:=x
 obtain⟨a',b'⟩:=y
 simp [go_sem,i5,i9,u8_int,u16_int]
 by_cases e1:a=a' <;> by_cases e2:b=b' <;> simp [e1,e2]
theorem eql_pid(x y:PidM)(b:Bool)(h:decide (x=y)=b)(w:World):(binOp .eql 26 (pidV x) (pidV y)).run Tryz.prog w=.ok (.bool b) w:=by
 unfold pidV
 rw [run_eql_struct,show(10000:Nat)=9998+2 from rfl,equal_pid 9998 x y,← h];rfl
theorem neq_pid(x y:PidM)(b:Bool)(h:(!decide (x=y))=b)(w:World):(binOp .neq 26 (pidV x) (pidV y)).run Tryz.prog w=.ok (.bool b) w:=by
 unfold pidV
 rw [run_neq_struct,show(10000:Nat)=9998+2 from rfl,equal_pid 9998 x y,← h];rfl
theorem guard_pid(op:BinOp)(p q:Operand)(xs ys:Array Value)(w:World):(eqGuard op 26 p q (.agg xs) (.agg ys)).run Tryz.prog w=.ok () w:=run_eqGuard_agg w op _ p q xs ys guardPid
set_option maxHeartbeats 2000000 in
theorem equal_vid(d:Nat)(x y:VidM)(w:World):(Op.equalIn (d+4) 40 (vidV x) (vidV y)).run Tryz.prog w=.ok (decide (x=y)) w:=by
 have hf:=Tryz.underlying40
 have hff:=fields_of hf
 unfold vidV
 rw [run_equalIn_struct (d:=d+3) w 40 _ _ (by rw [hff];exact hf) stoodVid,hff]
 have i5:=Tryz.underlying5
 have hp:∀ w,(Op.equalIn (d+3) 26 (.agg #[.int .u8 x.pid.author.toNat,.int .u16 x.pid.seq.toNat]) (.agg #[.int .u8 y.pid.author.toNat,.int .u16 y.pid.seq.toNat])).run Tryz.prog w=.ok (decide (x.pid=y.pid)) w:=fun w=>equal_pid (d+1) x.pid y.pid w
 have z1:=Tryz.sizeOf26
 have z2:=Tryz.sizeOf5
 have z3:=Tryz.isAgg26
 have z4:=Tryz.isAgg5
 simp [go_sem,i5,z1,z2,z3,z4,hp,u8_int]
 obtain⟨a,b⟩:=x
 obtain⟨a',b'⟩:=y
 by_cases e1:a=a' <;> by_cases e2:b=b' <;> simp [e1,e2]
theorem eql_vid(x y:VidM)(b:Bool)(h:decide (x=y)=b)(w:World):(binOp .eql 40 (vidV x) (vidV y)).run Tryz.prog w=.ok (.bool b) w:=by
 unfold vidV
 rw [run_eql_struct,show(10000:Nat)=9996+4 from rfl,equal_vid 9996 x y,← h];rfl
theorem neq_vid(x y:VidM)(b:Bool)(h:(!decide (x=y))=b)(w:World):(binOp .neq 40 (vidV x) (vidV y)).run Tryz.prog w=.ok (.bool b) w:=by
 unfold vidV
 rw [run_neq_struct,show(10000:Nat)=9996+4 from rfl,equal_vid 9996 x y,← h];rfl
theorem guard_vid(op:BinOp)(p q:Operand)(xs ys:Array Value)(w:World):(eqGuard op 40 p q (.agg xs) (.agg ys)).run Tryz.prog w=.ok () w:=run_eqGuard_agg w op _ p q xs ys guardVid

def encOp(o:OpM):List Value:=.int .u8 o.kind.toNat :: (encVid o.at'++(encVid o.to++[.string o.text]))
abbrev opV(o:OpM):Value:=.agg #[.int .u8 o.kind.toNat,.int .u8 o.at'.pid.author.toNat,.int .u16 o.at'.pid.seq.toNat,.int .u8 o.at'.n.toNat,
 .int .u8 o.to.pid.author.toNat,.int .u16 o.to.pid.seq.toNat,.int .u8 o.to.n.toNat,.string o.text]
def encVert(v:VertM):List Value:=encVid v.id++(.int .u8 v.kind.toNat :: (encVid v.file++[.string v.text,.bool v.dead]))
abbrev vertV(v:VertM):Value:=.agg #[.int .u8 v.id.pid.author.toNat,.int .u16 v.id.pid.seq.toNat,.int .u8 v.id.n.toNat,.int .u8 v.kind.toNat,
 .int .u8 v.file.pid.author.toNat,.int .u16 v.file.pid.seq.toNat,.int .u8 v.file.n.toNat,.string v.text,.bool v.dead]
theorem stoodOp:Tryz.prog.stoodInHeld 58=false:=by kernel_rfl
theorem guardOp:Tryz.prog.eqGuardType Tryz.prog.depth 58=false:=by kernel_rfl
set_option maxHeartbeats 4000000 in
theorem equal_op(d:Nat)(x y:OpM)(w:World):(Op.equalIn (d+6) 58 (opV x) (opV y)).run Tryz.prog w=.ok (decide (x=y)) w:=by
 have hf:=Tryz.underlying58
 have hff:=fields_of hf
 unfold opV
 rw [run_equalIn_struct (d:=d+5) w 58 _ _ (by rw [hff];exact hf) stoodOp,hff]
 have i5:=Tryz.underlying5
 have i6:=Tryz.underlying9
 have hp:∀(u v:VidM) w,(Op.equalIn (d+5) 40 (.agg #[.int .u8 u.pid.author.toNat,.int .u16 u.pid.seq.toNat,.int .u8 u.n.toNat]) (.agg #[.int .u8 v.pid.author.toNat,.int .u16 v.pid.seq.toNat,.int .u8 v.n.toNat])).run Tryz.prog w=.ok (decide (u=v)) w:=fun u v w=>equal_vid (d+1) u v w
 have z1:=Tryz.sizeOf40
 have z2:=Tryz.sizeOf5
 have z3:=Tryz.isAgg40
 have z4:=Tryz.isAgg5
 have z5:=Tryz.sizeOf9
 have z6:=Tryz.isAgg9
 simp [go_sem,i5,i6,z1,z2,z3,z4,z5,z6,hp,u8_int,ba_list]
 obtain⟨a,b,c,e⟩:=x
 obtain⟨a',b',c',e'⟩:=y
 by_cases e1:a=a' <;> by_cases e2:b=b' <;> by_cases e3:c=c' <;> by_cases e4:e=e' <;> simp [e1,e2,e3,e4]
theorem eql_op(x y:OpM)(b:Bool)(h:decide (x=y)=b)(w:World):(binOp .eql 58 (opV x) (opV y)).run Tryz.prog w=.ok (.bool b) w:=by
 unfold opV
 rw [run_eql_struct,show(10000:Nat)=9994+6 from rfl,equal_op 9994 x y,← h];rfl
theorem guard_op(op:BinOp)(p q:Operand)(xs ys:Array Value)(w:World):(eqGuard op 58 p q (.agg xs) (.agg ys)).run Tryz.prog w=.ok () w:=run_eqGuard_agg w op _ p q xs ys guardOp

end Go.Proofs.YtllcipobiengiaaGreat
namespace Go.Proofs.YtllcipobiengiaaGreat
open Go Go.RowKit

attribute [local irreducible] packPid packVid cmpN
set_option maxHeartbeats 1000000 in
set_option maxRecDepth 100000 in
theorem pgoodPid_any(p:PidM)(w:World):Calls Tryz.prog 110 #[pidV p] w fun e w'=>e=.returned (.bool (goodPid p))∧Below w.heap.size w w':=by
 have HB:=Lh (bnew (w:=w) (.cells #[.int .u8 p.author.toNat,.int .u16 p.seq.toNat] 26))
 have HG:Hid (goodPid p=(decide (1≤p.author.toNat) && (decide (p.author.toNat≤64) && (decide (1≤p.seq.toNat) && decide (p.seq.toNat≤60000))))):=rfl
 unfold pidV
 by_cases h1:1≤p.author.toNat
 ·
  have e1:decide ((1:Int)≤(p.author.toNat:Int))=true:=by simp;omega
  by_cases h2:p.author.toNat≤64
  ·
   have e2:decide ((p.author.toNat:Int)≤64)=true:=by simp;omega
   by_cases h3:1≤p.seq.toNat
   ·
    have e3:decide ((1:Int)≤(p.seq.toNat:Int))=true:=by simp;omega
    by_cases h4:p.seq.toNat≤60000
    ·
     have e4:decide ((p.seq.toNat:Int)≤60000)=true:=by simp;omega
     have HV:Hid (goodPid p=true):=by show _=_;rw [HG.out];simp [h1,h2,h3,h4]
     go_enter Tryz.func110,Tryz.ntmps110
     go_wp2_with fail
     go_ret
     exact⟨rvl (congrArg Value.bool HV.out.symm),HB.out⟩
    ·
     have e4:decide ((p.seq.toNat:Int)≤60000)=false:=by simp;omega
     have HV:Hid (goodPid p=false):=by show _=_;rw [HG.out];simp [h1,h2,h3];omega
     go_enter Tryz.func110,Tryz.ntmps110
     go_wp2_with fail
     go_ret
     exact⟨rvl (congrArg Value.bool HV.out.symm),HB.out⟩
   ·
    have e3:decide ((1:Int)≤(p.seq.toNat:Int))=false:=by simp;omega
    have HV:Hid (goodPid p=false):=by show _=_;rw [HG.out];simp [h1,h2];omega
    go_enter Tryz.func110,Tryz.ntmps110
    go_wp2_with fail
    go_ret
    exact⟨rvl (congrArg Value.bool HV.out.symm),HB.out⟩
  ·
   have e2:decide ((p.author.toNat:Int)≤64)=false:=by simp;omega
   have HV:Hid (goodPid p=false):=by show _=_;rw [HG.out];simp [h1];omega
   go_enter Tryz.func110,Tryz.ntmps110
   go_wp2_with fail
   go_ret
   exact⟨rvl (congrArg Value.bool HV.out.symm),HB.out⟩
 ·
  have e1:decide ((1:Int)≤(p.author.toNat:Int))=false:=by simp;omega
  have HV:Hid (goodPid p=false):=by show _=_;rw [HG.out];simp;omega
  go_enter Tryz.func110,Tryz.ntmps110
  go_wp2_with fail
  go_ret
  exact⟨rvl (congrArg Value.bool HV.out.symm),HB.out⟩

set_option maxHeartbeats 1000000 in
set_option maxRecDepth 100000 in
theorem rgoodPid_any(p:PidM)(w:World):Calls Tryz.prog 165 #[pidV p] w fun e w'=>e=.returned (.bool (goodPid p))∧Below w.heap.size w w':=by
 have HB:=Lh (bnew (w:=w) (.cells #[.int .u8 p.author.toNat,.int .u16 p.seq.toNat] 26))
 have HG:Hid (goodPid p=(decide (1≤p.author.toNat) && (decide (p.author.toNat≤64) && (decide (1≤p.seq.toNat) && decide (p.seq.toNat≤60000))))):=rfl
 unfold pidV
 by_cases h1:1≤p.author.toNat
 ·
  have e1:decide ((1:Int)≤(p.author.toNat:Int))=true:=by simp;omega
  by_cases h2:p.author.toNat≤64
  ·
   have e2:decide ((p.author.toNat:Int)≤64)=true:=by simp;omega
   by_cases h3:1≤p.seq.toNat
   ·
    have e3:decide ((1:Int)≤(p.seq.toNat:Int))=true:=by simp;omega
    by_cases h4:p.seq.toNat≤60000
    ·
     have e4:decide ((p.seq.toNat:Int)≤60000)=true:=by simp;omega
     have HV:Hid (goodPid p=true):=by show _=_;rw [HG.out];simp [h1,h2,h3,h4]
     go_enter Tryz.func165,Tryz.ntmps165
     go_wp2_with fail
     go_ret
     exact⟨rvl (congrArg Value.bool HV.out.symm),HB.out⟩
    ·
     have e4:decide ((p.seq.toNat:Int)≤60000)=false:=by simp;omega
     have HV:Hid (goodPid p=false):=by show _=_;rw [HG.out];simp [h1,h2,h3];omega
     go_enter Tryz.func165,Tryz.ntmps165
     go_wp2_with fail
     go_ret
     exact⟨rvl (congrArg Value.bool HV.out.symm),HB.out⟩
   ·
    have e3:decide ((1:Int)≤(p.seq.toNat:Int))=false:=by simp;omega
    have HV:Hid (goodPid p=false):=by show _=_;rw [HG.out];simp [h1,h2];omega
    go_enter Tryz.func165,Tryz.ntmps165
    go_wp2_with fail
    go_ret
    exact⟨rvl (congrArg Value.bool HV.out.symm),HB.out⟩
  ·
   have e2:decide ((p.author.toNat:Int)≤64)=false:=by simp;omega
   have HV:Hid (goodPid p=false):=by show _=_;rw [HG.out];simp [h1];omega
   go_enter Tryz.func165,Tryz.ntmps165
   go_wp2_with fail
   go_ret
   exact⟨rvl (congrArg Value.bool HV.out.symm),HB.out⟩
 ·
  have e1:decide ((1:Int)≤(p.author.toNat:Int))=false:=by simp;omega
  have HV:Hid (goodPid p=false):=by show _=_;rw [HG.out];simp;omega
  go_enter Tryz.func165,Tryz.ntmps165
  go_wp2_with fail
  go_ret
  exact⟨rvl (congrArg Value.bool HV.out.symm),HB.out⟩

set_option maxHeartbeats 1000000 in
set_option maxRecDepth 100000 in
theorem pgoodVid_any(v:VidM)(w:World):Calls Tryz.prog 152 #[vidV v] w fun e w'=>e=.returned (.bool (goodVid v))∧Below w.heap.size w w':=by
 have HB:=Lh (bnew (w:=w) (.cells #[.int .u8 v.pid.author.toNat,.int .u16 v.pid.seq.toNat,.int .u8 v.n.toNat] 40))
 have HA:=Lh (arrT_new w [.int .u8 v.pid.author.toNat,.int .u16 v.pid.seq.toNat,.int .u8 v.n.toNat] 40)
 have HG:Hid (goodVid v=(goodPid v.pid && decide (v.n.toNat<200))):=rfl
 unfold vidV
 cases hg:goodPid v.pid with
 | false =>
  have HV:Hid (goodVid v=false):=by show _=_;rw [HG.out,hg];rfl
  go_enter Tryz.func152,Tryz.ntmps152
  go_wp2_with fail
  generalize hw0:w.alloc (.cells #[.int .u8 v.pid.author.toNat,.int .u16 v.pid.seq.toNat,.int .u8 v.n.toNat] 40)=w0 at *
  have c0:=HA.out.arr.k 0 rfl
  have c1:=HA.out.arr.k 1 rfl
  have c2:=HA.out.arr.k 2 rfl
  have sA:=HA.out.arr.lt
  refine(pgoodPid_any v.pid _).mono ?_
  rintro e w1 ⟨rfl,hb1⟩
  have HA1:=Lh (HA.out.over hb1)
  have k0:=HA1.out.arr.k 0 rfl
  have k1:=HA1.out.arr.k 1 rfl
  have k2:=HA1.out.arr.k 2 rfl
  have sA1:=HA1.out.arr.lt
  clear hw0 c0 c1 c2 sA
  go_wp2_with fail
  go_ret
  exact⟨rvl (congrArg Value.bool HV.out.symm),bov HB.out HB.out.size hb1⟩
 | true =>
  have e1:decide ((v.n.toNat:Int)<200)=decide (v.n.toNat<200):=decide_eq_decide.2 (by omega)
  have HV:Hid (goodVid v=decide (v.n.toNat<200)):=by show _=_;rw [HG.out,hg];rfl
  go_enter Tryz.func152,Tryz.ntmps152
  go_wp2_with fail
  generalize hw0:w.alloc (.cells #[.int .u8 v.pid.author.toNat,.int .u16 v.pid.seq.toNat,.int .u8 v.n.toNat] 40)=w0 at *
  have c0:=HA.out.arr.k 0 rfl
  have c1:=HA.out.arr.k 1 rfl
  have c2:=HA.out.arr.k 2 rfl
  have sA:=HA.out.arr.lt
  refine(pgoodPid_any v.pid _).mono ?_
  rintro e w1 ⟨rfl,hb1⟩
  have HA1:=Lh (HA.out.over hb1)
  have k0:=HA1.out.arr.k 0 rfl
  have k1:=HA1.out.arr.k 1 rfl
  have k2:=HA1.out.arr.k 2 rfl
  have sA1:=HA1.out.arr.lt
  clear hw0 c0 c1 c2 sA
  go_wp2_with fail
  go_ret
  exact⟨rvl (congrArg Value.bool HV.out.symm),bov HB.out HB.out.size hb1⟩

set_option maxHeartbeats 1000000 in
set_option maxRecDepth 100000 in
theorem rgoodVid_any(v:VidM)(w:World):Calls Tryz.prog 225 #[vidV v] w fun e w'=>e=.returned (.bool (goodVid v))∧Below w.heap.size w w':=by
 have HB:=Lh (bnew (w:=w) (.cells #[.int .u8 v.pid.author.toNat,.int .u16 v.pid.seq.toNat,.int .u8 v.n.toNat] 40))
 have HA:=Lh (arrT_new w [.int .u8 v.pid.author.toNat,.int .u16 v.pid.seq.toNat,.int .u8 v.n.toNat] 40)
 have HG:Hid (goodVid v=(goodPid v.pid && decide (v.n.toNat<200))):=rfl
 unfold vidV
 cases hg:goodPid v.pid with
 | false =>
  have HV:Hid (goodVid v=false):=by show _=_;rw [HG.out,hg];rfl
  go_enter Tryz.func225,Tryz.ntmps225
  go_wp2_with fail
  generalize hw0:w.alloc (.cells #[.int .u8 v.pid.author.toNat,.int .u16 v.pid.seq.toNat,.int .u8 v.n.toNat] 40)=w0 at *
  have c0:=HA.out.arr.k 0 rfl
  have c1:=HA.out.arr.k 1 rfl
  have c2:=HA.out.arr.k 2 rfl
  have sA:=HA.out.arr.lt
  refine(rgoodPid_any v.pid _).mono ?_
  rintro e w1 ⟨rfl,hb1⟩
  have HA1:=Lh (HA.out.over hb1)
  have k0:=HA1.out.arr.k 0 rfl
  have k1:=HA1.out.arr.k 1 rfl
  have k2:=HA1.out.arr.k 2 rfl
  have sA1:=HA1.out.arr.lt
  clear hw0 c0 c1 c2 sA
  go_wp2_with fail
  go_ret
  exact⟨rvl (congrArg Value.bool HV.out.symm),bov HB.out HB.out.size hb1⟩
 | true =>
  have e1:decide ((v.n.toNat:Int)<200)=decide (v.n.toNat<200):=decide_eq_decide.2 (by omega)
  have HV:Hid (goodVid v=decide (v.n.toNat<200)):=by show _=_;rw [HG.out,hg];rfl
  go_enter Tryz.func225,Tryz.ntmps225
  go_wp2_with fail
  generalize hw0:w.alloc (.cells #[.int .u8 v.pid.author.toNat,.int .u16 v.pid.seq.toNat,.int .u8 v.n.toNat] 40)=w0 at *
  have c0:=HA.out.arr.k 0 rfl
  have c1:=HA.out.arr.k 1 rfl
  have c2:=HA.out.arr.k 2 rfl
  have sA:=HA.out.arr.lt
  refine(rgoodPid_any v.pid _).mono ?_
  rintro e w1 ⟨rfl,hb1⟩
  have HA1:=Lh (HA.out.over hb1)
  have k0:=HA1.out.arr.k 0 rfl
  have k1:=HA1.out.arr.k 1 rfl
  have k2:=HA1.out.arr.k 2 rfl
  have sA1:=HA1.out.arr.lt
  clear hw0 c0 c1 c2 sA
  go_wp2_with fail
  go_ret
  exact⟨rvl (congrArg Value.bool HV.out.symm),bov HB.out HB.out.size hb1⟩

end Go.Proofs.YtllcipobiengiaaGreat
namespace Go.Proofs.YtllcipobiengiaaGreat
open Go Go.RowKit

theorem cmpPid_author{a b:PidM}(h:¬ a.author=b.author):cmpPid a b=cmpN a.author.toNat b.author.toNat:=by
 have h1:=a.seq.toNat_lt
 have h2:=b.seq.toNat_lt
 have h3:a.author.toNat≠b.author.toNat:=fun e=>h (UInt8.toNat_inj.1 e)
 unfold cmpPid cmpN packPid
 by_cases hl:a.author.toNat<b.author.toNat
 ·
  rw [if_pos (by omega),if_pos hl]
 ·
  rw [if_neg (by omega),if_pos (by omega),if_neg hl,if_pos (by omega)]
theorem cmpPid_seq{a b:PidM}(h:a.author=b.author):cmpPid a b=cmpN a.seq.toNat b.seq.toNat:=by
 unfold cmpPid cmpN packPid
 rw [h]
 by_cases hl:a.seq.toNat<b.seq.toNat
 ·
  rw [if_pos (by omega),if_pos hl]
 ·
  rw [if_neg (by omega),if_neg hl]
  by_cases hg:b.seq.toNat<a.seq.toNat
  ·
   rw [if_pos (by omega),if_pos hg]
  ·
   rw [if_neg (by omega),if_neg hg]
theorem cmpVid_pid{a b:VidM}(h:¬ a.pid=b.pid):cmpVid a b=cmpPid a.pid b.pid:=by
 have h1:=a.n.toNat_lt
 have h2:=b.n.toNat_lt
 have h3:packPid a.pid≠packPid b.pid:=fun e=>h (packPid_inj e)
 unfold cmpVid cmpPid cmpN packVid
 by_cases hl:packPid a.pid<packPid b.pid
 ·
  rw [if_pos (by omega),if_pos hl]
 ·
  rw [if_neg (by omega),if_pos (by omega),if_neg hl,if_pos (by omega)]
theorem cmpVid_n{a b:VidM}(h:a.pid=b.pid):cmpVid a b=cmpN a.n.toNat b.n.toNat:=by
 unfold cmpVid cmpN packVid
 rw [h]
 by_cases hl:a.n.toNat<b.n.toNat
 ·
  rw [if_pos (by omega),if_pos hl]
 ·
  rw [if_neg (by omega),if_neg hl]
  by_cases hg:b.n.toNat<a.n.toNat
  ·
   rw [if_pos (by omega),if_pos hg]
  ·
   rw [if_neg (by omega),if_neg hg]
attribute [local irreducible] packPid packVid cmpN cmpPid cmpVid
set_option maxHeartbeats 1000000 in
set_option maxRecDepth 100000 in
theorem sign_any(a b:Nat)(w:World):Calls Tryz.prog 227 #[.int .i64 a,.int .i64 b] w fun e w'=>e=.returned (.int .i64 (cmpN a b))∧w'=w:=by
 by_cases h1:a<b
 ·
  have HC:=Lh (cmpN_lt h1)
  have d1:decide (a<b)=true:=by simpa using h1
  go_enter Tryz.func227,Tryz.ntmps227
  go_wp2_with fail
  go_ret
  exact⟨ret_int HC.out.symm,rfl⟩
 ·
  have d1:decide (a<b)=false:=by simpa using h1
  by_cases h2:b<a
  ·
   have HC:=Lh (cmpN_gt h2)
   have d2:decide (b<a)=true:=by simpa using h2
   go_enter Tryz.func227,Tryz.ntmps227
   go_wp2_with fail
   go_ret
   exact⟨ret_int HC.out.symm,rfl⟩
  ·
   have d2:decide (b<a)=false:=by simpa using h2
   have HC:=Lh (cmpN_eq (show a=b by omega))
   go_enter Tryz.func227,Tryz.ntmps227
   go_wp2_with fail
   go_ret
   exact⟨ret_int HC.out.symm,rfl⟩

set_option maxHeartbeats 1000000 in
set_option maxRecDepth 100000 in
theorem rcmpPid_any(a b:PidM)(w:World):Calls Tryz.prog 201 #[pidV a,pidV b] w fun e w'=>e=.returned (.int .i64 (cmpPid a b))∧Below w.heap.size w w':=by
 have HB:=Lh ((bnew (w:=w) (.cells #[.int .u8 a.author.toNat,.int .u16 a.seq.toNat] 26)).alloc (by simp) (.cells #[.int .u8 b.author.toNat,.int .u16 b.seq.toNat] 26))
 have l1:=a.author.toNat_lt
 have l2:=a.seq.toNat_lt
 have l3:=b.author.toNat_lt
 have l4:=b.seq.toNat_lt
 unfold pidV
 by_cases h:a.author=b.author
 ·
  have HC:=Lh (cmpPid_seq h)
  have e1:((a.author.toNat:Int) != (b.author.toNat:Int))=false:=by rw [h];simp
  clear h
  go_enter Tryz.func201,Tryz.ntmps201
  go_wp2_with fail
  refine(sign_any a.seq.toNat b.seq.toNat _).mono ?_
  rintro e w1 ⟨rfl,rfl⟩
  go_wp2_with fail
  go_ret
  exact⟨ret_int HC.out.symm,HB.out⟩
 ·
  have HC:=Lh (cmpPid_author h)
  have e1:((a.author.toNat:Int) != (b.author.toNat:Int))=true:=by
   simp only [bne_iff_ne,ne_eq,u8_int];exact h
  clear h
  go_enter Tryz.func201,Tryz.ntmps201
  go_wp2_with fail
  refine(sign_any a.author.toNat b.author.toNat _).mono ?_
  rintro e w1 ⟨rfl,rfl⟩
  go_wp2_with fail
  go_ret
  exact⟨ret_int HC.out.symm,HB.out⟩

set_option maxHeartbeats 2000000 in
set_option maxRecDepth 100000 in
theorem rcmpVid_any(a b:VidM)(w:World):Calls Tryz.prog 170 #[vidV a,vidV b] w fun e w'=>e=.returned (.int .i64 (cmpVid a b))∧Below w.heap.size w w':=by
 have HB:=Lh ((bnew (w:=w) (.cells #[.int .u8 a.pid.author.toNat,.int .u16 a.pid.seq.toNat,.int .u8 a.n.toNat] 40)).alloc (by simp) (.cells #[.int .u8 b.pid.author.toNat,.int .u16 b.pid.seq.toNat,.int .u8 b.n.toNat] 40))
 unfold vidV
 have gd:=fun p q xs ys w=>guard_pid .neq p q xs ys w
 by_cases h:a.pid=b.pid
 ·
  have HC:=Lh (cmpVid_n h)
  have e1:=neq_pid a.pid b.pid false (by simp [h])
  unfold pidV at e1
  clear h
  by_cases h1:a.n.toNat<b.n.toNat
  ·
   have d1:decide (a.n.toNat<b.n.toNat)=true:=by simpa using h1
   have HD:=Lh (HC.out.trans (cmpN_lt h1))
   go_enter Tryz.func170,Tryz.ntmps170
   go_wp2_with fail
   go_ret
   exact⟨ret_int HD.out.symm,HB.out⟩
  ·
   have d1:decide (a.n.toNat<b.n.toNat)=false:=by simpa using h1
   by_cases h2:b.n.toNat<a.n.toNat
   ·
    have d2:decide (b.n.toNat<a.n.toNat)=true:=by simpa using h2
    have HD:=Lh (HC.out.trans (cmpN_gt h2))
    go_enter Tryz.func170,Tryz.ntmps170
    go_wp2_with fail
    go_ret
    exact⟨ret_int HD.out.symm,HB.out⟩
   ·
    have d2:decide (b.n.toNat<a.n.toNat)=false:=by simpa using h2
    have HD:=Lh (HC.out.trans (cmpN_eq (by omega)))
    go_enter Tryz.func170,Tryz.ntmps170
    go_wp2_with fail
    go_ret
    exact⟨ret_int HD.out.symm,HB.out⟩
 ·
  have HC:=Lh (cmpVid_pid h)
  have e1:=neq_pid a.pid b.pid true (by simp [h])
  unfold pidV at e1
  clear h
  go_enter Tryz.func170,Tryz.ntmps170
  go_wp2_with fail
  refine(rcmpPid_any a.pid b.pid _).mono ?_
  rintro e w1 ⟨rfl,hb1⟩
  go_wp2_with fail
  go_ret
  exact⟨ret_int HC.out.symm,bov HB.out HB.out.size hb1⟩
end Go.Proofs.YtllcipobiengiaaGreat
namespace Go.Proofs.YtllcipobiengiaaGreat
open Go Go.RowKit

theorem u8_nat(a:UInt8)(n:Nat)(h:n<256):a=UInt8.ofNat n↔a.toNat=n:=by
 constructor
 ·
  intro e;rw [e];simp;omega
 ·
  intro e;apply UInt8.toNat_inj.1;simp;omega
theorem makes_nat(k:UInt8):makesB k=(decide (1≤k.toNat) && decide (k.toNat≤3)):=by
 unfold makesB
 have h1:(k == 1)=decide (k.toNat=1):=by rw [Bool.eq_iff_iff,beq_iff_eq,decide_eq_true_eq];exact u8_nat k 1 (by omega)
 have h2:(k == 2)=decide (k.toNat=2):=by rw [Bool.eq_iff_iff,beq_iff_eq,decide_eq_true_eq];exact u8_nat k 2 (by omega)
 have h3:(k == 3)=decide (k.toNat=3):=by rw [Bool.eq_iff_iff,beq_iff_eq,decide_eq_true_eq];exact u8_nat k 3 (by omega)
 rw [h1,h2,h3]
 rw [Bool.eq_iff_iff]
 simp
 omega
attribute [local irreducible] makesB
set_option maxHeartbeats 1000000 in
theorem pmakes_any(k:UInt8)(w:World):Calls Tryz.prog 71 #[.int .u8 k.toNat] w fun e w'=>e=.returned (.bool (makesB k))∧w'=w:=by
 have HM:=Lh (makes_nat k)
 by_cases h1:1≤k.toNat
 ·
  have e1:decide ((1:Int)≤(k.toNat:Int))=true:=by simp;omega
  by_cases h2:k.toNat≤3
  ·
   have e2:decide ((k.toNat:Int)≤3)=true:=by simp;omega
   have HV:Hid (makesB k=true):=by show _=_;rw [HM.out];simp;omega
   go_enter Tryz.func71,Tryz.ntmps71
   go_wp2_with fail
   go_ret
   exact⟨rvl (congrArg Value.bool HV.out.symm),rfl⟩
  ·
   have e2:decide ((k.toNat:Int)≤3)=false:=by simp;omega
   have HV:Hid (makesB k=false):=by show _=_;rw [HM.out];simp;omega
   go_enter Tryz.func71,Tryz.ntmps71
   go_wp2_with fail
   go_ret
   exact⟨rvl (congrArg Value.bool HV.out.symm),rfl⟩
 ·
  have e1:decide ((1:Int)≤(k.toNat:Int))=false:=by simp;omega
  have HV:Hid (makesB k=false):=by show _=_;rw [HM.out];simp;omega
  go_enter Tryz.func71,Tryz.ntmps71
  go_wp2_with fail
  go_ret
  exact⟨rvl (congrArg Value.bool HV.out.symm),rfl⟩

set_option maxHeartbeats 1000000 in
theorem rmakes_any(k:UInt8)(w:World):Calls Tryz.prog 130 #[.int .u8 k.toNat] w fun e w'=>e=.returned (.bool (makesB k))∧w'=w:=by
 have HM:=Lh (makes_nat k)
 by_cases h1:k.toNat=1
 ·
  have e1:((k.toNat:Int) == 1)=true:=by simp;omega
  have HV:Hid (makesB k=true):=by show _=_;rw [HM.out];simp;omega
  clear h1
  go_enter Tryz.func130,Tryz.ntmps130
  go_wp2_with fail
  go_ret
  exact⟨rvl (congrArg Value.bool HV.out.symm),rfl⟩
 ·
  have e1:((k.toNat:Int) == 1)=false:=by simp;omega
  by_cases h2:k.toNat=2
  ·
   have e2:((k.toNat:Int) == 2)=true:=by simp;omega
   have HV:Hid (makesB k=true):=by show _=_;rw [HM.out];simp;omega
   clear h1 h2
   go_enter Tryz.func130,Tryz.ntmps130
   go_wp2_with fail
   go_ret
   exact⟨rvl (congrArg Value.bool HV.out.symm),rfl⟩
  ·
   have e2:((k.toNat:Int) == 2)=false:=by simp;omega
   by_cases h3:k.toNat=3
   ·
    have e3:((k.toNat:Int) == 3)=true:=by simp;omega
    have HV:Hid (makesB k=true):=by show _=_;rw [HM.out];simp;omega
    clear h1 h2 h3
    go_enter Tryz.func130,Tryz.ntmps130
    go_wp2_with fail
    go_ret
    exact⟨rvl (congrArg Value.bool HV.out.symm),rfl⟩
   ·
    have e3:((k.toNat:Int) == 3)=false:=by simp;omega
    have HV:Hid (makesB k=false):=by show _=_;rw [HM.out];simp;omega
    clear h1 h2 h3
    go_enter Tryz.func130,Tryz.ntmps130
    go_wp2_with fail
    go_ret
    exact⟨rvl (congrArg Value.bool HV.out.symm),rfl⟩

theorem rowT_vid:RowT Tryz.prog 40 3:=rowT_of Tryz.underlying40 rfl (by kernel_rfl)
theorem mod_u8(i:Nat):((i:Int) % 256)=((UInt8.ofNat i).toNat:Int):=by simp
theorem vid_ret{w w':World}{p:PidM}{i:Nat}(h:Below w.heap.size w w'):(Ending.returned (.agg #[.int .u8 p.author.toNat,.int .u16 p.seq.toNat,.int .u8 ((i:Int) % 256)])=.returned (vidV ⟨p,UInt8.ofNat i⟩))∧Below w.heap.size w w':=by
 rw [mod_u8];exact⟨rfl,h⟩
set_option maxHeartbeats 1000000 in
set_option maxRecDepth 100000 in
theorem pvid_any(p:PidM)(i:Nat)(w:World)(hi:i<4611686018427387904):Calls Tryz.prog 21 #[pidV p,.int .i64 i] w fun e w'=>e=.returned (vidV ⟨p,UInt8.ofNat i⟩)∧Below w.heap.size w w':=by
 unfold pidV
 go_enter Tryz.func21,Tryz.ntmps21
 go_wp2_with fail
 exact bodyPost_ret (v:=.agg #[.int .u8 p.author.toNat,.int .u16 p.seq.toNat,.int .u8 ((i:Int) % 256)]) (results_arr rowT_vid rfl (an2 _ _ _ _) rfl rfl) rfl (vid_ret ((bnew _).alloc (by simp) _))
set_option maxHeartbeats 1000000 in
set_option maxRecDepth 100000 in
theorem rvid_any(p:PidM)(i:Nat)(w:World)(hi:i<4611686018427387904):Calls Tryz.prog 56 #[pidV p,.int .i64 i] w fun e w'=>e=.returned (vidV ⟨p,UInt8.ofNat i⟩)∧Below w.heap.size w w':=by
 unfold pidV
 go_enter Tryz.func56,Tryz.ntmps56
 go_wp2_with fail
 exact bodyPost_ret (v:=.agg #[.int .u8 p.author.toNat,.int .u16 p.seq.toNat,.int .u8 ((i:Int) % 256)]) (results_arr rowT_vid rfl (an2 _ _ _ _) rfl rfl) rfl (vid_ret ((bnew _).alloc (by simp) _))

def VRow(w:World)(v:Value)(vs:List VidM):Prop:=Row w v vs.length 3 (vs.flatMap encVid)
theorem row_of_arr{w:World}{g:Nat}{cs:List Value}{n sz:Nat}(h:Arr w g cs)(hl:cs.length=n*sz)(hn:n≤1000)(h0:n≠0):Row w (.slice (some ⟨g,0,none⟩) n n) n sz cs:=
 ⟨hl,_,n,rfl,Nat.le_refl _,by unfold maxLen;omega,fun h=>(by cases h),fun _=>⟨g,0,rfl,h.lt,fun j u hu=>by rw [Nat.zero_add];exact h.cell hu⟩⟩
def RefsAt(w:World)(v:Value)(vs:List VidM):Prop:=(vs=[]∧v=.slice none 0 0)∨(vs≠[]∧vs.length≤1000∧∃ g,v=.slice (some ⟨g,0,none⟩) vs.length vs.length∧ArrT w g 40 (vs.flatMap encVid))
theorem vid_flat_len:∀ vs:List VidM,(vs.flatMap encVid).length=vs.length*3
 | []=>rfl
 | v :: vs=>by rw [List.flatMap_cons,List.length_append,vid_flat_len vs,List.length_cons];simp [encVid];omega
theorem RefsAt.vrow{w:World}{v:Value}{vs:List VidM}(h:RefsAt w v vs):VRow w v vs:=by
 rcases h with⟨rfl,rfl⟩|⟨hne,hle,g,rfl,hA⟩
 ·
  exact row_nil w 3
 ·
  exact row_of_arr hA.arr (vid_flat_len vs) hle (fun e=>hne (List.eq_nil_of_length_eq_zero e))
def RefsRes(w:World)(vs:List VidM)(e:Ending)(w':World):Prop:=∃ v,e=.returned v∧RefsAt w' v vs∧Below w.heap.size w w'
theorem arrT_at{w:World}{g:Nat}(cs:Array Value)(e:TypeId)(hg:w.heap.size=g):ArrT (w.alloc (.cells cs e)) g e cs.toList:=by
 subst hg
 exact arrT_new w cs.toList e
theorem refs_one{o:OpM}(h:o.kind.toNat=2∨o.kind.toNat=3∨o.kind.toNat=5):refsM o=[o.at']:=by
 unfold refsM
 rw [if_pos]
 rcases h with h|h|h
 ·
  exact .inl ((u8_nat _ 2 (by omega)).2 h)
 ·
  exact .inr (.inl ((u8_nat _ 3 (by omega)).2 h))
 ·
  exact .inr (.inr ((u8_nat _ 5 (by omega)).2 h))
theorem refs_two{o:OpM}(h:o.kind.toNat=4):refsM o=[o.at',o.to]:=by
 have h4:o.kind=4:=(u8_nat _ 4 (by omega)).2 h
 unfold refsM
 rw [h4];rfl
theorem refs_none{o:OpM}(h:¬ (o.kind.toNat=2∨o.kind.toNat=3∨o.kind.toNat=4∨o.kind.toNat=5)):refsM o=[]:=by
 unfold refsM
 rw [if_neg,if_neg]
 ·
  intro e;exact h (.inr (.inr (.inl ((u8_nat _ 4 (by omega)).1 e))))
 ·
  rintro(e|e|e)
  ·
   exact h (.inl ((u8_nat _ 2 (by omega)).1 e))
  ·
   exact h (.inr (.inl ((u8_nat _ 3 (by omega)).1 e)))
  ·
   exact h (.inr (.inr (.inr ((u8_nat _ 5 (by omega)).1 e))))
attribute [local irreducible] refsM
set_option maxHeartbeats 2000000 in
set_option maxRecDepth 100000 in
theorem prefs_any(o:OpM)(w:World):Calls Tryz.prog 108 #[opV o] w (RefsRes w (refsM o)):=by
 unfold opV
 by_cases h1:o.kind.toNat=2∨o.kind.toNat=3∨o.kind.toNat=5
 ·
  have HR:=Lh (refs_one h1)
  rcases h1 with h1|h1|h1
  ·
   have e2:((o.kind.toNat:Int) == 2)=true:=by simp;omega
   have e3:((o.kind.toNat:Int) == 3)=false:=by simp;omega
   have e5:((o.kind.toNat:Int) == 5)=false:=by simp;omega
   clear h1
   go_enter Tryz.func108,Tryz.ntmps108
   go_wp2_with fail
   go_ret
   exact⟨_,rfl,(by rw [HR.out];exact .inr ⟨by simp,by simp,_,rfl,arrT_at _ _ (by simp)⟩),(bnew _).alloc (by simp) _⟩
  ·
   have e2:((o.kind.toNat:Int) == 2)=false:=by simp;omega
   have e3:((o.kind.toNat:Int) == 3)=true:=by simp;omega
   have e5:((o.kind.toNat:Int) == 5)=false:=by simp;omega
   clear h1
   go_enter Tryz.func108,Tryz.ntmps108
   go_wp2_with fail
   go_ret
   exact⟨_,rfl,(by rw [HR.out];exact .inr ⟨by simp,by simp,_,rfl,arrT_at _ _ (by simp)⟩),(bnew _).alloc (by simp) _⟩
  ·
   have e2:((o.kind.toNat:Int) == 2)=false:=by simp;omega
   have e3:((o.kind.toNat:Int) == 3)=false:=by simp;omega
   have e5:((o.kind.toNat:Int) == 5)=true:=by simp;omega
   clear h1
   go_enter Tryz.func108,Tryz.ntmps108
   go_wp2_with fail
   go_ret
   exact⟨_,rfl,(by rw [HR.out];exact .inr ⟨by simp,by simp,_,rfl,arrT_at _ _ (by simp)⟩),(bnew _).alloc (by simp) _⟩
 ·
  by_cases h4:o.kind.toNat=4
  ·
   have HR:=Lh (refs_two h4)
   have e2:((o.kind.toNat:Int) == 2)=false:=by simp;omega
   have e3:((o.kind.toNat:Int) == 3)=false:=by simp;omega
   have e5:((o.kind.toNat:Int) == 5)=false:=by simp;omega
   have e4:((o.kind.toNat:Int) == 4)=true:=by simp;omega
   clear h1 h4
   go_enter Tryz.func108,Tryz.ntmps108
   go_wp2_with fail
   go_ret
   exact⟨_,rfl,(by rw [HR.out];exact .inr ⟨by simp,by simp,_,rfl,arrT_at _ _ (by simp)⟩),(bnew _).alloc (by simp) _⟩
  ·
   have HR:=Lh (refs_none (o:=o) (by omega))
   have e2:((o.kind.toNat:Int) == 2)=false:=by simp;omega
   have e3:((o.kind.toNat:Int) == 3)=false:=by simp;omega
   have e5:((o.kind.toNat:Int) == 5)=false:=by simp;omega
   have e4:((o.kind.toNat:Int) == 4)=false:=by simp;omega
   clear h1 h4
   go_enter Tryz.func108,Tryz.ntmps108
   go_wp2_with fail
   go_ret
   exact⟨_,rfl,(by rw [HR.out];exact .inl ⟨rfl,rfl⟩),bnew _⟩

set_option maxHeartbeats 2000000 in
set_option maxRecDepth 100000 in
theorem rrefs_any(o:OpM)(w:World):Calls Tryz.prog 197 #[opV o] w (RefsRes w (refsM o)):=by
 unfold opV
 by_cases h1:o.kind.toNat=2∨o.kind.toNat=3∨o.kind.toNat=5
 ·
  have HR:=Lh (refs_one h1)
  rcases h1 with h1|h1|h1
  ·
   have e2:((o.kind.toNat:Int) == 2)=true:=by simp;omega
   have e3:((o.kind.toNat:Int) == 3)=false:=by simp;omega
   have e5:((o.kind.toNat:Int) == 5)=false:=by simp;omega
   clear h1
   go_enter Tryz.func197,Tryz.ntmps197
   go_wp2_with fail
   go_ret
   exact⟨_,rfl,(by rw [HR.out];exact .inr ⟨by simp,by simp,_,rfl,arrT_at _ _ (by simp)⟩),(bnew _).alloc (by simp) _⟩
  ·
   have e2:((o.kind.toNat:Int) == 2)=false:=by simp;omega
   have e3:((o.kind.toNat:Int) == 3)=true:=by simp;omega
   have e5:((o.kind.toNat:Int) == 5)=false:=by simp;omega
   clear h1
   go_enter Tryz.func197,Tryz.ntmps197
   go_wp2_with fail
   go_ret
   exact⟨_,rfl,(by rw [HR.out];exact .inr ⟨by simp,by simp,_,rfl,arrT_at _ _ (by simp)⟩),(bnew _).alloc (by simp) _⟩
  ·
   have e2:((o.kind.toNat:Int) == 2)=false:=by simp;omega
   have e3:((o.kind.toNat:Int) == 3)=false:=by simp;omega
   have e5:((o.kind.toNat:Int) == 5)=true:=by simp;omega
   clear h1
   go_enter Tryz.func197,Tryz.ntmps197
   go_wp2_with fail
   go_ret
   exact⟨_,rfl,(by rw [HR.out];exact .inr ⟨by simp,by simp,_,rfl,arrT_at _ _ (by simp)⟩),(bnew _).alloc (by simp) _⟩
 ·
  by_cases h4:o.kind.toNat=4
  ·
   have HR:=Lh (refs_two h4)
   have e2:((o.kind.toNat:Int) == 2)=false:=by simp;omega
   have e3:((o.kind.toNat:Int) == 3)=false:=by simp;omega
   have e5:((o.kind.toNat:Int) == 5)=false:=by simp;omega
   have e4:((o.kind.toNat:Int) == 4)=true:=by simp;omega
   clear h1 h4
   go_enter Tryz.func197,Tryz.ntmps197
   go_wp2_with fail
   go_ret
   exact⟨_,rfl,(by rw [HR.out];exact .inr ⟨by simp,by simp,_,rfl,arrT_at _ _ (by simp)⟩),(bnew _).alloc (by simp) _⟩
  ·
   have HR:=Lh (refs_none (o:=o) (by omega))
   have e2:((o.kind.toNat:Int) == 2)=false:=by simp;omega
   have e3:((o.kind.toNat:Int) == 3)=false:=by simp;omega
   have e5:((o.kind.toNat:Int) == 5)=false:=by simp;omega
   have e4:((o.kind.toNat:Int) == 4)=false:=by simp;omega
   clear h1 h4
   go_enter Tryz.func197,Tryz.ntmps197
   go_wp2_with fail
   go_ret
   exact⟨_,rfl,(by rw [HR.out];exact .inl ⟨rfl,rfl⟩),bnew _⟩
end Go.Proofs.YtllcipobiengiaaGreat
