/- Contracts of slices.Equal at operations, bruitlaw25.Flawed, patch.Same. Two graphs side by side in memory; contract of Apply with what it leaves as it was. RenderTurns. The card of RenderTurns closed: for every input the law returns true and leaves its arguments as they were. Of the listed tables the walk needs the powers of ten. -/
import Derived.Test.YtanfebljiblhbaaGreatDoorZGrE2
import Derived.Test.YtanfebljiblhbaaGreatDoorZWr
import Derived.Test.YtanfebljiblhbaaGreatDoorZPatO
import Derived.Test.YtanfebljiblhbaaGreatDoorZCard
import Derived.Stop.LaidErr
set_option linter.unusedVariables false
set_option linter.unusedSimpArgs false
namespace Go.Proofs.YtanfebljiblhbaaGreatDoor
open Go Go.RowKit

abbrev flV(x:FlawM):Value:=.agg #[.int .u8 x.kind.toNat,.int .u8 x.file.pid.author.toNat,.int .u16 x.file.pid.seq.toNat,.int .u8 x.file.n.toNat]
theorem stoodFl:Tryz.prog.stoodInHeld 129=false:=by kernel_rfl
theorem guardFl:Tryz.prog.eqGuardType Tryz.prog.depth 129=false:=by kernel_rfl
set_option maxHeartbeats 4000000 in
theorem equal_fl(d:Nat)(x y:FlawM)(w:World):(Op.equalIn (d+6) 129 (flV x) (flV y)).run Tryz.prog w=.ok (decide (x=y)) w:=by
 have hf:=Tryz.underlying129
 have hff:=fields_of hf
 unfold flV
 rw [run_equalIn_struct (d:=d+5) w 129 _ _ (by rw [hff];exact hf) stoodFl,hff]
 have i5:=Tryz.underlying5
 have hp:∀(u v:VidM) w,(Op.equalIn (d+5) 27 (.agg #[.int .u8 u.pid.author.toNat,.int .u16 u.pid.seq.toNat,.int .u8 u.n.toNat]) (.agg #[.int .u8 v.pid.author.toNat,.int .u16 v.pid.seq.toNat,.int .u8 v.n.toNat])).run Tryz.prog w=.ok (decide (u=v)) w:=fun u v w=>equal_vid (d+1) u v w
 have z1:=Tryz.sizeOf27
 have z2:=Tryz.sizeOf5
 have z3:=Tryz.isAgg27
 have z4:=Tryz.isAgg5
 simp [go_sem,i5,z1,z2,z3,z4,hp,u8_int]
 obtain⟨a,b⟩:=x
 obtain⟨a',b'⟩:=y
 by_cases e1:a=a' <;> by_cases e2:b=b' <;> simp [e1,e2]
theorem neq_fl(x y:FlawM)(b:Bool)(h:(!decide (x=y))=b)(w:World):(binOp .neq 129 (flV x) (flV y)).run Tryz.prog w=.ok (.bool b) w:=by
 unfold flV
 rw [run_neq_struct,show(10000:Nat)=9994+6 from rfl,equal_fl 9994 x y,← h];rfl
theorem guard_fl(op:BinOp)(p q:Operand)(xs ys:Array Value)(w:World):(eqGuard op 129 p q (.agg xs) (.agg ys)).run Tryz.prog w=.ok () w:=run_eqGuard_agg w op _ p q xs ys guardFl
set_option maxHeartbeats 8000000 in
theorem equalOp_any(v u:Value)(l m:List OpM)(w:World)(hv:GRow encOp 8 w v l)(hu:GRow encOp 8 w u m) :
  Calls Tryz.prog 63 #[v,u] w fun e w'=>e=.returned (.bool (decide (l=m)))∧Below w.heap.size w w':=by
 obtain⟨a,cap,rfl,h1,h2,hc⟩:=hv.at encOp_len
 obtain⟨a',cap',rfl,h1',h2',hc'⟩:=hu.at encOp_len
 unfold maxLen at h2 h2'
 have HC:=Lib.hid hc
 have HC':=Lib.hid hc'
 clear hv hu hc hc'
 have gd:=fun p q xs ys w=>guard_op .neq p q xs ys w
 by_cases hlen:l.length=m.length
 ·
  have HL:=Lib.hid hlen
  have hq:((l.length:Int) != (m.length:Int))=false:=by simp [hlen]
  clear hlen
  go_enter Tryz.func63,Tryz.ntmps63
  go_wp2_with fail
  go_loopw [13] (fun i wr=>∃ k:Nat,k≤l.length∧i=.int .i64 k∧Hid (l.take k=m.take k)∧Below w.heap.size w wr) (fun i _=>l.length - (intOf i).toNat)
  case atStart=>exact⟨0,by omega,rfl,rfl,Below.refl _ _⟩
  case round =>
   obtain⟨k,hk,rfl,HK,hbl⟩:=hrel
   by_cases hlt:k<l.length
   ·
    obtain⟨bl,ol,rfl,sl,hcl⟩:=HC.out.resolve_left (by omega)
    obtain⟨bm,om,rfl,sm,hcm⟩:=HC'.out.resolve_left (by have:=HL.out;omega)
    obtain⟨x,hx⟩:=get_of_lt hlt
    obtain⟨y,hy⟩:=get_of_lt (xs:=m) (i:=k) (by have:=HL.out;omega)
    have hkm:k<m.length:=by have:=HL.out;omega
    have x0:wr.cell? ⟨bl,ol+k*8,none⟩=some (.int .u8 x.kind.toNat):=(hcl k x hx wr hbl).2 0 _ rfl
    have x1:wr.cell? ⟨bl,ol+k*8+1,none⟩=some (.int .u8 x.at'.pid.author.toNat):=(hcl k x hx wr hbl).2 1 _ rfl
    have x2:wr.cell? ⟨bl,ol+k*8+2,none⟩=some (.int .u16 x.at'.pid.seq.toNat):=(hcl k x hx wr hbl).2 2 _ rfl
    have x3:wr.cell? ⟨bl,ol+k*8+3,none⟩=some (.int .u8 x.at'.n.toNat):=(hcl k x hx wr hbl).2 3 _ rfl
    have x4:wr.cell? ⟨bl,ol+k*8+4,none⟩=some (.int .u8 x.to.pid.author.toNat):=(hcl k x hx wr hbl).2 4 _ rfl
    have x5:wr.cell? ⟨bl,ol+k*8+5,none⟩=some (.int .u16 x.to.pid.seq.toNat):=(hcl k x hx wr hbl).2 5 _ rfl
    have x6:wr.cell? ⟨bl,ol+k*8+6,none⟩=some (.int .u8 x.to.n.toNat):=(hcl k x hx wr hbl).2 6 _ rfl
    have x7:wr.cell? ⟨bl,ol+k*8+7,none⟩=some (.string x.text):=(hcl k x hx wr hbl).2 7 _ rfl
    have y0:wr.cell? ⟨bm,om+k*8,none⟩=some (.int .u8 y.kind.toNat):=(hcm k y hy wr hbl).2 0 _ rfl
    have y1:wr.cell? ⟨bm,om+k*8+1,none⟩=some (.int .u8 y.at'.pid.author.toNat):=(hcm k y hy wr hbl).2 1 _ rfl
    have y2:wr.cell? ⟨bm,om+k*8+2,none⟩=some (.int .u16 y.at'.pid.seq.toNat):=(hcm k y hy wr hbl).2 2 _ rfl
    have y3:wr.cell? ⟨bm,om+k*8+3,none⟩=some (.int .u8 y.at'.n.toNat):=(hcm k y hy wr hbl).2 3 _ rfl
    have y4:wr.cell? ⟨bm,om+k*8+4,none⟩=some (.int .u8 y.to.pid.author.toNat):=(hcm k y hy wr hbl).2 4 _ rfl
    have y5:wr.cell? ⟨bm,om+k*8+5,none⟩=some (.int .u16 y.to.pid.seq.toNat):=(hcm k y hy wr hbl).2 5 _ rfl
    have y6:wr.cell? ⟨bm,om+k*8+6,none⟩=some (.int .u8 y.to.n.toNat):=(hcm k y hy wr hbl).2 6 _ rfl
    have y7:wr.cell? ⟨bm,om+k*8+7,none⟩=some (.string y.text):=(hcm k y hy wr hbl).2 7 _ rfl
    have sX:=(hcl k x hx wr hbl).1
    have sY:=(hcm k y hy wr hbl).1
    have HX:=Lib.hid hx
    have HY:=Lib.hid hy
    clear hcl hcm hx hy
    by_cases hxy:x=y
    ·
     have hne:=neq_op x y false (by simp [hxy])
     unfold opV at hne
     have HK2:Hid (l.take (k+1)=m.take (k+1)):=by show _=_;rw [take_succ_get HX.out,take_succ_get HY.out,HK.out,hxy]
     clear hxy
     go_wp2_with fail
     have hcur:Below wr.heap.size wr wr.drew:=(Below.refl _ _).drew
     refine wp_region_lex (C:=IsOver wr) 9 [] (by kernel_rfl) (by kernel_rfl) (isOver_of hcur) ?_
     simp only [List.take_succ_cons,List.take_zero,List.drop_succ_cons,List.drop_zero]
     repeat(first|(refine lex_skip rfl rfl ?_;simp only [Act.put,List.setIfInBounds_toArray,List.set_cons_succ,List.set_cons_zero])|(refine lex_one rfl ?_;go_big_quiet_step (fail);refine wpQuiet_nil ?_))
     refine lex_end ?_
     go_wp2_with fail
     go_roundw
     case rel=>exact⟨k+1,hlt,by go_num,HK2,hbl.drew⟩
     case measure=>simp [intOf];omega
    ·
     have hne:=neq_op x y true (by simp [hxy])
     unfold opV at hne
     have HN:Hid (decide (l=m)=false):=decide_eq_false (take_ne HX.out HY.out hxy)
     clear hxy
     go_wp2_with fail
     have hcur:Below wr.heap.size wr wr.drew:=(Below.refl _ _).drew
     refine wp_region_lex (C:=IsOver wr) 9 [] (by kernel_rfl) (by kernel_rfl) (isOver_of hcur) ?_
     simp only [List.take_succ_cons,List.take_zero,List.drop_succ_cons,List.drop_zero]
     repeat(first|(refine lex_skip rfl rfl ?_;simp only [Act.put,List.setIfInBounds_toArray,List.set_cons_succ,List.set_cons_zero])|(refine lex_one rfl ?_;go_big_quiet_step (fail);refine wpQuiet_nil ?_))
     refine lex_end ?_
     go_wp2_with fail
     go_ret
     exact⟨ret_val (congrArg Value.bool HN.out.symm),hbl.drew⟩
   ·
    obtain rfl:k=l.length:=by omega
    have HN:Hid (decide (l=m)=true):=decide_eq_true (take_all HL.out HK.out)
    go_wp2_with fail
    go_ret
    exact⟨ret_val (congrArg Value.bool HN.out.symm),hbl⟩
 ·
  have HN:Hid (decide (l=m)=false):=decide_eq_false (fun h=>hlen (by rw [h]))
  have hq:((l.length:Int) != (m.length:Int))=true:=by simp;omega
  clear hlen
  go_enter Tryz.func63,Tryz.ntmps63
  go_wp2_with fail
  go_ret
  exact⟨ret_val (congrArg Value.bool HN.out.symm),Below.refl _ _⟩
def numB(b:Bool):Value:=.int .i64 (if b=true then 1 else 0)
theorem numB_t{b:Bool}(h:b=true):Value.int .i64 1=numB b:=by subst h;rfl
theorem numB_f{b:Bool}(h:b=false):Value.int .i64 0=numB b:=by subst h;rfl
set_option maxHeartbeats 8000000 in
theorem flawed_any(v u:Value)(l m:List FlawM)(w:World)(hv:GRow encFl 4 w v l)(hu:GRow encFl 4 w u m) :
  Calls Tryz.prog 24 #[v,u] w fun e w'=>e=.returned (numB (decide (l=m)))∧Below w.heap.size w w':=by
 obtain⟨a,cap,rfl,h1,h2,hc⟩:=hv.at encFl_len
 obtain⟨a',cap',rfl,h1',h2',hc'⟩:=hu.at encFl_len
 unfold maxLen at h2 h2'
 have HC:=Lib.hid hc
 have HC':=Lib.hid hc'
 clear hv hu hc hc'
 have gd:=fun p q xs ys w=>guard_fl .neq p q xs ys w
 by_cases hlen:l.length=m.length
 ·
  have HL:=Lib.hid hlen
  have hq:((l.length:Int) != (m.length:Int))=false:=by simp [hlen]
  clear hlen
  go_enter Tryz.func24,Tryz.ntmps24
  go_wp2_with fail
  go_loopw [5] (fun i wr=>∃ k:Nat,k≤l.length∧i=.int .i64 k∧Hid (l.take k=m.take k)∧Below w.heap.size w wr) (fun i _=>l.length - (intOf i).toNat)
  case atStart=>exact⟨0,by omega,rfl,rfl,Below.refl _ _⟩
  case round =>
   obtain⟨k,hk,rfl,HK,hbl⟩:=hrel
   by_cases hlt:k<l.length
   ·
    obtain⟨bl,ol,rfl,sl,hcl⟩:=HC.out.resolve_left (by omega)
    obtain⟨bm,om,rfl,sm,hcm⟩:=HC'.out.resolve_left (by have:=HL.out;omega)
    obtain⟨x,hx⟩:=get_of_lt hlt
    obtain⟨y,hy⟩:=get_of_lt (xs:=m) (i:=k) (by have:=HL.out;omega)
    have hkm:k<m.length:=by have:=HL.out;omega
    have x0:wr.cell? ⟨bl,ol+k*4,none⟩=some (.int .u8 x.kind.toNat):=(hcl k x hx wr hbl).2 0 _ rfl
    have x1:wr.cell? ⟨bl,ol+k*4+1,none⟩=some (.int .u8 x.file.pid.author.toNat):=(hcl k x hx wr hbl).2 1 _ rfl
    have x2:wr.cell? ⟨bl,ol+k*4+2,none⟩=some (.int .u16 x.file.pid.seq.toNat):=(hcl k x hx wr hbl).2 2 _ rfl
    have x3:wr.cell? ⟨bl,ol+k*4+3,none⟩=some (.int .u8 x.file.n.toNat):=(hcl k x hx wr hbl).2 3 _ rfl
    have y0:wr.cell? ⟨bm,om+k*4,none⟩=some (.int .u8 y.kind.toNat):=(hcm k y hy wr hbl).2 0 _ rfl
    have y1:wr.cell? ⟨bm,om+k*4+1,none⟩=some (.int .u8 y.file.pid.author.toNat):=(hcm k y hy wr hbl).2 1 _ rfl
    have y2:wr.cell? ⟨bm,om+k*4+2,none⟩=some (.int .u16 y.file.pid.seq.toNat):=(hcm k y hy wr hbl).2 2 _ rfl
    have y3:wr.cell? ⟨bm,om+k*4+3,none⟩=some (.int .u8 y.file.n.toNat):=(hcm k y hy wr hbl).2 3 _ rfl
    have sX:=(hcl k x hx wr hbl).1
    have sY:=(hcm k y hy wr hbl).1
    have HX:=Lib.hid hx
    have HY:=Lib.hid hy
    clear hcl hcm hx hy
    by_cases hxy:x=y
    ·
     have hne:=neq_fl x y false (by simp [hxy])
     unfold flV at hne
     have HK2:Hid (l.take (k+1)=m.take (k+1)):=by show _=_;rw [take_succ_get HX.out,take_succ_get HY.out,HK.out,hxy]
     clear hxy
     go_wp2_with fail
     have hcur:Below wr.heap.size wr wr.drew:=(Below.refl _ _).drew
     refine wp_region_lex (C:=IsOver wr) 9 [] (by kernel_rfl) (by kernel_rfl) (isOver_of hcur) ?_
     simp only [List.take_succ_cons,List.take_zero,List.drop_succ_cons,List.drop_zero]
     repeat(first|(refine lex_skip rfl rfl ?_;simp only [Act.put,List.setIfInBounds_toArray,List.set_cons_succ,List.set_cons_zero])|(refine lex_one rfl ?_;go_big_quiet_step (fail);refine wpQuiet_nil ?_))
     refine lex_end ?_
     go_wp2_with fail
     go_roundw
     case rel=>exact⟨k+1,hlt,by go_num,HK2,hbl.drew⟩
     case measure=>simp [intOf];omega
    ·
     have hne:=neq_fl x y true (by simp [hxy])
     unfold flV at hne
     have HN:Hid (decide (l=m)=false):=decide_eq_false (take_ne HX.out HY.out hxy)
     clear hxy
     go_wp2_with fail
     have hcur:Below wr.heap.size wr wr.drew:=(Below.refl _ _).drew
     refine wp_region_lex (C:=IsOver wr) 9 [] (by kernel_rfl) (by kernel_rfl) (isOver_of hcur) ?_
     simp only [List.take_succ_cons,List.take_zero,List.drop_succ_cons,List.drop_zero]
     repeat(first|(refine lex_skip rfl rfl ?_;simp only [Act.put,List.setIfInBounds_toArray,List.set_cons_succ,List.set_cons_zero])|(refine lex_one rfl ?_;go_big_quiet_step (fail);refine wpQuiet_nil ?_))
     refine lex_end ?_
     go_wp2_with fail
     go_ret
     exact⟨ret_val (numB_f HN.out),hbl.drew⟩
   ·
    obtain rfl:k=l.length:=by omega
    have HN:Hid (decide (l=m)=true):=decide_eq_true (take_all HL.out HK.out)
    go_wp2_with fail
    go_ret
    exact⟨ret_val (numB_t HN.out),hbl⟩
 ·
  have HN:Hid (decide (l=m)=false):=decide_eq_false (fun h=>hlen (by rw [h]))
  have hq:((l.length:Int) != (m.length:Int))=true:=by simp;omega
  clear hlen
  go_enter Tryz.func24,Tryz.ntmps24
  go_wp2_with fail
  go_ret
  exact⟨ret_val (numB_f HN.out),Below.refl _ _⟩
theorem pat_ext{p q:PatchM}:p=q↔p.id=q.id∧p.deps=q.deps∧p.ops=q.ops:=by
 obtain⟨a,b,c⟩:=p
 obtain⟨a',b',c'⟩:=q
 simp
set_option maxHeartbeats 8000000 in
set_option maxRecDepth 100000 in
theorem psame_any(x y:LaidP)(w:World)(hx:PatOk w x)(hy:PatOk w y) :
  Calls Tryz.prog 31 #[patV x.p.id x.dv x.ov,patV y.p.id y.dv y.ov] w fun e w'=>e=.returned (.bool (decide (x.p=y.p)))∧Below w.heap.size w w':=by
 have HX:=Lib.hid hx
 have HY:=Lib.hid hy
 obtain⟨ad,cd,hdv,_⟩:=hx.1.at encPid_len
 obtain⟨ao,co,hov,_⟩:=hx.2.at encOp_len
 obtain⟨ad',cd',hdv',_⟩:=hy.1.at encPid_len
 obtain⟨ao',co',hov',_⟩:=hy.2.at encOp_len
 have HDV:=Lib.hid hdv
 have HOV:=Lib.hid hov
 have HDV':=Lib.hid hdv'
 have HOV':=Lib.hid hov'
 unfold patV
 rw [hdv,hov,hdv',hov']
 clear hx hy hdv hov hdv' hov'
 have HA:=Lib.hid ((arr_new w #[.int .u8 x.p.id.author.toNat,.int .u16 x.p.id.seq.toNat,.slice ad x.p.deps.length cd,.slice ao x.p.ops.length co] 71).alloc (.cells #[.int .u8 y.p.id.author.toNat,.int .u16 y.p.id.seq.toNat,.slice ad' y.p.deps.length cd',.slice ao' y.p.ops.length co'] 71))
 have HC:=Lib.hid (arr_new2 w (.cells #[.int .u8 x.p.id.author.toNat,.int .u16 x.p.id.seq.toNat,.slice ad x.p.deps.length cd,.slice ao x.p.ops.length co] 71) #[.int .u8 y.p.id.author.toNat,.int .u16 y.p.id.seq.toNat,.slice ad' y.p.deps.length cd',.slice ao' y.p.ops.length co'] 71)
 have HB:=Lib.hid ((below_new (w:=w) (.cells #[.int .u8 x.p.id.author.toNat,.int .u16 x.p.id.seq.toNat,.slice ad x.p.deps.length cd,.slice ao x.p.ops.length co] 71)).alloc (by simp) (.cells #[.int .u8 y.p.id.author.toNat,.int .u16 y.p.id.seq.toNat,.slice ad' y.p.deps.length cd',.slice ao' y.p.ops.length co'] 71))
 have gd:=fun p q xs ys w=>guard_pid .eql p q xs ys w
 have he:=eql_pid x.p.id y.p.id (decide (x.p.id=y.p.id)) rfl
 unfold pidV at he
 have HED:Hid (∀ W,Below w.heap.size w W→Calls Tryz.prog 62 #[.slice ad x.p.deps.length cd,.slice ad' y.p.deps.length cd'] W fun e w'=>e=.returned (.bool (decide (x.p.deps=y.p.deps)))∧Below W.heap.size W w'):=Lib.hid fun W hb=>by
  have h:=equalPid_any _ _ _ _ W (HX.out.1.over hb) (HY.out.1.over hb)
  rw [HDV.out,HDV'.out] at h
  exact h
 have HEO:Hid (∀ W,Below w.heap.size w W→Calls Tryz.prog 63 #[.slice ao x.p.ops.length co,.slice ao' y.p.ops.length co'] W fun e w'=>e=.returned (.bool (decide (x.p.ops=y.p.ops)))∧Below W.heap.size W w'):=Lib.hid fun W hb=>by
  have h:=equalOp_any _ _ _ _ W (HX.out.2.over hb) (HY.out.2.over hb)
  rw [HOV.out,HOV'.out] at h
  exact h
 have HR:Hid (decide (x.p=y.p)=(decide (x.p.id=y.p.id) && (decide (x.p.deps=y.p.deps) && decide (x.p.ops=y.p.ops)))):=Lib.hid (by rw [Bool.eq_iff_iff];simp [pat_ext])
 rw [HR.out]
 generalize decide (x.p.id=y.p.id)=cI at *
 generalize decide (x.p.deps=y.p.deps)=cD at *
 generalize decide (x.p.ops=y.p.ops)=cO at *
 clear HR
 go_enter Tryz.func31,Tryz.ntmps31
 go_upto_region 1 with(fail)
 generalize hw0:(w.alloc (.cells #[.int .u8 x.p.id.author.toNat,.int .u16 x.p.id.seq.toNat,.slice ad x.p.deps.length cd,.slice ao x.p.ops.length co] 71)).alloc (.cells #[.int .u8 y.p.id.author.toNat,.int .u16 y.p.id.seq.toNat,.slice ad' y.p.deps.length cd',.slice ao' y.p.ops.length co'] 71)=w0 at *
 clear hw0
 have c0:=HA.out.cell (j:=0) rfl
 have c1:=HA.out.cell (j:=1) rfl
 have c2:=HA.out.cell (j:=2) rfl
 have c3:=HA.out.cell (j:=3) rfl
 have sc:=HA.out.lt
 have d0:=HC.out.cell (j:=0) rfl
 have d1:=HC.out.cell (j:=1) rfl
 have d2:=HC.out.cell (j:=2) rfl
 have d3:=HC.out.cell (j:=3) rfl
 have sd:=HC.out.lt
 cases cI with
 | false =>
  go_wp2_with fail
  go_ret
  exact⟨rfl,HB.out⟩
 | true =>
  cases cD with
  | false =>
   go_wp2_with (first|(go_at_call 62;(with_reducible refine(HED.out _ HB.out).mono ?_);rintro e w1 ⟨rfl,hb1⟩;have HB1:=Lib.hid (below_over HB.out HB.out.size hb1);have k2:=(hb1.cell (p:=⟨w.heap.size,3,none⟩) sc).trans c3;have k3:=(hb1.cell (p:=⟨w.heap.size+1,3,none⟩) sd).trans d3;have kc:=Nat.lt_of_lt_of_le sc hb1.size;have kd:=Nat.lt_of_lt_of_le sd hb1.size;clear hb1))
   go_ret
   exact⟨rfl,HB1.out⟩
  | true =>
   go_wp2_with (first|(go_at_call 62;(with_reducible refine(HED.out _ HB.out).mono ?_);rintro e w1 ⟨rfl,hb1⟩;have HB1:=Lib.hid (below_over HB.out HB.out.size hb1);have k2:=(hb1.cell (p:=⟨w.heap.size,3,none⟩) sc).trans c3;have k3:=(hb1.cell (p:=⟨w.heap.size+1,3,none⟩) sd).trans d3;have kc:=Nat.lt_of_lt_of_le sc hb1.size;have kd:=Nat.lt_of_lt_of_le sd hb1.size;clear hb1)|(go_at_call 63;(with_reducible refine(HEO.out _ HB1.out).mono ?_);rintro e w2 ⟨rfl,hb2⟩;have HB2:=Lib.hid (below_over HB1.out HB1.out.size hb2);clear hb2))
   go_ret
   exact⟨rfl,HB2.out⟩
end Go.Proofs.YtanfebljiblhbaaGreatDoor
namespace Go.Proofs.YtanfebljiblhbaaGreatDoor
open Go Go.RowKit

theorem TMap.blockAt{P:Program}{k:TypeId}{κ ν:Type}{kenc:κ→Value}{ok:κ→Prop}{venc:ν→Value}{w w':World}{b n:Nat}{f:κ→Option ν}(h:TMap P k kenc ok venc w b n f)(hb:w'.heap[b]? = w.heap[b]?):TMap P k kenc ok venc w' b n f:=by
 obtain⟨D,⟨es,clock,h1,h2⟩,h3⟩:=h
 exact⟨D,⟨es,clock,by rw [hb];exact h1,h2⟩,h3⟩
/-- three blocks are none of three others -/
def Apart(b v e b' v' e':Nat):Prop:=∀ k,(k=b'∨k=v'∨k=e')→k≠b∧k≠v∧k≠e
theorem Apart.symm{b v e b' v' e':Nat}(h:Apart b v e b' v' e'):Apart b' v' e' b v e:=fun k hk =>
 ⟨fun q=>by have:=h k (.inl q);rcases hk with rfl|rfl|rfl <;> omega,fun q=>by have:=h k (.inr (.inl q));rcases hk with rfl|rfl|rfl <;> omega,fun q=>by have:=h k (.inr (.inr q));rcases hk with rfl|rfl|rfl <;> omega⟩
/-- the graph of the patches L at three blocks beyond w0 -/
def OneG(w0 w:World)(b bv be:Nat)(L:List PatchM):Prop:=w0.heap.size≤b∧w0.heap.size≤bv∧w0.heap.size≤be∧∃ n,n≤1000*L.length∧GrW w b bv be n (vecM L) (vertM L) (edgeM L)
theorem OneG.bex{w0 w w':World}{b bv be b' bv' be':Nat}{L:List PatchM}(h:OneG w0 w b' bv' be' L)(ha:Apart b bv be b' bv' be')(hx:Bex b bv be w w'):OneG w0 w' b' bv' be' L:=by
 obtain⟨h1,h2,h3,n,hn,hG⟩:=h
 obtain⟨a1,a2,a3⟩:=ha b' (.inl rfl)
 obtain⟨c1,c2,c3⟩:=ha bv' (.inr (.inl rfl))
 obtain⟨d1,d2,d3⟩:=ha be' (.inr (.inr rfl))
 exact⟨h1,h2,h3,n,hn,hG.arr.bex a1 a2 a3 hx,hG.verts.blockAt (hx.block _ hG.verts.lt c1 c2 c3),hG.edges.blockAt (hx.block _ hG.edges.lt d1 d2 d3),hG.ne⟩
theorem OneG.over{w0 w w':World}{b bv be:Nat}{L:List PatchM}(h:OneG w0 w b bv be L)(hb:Below w.heap.size w w'):OneG w0 w' b bv be L:=by
 obtain⟨h1,h2,h3,n,hn,hG⟩:=h
 exact⟨h1,h2,h3,n,hn,hG.over hb⟩
theorem OneG.is{w0 w:World}{b bv be:Nat}{L:List PatchM}(h:OneG w0 w b bv be L):GrIs w b L:=by
 obtain⟨_,_,_,n,_,hG⟩:=h
 exact⟨bv,be,n,hG⟩
theorem Bex.low{w0 w w':World}{b bv be:Nat}(hb:Below w0.heap.size w0 w)(hx:Bex b bv be w w')(h1:w0.heap.size≤b)(h2:w0.heap.size≤bv)(h3:w0.heap.size≤be):Below w0.heap.size w0 w':=
 ⟨hx.os.trans hb.os,hx.tape.trans hb.tape,hx.output.trans hb.output,Nat.le_trans hb.size hx.size,fun k hk=>(hx.block k (Nat.lt_of_lt_of_le hk hb.size) (by omega) (by omega) (by omega)).trans (hb.block k hk)⟩
def Ap3(w0 w:World)(b bv be:Nat)(L:List PatchM)(e:Ending)(w':World):Prop:=(∃ k:Nat,e=.returned (.int .i64 k))∧OneG w0 w' b bv be L∧Bex b bv be w w'
theorem gapply3(b bv be:Nat)(L:List PatchM)(hw:WfG L)(x:LaidP)(w0 w:World)(h:OneG w0 w b bv be L)(hp:PatOk w0 x)(hb:Below w0.heap.size w0 w)(hl:x.p.ops.length≤200)(hz:∀ o∈x.p.ops,o.text.size≤maxLen)(hL:L.length≤1000) :
  Calls Tryz.prog 33 #[.pointer (some ⟨b,0,none⟩),patV x.p.id x.dv x.ov] w (Ap3 w0 w b bv be (applyM L x.p)):=by
 obtain⟨h1,h2,h3,n,hn,hG⟩:=h
 by_cases hc:checkM L x.p=0
 ·
  have ha:applyM L x.p=L++[x.p]:=by unfold applyM;rw [if_pos hc]
  have hgd:=(check_ok hc).good
  have h0:x.p.ops.length≠0:=by
   unfold goodP at hgd
   simp only [Bool.and_eq_true,decide_eq_true_eq] at hgd
   omega
  have has:Aside b bv be x.ov:=by
   intro k hk
   obtain⟨_,a,cap,e1,_,_,_,h5⟩:=hp.2
   obtain⟨g,off,rfl,hg,_⟩:=h5 h0
   rw [e1] at hk
   simp only [Value.ownBlock,Option.some.injEq] at hk
   omega
  refine(gapply2_L b L hw x.p x.dv x.ov w bv be n hG (hp.1.over hb) (hp.2.over hb) has (by omega) hz (by omega) hc).mono ?_
  rintro e w' ⟨rfl,hG',hx⟩
  refine⟨⟨0,rfl⟩,⟨h1,h2,h3,n+x.p.ops.length,?_,by rw [ha];exact hG'⟩,hx⟩
  rw [ha,List.length_append,List.length_singleton]
  omega
 ·
  have ha:applyM L x.p=L:=by unfold applyM;rw [if_neg hc]
  refine(gapply_no b bv be n (vecM L) (vertM L) (edgeM L) x.p.id x.dv x.ov x.p.deps x.p.ops w hG hw.vec (hp.1.over hb) (hp.2.over hb) (by omega) hz (by rw [checkX_eq hw];exact hc)).mono ?_
  rintro e w' ⟨rfl,hb'⟩
  exact⟨⟨_,rfl⟩,⟨h1,h2,h3,n,by rw [ha];exact hn,by rw [ha];exact hG.over hb'⟩,bex_of hb'⟩
/-! ### the other order -/
theorem turn_hit{n from' i:Nat}(hi:i<n):∃ j,j<n∧(n - 1 - j+from') % n=i:=by
 have hn:0<n:=by omega
 refine⟨(n - 1+from'+(n - i)) % n,Nat.mod_lt _ hn,?_⟩
 generalize hm:n - 1+from'+(n - i)=m
 have hge:n≤m:=by omega
 have hq:=Nat.div_add_mod m n
 have hlt:=Nat.mod_lt m hn
 have hq1:1≤m / n:=(Nat.one_le_div_iff hn).2 hge
 obtain⟨d,hd⟩:∃ d,m / n=d+1:=⟨m / n - 1,by omega⟩
 rw [hd,Nat.mul_add,Nat.mul_one] at hq
 have e1:n - 1 - m % n+from'=i+n*d:=by omega
 rw [e1,Nat.add_mul_mod_self_left,Nat.mod_eq_of_lt hi]
def turnL(l:List PatchM)(from':Nat):List PatchM:=(List.range l.length).filterMap fun j=>l[(l.length - 1 - j+from') % l.length]?
theorem turn_mem(l:List PatchM)(from':Nat)(p:PatchM):p∈turnL l from'↔p∈l:=by
 unfold turnL
 rw [List.mem_filterMap]
 constructor
 ·
  rintro⟨j,_,h⟩
  exact List.mem_of_getElem? h
 ·
  intro h
  obtain⟨i,hi⟩:=List.getElem?_of_mem h
  have hl:=(List.getElem?_eq_some_iff.1 hi).1
  obtain⟨j,hj,he⟩:=turn_hit (from':=from') hl
  exact⟨j,List.mem_range.2 hj,by rw [he];exact hi⟩
/-- the two graphs, as far as some rounds and some patches of the next -/
def stA(l:List PatchM)(r i:Nat):List PatchM:=(l.take i).foldl applyM (rounds l r)
def stB(l:List PatchM)(from' r i:Nat):List PatchM:=(((List.range i).filterMap fun j=>l[(l.length - 1 - j+from') % l.length]?)).foldl applyM (rounds (turnL l from') r)
theorem stA_zero(l:List PatchM)(r:Nat):stA l r 0=rounds l r:=by unfold stA;rw [List.take_zero];rfl
theorem stB_zero(l:List PatchM)(from' r:Nat):stB l from' r 0=rounds (turnL l from') r:=by unfold stB;rfl
theorem stA_succ{l:List PatchM}{r i:Nat}{p:PatchM}(h:l[i]? = some p):stA l r (i+1)=applyM (stA l r i) p:=by
 unfold stA;rw [take_succ' h,List.foldl_append];rfl
theorem stB_succ{l:List PatchM}{from' r i:Nat}{p:PatchM}(h:l[(l.length - 1 - i+from') % l.length]? = some p):stB l from' r (i+1)=applyM (stB l from' r i) p:=by
 unfold stB;rw [List.range_succ,List.filterMap_append,List.foldl_append];simp [h]
theorem stA_all(l:List PatchM)(r:Nat):stA l r l.length=rounds l (r+1):=by unfold stA;rw [List.take_length];rfl
theorem stB_all(l:List PatchM)(from' r:Nat):stB l from' r l.length=rounds (turnL l from') (r+1):=by unfold stB;rfl
theorem stA_wf(l:List PatchM)(r i:Nat):WfG (stA l r i):=wf_foldl _ (rounds_wf l r)
theorem stB_wf(l:List PatchM)(from' r i:Nat):WfG (stB l from' r i):=wf_foldl _ (rounds_wf _ r)
theorem stA_few(l:List PatchM)(r i:Nat):(stA l r i).length≤l.length:=
 nodup_lenP (one_nodup (fold_one _ (rounds_one l r))) (fold_in (l:=l) _ (fun p hp=>List.mem_of_mem_take hp) (rounds_in l (fun p hp=>hp) r))
theorem stB_few(l:List PatchM)(from' r i:Nat):(stB l from' r i).length≤l.length:=by
 refine nodup_lenP (one_nodup (fold_one _ (rounds_one _ r))) (fold_in (l:=l) _ (fun p hp => ?_) (rounds_in _ (fun p hp=>(turn_mem l from' p).1 hp) r))
 obtain⟨j,_,h⟩:=List.mem_filterMap.1 hp
 exact List.mem_of_getElem? h
end Go.Proofs.YtanfebljiblhbaaGreatDoor
namespace Go.Proofs.YtanfebljiblhbaaGreatDoor
open Go Go.RowKit

def RuI(w2:World)(l:List PatchM)(v5:Value)(wr:World):Prop:=∃ i:Nat,i≤l.length∧v5=.int .i64 i∧Hid (SameId (l.take i))∧Hid (Below w2.heap.size w2 wr)
def RuK(w2:World)(l:List PatchM)(x:PatchM)(i:Nat)(v6:Value)(wr:World):Prop:=∃ k:Nat,k≤i∧v6=.int .i64 k∧Hid (∀ q∈l.take k,x.id=q.id→x=q)∧Hid (Below w2.heap.size w2 wr)
def RuR(w2:World)(b1 v1 e1 b2 v2 e2:Nat)(l:List PatchM)(fr:Nat)(v9:Value)(wr:World):Prop:=∃ r:Nat,r≤l.length+1∧v9=.int .i64 r∧Hid (OneG w2 wr b1 v1 e1 (rounds l r))∧Hid (OneG w2 wr b2 v2 e2 (rounds (turnL l fr) r))∧Hid (Below w2.heap.size w2 wr)
def RuJ(w2:World)(b1 v1 e1 b2 v2 e2:Nat)(l:List PatchM)(fr r:Nat)(v10:Value)(wr:World):Prop:=∃ i:Nat,i≤l.length∧v10=.int .i64 i∧Hid (OneG w2 wr b1 v1 e1 (stA l r i))∧Hid (OneG w2 wr b2 v2 e2 (stB l fr r i))∧Hid (Below w2.heap.size w2 wr)
theorem sameId_succ{l:List PatchM}{i:Nat}{x:PatchM}(h:SameId (l.take i))(hx:l[i]? = some x)(hk:∀ q∈l.take i,x.id=q.id→x=q):SameId (l.take (i+1)):=by
 rw [take_succ' hx]
 intro p hp q hq e
 rcases List.mem_append.1 hp with hp|hp
 ·
  rcases List.mem_append.1 hq with hq|hq
  ·
   exact h p hp q hq e
  ·
   rw [List.mem_singleton.1 hq] at e ⊢;exact(hk p hp e.symm).symm
 ·
  rw [List.mem_singleton.1 hp] at e ⊢
  rcases List.mem_append.1 hq with hq|hq
  ·
   exact hk q hq e
  ·
   rw [List.mem_singleton.1 hq]
theorem sameK_succ{l:List PatchM}{k:Nat}{x y:PatchM}(h:∀ q∈l.take k,x.id=q.id→x=q)(hy:l[k]? = some y)(he:x.id=y.id→x=y):∀ q∈l.take (k+1),x.id=q.id→x=q:=by
 rw [take_succ' hy]
 intro q hq
 rcases List.mem_append.1 hq with hq|hq
 ·
  exact h q hq
 ·
  rw [List.mem_singleton.1 hq];exact he
theorem turn_few{l A:List PatchM}{m:Nat}(hf:fewL m l=true)(hA:∀ p∈A,p∈l)(hl:A.length≤m):(idsM A).length≤60*m∧(edgesM A).length≤60*m:=by
 have h60:∀ p∈A,p.ops.length≤60:=fun p hp=>(fewL_ops hf (hA p hp)).1
 have h1:=idsOf_few A 60 h60
 have h2:=edgesOf_few A 60 h60
 have h3:(idsM A).length≤(idsOf A).length:=setS_few _
 have h4:(edgesM A).length≤(edgesOf A).length:=setS_few _
 have:=Nat.mul_le_mul_left 60 hl
 omega
theorem roundA_few(l:List PatchM)(r:Nat):(rounds l r).length≤l.length:=by rw [← stA_zero];exact stA_few l r 0
theorem roundB_few(l:List PatchM)(fr r:Nat):(rounds (turnL l fr) r).length≤l.length:=by rw [← stB_zero];exact stB_few l fr r 0
theorem turn_in{l:List PatchM}(fr r:Nat):∀ p∈rounds (turnL l fr) r,p∈l:=rounds_in _ (fun p hp=>(turn_mem l fr p).1 hp) r
attribute [local irreducible] idsM filesM linesM relM vertsM edgesM fewL lnSeen lnOdd flawsM allM rounds turnL stA stB applyM
set_option maxHeartbeats 40000000 in
set_option maxRecDepth 100000 in
theorem rtu_any(v:Value)(fr:Nat)(ps:List LaidP)(w:World)(hv:Pats w v ps)(hz:∀ x∈ps,∀ o∈x.p.ops,o.text.size≤maxLen)(hfr:fr<256)(ht:Tab w)
  (hwk:∀ W,Tab W→Calls Tryz.prog 20 #[] W fun e w'=>e=.returned (.bool true)∧Below W.heap.size W w') :
  Calls Tryz.prog 7 #[v,.int .u8 fr] w fun e w'=>e=.returned (.bool true)∧Below w.heap.size w w':=by
 have hfew:=Lib.hid (few20_any v ps 16 (by omega) w hv hz)
 have HV:=Lib.hid hv
 have HWk:=Lib.hid hwk
 have HT:=Lib.hid ht
 clear hwk ht
 cases hf:fewL 16 (ps.map (·.p)) with
 | false =>
  rw [hf] at hfew
  clear hv hz hf
  go_enter Tryz.func7,Tryz.ntmps7
  go_wp2_with fail
  refine hfew.out.mono ?_
  rintro e w1 ⟨rfl,hb1⟩
  have HB1:=Lib.hid hb1
  have HT1:=Lib.hid (HT.out.over hb1)
  clear hb1 hfew
  unfold b01
  go_wp2_with fail
  refine(HWk.out _ HT1.out).mono ?_
  rintro e w2 ⟨rfl,hb2⟩
  have HB2:=Lib.hid (below_over HB1.out HB1.out.size hb2)
  clear hb2
  go_wp2_with fail
  go_ret
  exact⟨rfl,HB2.out⟩
 | true =>
  rw [hf] at hfew
  have HF:=Lib.hid hf
  obtain⟨a,cap,rfl,h1,h2,hc⟩:=hv.1.at encPat_len
  unfold maxLen at h2
  have HC:=Lib.hid hc
  obtain⟨l,hl⟩:∃ l,ps.map (·.p)=l:=⟨_,rfl⟩
  have HL:=Lib.hid hl
  have hll:ps.length=l.length:=by rw [← hl,List.length_map]
  have hpl:l.length≤16:=by rw [← hl];exact fewL_len hf
  rw [hll] at h1 HC HV hfew
  rw [hll]
  have HLL:=Lib.hid hll
  rw [hl] at HF
  obtain⟨n,hn⟩:∃ n,l.length=n:=⟨_,rfl⟩
  have HN:=Lib.hid hn
  rw [hn] at h1 hpl HC HV hfew HLL
  rw [hn]
  have hwr:wrap64 (fr:Int)=(fr:Int):=by unfold wrap64;omega
  clear hv hz hf hc hl hll hn
  go_enter Tryz.func7,Tryz.ntmps7
  go_wp2_with fail
  refine hfew.out.mono ?_
  rintro e w2 ⟨rfl,hb1⟩
  have HB2:=Lib.hid hb1
  have HT2:=Lib.hid (HT.out.over hb1)
  clear hb1 hfew HT
  have HPo:Hid (∀ x∈ps,PatOk w2 x):=Lib.hid fun x hx=>⟨(HV.out.2 x hx).1.over HB2.out,(HV.out.2 x hx).2.over HB2.out⟩
  unfold b01
  go_wp2_with fail
  go_loopw [5] (fun v5 wr=>RuI w2 l v5 wr) (fun v5 _=>n - (intOf v5).toNat)
  case atStart=>exact⟨0,Nat.zero_le _,rfl,Lib.hid (fun p hp=>absurd hp (by rw [List.take_zero];exact List.not_mem_nil)),Below.refl _ _⟩
  case round =>
   obtain⟨i,hi,rfl,HS,HB⟩:=hrel
   rename World=>wr
   rw [HN.out] at hi
   by_cases hlt:i<n
   ·
    obtain⟨bp,op,rfl,sp,hcp⟩:=HC.out.resolve_left (by omega)
    have HCP:=Lib.hid hcp
    obtain⟨x,hx⟩:=get_of_lt (show i<ps.length by rw [HLL.out];exact hlt)
    have HXi:=Lib.hid hx
    have HXl:Hid (l[i]? = some x.p):=Lib.hid (by rw [← HL.out,List.getElem?_map,hx];rfl)
    have HPx:=Lib.hid (HPo.out x (List.mem_of_getElem? hx))
    clear hcp hx
    go_wp2_with fail
    go_loopw [6] (fun v6 wq=>RuK w2 l x.p i v6 wq) (fun v6 _=>i - (intOf v6).toNat)
    case atStart=>exact⟨0,Nat.zero_le _,rfl,Lib.hid (fun q hq=>absurd hq (by rw [List.take_zero];exact List.not_mem_nil)),HB⟩
    case round =>
     obtain⟨k,hk,rfl,HK,HBq⟩:=hrel
     rename World=>wq
     by_cases hlk:k<i
     ·
      obtain⟨y,hy⟩:=get_of_lt (show k<ps.length by rw [HLL.out];omega)
      have HYl:Hid (l[k]? = some y.p):=Lib.hid (by rw [← HL.out,List.getElem?_map,hy];rfl)
      have HPy:=Lib.hid (HPo.out y (List.mem_of_getElem? hy))
      have HBw:=Lib.hid (below_over HB2.out HB2.out.size HBq.out)
      have HRx:=Lib.hid (HCP.out i x HXi.out wq HBw.out)
      have HRy:=Lib.hid (HCP.out k y hy wq HBw.out)
      have x0:wq.cell? ⟨bp,op+i*4,none⟩=some (.int .u8 x.p.id.author.toNat):=(HRx.out).2 0 _ rfl
      have x1:wq.cell? ⟨bp,op+i*4+1,none⟩=some (.int .u16 x.p.id.seq.toNat):=(HRx.out).2 1 _ rfl
      have x2:wq.cell? ⟨bp,op+i*4+2,none⟩=some x.dv:=(HRx.out).2 2 _ rfl
      have x3:wq.cell? ⟨bp,op+i*4+3,none⟩=some x.ov:=(HRx.out).2 3 _ rfl
      have y0:wq.cell? ⟨bp,op+k*4,none⟩=some (.int .u8 y.p.id.author.toNat):=(HRy.out).2 0 _ rfl
      have y1:wq.cell? ⟨bp,op+k*4+1,none⟩=some (.int .u16 y.p.id.seq.toNat):=(HRy.out).2 1 _ rfl
      have y2:wq.cell? ⟨bp,op+k*4+2,none⟩=some y.dv:=(HRy.out).2 2 _ rfl
      have y3:wq.cell? ⟨bp,op+k*4+3,none⟩=some y.ov:=(HRy.out).2 3 _ rfl
      have sx:=HRx.out.1
      have hkn:k<n:=by omega
      have HSm:Hid (∀ W,Below wq.heap.size wq W→Calls Tryz.prog 31 #[patV x.p.id x.dv x.ov,patV y.p.id y.dv y.ov] W fun e w'=>e=.returned (.bool (decide (x.p=y.p)))∧Below W.heap.size W w'):=Lib.hid fun W hb=>by
       have hb2:=below_over HBq.out HBq.out.size hb
       exact psame_any x y W ⟨HPx.out.1.over hb2,HPx.out.2.over hb2⟩ ⟨HPy.out.1.over hb2,HPy.out.2.over hb2⟩
      have HTq:=Lib.hid (HT2.out.over HBq.out)
      have gd:=fun p q xs ys w=>guard_pid .eql p q xs ys w
      clear hy
      by_cases hid:x.p.id=y.p.id
      ·
       have he:=eql_pid x.p.id y.p.id true (decide_eq_true hid)
       unfold pidV at he
       by_cases hxy:x.p=y.p
       ·
        rw [decide_eq_true hxy] at HSm
        have HK2:=Lib.hid (sameK_succ HK.out HYl.out fun _=>hxy)
        clear hid hxy
        go_upto_region 9 with(fail)
        have hcur:Below wq.heap.size wq wq.drew:=(Below.refl _ _).drew
        refine wp_region_lex (C:=IsOver wq) 23 [] (by kernel_rfl) (by kernel_rfl) (isOver_of hcur) ?_
        simp only [List.take_succ_cons,List.take_zero,List.drop_succ_cons,List.drop_zero]
        repeat(first|(refine lex_skip rfl rfl ?_;simp only [Act.put,List.setIfInBounds_toArray,List.set_cons_succ,List.set_cons_zero])|(refine lex_one rfl ?_;go_big_quiet_step (fail);refine wpQuiet_nil ?_)|(refine lex_loud rfl ?_;go_wp2_with (first|(go_at_call 31;(with_reducible refine(HSm.out _ hcur).mono ?_);rintro e w' ⟨rfl,hb⟩;replace hcur:=below_over hcur hcur.size hb;clear hb));refine⟨isOver_of hcur,?_⟩))
        refine lex_end ?_
        go_wp2_with fail
        go_roundw
        case rel=>exact⟨k+1,hlk,by go_num,HK2,Lib.hid (below_over HBq.out HBq.out.size hcur)⟩
        case measure=>simp [intOf];omega
       ·
        rw [decide_eq_false hxy] at HSm
        clear hid hxy
        go_upto_region 9 with(fail)
        have hcur:Below wq.heap.size wq wq.drew:=(Below.refl _ _).drew
        refine wp_region_lex (C:=IsOver wq) 23 [] (by kernel_rfl) (by kernel_rfl) (isOver_of hcur) ?_
        simp only [List.take_succ_cons,List.take_zero,List.drop_succ_cons,List.drop_zero]
        repeat(first|(refine lex_skip rfl rfl ?_;simp only [Act.put,List.setIfInBounds_toArray,List.set_cons_succ,List.set_cons_zero])|(refine lex_one rfl ?_;go_big_quiet_step (fail);refine wpQuiet_nil ?_)|(refine lex_loud rfl ?_;go_wp2_with (first|(go_at_call 31;(with_reducible refine(HSm.out _ hcur).mono ?_);rintro e w' ⟨rfl,hb⟩;replace hcur:=below_over hcur hcur.size hb;clear hb));refine⟨isOver_of hcur,?_⟩))
        refine lex_end ?_
        go_wp2_with fail
        refine(HWk.out _ (HTq.out.over hcur)).mono ?_
        rintro e w5 ⟨rfl,hb5⟩
        have HB5:=Lib.hid (below_over hcur hcur.size hb5)
        clear hb5 hcur
        go_wp2_with fail
        go_ret
        exact⟨rfl,below_over HBw.out HBw.out.size HB5.out⟩
      ·
       have he:=eql_pid x.p.id y.p.id false (decide_eq_false hid)
       unfold pidV at he
       have HK2:=Lib.hid (sameK_succ HK.out HYl.out fun q=>absurd q hid)
       clear hid
       go_upto_region 9 with(fail)
       have hcur:Below wq.heap.size wq wq.drew:=(Below.refl _ _).drew
       refine wp_region_lex (C:=IsOver wq) 23 [] (by kernel_rfl) (by kernel_rfl) (isOver_of hcur) ?_
       simp only [List.take_succ_cons,List.take_zero,List.drop_succ_cons,List.drop_zero]
       repeat(first|(refine lex_skip rfl rfl ?_;simp only [Act.put,List.setIfInBounds_toArray,List.set_cons_succ,List.set_cons_zero])|(refine lex_one rfl ?_;go_big_quiet_step (fail);refine wpQuiet_nil ?_)|(refine lex_loud rfl ?_;go_wp2_with (first|(fail));refine⟨isOver_of hcur,?_⟩))
       refine lex_end ?_
       go_wp2_with fail
       go_roundw
       case rel=>exact⟨k+1,hlk,by go_num,HK2,Lib.hid (below_over HBq.out HBq.out.size hcur)⟩
       case measure=>simp [intOf];omega
     ·
      obtain rfl:k=i:=by omega
      go_wp2_with fail
      go_roundw
      case rel=>exact⟨k+1,by rw [HN.out];exact hlt,by go_num,Lib.hid (sameId_succ HS.out HXl.out HK.out),HBq⟩
      case measure=>simp [intOf];omega
   ·
    obtain rfl:i=n:=by omega
    have HSI:Hid (SameId l):=Lib.hid (by have:=HS.out;rwa [← HN.out,List.take_length] at this)
    clear HS hlt hi
    go_wp2_with fail
    refine(gnew_any _).mono ?_
    rintro e w3 ⟨b1,v1,e1,rfl,k1,k2,k3,hg1,hb3⟩
    have HB3:=Lib.hid (below_over HB.out HB.out.size hb3)
    have hs2:=HB.out.size
    have HA3:Hid (OneG w2 w3 b1 v1 e1 (rounds l 0)):=Lib.hid ⟨by omega,by omega,by omega,0,by omega,by unfold rounds;exact hg1⟩
    have l1:=hg1.arr.lt
    have l2:=hg1.verts.lt
    have l3:=hg1.edges.lt
    clear hg1 hb3
    go_wp2_with fail
    refine(gnew_any _).mono ?_
    rintro e w4 ⟨b2,v2,e2,rfl,m1,m2,m3,hg2,hb4⟩
    have HB4:=Lib.hid (below_over HB3.out HB3.out.size hb4)
    have hs3:=HB3.out.size
    have HA4:=Lib.hid (HA3.out.over hb4)
    have HBB4:Hid (OneG w2 w4 b2 v2 e2 (rounds (turnL l fr) 0)):=Lib.hid ⟨by omega,by omega,by omega,0,by omega,by unfold rounds;exact hg2⟩
    have HAp:Hid (Apart b1 v1 e1 b2 v2 e2):=Lib.hid fun k hk=>by rcases hk with rfl|rfl|rfl <;> omega
    clear hg2 hb4 HA3 HB3 k1 k2 k3 l1 l2 l3 m1 m2 m3 hs3 hs2
    go_wp2_with fail
    go_loopw [9] (fun v9 wr=>RuR w2 b1 v1 e1 b2 v2 e2 l fr v9 wr) (fun v9 _=>i+1 - (intOf v9).toNat)
    case atStart=>exact⟨0,Nat.zero_le _,rfl,HA4,HBB4,HB4⟩
    case round =>
     obtain⟨r,hr,rfl,HA,HBg,HBr⟩:=hrel
     rename World=>ws
     rw [HN.out] at hr
     by_cases hlr:r≤i
     ·
      go_wp2_with fail
      go_loopw [10] (fun v10 wq=>RuJ w2 b1 v1 e1 b2 v2 e2 l fr r v10 wq) (fun v10 _=>i - (intOf v10).toNat)
      case atStart=>exact⟨0,Nat.zero_le _,rfl,Lib.hid (by rw [stA_zero];exact HA.out),Lib.hid (by rw [stB_zero];exact HBg.out),HBr⟩
      case round =>
       obtain⟨j,hj,rfl,HAj,HBj,HBq⟩:=hrel
       rename World=>wq
       rw [HN.out] at hj
       by_cases hlj:j<i
       ·
        obtain⟨bp,op,rfl,sp,hcp⟩:=HC.out.resolve_left (by omega)
        have HCP:=Lib.hid hcp
        obtain⟨x,hx⟩:=get_of_lt (show j<ps.length by rw [HLL.out];exact hlj)
        obtain⟨kx,hkx⟩:∃ kx,kx=(i - 1 - j+fr) % i:=⟨_,rfl⟩
        have hki:kx<i:=by rw [hkx];exact Nat.mod_lt _ (by omega)
        obtain⟨y,hy⟩:=get_of_lt (show kx<ps.length by rw [HLL.out];exact hki)
        have HXl:Hid (l[j]? = some x.p):=Lib.hid (by rw [← HL.out,List.getElem?_map,hx];rfl)
        have HYl:Hid (l[kx]? = some y.p):=Lib.hid (by rw [← HL.out,List.getElem?_map,hy];rfl)
        have HSA:Hid (stA l r (j+1)=applyM (stA l r j) x.p):=Lib.hid (stA_succ HXl.out)
        have HSB:Hid (stB l fr r (j+1)=applyM (stB l fr r j) y.p):=Lib.hid (stB_succ (by rw [HN.out,← hkx];exact HYl.out))
        have HPx:=Lib.hid (HPo.out x (List.mem_of_getElem? hx))
        have HPy:=Lib.hid (HPo.out y (List.mem_of_getElem? hy))
        have HZx:=Lib.hid (fewL_ops HF.out (List.mem_of_getElem? HXl.out))
        have HZy:=Lib.hid (fewL_ops HF.out (List.mem_of_getElem? HYl.out))
        have hmt:((i:Int) - 1 - (j:Int)+(fr:Int)).tmod (i:Int)=(kx:Int):=by rw [hkx,Int.tmod_eq_emod_of_nonneg (by omega),show(i:Int) - 1 - (j:Int)+(fr:Int)=((i - 1 - j+fr:Nat):Int) by omega];rfl
        have gl0:((i:Int) == 0)=false:=by rw [beq_eq_false_iff_ne];omega
        have HBw:=Lib.hid (below_over HB2.out HB2.out.size HBq.out)
        have HRx:=Lib.hid (hcp j x hx wq HBw.out)
        have HY:=Lib.hid hy
        have HAp1:Hid (Calls Tryz.prog 33 #[.pointer (some ⟨b1,0,none⟩),patV x.p.id x.dv x.ov] wq (Ap3 w2 wq b1 v1 e1 (applyM (stA l r j) x.p))):=Lib.hid (gapply3 b1 v1 e1 _ (stA_wf l r j) x w2 wq HAj.out HPx.out HBq.out (by have:=HZx.out.1;omega) (fun o ho=>Nat.le_trans (HZx.out.2 o ho) (by unfold maxLen;omega)) (by have:=stA_few l r j;rw [HN.out] at this;omega))
        have x0:wq.cell? ⟨bp,op+j*4,none⟩=some (.int .u8 x.p.id.author.toNat):=(HRx.out).2 0 _ rfl
        have x1:wq.cell? ⟨bp,op+j*4+1,none⟩=some (.int .u16 x.p.id.seq.toNat):=(HRx.out).2 1 _ rfl
        have x2:wq.cell? ⟨bp,op+j*4+2,none⟩=some x.dv:=(HRx.out).2 2 _ rfl
        have x3:wq.cell? ⟨bp,op+j*4+3,none⟩=some x.ov:=(HRx.out).2 3 _ rfl
        have sx:=HRx.out.1
        clear hcp hx hy hkx HRx
        go_wp2_with fail
        refine HAp1.out.mono ?_
        rintro e w6 ⟨⟨q6,rfl⟩,hA6,hx6⟩
        have HB6:Hid (Below w2.heap.size w2 w6):=Lib.hid (hx6.low HBq.out hA6.1 hA6.2.1 hA6.2.2.1)
        have HA6:Hid (OneG w2 w6 b1 v1 e1 (stA l r (j+1))):=Lib.hid (by rw [HSA.out];exact hA6)
        have HB6b:=Lib.hid (HBj.out.bex HAp.out hx6)
        have HBw6:=Lib.hid (below_over HB2.out HB2.out.size HB6.out)
        have HRy:=Lib.hid (HCP.out kx y HY.out w6 HBw6.out)
        have HAp2:Hid (Calls Tryz.prog 33 #[.pointer (some ⟨b2,0,none⟩),patV y.p.id y.dv y.ov] w6 (Ap3 w2 w6 b2 v2 e2 (applyM (stB l fr r j) y.p))):=Lib.hid (gapply3 b2 v2 e2 _ (stB_wf l fr r j) y w2 w6 HB6b.out HPy.out HB6.out (by have:=HZy.out.1;omega) (fun o ho=>Nat.le_trans (HZy.out.2 o ho) (by unfold maxLen;omega)) (by have:=stB_few l fr r j;rw [HN.out] at this;omega))
        clear hA6 hx6 x0 x1 x2 x3 sx
        have y0:w6.cell? ⟨bp,op+kx*4,none⟩=some (.int .u8 y.p.id.author.toNat):=(HRy.out).2 0 _ rfl
        have y1:w6.cell? ⟨bp,op+kx*4+1,none⟩=some (.int .u16 y.p.id.seq.toNat):=(HRy.out).2 1 _ rfl
        have y2:w6.cell? ⟨bp,op+kx*4+2,none⟩=some y.dv:=(HRy.out).2 2 _ rfl
        have y3:w6.cell? ⟨bp,op+kx*4+3,none⟩=some y.ov:=(HRy.out).2 3 _ rfl
        have sy:=HRy.out.1
        clear HRy
        go_wp2_with fail
        refine HAp2.out.mono ?_
        rintro e w7 ⟨⟨q7,rfl⟩,hB7,hx7⟩
        have HB7:Hid (Below w2.heap.size w2 w7):=Lib.hid (hx7.low HB6.out hB7.1 hB7.2.1 hB7.2.2.1)
        have HBB7:Hid (OneG w2 w7 b2 v2 e2 (stB l fr r (j+1))):=Lib.hid (by rw [HSB.out];exact hB7)
        have HA7:=Lib.hid (HA6.out.bex HAp.out.symm hx7)
        clear hB7 hx7 y0 y1 y2 y3 sy hmt gl0
        go_wp2_with fail
        go_roundw
        case rel=>exact⟨j+1,by rw [HN.out];exact hlj,by go_num,HA7,HBB7,HB7⟩
        case measure=>simp [intOf];omega
       ·
        obtain rfl:j=i:=by omega
        go_wp2_with fail
        go_roundw
        case rel=>exact⟨r+1,by rw [HN.out];omega,by go_num,Lib.hid (by rw [← stA_all,HN.out];exact HAj.out),Lib.hid (by rw [← stB_all,HN.out];exact HBj.out),HBq⟩
        case measure=>simp [intOf];omega
     ·
      obtain rfl:r=i+1:=by omega
      have HSame:=Lib.hid (turns_same (l:=l) (s:=l) (s':=turnL l fr) HSI.out (fun p=>Iff.rfl) (turn_mem l fr))
      rw [HN.out] at HSame
      have HWA:=Lib.hid (rounds_wf l (i+1))
      have HWB:=Lib.hid (rounds_wf (turnL l fr) (i+1))
      have HfA:=Lib.hid (turn_few HF.out (rounds_in (l:=l) l (fun p hp=>hp) (i+1)) (Nat.le_trans (roundA_few l (i+1)) (by rw [HN.out];exact hpl)))
      have HfB:=Lib.hid (turn_few HF.out (turn_in (l:=l) fr (i+1)) (Nat.le_trans (roundB_few l fr (i+1)) (by rw [HN.out];exact hpl)))
      generalize rounds l (i+1)=A at *
      generalize rounds (turnL l fr) (i+1)=B at *
      have HTr:=Lib.hid (HT2.out.over HBr.out)
      have HBw:=Lib.hid (below_over HB2.out HB2.out.size HBr.out)
      have HGa:=Lib.hid HA.out.is
      have HGb:=Lib.hid HBg.out.is
      have HFl:Hid (flawsM A=flawsM B):=Lib.hid (flaws_same HSame.out.1 HSame.out.2.1 HSame.out.2.2.2)
      clear hr hlr HA HBg
      go_wp2_with fail
      refine(rtree_any b1 A ws HGa.out HWA.out (by have:=HfA.out;omega) (by have:=HfA.out;omega) HTr.out).mono ?_
      rintro e wA ⟨vA,tA,rfl,hiA,hfA,hbA⟩
      have HiA:=Lib.hid hiA
      have HFA:=Lib.hid hfA.frow
      have HBA:=Lib.hid hbA
      clear hiA hfA hbA
      go_wp2_with fail
      refine(rtree_any b2 B wA (HGb.out.over HBA.out) HWB.out (by have:=HfB.out;omega) (by have:=HfB.out;omega) (HTr.out.over HBA.out)).mono ?_
      rintro e wB ⟨vB,tB,rfl,hiB,hfB,hbB⟩
      obtain rfl:tA=tB:=tree_same HSame.out.1 HSame.out.2.1 HSame.out.2.2.2 HiA.out hiB
      have HFB:=Lib.hid hfB.frow
      have HFA2:=Lib.hid (HFA.out.over hbB)
      have HBB:=Lib.hid (below_over HBA.out HBA.out.size hbB)
      clear hiB hfB hbB
      go_wp2_with fail
      refine(rsame_any vA vB tA tA wB HFA2.out HFB.out).mono ?_
      rw [sameT_t (rfl:tA=tA)]
      rintro e wC ⟨rfl,hbC⟩
      have HBC:=Lib.hid (below_over HBB.out HBB.out.size hbC)
      clear hbC
      go_wp2_with fail
      refine(rflaws_any b1 A wC (HGa.out.over HBC.out) HWA.out (by have:=HfA.out;omega) (by have:=HfA.out;omega) (HTr.out.over HBC.out)).mono ?_
      rintro e wD ⟨vD,rfl,hoD,hbD⟩
      have HOD:=Lib.hid hoD.row
      have HBD:=Lib.hid (below_over HBC.out HBC.out.size hbD)
      clear hoD hbD
      go_wp2_with fail
      refine(rflaws_any b2 B wD (HGb.out.over HBD.out) HWB.out (by have:=HfB.out;omega) (by have:=HfB.out;omega) (HTr.out.over HBD.out)).mono ?_
      rintro e wE ⟨vE,rfl,hoE,hbE⟩
      have HOE:=Lib.hid hoE.row
      have HOD2:=Lib.hid (HOD.out.over hbE)
      have HBE:=Lib.hid (below_over HBD.out HBD.out.size hbE)
      clear hoE hbE
      go_wp2_with fail
      refine(flawed_any vD vE (flawsM A) (flawsM B) wE HOD2.out HOE.out).mono ?_
      rw [decide_eq_true HFl.out,show numB true=.int .i64 1 from rfl]
      rintro e wF ⟨rfl,hbF⟩
      have HBF:=Lib.hid (below_over HBE.out HBE.out.size hbF)
      clear hbF
      go_wp2_with fail
      refine(HWk.out wF (HTr.out.over HBF.out)).mono ?_
      rintro e wG ⟨rfl,hbG⟩
      have HBG:=Lib.hid (below_over HBF.out HBF.out.size hbG)
      clear hbG
      go_wp2_with fail
      go_ret
      exact⟨rfl,below_over HBw.out HBw.out.size HBG.out⟩
end Go.Proofs.YtanfebljiblhbaaGreatDoor
namespace Go.Proofs.YtanfebljiblhbaaGreatDoor
open Go Go.ChangeShapes Go.WideShapes Go.ChangeAt Go.RowKit
open Go.ChangeMaps (open_string)

theorem own:ownKnob Tryz.prog.godebug=none:=by kernel_rfl
theorem gTab : Tryz.prog.globalNamed "internal/strconv.uint64pow10" = some 0 := by kernel_rfl
theorem gTabT:(Tryz.prog.globals[0]?).map (·.type)=some 334:=by kernel_rfl
theorem tab_eq:(Rows.laid_internal_strconv_uint64pow10:DataW Unit)=Lib.tabData .u64 Lib.pow10Tab:=by kernel_rfl
theorem tab_of{W:World}(hL:laidMet Tryz.prog Rows.renderTurnsRow.laid W):Tab W:=by
 have h := hL.filter (fun x => x.1 == "internal/strconv.uint64pow10")
 rw [show Rows.renderTurnsRow.laid.filter (fun x => x.1 == "internal/strconv.uint64pow10") = [("internal/strconv.uint64pow10", Rows.laid_internal_strconv_uint64pow10)] from by kernel_rfl, tab_eq] at h
 exact Lib.tabIs_of_head gTab gTabT Tryz.underlying334 Tryz.underlying248 (by kernel_rfl) (by kernel_rfl) h
section
variable {H : Type} {enc : TypeId × Value → H} {W : World} {base : Nat} {v : Value} {d : DataW H} {ps : List MemPlace}
set_option maxRecDepth 100000 in
theorem u8_arg(hv:Value.okWide Tryz.prog W .any base 5 v)(h:DataW.Trod enc Tryz.prog W 0 (fun _=>true) true 5 v d ps):∃ b:UInt8,v=.int .u8 b.toNat:=by
 obtain⟨z,rfl⟩:=okWide_int Tryz.underlying5 hv
 obtain⟨fuel,hf⟩:=h
 have hf':DataW.trod enc Tryz.prog W 0 (fun _=>true) true fuel 5 [.int .u8 z]=some _:=hf
 obtain⟨z',hz,_,hw⟩:=DataW.trod_int Tryz.underlying5 hf'
 simp at hz
 subst hz
 obtain⟨b,rfl⟩:=u8_wf hw
 exact⟨b,rfl⟩
end
set_option maxRecDepth 100000 in
theorem contract_RenderTurns(H:Type)(enc:TypeId × Value→H)(W:World)(base:Nat)(args:Array Value)(ds gs:List (DataW H))(before:List MemPlace)
  (hval:∀(j:Nat) t v,Tryz.f7.params[j]? = some t→args[j]? = some v→Value.okWide Tryz.prog W .any base t v)
  (hW:DataW.Whole enc Tryz.prog Tryz.f7.params.toList Rows.renderTurnsSpec.vars false W args.toList ds gs before) (hL:laidMet Tryz.prog Rows.renderTurnsRow.laid W) :
  Calls Tryz.prog 7 args W fun e W'=>∃ v,e=.returned v∧Rows.renderTurnsSpec.post enc Tryz.prog Tryz.f7 false true false false W args v W':=by
 have hW':=hW
 obtain⟨p,q,hA0,hV,rfl,hfz,hnd⟩:=hW
 have hA:DataW.TrodAll enc Tryz.prog W 0 (fun _=>true) true Tryz.f7.params.toList args.toList ds p:=hA0
 rw [Tryz.params7] at hA hval
 obtain⟨v0,v1,d0,d1,p0,p1,rfl,rfl,rfl,h0,h1⟩:=trodAll_two hA
 obtain⟨rfl,rfl⟩:=trodVars_none hV
 obtain⟨ps,hp,hz⟩:=pats_arg (hval 0 22 v0 rfl rfl) h0
 obtain⟨k8,rfl⟩:=u8_arg (hval 1 5 v1 rfl rfl) h1
 refine(rtu_any v0 k8.toNat ps W hp hz k8.toNat_lt (tab_of hL) works25_any).mono fun e W' ⟨he,hb⟩=>⟨_,he,?_⟩
 exact law_post (by kernel_rfl) Tryz.underlying4 rfl laidOut (by kernel_rfl) rfl hW' hb

/-- a row's cells written anew -/
def putCells(cs:Array Value):Obj→Obj
 | .cells _ t fr=>.cells cs t fr
 | o=>o
def cells_laid_math_bits_deBruijn32tab:Array Value:=#[.int .u8 0,.int .u8 1,.int .u8 28,.int .u8 2,.int .u8 29,.int .u8 14,.int .u8 24,.int .u8 3,.int .u8 30,.int .u8 22,.int .u8 20,.int .u8 15,.int .u8 25,.int .u8 17,.int .u8 4,.int .u8 8,.int .u8 31,.int .u8 27,.int .u8 13,.int .u8 23,.int .u8 21,.int .u8 19,.int .u8 16,.int .u8 7,.int .u8 26,.int .u8 12,.int .u8 18,.int .u8 6,.int .u8 11,.int .u8 5,.int .u8 10,.int .u8 9]
def cells_laid_math_bits_deBruijn64tab:Array Value:=#[.int .u8 0,.int .u8 1,.int .u8 56,.int .u8 2,.int .u8 57,.int .u8 49,.int .u8 28,.int .u8 3,.int .u8 61,.int .u8 58,.int .u8 42,.int .u8 50,.int .u8 38,.int .u8 29,.int .u8 17,.int .u8 4,.int .u8 62,.int .u8 47,.int .u8 59,.int .u8 36,.int .u8 45,.int .u8 43,.int .u8 51,.int .u8 22,.int .u8 53,.int .u8 39,.int .u8 33,.int .u8 30,.int .u8 24,.int .u8 18,.int .u8 12,.int .u8 5,.int .u8 63,.int .u8 55,.int .u8 48,.int .u8 27,.int .u8 60,.int .u8 41,.int .u8 37,.int .u8 16,.int .u8 46,.int .u8 35,.int .u8 44,.int .u8 21,.int .u8 52,.int .u8 32,.int .u8 23,.int .u8 11,.int .u8 54,.int .u8 26,.int .u8 40,.int .u8 15,.int .u8 34,.int .u8 20,.int .u8 31,.int .u8 10,.int .u8 25,.int .u8 14,.int .u8 19,.int .u8 9,.int .u8 13,.int .u8 8,.int .u8 7,.int .u8 6]
def cells_laid_internal_strconv_uint64pow10:Array Value:=#[.int .u64 1,.int .u64 10,.int .u64 100,.int .u64 1000,.int .u64 10000,.int .u64 100000,.int .u64 1000000,.int .u64 10000000,.int .u64 100000000,.int .u64 1000000000,.int .u64 10000000000,.int .u64 100000000000,.int .u64 1000000000000,.int .u64 10000000000000,.int .u64 100000000000000,.int .u64 1000000000000000,.int .u64 10000000000000000,.int .u64 100000000000000000,.int .u64 1000000000000000000,.int .u64 10000000000000000000]
/-- a world for the witness -/
noncomputable def laidWorld(os:Os):World:=
 {(World.holding Tryz.prog os ⟨#[],#[],[]⟩) with heap:=((((World.holding Tryz.prog os ⟨#[],#[],[]⟩).heap.modify 2 (putCells cells_laid_math_bits_deBruijn32tab)).modify 3 (putCells cells_laid_math_bits_deBruijn64tab)).modify 0 (putCells cells_laid_internal_strconv_uint64pow10))}
theorem plain_of{b:Bool}{f0:FuncId}{fn0:Func}{name:String}(h0:Tryz.prog.funcNamed name=some f0)(h1:Tryz.prog.funcs[f0]? = some fn0)(h2:fn0.params.toList.all (fun t => !Tryz.prog.wantsStandIn t)=true)
  (h3:b=Tryz.pinned.checked.prog.looks []) (f:FuncId) (fn:Func) (hf:Tryz.pinned.checked.prog.funcNamed name=some f) (hfn:Tryz.pinned.checked.prog.funcs[f]? = some fn) :
  b=Tryz.pinned.checked.prog.looks []∧∀(j:Nat) t,fn.params[j]? = some t→Tryz.pinned.checked.prog.wantsStandIn t=false:=by
 obtain rfl:f=f0:=Option.some.inj ((show Tryz.prog.funcNamed name=some f0 from h0).symm.trans hf) |>.symm
 obtain rfl:fn=fn0:=(Option.some.inj (h1.symm.trans hfn)).symm
 refine⟨h3,fun j t ht => ?_⟩
 have:=List.all_eq_true.1 h2 t (by simpa using Array.mem_of_getElem? ht)
 show Tryz.prog.wantsStandIn t=false
 simpa using this
namespace fnRenderTurns
set_option maxRecDepth 100000 in
theorem laid_met(os:Os):laidMet Tryz.prog Rows.renderTurnsRow.laid ((laidWorld os).forCall (fun _ _=>0) ⟨#[],#[.slice none 0 0,.int .u8 0],[]⟩).memory:=
 laidMet_of_run' 8 (by kernel_rfl) (by kernel_rfl)
set_option maxRecDepth 100000 in
theorem reads(os:Os){H:Type}(enc:TypeId × Value→H):∃ places,DataW.whole enc Tryz.prog ((laidWorld os).forCall (fun _ _=>0) ⟨#[],#[.slice none 0 0,.int .u8 0],[]⟩).memory Tryz.f7.params.toList Rows.renderTurnsSpec.vars false (#[.slice none 0 0,.int .u8 0]:Array Value).toList 8=some ([.nil,.lit (.int .u8 0)],[],places):=
 ⟨[],by kernel_rfl⟩
set_option maxRecDepth 100000 in
theorem lifted(os:Os)(started:os.Started)(H:Type)(enc:TypeId × Value→H)(F:Stop.Interp) :
  ReturnsInHanded {} Tryz.checked os 7 .any ((OpenSpec.ofChange Rows.renderTurnsSpec).preRow enc Tryz.prog Tryz.f7 Rows.renderTurnsRow.domain false Rows.renderTurnsRow.laid) (((OpenSpec.ofChange Rows.renderTurnsSpec).at F).post enc Tryz.prog Tryz.f7 false true false false):=by
 obtain⟨places,hx⟩:=reads os enc
 refine returnsInHanded_of_row (C:=Tryz.checked) (s:=OpenSpec.ofChange Rows.renderTurnsSpec) own started (by kernel_rfl) Tryz.func7
  (witness_row_at (enc:=enc) (C:=Tryz.checked) false (laidWorld os) #[.slice none 0 0,.int .u8 0] rfl (by kernel_rfl) (by kernel_rfl) (by kernel_rfl)
   (OpenSpec.preRow_of_cond 8 hx (by kernel_rfl) (fun k hk=>by cases hk) (by kernel_rfl) (laid_met os))) ?_
 intro W base args ds gs before hval hW _ _ _ hL _ _
 exact contract_RenderTurns H enc W base args ds gs before hval hW hL
theorem c_laid:laidOutB Tryz.pinned.checked.prog=true:=by kernel_rfl
theorem c_maps:mapsRowed Tryz.pinned.checked.prog=true:=by kernel_rfl
theorem c_in:(Rows.renderTurnsRow.inPlace == Tryz.pinned.checked.prog.inPlace 7)=true:=by kernel_rfl
theorem c_unf:(Rows.renderTurnsRow.unfollowed == Tryz.pinned.checked.prog.unfollowed 7)=true:=by kernel_rfl
theorem c_rec:(Rows.renderTurnsRow.recurses == Tryz.pinned.checked.prog.recurses 7)=true:=by kernel_rfl
theorem c_nam:(Rows.renderTurnsRow.named == Tryz.pinned.checked.prog.varsNamed 7)=true:=by kernel_rfl
theorem c_keys:(Rows.renderTurnsRow.plainKeys == Tryz.pinned.checked.prog.plainKeys)=true:=by kernel_rfl
theorem c_heard:Tryz.pinned.checked.prog.stopsHeard=true:=by kernel_rfl
theorem c_may:Tryz.pinned.checked.prog.mayEnter=true:=by kernel_rfl
theorem c_lift:(Rows.renderTurnsRow.lifted == Tryz.pinned.checked.prog.liftsFinal)=true:=by kernel_rfl
/-- the closed facts of the row, the great ones each by itself (the kernel's memory) -/
theorem closed:joinedFacts Tryz.pinned.checked.prog 7 Tryz.f7 (OpenSpec.ofChange Rows.renderTurnsSpec).bare Rows.renderTurnsRow=true:=by
 unfold joinedFacts
 simp only [Bool.and_eq_true]
 repeat' apply And.intro
 all_goals with_reducible first|exact c_laid|exact c_maps|exact c_in|exact c_unf|exact c_rec|exact c_nam|exact c_keys|exact c_heard|exact c_may|exact c_lift|kernel_rfl
theorem said:Rows.RenderTurnsSaid:=
 OpenClaim.holds_of_cond 7 Tryz.f7 rfl rfl rfl rfl rfl rfl rfl ⟨rfl,rfl,rfl,rfl,rfl⟩ rfl rfl rfl rfl rfl (by kernel_rfl) Tryz.func7 closed
  (of_decide_eq_true (by kernel_rfl)) (by unfold Func.isWrapper;first|(rw [if_pos (by decide +kernel)];kernel_rfl)|(rw [if_neg (by decide +kernel)];exact⟨rfl,rfl⟩))
  (fun os started H enc _ F=>by rw [OpenClaim.pre_eq_preRow];exact lifted os started H enc F)
theorem card:Rows.RenderTurnsCardSaid:=
 Claim7.holds_tied_plain_at .later [] _ _ _ _ said (fun _ h => by cases h) (by kernel_rfl) (fun _ h => by cases h) renderTurns_row_tie rfl ⟨rfl, rfl⟩ (by kernel_rfl) rfl (plain_of (name := "bruit/bruitlaw25.RenderTurns") (by kernel_rfl) Tryz.func7 (by kernel_rfl) (by kernel_rfl)) (by kernel_rfl)
end fnRenderTurns


end Go.Proofs.YtanfebljiblhbaaGreatDoor
