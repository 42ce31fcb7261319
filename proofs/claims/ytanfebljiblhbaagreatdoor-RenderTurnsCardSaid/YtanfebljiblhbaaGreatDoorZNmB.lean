/- Contracts of slices.IndexFunc and DeleteFunc at vertices, names.Of. -/
import Derived.Test.YtanfebljiblhbaaGreatDoorZSomeB
import Derived.Test.YtanfebljiblhbaaGreatDoorZNmA
set_option linter.unusedVariables false
set_option linter.unusedSimpArgs false
namespace Go.Proofs.YtanfebljiblhbaaGreatDoor
open Go Go.RowKit

section
variable {P : Program} {ty : TypeId} {size : Nat} {w : World} {ops : Array Oper} {rest : List Oper} {o : Oper} {a : Act} {Q : Exit → Act → World → Prop}
/-- a struct stored at a place of a row of the call's own -/
theorem wpList_store_own(T:RowT P ty size)(hgd:o.guard=none)(x y:Operand)(ho:o.op=.store ty x y){B:Nat}{e:TypeId}{sz g n cap:Nat}{xs:List Value}(hA:OwnAt w B e sz g n cap xs)(k:Nat)(new:List Value)
  (hx:a.eval x=.pointer (some ⟨g,k,none⟩)) (hy:a.eval y=.agg new.toArray) (hn:new.length=size) (hk:k+new.length≤n*sz) (h1:∀ u∈new,u.oneCell'=true)
  (h:∀ w',OwnAt w' B e sz g n cap (xs.take k++new++xs.drop (k+new.length))→w.grownBy w' (some g)→w'.heap.size=w.heap.size→wpList P ops Q rest (a.put o.dst undef) w'):wpList P ops Q (o :: rest) a w:=by
 refine wpList_plain hgd fun K hK => ?_
 obtain⟨d,i,_,_,h3,h4⟩:=T.out
 obtain⟨w',hs,r1,r2,r3⟩:=hA.put (P:=P) h1 hk
 have hc:(Value.agg new.toArray).cells=new.toArray:=rfl
 have hr:(storeVar ty ⟨g,k,none⟩ (.agg new.toArray)).run P w=.ok () w':=by simp [storeVar,sizeOf,typeInfo,h3,h4,hc,hn,hs]
 unfold Oper.wp execOp
 simp only [ho,hx,hy,Instr.storeAt,Instr.sureAddr,Sem.run_bind,Sem.run_pure,Result.andThen_ok,hr]
 exact hK _ _ (h w' r1 r2 r3)
end
theorem oneZ_Vert:∀ u∈((.agg #[.int .u8 0,.int .u16 0,.int .u8 0,.int .u8 0,.int .u8 0,.int .u16 0,.int .u8 0,.string ⟨#[]⟩,.bool false]:Value).cells).toList,u.oneCell'=true:=List.all_eq_true.1 rfl
theorem zero_Vert:((Tryz.prog.info? 86).bind (·.zero))=some (.agg #[.int .u8 0,.int .u16 0,.int .u8 0,.int .u8 0,.int .u8 0,.int .u16 0,.int .u8 0,.string ⟨#[]⟩,.bool false]):=by kernel_rfl
set_option maxHeartbeats 4000000 in
set_option maxRecDepth 100000 in
theorem deadFn_any(x:VertM)(w:World):Calls Tryz.prog 116 #[vertV x] w fun e w'=>e=.returned (.bool x.dead)∧Below w.heap.size w w':=by
 have HX:=Lib.hid (arr_new w #[.int .u8 x.id.pid.author.toNat,.int .u16 x.id.pid.seq.toNat,.int .u8 x.id.n.toNat,.int .u8 x.kind.toNat,.int .u8 x.file.pid.author.toNat,.int .u16 x.file.pid.seq.toNat,.int .u8 x.file.n.toNat,.string x.text,.bool x.dead] 86)
 have HB:=Lib.hid (below_new (w:=w) (.cells #[.int .u8 x.id.pid.author.toNat,.int .u16 x.id.pid.seq.toNat,.int .u8 x.id.n.toNat,.int .u8 x.kind.toNat,.int .u8 x.file.pid.author.toNat,.int .u16 x.file.pid.seq.toNat,.int .u8 x.file.n.toNat,.string x.text,.bool x.dead] 86))
 unfold vertV
 go_enter Tryz.func116,Tryz.ntmps116
 go_upto_region 1 with(fail)
 generalize hw0:w.alloc (.cells #[.int .u8 x.id.pid.author.toNat,.int .u16 x.id.pid.seq.toNat,.int .u8 x.id.n.toNat,.int .u8 x.kind.toNat,.int .u8 x.file.pid.author.toNat,.int .u16 x.file.pid.seq.toNat,.int .u8 x.file.n.toNat,.string x.text,.bool x.dead] 86)=w0 at *
 clear hw0
 have c0:=HX.out.cell (j:=0) rfl
 have c1:=HX.out.cell (j:=1) rfl
 have c2:=HX.out.cell (j:=2) rfl
 have c3:=HX.out.cell (j:=3) rfl
 have c4:=HX.out.cell (j:=4) rfl
 have c5:=HX.out.cell (j:=5) rfl
 have c6:=HX.out.cell (j:=6) rfl
 have c7:=HX.out.cell (j:=7) rfl
 have c8:=HX.out.cell (j:=8) rfl
 have sc:=HX.out.lt
 go_wp2_with fail
 go_ret
 exact⟨rfl,HB.out⟩
def deadQ(x:VertM):Bool:=x.dead
def IdRes(w:World)(xs:List VertM)(e:Ending)(w':World):Prop:=e=.returned (.int .i64 (idxB deadQ xs))∧Below w.heap.size w w'
attribute [local irreducible] idxB
set_option maxHeartbeats 4000000 in
set_option maxRecDepth 100000 in
theorem idxDead_any(v:Value)(xs:List VertM)(w:World)(hv:GRow encVert 9 w v xs)(hl:xs.length≤1000000) :
  Calls Tryz.prog 179 #[v,.func (.func 116) #[] #[]] w (IdRes w xs):=by
 obtain⟨a,cap,rfl,h1,h2,hc⟩:=hv.at encVert_len
 unfold maxLen at h2
 have HC:=Lib.hid hc
 clear hv hc
 go_enter Tryz.func179,Tryz.ntmps179
 go_wp2_with fail
 go_loopw [8] (fun v8 wr=>∃ k:Nat,k≤xs.length∧v8=.int .i64 k∧Hid ((xs.take k).any deadQ=false)∧Below w.heap.size w wr) (fun v8 _=>xs.length - (intOf v8).toNat)
 case atStart=>exact⟨0,by omega,rfl,(by show _=_;simp),Below.refl _ _⟩
 case round =>
  obtain⟨k,hk,rfl,HK,hbl⟩:=hrel
  rename World=>wr
  by_cases hlt:k<xs.length
  ·
   obtain⟨b,off,rfl,sb,hcb⟩:=HC.out.resolve_left (by omega)
   obtain⟨u,hu⟩:=get_of_lt hlt
   have HU:=Lib.hid (hcb k u hu wr hbl)
   have u0:wr.cell? ⟨b,off+k*9,none⟩=some (.int .u8 u.id.pid.author.toNat):=(HU.out).2 0 _ rfl
   have u1:wr.cell? ⟨b,off+k*9+1,none⟩=some (.int .u16 u.id.pid.seq.toNat):=(HU.out).2 1 _ rfl
   have u2:wr.cell? ⟨b,off+k*9+2,none⟩=some (.int .u8 u.id.n.toNat):=(HU.out).2 2 _ rfl
   have u3:wr.cell? ⟨b,off+k*9+3,none⟩=some (.int .u8 u.kind.toNat):=(HU.out).2 3 _ rfl
   have u4:wr.cell? ⟨b,off+k*9+4,none⟩=some (.int .u8 u.file.pid.author.toNat):=(HU.out).2 4 _ rfl
   have u5:wr.cell? ⟨b,off+k*9+5,none⟩=some (.int .u16 u.file.pid.seq.toNat):=(HU.out).2 5 _ rfl
   have u6:wr.cell? ⟨b,off+k*9+6,none⟩=some (.int .u8 u.file.n.toNat):=(HU.out).2 6 _ rfl
   have u7:wr.cell? ⟨b,off+k*9+7,none⟩=some (.string u.text):=(HU.out).2 7 _ rfl
   have u8:wr.cell? ⟨b,off+k*9+8,none⟩=some (.bool u.dead):=(HU.out).2 8 _ rfl
   have su:=HU.out.1
   have HX:=Lib.hid hu
   clear hcb hu
   go_wp2_with fail
   refine(deadFn_any u _).mono ?_
   rintro e w1 ⟨rfl,hb1⟩
   have HB1:=Lib.hid (below_over hbl hbl.size hb1)
   clear hb1 u0 u1 u2 u3 u4 u5 u6 u7 u8 su
   cases hf:u.dead with
   | true =>
    have HI:=Lib.hid (idx_hit HK.out HX.out (f:=deadQ) hf)
    clear hf
    go_wp2_with fail
    go_ret
    exact⟨ret_int HI.out.symm,HB1.out⟩
   | false =>
    have HI:=Lib.hid (any_step HK.out HX.out (f:=deadQ) hf)
    clear hf
    go_wp2_with fail
    go_roundw
    case rel=>exact⟨k+1,hlt,by go_num,HI,HB1.out⟩
    case measure=>simp [intOf];omega
  ·
   obtain rfl:k=xs.length:=by omega
   have HI:=Lib.hid (idx_miss HK.out)
   go_wp2_with fail
   go_ret
   exact⟨ret_int HI.out.symm,hbl⟩

/-! ### taken out in place -/
def aliveQ(x:VertM):Bool := !x.dead
def keptV(xs:List VertM)(j:Nat):List VertM:=(xs.take j).filter aliveQ
theorem kept_yes{xs:List VertM}{j:Nat}{u:VertM}(h:xs[j]? = some u)(hd:u.dead=false):keptV xs (j+1)=keptV xs j++[u]:=by unfold keptV;rw [take_succ' h,List.filter_append];simp [aliveQ,hd]
theorem kept_no{xs:List VertM}{j:Nat}{u:VertM}(h:xs[j]? = some u)(hd:u.dead=true):keptV xs (j+1)=keptV xs j:=by unfold keptV;rw [take_succ' h,List.filter_append];simp [aliveQ,hd]
theorem kept_all(xs:List VertM):keptV xs xs.length=xs.filter aliveQ:=by unfold keptV;rw [List.take_length]
theorem idx_cases(xs:List VertM):(idxB deadQ xs = -1∧xs.filter aliveQ=xs)∨∃ k u,k<xs.length∧idxB deadQ xs=(k:Int)∧xs[k]? = some u∧u.dead=true∧keptV xs k=xs.take k:=by
 unfold idxB
 cases h:xs.findIdx? deadQ with
 | none =>
  rw [List.findIdx?_eq_none_iff] at h
  exact .inl ⟨rfl,List.filter_eq_self.2 fun x hx=>by have:=h x hx;unfold deadQ at this;simp [aliveQ,this]⟩
 | some k =>
  rw [List.findIdx?_eq_some_iff_getElem] at h
  obtain⟨hk,h1,h2⟩:=h
  refine .inr ⟨k,xs[k],hk,rfl,List.getElem?_eq_getElem hk,h1,?_⟩
  unfold keptV
  refine List.filter_eq_self.2 fun x hx => ?_
  obtain⟨j,hj,rfl⟩:=List.mem_iff_getElem.1 hx
  rw [List.length_take] at hj
  rw [List.getElem_take]
  have:=h2 j (by omega)
  unfold deadQ at this
  simp [aliveQ];simpa using this
def DelRes(w:World)(B:Nat)(v:Value)(xs:List VertM)(e:Ending)(w':World):Prop:=∃ v',e=.returned v'∧GOwn encVert 9 86 w' B v' (xs.filter aliveQ)∧w.grownBy w' v.ownBlock
def DelRel(w:World)(B g cap:Nat)(xs:List VertM)(v5 v6:Value)(wr:World):Prop:=
 ∃(m j:Nat) (zs:List VertM),j≤xs.length∧m<j∧v5=.int .i64 m∧v6=.int .i64 j∧zs.length=xs.length∧Hid (zs.take m=keptV xs j)∧Hid (∀ i,j≤i→zs[i]? = xs[i]?) ∧
  Hid (OwnAt wr B 86 9 g xs.length cap (zs.flatMap encVert))∧Hid (w.grownBy wr (some g))
attribute [local irreducible] keptV aliveQ
set_option maxHeartbeats 10000000 in
set_option maxRecDepth 100000 in
theorem delete_any{w:World}{B:Nat}{v:Value}{xs:List VertM}(h:GOwn encVert 9 86 w B v xs)(hn:xs.length≤1000000) :
  Calls Tryz.prog 115 #[v,.func (.func 116) #[] #[]] w (DelRes w B v xs):=by
 have HO:=Lib.hid h
 have hcon:=idxDead_any v xs w h.row hn
 unfold IdRes at hcon
 rcases idx_cases xs with⟨hi,hf⟩|⟨k0,u0,hk0,hi,hu0,hd0,hkp⟩
 ·
  rw [hi] at hcon
  have HF:=Lib.hid hf
  clear h hi hf
  go_enter Tryz.func115,Tryz.ntmps115
  go_wp2_with fail
  refine hcon.mono ?_
  rintro e w1 ⟨rfl,hb1⟩
  have HB1:=Lib.hid hb1
  clear hcon hb1
  go_wp2_with fail
  go_ret
  exact⟨_,rfl,(by rw [HF.out];exact HO.out.over HB1.out),grown_of_below HB1.out⟩
 ·
  rw [hi] at hcon
  obtain⟨g,cap,rfl,hA⟩:=own_at (show World.ownsRow _ _ _ _ _ _ _ from h) (by omega)
  have HA:=Lib.hid hA
  have hnc:=hA.nc
  have hcm:=hA.cm
  unfold maxLen at hcm
  have hg:=hA.lt
  have HK0:Hid (xs.take k0=keptV xs (k0+1)):=by show _=_;rw [kept_no hu0 hd0,hkp]
  clear h hi hA hu0 hd0 hkp
  go_enter Tryz.func115,Tryz.ntmps115
  go_wp2_with fail
  refine hcon.mono ?_
  rintro e w1 ⟨rfl,hb1⟩
  have HA1:=Lib.hid (HA.out.over hb1)
  have HG1:=Lib.hid (grown_of_below hb1 (row:=some g))
  have d0:((k0:Int) == -1)=false:=by simp <;> omega
  clear hcon hb1
  go_wp2_with fail
  go_loopw [5,6] (fun v5 v6 wr=>DelRel w B g cap xs v5 v6 wr) (fun _ v6 _=>xs.length - (intOf v6).toNat)
  case atStart=>exact⟨k0,k0+1,xs,hk0,Nat.lt_succ_self _,rfl,by go_num,rfl,HK0,Lib.hid (fun _ _=>rfl),HA1,HG1⟩
  case round =>
   obtain⟨m,j,zs,hj,hm,rfl,rfl,hz,HT,HJ,HI,HG⟩:=hrel
   rename World=>wr
   have sI:=HI.out.lt
   by_cases hlt:j<xs.length
   ·
    obtain⟨u,hu⟩:=get_of_lt hlt
    have hu2:zs[j]? = some u:=(HJ.out j (Nat.le_refl _)).trans hu
    have HU:=Lib.hid hu
    have u0:wr.cell? ⟨g,j*9,none⟩=some (.int .u8 u.id.pid.author.toNat):=HI.out.cell ((flat_get encVert_len _ j 0 u hu2 (by decide)).trans rfl)
    have u1:wr.cell? ⟨g,j*9+1,none⟩=some (.int .u16 u.id.pid.seq.toNat):=HI.out.cell ((flat_get encVert_len _ j 1 u hu2 (by decide)).trans rfl)
    have u2:wr.cell? ⟨g,j*9+2,none⟩=some (.int .u8 u.id.n.toNat):=HI.out.cell ((flat_get encVert_len _ j 2 u hu2 (by decide)).trans rfl)
    have u3:wr.cell? ⟨g,j*9+3,none⟩=some (.int .u8 u.kind.toNat):=HI.out.cell ((flat_get encVert_len _ j 3 u hu2 (by decide)).trans rfl)
    have u4:wr.cell? ⟨g,j*9+4,none⟩=some (.int .u8 u.file.pid.author.toNat):=HI.out.cell ((flat_get encVert_len _ j 4 u hu2 (by decide)).trans rfl)
    have u5:wr.cell? ⟨g,j*9+5,none⟩=some (.int .u16 u.file.pid.seq.toNat):=HI.out.cell ((flat_get encVert_len _ j 5 u hu2 (by decide)).trans rfl)
    have u6:wr.cell? ⟨g,j*9+6,none⟩=some (.int .u8 u.file.n.toNat):=HI.out.cell ((flat_get encVert_len _ j 6 u hu2 (by decide)).trans rfl)
    have u7:wr.cell? ⟨g,j*9+7,none⟩=some (.string u.text):=HI.out.cell ((flat_get encVert_len _ j 7 u hu2 (by decide)).trans rfl)
    have u8:wr.cell? ⟨g,j*9+8,none⟩=some (.bool u.dead):=HI.out.cell ((flat_get encVert_len _ j 8 u hu2 (by decide)).trans rfl)
    clear hu hu2
    go_upto_region 8 with(fail)
    have HA7:=Lib.hid (arr_new wr #[.int .u8 u.id.pid.author.toNat,.int .u16 u.id.pid.seq.toNat,.int .u8 u.id.n.toNat,.int .u8 u.kind.toNat,.int .u8 u.file.pid.author.toNat,.int .u16 u.file.pid.seq.toNat,.int .u8 u.file.n.toNat,.string u.text,.bool u.dead] 86)
    have HB7:=Lib.hid (below_new (w:=wr) (.cells #[.int .u8 u.id.pid.author.toNat,.int .u16 u.id.pid.seq.toNat,.int .u8 u.id.n.toNat,.int .u8 u.kind.toNat,.int .u8 u.file.pid.author.toNat,.int .u16 u.file.pid.seq.toNat,.int .u8 u.file.n.toNat,.string u.text,.bool u.dead] 86))
    generalize hw7:wr.alloc (.cells #[.int .u8 u.id.pid.author.toNat,.int .u16 u.id.pid.seq.toNat,.int .u8 u.id.n.toNat,.int .u8 u.kind.toNat,.int .u8 u.file.pid.author.toNat,.int .u16 u.file.pid.seq.toNat,.int .u8 u.file.n.toNat,.string u.text,.bool u.dead] 86)=w7 at *
    clear hw7 u0 u1 u2 u3 u4 u5 u6 u7 u8
    have y0:=HA7.out.cell (j:=0) rfl
    have y1:=HA7.out.cell (j:=1) rfl
    have y2:=HA7.out.cell (j:=2) rfl
    have y3:=HA7.out.cell (j:=3) rfl
    have y4:=HA7.out.cell (j:=4) rfl
    have y5:=HA7.out.cell (j:=5) rfl
    have y6:=HA7.out.cell (j:=6) rfl
    have y7:=HA7.out.cell (j:=7) rfl
    have y8:=HA7.out.cell (j:=8) rfl
    have sy:=HA7.out.lt
    go_wp2_with fail
    refine(deadFn_any u _).mono ?_
    rintro e w8 ⟨rfl,hb8⟩
    have HB8:=Lib.hid (below_over HB7.out HB7.out.size hb8)
    have HA8:=Lib.hid (HA7.out.over hb8)
    have HI8:=Lib.hid (HI.out.over HB8.out)
    have HG8:=Lib.hid (grown_trans HG.out (grown_of_below HB8.out (row:=some g)))
    clear hb8 y0 y1 y2 y3 y4 y5 y6 y7 y8 sy
    have z0:=HA8.out.cell (j:=0) rfl
    have z1:=HA8.out.cell (j:=1) rfl
    have z2:=HA8.out.cell (j:=2) rfl
    have z3:=HA8.out.cell (j:=3) rfl
    have z4:=HA8.out.cell (j:=4) rfl
    have z5:=HA8.out.cell (j:=5) rfl
    have z6:=HA8.out.cell (j:=6) rfl
    have z7:=HA8.out.cell (j:=7) rfl
    have z8:=HA8.out.cell (j:=8) rfl
    have sz:=HA8.out.lt
    cases hf:u.dead with
    | true =>
     have HK:=Lib.hid (kept_no HU.out hf)
     clear hf
     go_wp2_with fail
     go_roundw
     case rel=>exact⟨m,j+1,zs,hlt,by omega,rfl,by go_num,hz,(by show _=_;rw [HK.out];exact HT.out),Lib.hid (fun i hi=>HJ.out i (by omega)),HI8,HG8⟩
     case measure=>simp [intOf];omega
    | false =>
     have HK:=Lib.hid (kept_yes HU.out hf)
     have hml:m<zs.length:=by omega
     have HFs:=Lib.hid (flat_set encVert_len zs m u hml)
     have hel:=encVert_len u
     have hone:=oneVert u
     clear hf
     go_wp2_with ((with_reducible show wpList _ _ _ ({dst:=_,op:=.store _ _ _,type:=_,pos:=_,after:=_,guard:=_} :: _) _ _);(refine wpList_store_own rowVert rfl _ _ rfl HI8.out (m*9) (encVert u) rfl rfl rfl (by rw [hel];omega) hone ?_);intro w9 hI9 hg9 hs9)
     have HI9:Hid (OwnAt w9 B 86 9 g xs.length cap ((zs.set m u).flatMap encVert)):=by show OwnAt _ _ _ _ _ _ _ _;rw [HFs.out,show(m+1)*9=m*9+(encVert u).length by rw [hel];omega];exact hI9
     have HG9:=Lib.hid (grown_trans HG8.out hg9)
     clear hI9 hg9
     go_wp2_with fail
     go_roundw
     case rel=>exact⟨m+1,j+1,zs.set m u,hlt,by omega,by go_num,by go_num,by simpa using hz,(by show _=_;rw [take_set_end hml,HK.out,HT.out]),Lib.hid (fun i hi=>by rw [List.getElem?_set,if_neg (by omega)];exact HJ.out i (by omega)),HI9,HG9⟩
     case measure=>simp [intOf];omega
   ·
    obtain rfl:j=xs.length:=by omega
    have HE:Hid (zs.take m=xs.filter aliveQ):=by show _=_;rw [HT.out,kept_all]
    have hlen:(xs.filter aliveQ).length=m:=by rw [← HE.out,List.length_take];omega
    have HL:=Lib.hid hlen
    have HTk:=Lib.hid (HI.out.take (k:=m) (by omega))
    have hcm2:¬ cap=m:=by omega
    have HF:Hid ((zs.flatMap encVert).take (m*9)=(xs.filter aliveQ).flatMap encVert):=by
     show _=_
     rw [← HE.out]
     conv=>lhs;rw [← List.take_append_drop m zs,List.flatMap_append]
     have:((zs.take m).flatMap encVert).length=m*9:=by rw [flat_len encVert_len,List.length_take,Nat.min_eq_left (by omega)]
     rw [List.take_append_of_le_length (by omega),List.take_of_length_le (by omega)]
    clear hlen
    go_wp2_with (refine wpList_clear_at slVertP _ zero_Vert (zero_one oneZ_Vert) (fun k=>by rw [size_zeroCells];rfl) rfl _ rfl B g m cap _ HTk.out m _ _ _ rfl rfl (Nat.le_refl _) (by omega) ?_;intro w3 hA3 hg3 hs3)
    go_ret
    refine⟨_,rfl,?_,grown_trans HG.out hg3⟩
    show World.ownsRow _ _ _ _ _ _ _
    rw [HL.out,← HF.out]
    exact hA3.own

/-! ### the names of a file -/
set_option maxHeartbeats 4000000 in
set_option maxRecDepth 100000 in
theorem laterCmpG(a b:VertM)(w:World):Calls Tryz.prog 117 #[vertV a,vertV b] w fun e w'=>e=.returned (.int .i64 (cmpLater b.id a.id))∧Grew w w':=by
 have HA:=Lib.hid ((arr_new w #[.int .u8 a.id.pid.author.toNat,.int .u16 a.id.pid.seq.toNat,.int .u8 a.id.n.toNat,.int .u8 a.kind.toNat,.int .u8 a.file.pid.author.toNat,.int .u16 a.file.pid.seq.toNat,.int .u8 a.file.n.toNat,.string a.text,.bool a.dead] 86).alloc (.cells #[.int .u8 b.id.pid.author.toNat,.int .u16 b.id.pid.seq.toNat,.int .u8 b.id.n.toNat,.int .u8 b.kind.toNat,.int .u8 b.file.pid.author.toNat,.int .u16 b.file.pid.seq.toNat,.int .u8 b.file.n.toNat,.string b.text,.bool b.dead] 86))
 have HC:=Lib.hid (arr_new2 w (.cells #[.int .u8 a.id.pid.author.toNat,.int .u16 a.id.pid.seq.toNat,.int .u8 a.id.n.toNat,.int .u8 a.kind.toNat,.int .u8 a.file.pid.author.toNat,.int .u16 a.file.pid.seq.toNat,.int .u8 a.file.n.toNat,.string a.text,.bool a.dead] 86) #[.int .u8 b.id.pid.author.toNat,.int .u16 b.id.pid.seq.toNat,.int .u8 b.id.n.toNat,.int .u8 b.kind.toNat,.int .u8 b.file.pid.author.toNat,.int .u16 b.file.pid.seq.toNat,.int .u8 b.file.n.toNat,.string b.text,.bool b.dead] 86)
 have HB:=Lib.hid (((Grew.refl w).alloc (.cells #[.int .u8 a.id.pid.author.toNat,.int .u16 a.id.pid.seq.toNat,.int .u8 a.id.n.toNat,.int .u8 a.kind.toNat,.int .u8 a.file.pid.author.toNat,.int .u16 a.file.pid.seq.toNat,.int .u8 a.file.n.toNat,.string a.text,.bool a.dead] 86)).alloc (.cells #[.int .u8 b.id.pid.author.toNat,.int .u16 b.id.pid.seq.toNat,.int .u8 b.id.n.toNat,.int .u8 b.kind.toNat,.int .u8 b.file.pid.author.toNat,.int .u16 b.file.pid.seq.toNat,.int .u8 b.file.n.toNat,.string b.text,.bool b.dead] 86))
 unfold vertV
 go_enter Tryz.func117,Tryz.ntmps117
 go_upto_region 1 with(fail)
 generalize hw0:(w.alloc (.cells #[.int .u8 a.id.pid.author.toNat,.int .u16 a.id.pid.seq.toNat,.int .u8 a.id.n.toNat,.int .u8 a.kind.toNat,.int .u8 a.file.pid.author.toNat,.int .u16 a.file.pid.seq.toNat,.int .u8 a.file.n.toNat,.string a.text,.bool a.dead] 86)).alloc (.cells #[.int .u8 b.id.pid.author.toNat,.int .u16 b.id.pid.seq.toNat,.int .u8 b.id.n.toNat,.int .u8 b.kind.toNat,.int .u8 b.file.pid.author.toNat,.int .u16 b.file.pid.seq.toNat,.int .u8 b.file.n.toNat,.string b.text,.bool b.dead] 86)=w0 at *
 clear hw0
 have c0:=HA.out.cell (j:=0) rfl
 have c1:=HA.out.cell (j:=1) rfl
 have c2:=HA.out.cell (j:=2) rfl
 have c3:=HA.out.cell (j:=3) rfl
 have c4:=HA.out.cell (j:=4) rfl
 have c5:=HA.out.cell (j:=5) rfl
 have c6:=HA.out.cell (j:=6) rfl
 have c7:=HA.out.cell (j:=7) rfl
 have c8:=HA.out.cell (j:=8) rfl
 have sc:=HA.out.lt
 have d0:=HC.out.cell (j:=0) rfl
 have d1:=HC.out.cell (j:=1) rfl
 have d2:=HC.out.cell (j:=2) rfl
 have d3:=HC.out.cell (j:=3) rfl
 have d4:=HC.out.cell (j:=4) rfl
 have d5:=HC.out.cell (j:=5) rfl
 have d6:=HC.out.cell (j:=6) rfl
 have d7:=HC.out.cell (j:=7) rfl
 have d8:=HC.out.cell (j:=8) rfl
 have sd:=HC.out.lt
 go_wp2_with fail
 refine(vlaterG b.id a.id _).mono ?_
 rintro e w1 ⟨rfl,hg⟩
 have HG:=Lib.hid (HB.out.trans hg)
 clear hg
 go_wp2_with fail
 go_ret
 exact⟨rfl,HG.out⟩
theorem later_neg(x y:VertM):(cmpLater y.id x.id<0)=(revK x.id<revK y.id):=by
 have h1:=laterK_lt x.id
 have h2:=laterK_lt y.id
 unfold cmpLater revK
 rw [cmpN_neg]
 refine propext ⟨fun h => ?_,fun h => ?_⟩ <;> omega
theorem sortLater_any{w:World}{B g cap:Nat}{xs:List VertM}(h:OwnAt w B 86 9 g xs.length cap (xs.flatMap encVert))(hn:xs.length≤1000000000) :
  Calls Tryz.prog 101 #[.slice (some ⟨g,0,none⟩) xs.length cap,.func (.func 117) #[] #[]] w (SortRes (fun a b=>cmpLater b.id a.id) encVert 9 86 w B g cap xs):=by
 have hcon:=sortF_any (P:=Tryz.prog) Tryz.sortVert (k:=9) (enc:=encVert) Tryz.isAgg86 Tryz.sizeOf86 (fun _=>rfl) oneVert (fun a b=>cmpLater b.id a.id) (swo_key (fun x:VertM=>revK x.id) _ later_neg) 117 (enters_of Tryz.func117 (by kernel_rfl) rfl) (fun x y W=>laterCmpG x y W) h (by omega)
 exact hcon
theorem aliveM_q(L:List PatchM)(f:VidM):(ofM L f 2).filter aliveQ=aliveM L f:=by unfold aliveQ;rfl
theorem ofM_len(L:List PatchM)(f:VidM)(k:UInt8):(ofM L f k).length≤(idsM L).length:=Nat.le_trans (List.length_filter_le _ _) (by unfold vertsM;rw [List.length_map];exact Nat.le_refl _)
attribute [local irreducible] ofM aliveM namesM idsM
set_option maxHeartbeats 4000000 in
set_option maxRecDepth 100000 in
theorem nof_any(b:Nat)(L:List PatchM)(file:VidM)(w:World)(hg:GrIs w b L)(hw:WfG L)(hil:(idsM L).length≤1000000) :
  Calls Tryz.prog 68 #[.pointer (some ⟨b,0,none⟩),vidV file] w (OwnRes encVert 9 86 w (namesM L file)):=by
 have HF:=Lib.hid (arr_new w #[.int .u8 file.pid.author.toNat,.int .u16 file.pid.seq.toNat,.int .u8 file.n.toNat] 27)
 have HB:=Lib.hid (below_new (w:=w) (.cells #[.int .u8 file.pid.author.toNat,.int .u16 file.pid.seq.toNat,.int .u8 file.n.toNat] 27))
 have HG:=Lib.hid hg
 have HW:=Lib.hid hw
 have HQ:=Lib.hid (aliveM_q L file)
 have hol:=ofM_len L file 2
 have HE:=Lib.hid (fun(out:List VertM) (hp:out.Perm (aliveM L file)) hs=>names_eq (wf_len hw) file hp hs)
 clear hg hw
 unfold vidV
 go_enter Tryz.func68,Tryz.ntmps68
 go_upto_region 1 with(fail)
 generalize hw0:w.alloc (.cells #[.int .u8 file.pid.author.toNat,.int .u16 file.pid.seq.toNat,.int .u8 file.n.toNat] 27)=w0 at *
 clear hw0
 have c0:=HF.out.cell (j:=0) rfl
 have c1:=HF.out.cell (j:=1) rfl
 have c2:=HF.out.cell (j:=2) rfl
 have sc:=HF.out.lt
 go_wp2_with fail
 refine(gof_any b L file 2 _ (HG.out.over HB.out) HW.out hil).mono ?_
 rintro e w1 ⟨v1,rfl,ho1,hb1⟩
 have HB1:=Lib.hid (below_over HB.out HB.out.size hb1)
 have HV1:Hid (∀ k,v1.ownBlock=some k→w.heap.size≤k):=fun k hk=>Nat.le_trans HB.out.size (gown_base ho1 hk)
 have HO1:=Lib.hid ho1
 clear hb1 ho1
 go_wp2_with fail
 refine(delete_any HO1.out (by omega)).mono ?_
 rintro e w2 ⟨v2,rfl,ho2,hg2⟩
 rw [HQ.out] at ho2
 have HB2:=Lib.hid (HB1.out.grown hg2 HB1.out.size HV1.out)
 have HO2:=Lib.hid (ho2.base HB.out.size)
 have hal:(aliveM L file).length≤1000000:=by rw [← HQ.out];exact Nat.le_trans (List.length_filter_le _ _) (by omega)
 clear ho2 hg2 HV1
 rcases own_cases HO2.out with⟨h0,p,c,rfl⟩|⟨hne,g,cap,rfl,hA⟩
 ·
  have HN:Hid (([]:List VertM)=namesM L file):=HE.out [] (by rw [h0]) List.Pairwise.nil
  go_wp2_with fail
  refine(sortVert_none _ _ _ _).mono ?_
  rintro e w3 ⟨rfl,hw3⟩
  obtain rfl:=hw3.symm
  go_wp2_with fail
  go_ret
  exact⟨_,rfl,(by rw [← HN.out,← h0];exact HO2.out),HB2.out⟩
 ·
  have HAt:=Lib.hid hA
  clear hA
  go_wp2_with fail
  refine(sortLater_any HAt.out (by omega)).mono ?_
  rintro e w3 ⟨rfl,ys,hp,hs,hA3,hg3⟩
  have HN:=Lib.hid (HE.out ys hp (hs.imp fun h=>by simpa using h))
  have hyl:=hp.length_eq
  have HO3:Hid (GOwn encVert 9 86 w3 w.heap.size (.slice (some ⟨g,0,none⟩) (aliveM L file).length cap) ys):=by show World.ownsRow _ _ _ _ _ _ _;rw [hyl];exact hA3.own
  have HG3:=Lib.hid hg3
  clear hp hs hA3 hg3 hyl
  go_wp2_with fail
  go_ret
  exact⟨_,rfl,(by rw [← HN.out];exact HO3.out),HB2.out.grown HG3.out HB2.out.size fun k hk=>by cases hk;exact HAt.out.base⟩
end Go.Proofs.YtanfebljiblhbaaGreatDoor
