/- Contract of ref20.Vec. What ref20.Check needs: append at one operation of a region that draws its order; an operation's conditions, one by one. -/
import Derived.Test.YtllcipobiengiaaGreatYRefN
import Derived.Deep.MidRow
set_option linter.unusedVariables false
set_option linter.unusedSimpArgs false
namespace Go.Proofs.YtllcipobiengiaaGreat
open Go Go.RowKit

theorem arr_setCells:∀(vs pre zs:List Value) (w:World) (b o:Nat),Arr w b (pre++zs)→zs.length=vs.length→o=pre.length→Arr (w.setCells b o vs) b (pre++vs)
 | [],pre,zs,w,b,o,h,hl,_=>by
  have:zs=[]:=List.eq_nil_of_length_eq_zero hl
  subst this;exact h
 | v :: vs,pre,[],w,b,o,h,hl,_=>by simp at hl
 | v :: vs,pre,z :: zs,w,b,o,h,hl,ho=>by
  subst ho
  have h1:=h.set pre.length v
  rw [List.set_append_right _ _ (Nat.le_refl _),Nat.sub_self,List.set_cons_zero] at h1
  have h2:=arr_setCells vs (pre++[v]) zs (w.setCell ⟨b,pre.length,none⟩ v) b (pre.length+1) (by rw [List.append_assoc];exact h1) (by simpa using hl) (by simp)
  rw [List.append_assoc] at h2
  exact h2
theorem arr_put0{w:World}{g:Nat}{zs vs:List Value}(h:Arr w g zs)(hl:zs.length=vs.length):Arr (w.setCells g 0 vs) g vs:=arr_setCells vs [] zs w g 0 h hl rfl
theorem below_setCells:∀(vs:List Value) {B:Nat} {w0 w:World} {b:Nat} (o:Nat),Below B w0 w→B≤b→Below B w0 (w.setCells b o vs)
 | [],_,_,_,_,_,h,_=>h
 | v :: vs,B,w0,w,b,o,h,hb=>below_setCells vs (o+1) (h.setCell (p:=⟨b,o,none⟩) hb v) hb
theorem Arr.range{w:World}{b:Nat}{cs:List Value}(h:Arr w b cs):w.rangeAt b 0 cs:=fun j v hv=>by rw [Nat.zero_add];exact h.cell hv
theorem Arr.there{w:World}{b:Nat}{cs:List Value}(h:Arr w b cs):w.there b 0 cs.length:=fun j hj=>by
 rw [Nat.zero_add]
 exact⟨by rw [h.cell (List.getElem?_eq_getElem hj)];rfl,h.free j⟩
theorem infoVec(f:VecM):(Tryz.prog.info? 69).map (·.size)=some (vecL f).length:=by rw [vecL_len];kernel_rfl
theorem underVec:Tryz.prog.underlying 69=some (.array 64 24):=Tryz.underlying69
theorem oneVec(f:VecM):∀ v∈vecL f,v.oneCell'=true:=fun v hv=>List.all_eq_true.1 (vecL_one f) v hv
def VcRel(w w0:World)(xs:List LaidP)(zs:List Value)(a:Option Addr)(cap:Nat)(v4:Value)(wr:World):Prop:=
 ∃ k:Nat,k≤xs.length∧v4=.int .i64 k∧Hid (Arr wr (w.heap.size+1+1) (vecL (vecM ((patsOf xs).take k))))∧Hid (Arr wr (w.heap.size+1) zs)∧Hid (Arr wr w.heap.size [.slice a xs.length cap])∧Hid (Below w.heap.size w wr)
attribute [local irreducible] vecL authorOk numM nextF vecM
set_option maxHeartbeats 16000000 in
set_option maxRecDepth 100000 in
theorem rvec20_any(gv:Value)(xs:List LaidP)(w:World)(hv:Pats w gv xs)(hn:xs.length≤300)(ho:OrdL (patsOf xs))(hw:WfG (patsOf xs)) :
  Calls Tryz.prog 128 #[rgV gv] w fun e w'=>e=.returned (vecV (vecM (patsOf xs)))∧Below w.heap.size w w':=by
 have HV:=Lh hv
 have HO:=Lh ho
 have HW:=Lh hw
 have HIV:=Lh infoVec
 have HUV:=Lh underVec
 obtain⟨a,cap,rfl,h1,h2,hc⟩:=hv.1.at encPat_len
 unfold maxLen at h2
 have HC:=Lh hc
 clear hv hc ho hw
 unfold rgV
 go_enter Tryz.func128,Tryz.ntmps128
 go_upto_region 2 with(fail)
 refine code_gen (fun w0=>∃ zs:List Value,zs.length=64∧Arr w0 (w.heap.size+1) zs∧Arr w0 (w.heap.size+1+1) (vecL (fun _=>0))∧Arr w0 w.heap.size [.slice a xs.length cap]∧Below w.heap.size w w0)
  (by
   refine⟨_,?_,(an2 w (.cells #[.slice a xs.length cap] 35) _ _).alloc _,?_,((anw w #[.slice a xs.length cap] _).alloc _).alloc _,((bnew (w:=w) _).alloc (by simp) _).alloc (by simp;omega) _⟩
   rotate_left
   ·
    rw [vecL_zero];exact arr_new3 w (.cells #[.slice a xs.length cap] 35) _ _ _
   ·
    rfl) ?_
 rintro w0 ⟨zs,hzl,hR,hZ,hA,hB⟩
 have HR:=Lh hR
 have HZ:=Lh hZ
 have HA:=Lh hA
 have HB:=Lh hB
 have HZL:=Lh hzl
 clear hR hZ hA hB hzl
 go_wp2_with fail
 go_loopw [4] (fun v4 wr=>VcRel w w0 xs zs a cap v4 wr) (fun v4 _=>xs.length - (intOf v4).toNat)
 case atStart=>exact⟨0,Nat.zero_le _,rfl,(by show Arr _ _ _;rw [List.take_zero,vecM_nil];exact HZ.out),HR,HA,HB⟩
 case round =>
  obtain⟨k,hk,rfl,HF,HR1,HA1,HBr⟩:=hrel
  rename World=>wr
  have g0:=HA1.out.k 0 rfl
  have sg:=HA1.out.lt
  have sf:=HF.out.lt
  by_cases hlt:k<xs.length
  ·
   obtain⟨bo,off,rfl,sb,hcb⟩:=HC.out.resolve_left (by omega)
   obtain⟨x,hx⟩:=gol hlt
   have hpx:(patsOf xs)[k]? = some x.p:=by unfold patsOf;rw [List.getElem?_map,hx];rfl
   obtain⟨ha,hp,hs⟩:=ord_step HO.out hpx
   have HS1:=Lh hs
   have HLe:=Lh (vec_take_le HW.out k)
   have HX:=Lh (hcb k x hx wr HBr.out)
   have x0:wr.cell? ⟨bo,off+k*4,none⟩=some (.int .u8 x.p.id.author.toNat):=(HX.out).2 0 _ rfl
   have x1:wr.cell? ⟨bo,off+k*4+1,none⟩=some (.int .u16 x.p.id.seq.toNat):=(HX.out).2 1 _ rfl
   have sx:=HX.out.1
   generalize hf:vecM ((patsOf xs).take k)=f at *
   generalize hf':setV f x.p.id.author x.p.id.seq.toNat=f' at *
   have HPut:Hid (∀ W,Calls Tryz.prog 169 #[.agg (vecL f).toArray,.agg #[.int .u8 x.p.id.author.toNat,.int .u16 x.p.id.seq.toNat]] W fun e w'=>e=.returned (.tuple #[.agg (vecL f').toArray,.bool true])∧Below W.heap.size W w'):=Lh fun W=>by
    refine(rput_any f HLe.out x.p.id W ha hp).mono ?_
    rintro e w' ⟨rfl,hb⟩
    rw [hf'];exact⟨rfl,hb⟩
   clear hcb hx hpx ha hp hs hf hf'
   have hu:=HUV.out
   have hi1:=HIV.out f
   have hi2:=HIV.out f'
   have ho2:=oneVec f'
   have hlen:(vecL f').length=64:=vecL_len f'
   have HLen:=Lh hlen
   clear hlen
   have HKS:Hid (∀ w':World,Below wr.heap.size wr w'→(w'.cell? ⟨w.heap.size,0,none⟩=some (.slice (some ⟨bo,off,none⟩) xs.length cap)∧w'.cell? ⟨bo,off+k*4,none⟩=some (.int .u8 x.p.id.author.toNat)∧w'.cell? ⟨bo,off+k*4+1,none⟩=some (.int .u16 x.p.id.seq.toNat)∧w'.rangeAt (w.heap.size+1+1) 0 (vecL f)∧Below wr.heap.size wr w')):=fun w' hb=>⟨(hb.cell (p:=⟨w.heap.size,0,none⟩) sg).trans g0,(hb.cell (p:=⟨bo,off+k*4,none⟩) sx).trans x0,(hb.cell (p:=⟨bo,off+k*4+1,none⟩) sx).trans x1,(HF.out.over hb).range,hb⟩
   go_upto_region 5 with(fail)
   go_cut [5] (fun s5 wx=>∃ g5,s5=.pointer (some ⟨g5,0,none⟩)∧Hid (Arr wx g5 (vecL f'))∧Hid (Below wr.heap.size wr wx)∧wr.heap.size≤g5)
   case first =>
    go_region_held3 (fun w'=>w'.cell? ⟨w.heap.size,0,none⟩=some (.slice (some ⟨bo,off,none⟩) xs.length cap)∧w'.cell? ⟨bo,off+k*4,none⟩=some (.int .u8 x.p.id.author.toNat)∧w'.cell? ⟨bo,off+k*4+1,none⟩=some (.int .u16 x.p.id.seq.toNat)∧w'.rangeAt (w.heap.size+1+1) 0 (vecL f)∧Below wr.heap.size wr w') ((refine HKS.out _ ?_;(with_reducible (first|exact(Below.refl _ _).drew|exact HBk.out|exact HBk.out.alloc HBk.out.size _|exact((Below.refl wr.heap.size wr).alloc (Nat.le_refl _) _).drew|exact below_setCells _ _ (HBk.out.alloc HBk.out.size _) HBk.out.size|exact below_setCells _ _ HBk.out (Nat.le_refl _)))))
     (first|(go_at_call 169;refine(HPut.out _).mono ?_;rintro e w7 ⟨rfl,hb⟩;have HBk:Hid (Below wr.heap.size wr w7):=(by show Below wr.heap.size wr w7;with_reducible (first|exact bov (Below.refl wr.heap.size wr).drew (Nat.le_refl _) hb|exact bov (((Below.refl wr.heap.size wr).alloc (Nat.le_refl _) _).drew) (Below.size (((Below.refl wr.heap.size wr).alloc (Nat.le_refl _) _).drew)) hb));have HBb:=Lh hb;(have hT1:(w7.alloc (.cells (List.replicate 64 (.int .u16 0)).toArray 69)).there w7.heap.size 0 (vecL f').length:=(by rw [HLen.out];exact(anw w7 _ _).there));(try(have hT2:w7.there wr.heap.size 0 (vecL f').length:=(by rw [HLen.out];exact(((anw wr _ _).drew.over hb)).there)));clear hb))
    ·
     rename_i J K hJ hK hHeld
     clear hHeld
     refine hK _ _ (Met.intro (hJ _ _ ?_))
     (repeat apply Exists.intro)
     refine⟨?_,rfl⟩
     exact⟨_,rfl,Lh (arr_put0 (anw w7 _ _) (by rw [HLen.out];rfl)),Lh (below_setCells _ _ (HBk.out.alloc HBk.out.size _) HBk.out.size),HBk.out.size⟩
    ·
     rename_i J K hJ hK hHeld
     clear hHeld
     refine hK _ _ (Met.intro (hJ _ _ ?_))
     (repeat apply Exists.intro)
     refine⟨?_,rfl⟩
     exact⟨_,rfl,Lh (arr_put0 ((anw wr _ _).drew.over HBb.out) (by rw [HLen.out];rfl)),Lh (below_setCells _ _ HBk.out (Nat.le_refl _)),Nat.le_refl _⟩
   case rest =>
    obtain⟨g5,rfl,HA8,HBx,hg5⟩:=hcut
    rename World=>w8
    have HV8:=Lh (HF.out.over HBx.out)
    have HR8:=Lh (HR1.out.over HBx.out)
    have HG8:=Lh (HA1.out.over HBx.out)
    have HB8:=Lh (bov HBr.out HBr.out.size HBx.out)
    clear x0 x1 sx g0 sg HKS hu hi1 hi2 ho2 HPut
    go_wp2_with (first|(refine wpList_load_arr rowVec rfl _ rfl _ _ HA8.out rfl (vecL_len _) ?_)|(refine wpList_put_arr rowVec rfl _ _ rfl _ _ _ HV8.out rfl rfl (vecL_len _) (vecL_len _) (vecL_one _) ?_;intro w9 HV9 ho9 hb9 hs9;clear hs9))
    go_roundw
    case rel=>exact⟨k+1,hlt,by go_num,(by show Arr _ _ _;rw [← HS1.out];exact HV9),Lh (ho9 _ _ (by omega) HR8.out),Lh (ho9 _ _ (by omega) HG8.out),Lh (hb9 _ _ (by show w.heap.size≤w.heap.size+1+1;omega) HB8.out)⟩
    case measure=>simp [intOf];omega
  ·
   obtain rfl:k=xs.length:=by omega
   have HFe:Hid (Arr wr (w.heap.size+1+1) (vecL (vecM (patsOf xs)))):=by
    have:=HF.out
    rw [List.take_of_length_le (by unfold patsOf;rw [List.length_map];exact Nat.le_refl _)] at this
    exact this
   generalize hf:vecM (patsOf xs)=f at *
   clear HF
   go_wp2_with (first|(refine wpList_load_arr rowVec rfl _ rfl _ _ HFe.out rfl (vecL_len _) ?_)|(refine wpList_put_arr rowVec rfl _ _ rfl _ _ _ HR1.out rfl rfl HZL.out (vecL_len _) (vecL_one _) ?_;intro w9 HV9 ho9 hb9 hs9;clear hs9))
   exact bodyPost_ret (v:=.agg (vecL f).toArray) (results_arr rowVec rfl HV9 rfl (vecL_len _)) rfl ⟨by rw [hf],hb9 _ _ (by show w.heap.size≤w.heap.size+1;omega) HBr.out⟩
end Go.Proofs.YtllcipobiengiaaGreat
namespace Go.Proofs.YtllcipobiengiaaGreat
open Go Go.RowKit

section
variable {P : Program} {t e : TypeId} {size bytes : Nat} {w : World} {o : Oper} {a : Act} {K : Act → World → Prop} {Q : Exit → Act → World → Prop}
theorem wp_append_rowAt(T:SlT P t e size bytes)(s x:Operand)
  (ho:o.op=.call {callee:=.builtin .append,args:=#[s,x],argTypes:=#[t,t]})
  (base:Nat) (v:Value) (n:Nat) (xs:List Value) (hown:w.ownsRow base e size v n xs) (hs:a.eval s=v)
  (vx:Value) (m:Nat) (news:List Value) (hrow:Row w vx m size news) (hx:a.eval x=vx) (h1:∀ u∈news,u.oneCell'=true)
  (hN:n+m≤1099511627776) (hby:bytes≤128) (hbase:base≤w.heap.size)
  (h:∀ v' w',w'.ownsRow base e size v' (n+m) (xs++news)→w.grownBy w' v.ownBlock→(v'.ownBlock=v.ownBlock∨v'.ownBlock=some w.heap.size)→K (a.put o.dst v') w'):o.wp P a w K Q:=by
 obtain⟨v',w',hr,h2,h3,h4⟩:=run_append_rowAt T o.type base v n xs hown vx m news hrow h1 hN hby hbase
 unfold Oper.wp execOp
 simp only [ho,resolve,invoke,builtin,Sem.run_bind,Sem.run_pure,Result.andThen_ok,List.map_toArray,List.map_cons,List.map_nil,hs,hx,hr]
 exact h v' w' h2 h3 h4
end
theorem keep1{w w1:World}{v v1:Value}{b:Nat}(hv:v.ownBlock=some b)(hg:w.grownBy w1 v.ownBlock)(hb:v1.ownBlock=v.ownBlock∨v1.ownBlock=some w.heap.size) :
  ∀ k,k<w.heap.size→k≠b→w1.heap[k]? = w.heap[k]? ∧ v1.ownBlock≠some k:=fun k hk hne=>by
 rw [hv] at hg hb
 refine⟨hg.block k hk (fun e=>hne (Option.some.inj e)),fun e => ?_⟩
 rcases hb with hb|hb
 ·
  rw [hb] at e;exact hne (Option.some.inj e).symm
 ·
  rw [hb] at e;have:=Option.some.inj e;omega
theorem keep_arr{w w1:World}{v1:Value}{b k:Nat}{cs:List Value}(h:∀ k,k<w.heap.size→k≠b→w1.heap[k]? = w.heap[k]? ∧ v1.ownBlock≠some k)(hA:Arr w k cs)(hne:k≠b):Arr w1 k cs∧v1.ownBlock≠some k:=by
 have h1:=h k hA.lt hne
 obtain⟨e,he⟩:=hA
 exact⟨⟨e,h1.1.trans he⟩,h1.2⟩
theorem keep_arr2{w w2:World}{v1 v2:Value}{k:Nat}{cs:List Value}(hg:w.grownBy w2 v1.ownBlock)(hb:v2.ownBlock=v1.ownBlock∨v2.ownBlock=some w.heap.size)(hA:Arr w k cs)(hn:v1.ownBlock≠some k):Arr w2 k cs∧v2.ownBlock≠some k:=by
 have hk:=hA.lt
 obtain⟨e,he⟩:=hA
 refine⟨⟨e,(hg.block k hk (fun q=>hn q.symm)).trans he⟩,fun q => ?_⟩
 rcases hb with hb|hb
 ·
  rw [hb] at q;exact hn q
 ·
  rw [hb] at q;have:=Option.some.inj q;omega
theorem own_lt_size{w:World}{B:Nat}{e:TypeId}{sz n:Nat}{v:Value}{xs:List Value}(h:w.ownsRow B e sz v n xs){k:Nat}(hk:v.ownBlock=some k):k<w.heap.size:=by
 rcases h.2 with⟨rfl,_⟩|⟨g,cap,cur,rfl,_,hg,_⟩
 ·
  cases hk
 ·
  cases hk;exact(Array.getElem?_eq_some_iff.1 hg).1
theorem own_ne{w:World}{B:Nat}{e:TypeId}{sz n:Nat}{v:Value}{xs:List Value}(h:w.ownsRow B e sz v n xs){k:Nat}(hk:w.heap.size≤k):v.ownBlock≠some k:=fun q=>by have:=own_lt_size h q;omega
theorem own_lit0(w:World)(e:TypeId)(sz B:Nat)(hB:B≤w.heap.size):(w.alloc (.cells #[] e)).ownsRow B e sz (.slice (some ⟨w.heap.size,0,none⟩) 0 0) 0 []:=
 World.ownsRow_lit w #[] 0 hB (Nat.zero_le _) (by simp)
theorem row_arr{w:World}{k sz:Nat}{cs:List Value}(h:Arr w k cs)(hl:cs.length=sz):Row w (.slice (some ⟨k,0,none⟩) 1 1) 1 sz cs:=by
 obtain⟨e,he⟩:=h
 exact own_row (base:=0) (e:=e) ⟨by omega,.inr ⟨k,1,cs.toArray,rfl,Nat.zero_le _,he,Nat.le_refl _,by decide,by simp;omega,by rw [Nat.one_mul,← hl,List.take_of_length_le (Nat.le_refl _)]⟩⟩
theorem own_set{w:World}{B:Nat}{e:TypeId}{sz n:Nat}{v:Value}{xs:List Value}(h:w.ownsRow B e sz v n xs){k:Nat}(hk:v.ownBlock≠some k)(u:Value)(j:Nat):(w.setCell ⟨k,j,none⟩ u).ownsRow B e sz v n xs:=by
 obtain⟨h1,h2⟩:=h
 refine⟨h1,?_⟩
 rcases h2 with h2|⟨g,cap,cur,rfl,h3,hg,h4⟩
 ·
  exact .inl h2
 ·
  refine .inr ⟨g,cap,cur,rfl,h3,?_,h4⟩
  have hne:k≠g:=fun q=>hk (by rw [q];rfl)
  rw [← hg]
  unfold World.setCell
  split <;> simp [Array.getElem?_modify,hne]

theorem refMet_1{L:List PatchM}{o:OpM}(h:o.kind.toNat=1):refMet L o=true:=by
 have:o.kind=1:=(u8_nat o.kind 1 (by omega)).2 h
 unfold refMet;rw [if_pos this]
theorem isKind_none{L:List PatchM}{v:VidM}(k:UInt8)(h:vertM L v=none):isKind L v k=false:=by unfold isKind;rw [h]
theorem isKind_some{L:List PatchM}{v:VidM}{x:VertM}(k:UInt8)(h:vertM L v=some x):isKind L v k=(x.kind == k):=by unfold isKind;rw [h]
theorem refMet_none{L:List PatchM}{o:OpM}(h:¬ o.kind.toNat=1)(hA:vertM L o.at'=none):refMet L o=false:=by
 have h1:¬ o.kind=1:=fun e=>h (by rw [e];rfl)
 unfold refMet
 rw [if_neg h1]
 split
 ·
  exact isKind_none 1 hA
 ·
  split
  ·
   rw [isKind_none 3 hA];rfl
  ·
   rw [hA];rfl
theorem refMet_23{L:List PatchM}{o:OpM}{x:VertM}(h:o.kind.toNat=2∨o.kind.toNat=3)(hA:vertM L o.at'=some x):refMet L o=decide (x.kind.toNat=1):=by
 have h1:¬ o.kind=1:=fun e=>by
   have:o.kind.toNat=1:=by rw [e];rfl
   omega
 have h2:o.kind=2∨o.kind=3:=h.imp (fun h=>(u8_nat o.kind 2 (by omega)).2 h) (fun h=>(u8_nat o.kind 3 (by omega)).2 h)
 unfold refMet
 rw [if_neg h1,if_pos h2,isKind_some 1 hA,Bool.eq_iff_iff,decide_eq_true_iff,beq_iff_eq]
 exact u8_nat x.kind 1 (by omega)
theorem refMet_4{L:List PatchM}{o:OpM}(h:o.kind.toNat=4):refMet L o=(isKind L o.at' 3 && (isKind L o.to 3 && decide ((optV (vertM L o.at')).file=(optV (vertM L o.to)).file))):=by
 have h4:o.kind=4:=(u8_nat o.kind 4 (by omega)).2 h
 have h1:¬ o.kind=1:=fun e=>by rw [h4] at e;exact absurd e (by decide)
 have h2:¬ (o.kind=2∨o.kind=3):=fun e=>by rw [h4] at e;exact absurd e (by decide)
 unfold refMet
 rw [if_neg h1,if_neg h2,if_pos h4]
 cases hA:vertM L o.at' with
 | none=>rw [isKind_none 3 hA];rfl
 | some x =>
  cases hB:vertM L o.to with
  | none=>rw [isKind_none 3 hB];simp
  | some y =>
   simp only [Option.map_some,Option.some.injEq]
   rfl
theorem refMet_else{L:List PatchM}{o:OpM}{x:VertM}(h2:¬ o.kind.toNat=2)(h3:¬ o.kind.toNat=3)(h4:¬ o.kind.toNat=4)(hA:vertM L o.at'=some x):refMet L o=true:=by
 by_cases h:o.kind.toNat=1
 ·
  exact refMet_1 h
 ·
  unfold refMet
  rw [if_neg (fun e=>h (by rw [e];rfl)),if_neg (fun e=>by rcases e with e|e <;> rw [e] at h2 h3 <;> first|exact h2 rfl|exact h3 rfl),if_neg (fun e=>h4 (by rw [e];rfl)),hA];rfl
theorem check_1{L:List PatchM}{p:PatchM}(h:goodP p=false):checkM L p=1:=by unfold checkM;rw [if_pos h]
theorem check_7{L:List PatchM}{p:PatchM}(h:goodP p=true)(h2:hasM L p.id=true):checkM L p=7:=by unfold checkM;rw [if_neg (by simp [h]),if_pos h2]
theorem check_9{L:List PatchM}{p:PatchM}(h:goodP p=true)(h2:hasM L p.id=false)(h3:¬ nextM L p.id.author=p.id):checkM L p=9:=by unfold checkM;rw [if_neg (by simp [h]),if_neg (by simp [h2]),if_pos h3]
theorem check_9d{L:List PatchM}{p:PatchM}(h:goodP p=true)(h2:hasM L p.id=false)(h3:nextM L p.id.author=p.id){d:PidM}(hd:d∈p.deps)(h4:hasM L d=false):checkM L p=9:=by
 unfold checkM
 rw [if_neg (by simp [h]),if_neg (by simp [h2]),if_neg (by simp [h3]),if_pos]
 rw [← Bool.not_eq_true,List.all_eq_true]
 exact fun q=>by rw [q d hd] at h4;cases h4
theorem check_10{L:List PatchM}{p:PatchM}(h:goodP p=true)(h2:hasM L p.id=false)(h3:nextM L p.id.author=p.id)(h4:(p.deps.all fun d=>hasM L d)=true){o:OpM}(ho:o∈p.ops)(h5:refMet (L++[p]) o=false):checkM L p=10:=by
 unfold checkM
 rw [if_neg (by simp [h]),if_neg (by simp [h2]),if_neg (by simp [h3]),if_neg (by simp only [h4];decide),if_pos]
 rw [← Bool.not_eq_true,List.all_eq_true]
 exact fun q=>by rw [q o ho] at h5;cases h5
theorem check_0{L:List PatchM}{p:PatchM}(h:goodP p=true)(h2:hasM L p.id=false)(h3:nextM L p.id.author=p.id)(h4:(p.deps.all fun d=>hasM L d)=true)(h5:(p.ops.all fun o=>refMet (L++[p]) o)=true):checkM L p=0:=by
 unfold checkM
 rw [if_neg (by simp [h]),if_neg (by simp [h2]),if_neg (by simp [h3]),if_neg (by simp only [h4];decide),if_neg (by simp only [h5];decide)]
theorem all_step{α:Type}{f:α→Bool}{l:List α}{k:Nat}{x:α}(h:(l.take k).all f=true)(hx:l[k]? = some x)(hf:f x=true):(l.take (k+1)).all f=true:=by
 rw [take_succ' hx,List.all_append,h];simp [hf]
theorem own_d1(w:World)(e:TypeId)(sz:Nat):(w.alloc (.cells #[] e)).drew.ownsRow w.heap.size e sz (.slice (some ⟨w.heap.size,0,none⟩) 0 0) 0 []:=own_lit0 w e sz w.heap.size (Nat.le_refl _)
theorem own_d1a(w:World)(e:TypeId)(sz:Nat)(o:Obj):((w.alloc (.cells #[] e)).alloc o).drew.ownsRow w.heap.size e sz (.slice (some ⟨w.heap.size,0,none⟩) 0 0) 0 []:=(own_lit0 w e sz w.heap.size (Nat.le_refl _)).alloc o
theorem own_d1b(w:World)(e:TypeId)(sz:Nat)(o o':Obj):(((w.alloc (.cells #[] e)).alloc o).alloc o').drew.ownsRow w.heap.size e sz (.slice (some ⟨w.heap.size,0,none⟩) 0 0) 0 []:=((own_lit0 w e sz w.heap.size (Nat.le_refl _)).alloc o).alloc o'
theorem own_d2(w:World)(o:Obj)(e:TypeId)(sz:Nat):((w.alloc o).alloc (.cells #[] e)).drew.ownsRow w.heap.size e sz (.slice (some ⟨w.heap.size+1,0,none⟩) 0 0) 0 []:=by
 have:=own_lit0 (w.alloc o) e sz w.heap.size (by simp)
 have h2:((w.alloc o).alloc (.cells #[] e)).ownsRow w.heap.size e sz (.slice (some ⟨w.heap.size+1,0,none⟩) 0 0) 0 []:=by simpa using this
 exact h2
theorem own_d2a(w:World)(o:Obj)(e:TypeId)(sz:Nat)(o':Obj):(((w.alloc o).alloc (.cells #[] e)).alloc o').drew.ownsRow w.heap.size e sz (.slice (some ⟨w.heap.size+1,0,none⟩) 0 0) 0 []:=World.ownsRow.alloc (w:=((w.alloc o).alloc (.cells #[] e)).drew) (own_d2 w o e sz) o'
theorem own_d3(w:World)(o o':Obj)(e:TypeId)(sz:Nat):(((w.alloc o).alloc o').alloc (.cells #[] e)).drew.ownsRow w.heap.size e sz (.slice (some ⟨w.heap.size+1+1,0,none⟩) 0 0) 0 []:=by
 have:=own_lit0 ((w.alloc o).alloc o') e sz w.heap.size (by simp;omega)
 have h2:(((w.alloc o).alloc o').alloc (.cells #[] e)).ownsRow w.heap.size e sz (.slice (some ⟨w.heap.size+1+1,0,none⟩) 0 0) 0 []:=by simpa using this
 exact h2
theorem below_d1(w:World)(o:Obj):Below w.heap.size w (w.alloc o).drew:=((Below.refl _ w).alloc (Nat.le_refl _) o).drew
theorem below_d2(w:World)(o o':Obj):Below w.heap.size w ((w.alloc o).alloc o').drew:=(((Below.refl _ w).alloc (Nat.le_refl _) o).alloc (by simp) o').drew
theorem below_d3(w:World)(o o' o'':Obj):Below w.heap.size w (((w.alloc o).alloc o').alloc o'').drew:=((((Below.refl _ w).alloc (Nat.le_refl _) o).alloc (by simp) o').alloc (by simp;omega) o'').drew
theorem below_set{B k:Nat}{w0 w:World}(h:Below B w0 w)(hB:B≤k)(v:Value):Below B w0 (w.setCell ⟨k,0,none⟩ v):=h.setCell (p:=⟨k,0,none⟩) hB v
theorem pat_row{w:World}{B:Nat}{e:TypeId}{v:Value}{xs:List LaidP}{x:LaidP}{cs:List Value}(h:w.ownsRow B e 4 v (0+xs.length+1) ([]++xs.flatMap encPat++cs))(hx:encPat x=cs):GRow encPat 4 w v (xs++[x]):=by
 subst hx
 rw [Nat.zero_add,List.nil_append] at h
 exact(GOwn.snoc h).row
theorem onePat{w:World}{x:LaidP}(h:PatOk w x):∀ u∈encPat x,u.oneCell'=true:=by
 obtain⟨a,c,h1,_⟩:=h.1.at encPid_len
 obtain⟨a',c',h2,_⟩:=h.2.at encOp_len
 intro u hu
 unfold encPat at hu
 rw [h1,h2] at hu
 simp only [List.mem_cons,List.not_mem_nil,or_false] at hu
 rcases hu with rfl|rfl|rfl|rfl <;> rfl
theorem onePats{w:World}{xs:List LaidP}(h:∀ x∈xs,PatOk w x):∀ u∈xs.flatMap encPat,u.oneCell'=true:=by
 intro u hu
 obtain⟨x,hx,hu⟩:=List.mem_flatMap.1 hu
 exact onePat (h x hx) u hu
end Go.Proofs.YtllcipobiengiaaGreat
