/- Contract of the example of layer 49. -/
import Derived.Test.YtanfebljiblhbaaGreatDoorHWbP
import Derived.Test.YtanfebljiblhbaaGreatDoorHPatO
import Derived.Test.YtanfebljiblhbaaGreatDoorHBlmG
set_option linter.unusedVariables false
set_option linter.unusedSimpArgs false
namespace Go.Proofs.YtanfebljiblhbaaGreatDoor
open Go Go.RowKit

theorem balloc49{w w':World}(h:Below w.heap.size w w')(o:Obj):Below w.heap.size w (w'.alloc o):=h.alloc h.size o
theorem own_lit49{α:Type}{enc:α→List Value}{sz:Nat}(w:World)(e:TypeId)(xs:List α)(B:Nat)(hl:(xs.flatMap enc).length=xs.length*sz)(hm:xs.length≤maxLen)(hB:B≤w.heap.size):GOwn enc sz e (w.alloc (.cells (xs.flatMap enc).toArray e)) B (.slice (some ⟨w.heap.size,0,none⟩) xs.length xs.length) xs:=
 ⟨hl,.inr ⟨w.heap.size,xs.length,(xs.flatMap enc).toArray,rfl,hB,by rw [heap_alloc_new],Nat.le_refl _,hm,by simp [hl],by rw [← hl];exact List.take_length⟩⟩
def WbMkP(w:World)(e:Ending)(w':World):Prop:=∃ pd cd po co,e=.returned (.tuple #[.agg #[.int .u8 1,.int .u16 1,.slice pd 0 cd,.slice po 3 co],.int .i64 0])∧GOwn encPid 2 25 w' w.heap.size (.slice pd 0 cd) []∧GOwn encOp 8 96 w' w.heap.size (.slice po 3 co) wbOpsP∧Below w.heap.size w w'
def WbMkQ(w:World)(e:Ending)(w':World):Prop:=∃ qd ce qo cq,e=.returned (.tuple #[.agg #[.int .u8 2,.int .u16 1,.slice qd 1 ce,.slice qo 2 cq],.int .i64 0])∧GOwn encPid 2 25 w' w.heap.size (.slice qd 1 ce) [wbA]∧GOwn encOp 8 96 w' w.heap.size (.slice qo 2 cq) wbOpsQ∧Below w.heap.size w w'
theorem wbMkP(v:Value)(w:World)(hv:GRow encOp 8 w v wbOpsP):Calls Tryz.prog 41 #[.agg #[.int .u8 1,.int .u16 1],v] w (WbMkP w):=by
 have h:=pmake_any wbA v wbOpsP w hv (by decide) (fun o ho=>Nat.le_trans (show o.text.size≤1 from(by decide +kernel:∀ o∈wbOpsP,o.text.size≤1) o ho) (by unfold maxLen;omega)) wbGoodP
 refine h.mono ?_
 rintro e w' ⟨pd,cd,po,co,rfl,h1,h2,h3⟩
 rw [wbDepsP] at h1 ⊢
 exact⟨pd,cd,po,co,rfl,h1,h2,h3⟩
theorem wbMkQ(v:Value)(w:World)(hv:GRow encOp 8 w v wbOpsQ):Calls Tryz.prog 41 #[.agg #[.int .u8 2,.int .u16 1],v] w (WbMkQ w):=by
 have h:=pmake_any wbB v wbOpsQ w hv (by decide) (fun o ho=>Nat.le_trans (show o.text.size≤1 from(by decide +kernel:∀ o∈wbOpsQ,o.text.size≤1) o ho) (by unfold maxLen;omega)) wbGoodQ
 refine h.mono ?_
 rintro e w' ⟨qd,ce,qo,cq,rfl,h1,h2,h3⟩
 rw [wbDepsQ] at h1 ⊢
 exact⟨qd,ce,qo,cq,rfl,h1,h2,h3⟩
theorem wbRowP(W:World)(b:Nat)(hb:b=W.heap.size):GRow encOp 8 (W.alloc (.cells #[.int .u8 1,.int .u8 0,.int .u16 0,.int .u8 0,.int .u8 0,.int .u16 0,.int .u8 0,.string ⟨#[]⟩,.int .u8 2,.int .u8 1,.int .u16 1,.int .u8 0,.int .u8 0,.int .u16 0,.int .u8 0,.string ⟨#[110]⟩,.int .u8 3,.int .u8 1,.int .u16 1,.int .u8 0,.int .u8 0,.int .u16 0,.int .u8 0,.string ⟨#[120]⟩] 96)) (.slice (some ⟨b,0,none⟩) 3 3) wbOpsP:=by
 subst hb
 exact(show GOwn encOp 8 96 (W.alloc (.cells #[.int .u8 1,.int .u8 0,.int .u16 0,.int .u8 0,.int .u8 0,.int .u16 0,.int .u8 0,.string ⟨#[]⟩,.int .u8 2,.int .u8 1,.int .u16 1,.int .u8 0,.int .u8 0,.int .u16 0,.int .u8 0,.string ⟨#[110]⟩,.int .u8 3,.int .u8 1,.int .u16 1,.int .u8 0,.int .u8 0,.int .u16 0,.int .u8 0,.string ⟨#[120]⟩] 96)) 0 (.slice (some ⟨W.heap.size,0,none⟩) 3 3) wbOpsP from own_lit49 W 96 wbOpsP 0 rfl (by decide) (Nat.zero_le _)).row
theorem wbRowQ(W:World)(b:Nat)(hb:b=W.heap.size):GRow encOp 8 (W.alloc (.cells #[.int .u8 3,.int .u8 1,.int .u16 1,.int .u8 0,.int .u8 0,.int .u16 0,.int .u8 0,.string ⟨#[121]⟩,.int .u8 4,.int .u8 1,.int .u16 1,.int .u8 2,.int .u8 2,.int .u16 1,.int .u8 0,.string ⟨#[]⟩] 96)) (.slice (some ⟨b,0,none⟩) 2 2) wbOpsQ:=by
 subst hb
 exact(show GOwn encOp 8 96 (W.alloc (.cells #[.int .u8 3,.int .u8 1,.int .u16 1,.int .u8 0,.int .u8 0,.int .u16 0,.int .u8 0,.string ⟨#[121]⟩,.int .u8 4,.int .u8 1,.int .u16 1,.int .u8 2,.int .u8 2,.int .u16 1,.int .u8 0,.string ⟨#[]⟩] 96)) 0 (.slice (some ⟨W.heap.size,0,none⟩) 2 2) wbOpsQ from own_lit49 W 96 wbOpsQ 0 rfl (by decide) (Nat.zero_le _)).row
theorem put4{w6 w3:World}{G:Nat}{qd qo:Option Addr}{ce cq:Nat}(hz:ArrT w6 G 71 [.int .u8 0,.int .u16 0,.slice none 0 0,.slice none 0 0])(h5:GOwn encPid 2 25 w6 w3.heap.size (.slice qd 1 ce) [wbA])(h6:GOwn encOp 8 96 w6 w3.heap.size (.slice qo 2 cq) wbOpsQ)(hb:Below w3.heap.size w3 w6)(hG:w3.heap.size≤G) :
  ArrT ((((w6.setCell ⟨G,0,none⟩ (.int .u8 2)).setCell ⟨G,1,none⟩ (.int .u16 1)).setCell ⟨G,2,none⟩ (.slice qd 1 ce)).setCell ⟨G,3,none⟩ (.slice qo 2 cq)) G 71 [.int .u8 2,.int .u16 1,.slice qd 1 ce,.slice qo 2 cq] ∧
  GOwn encPid 2 25 ((((w6.setCell ⟨G,0,none⟩ (.int .u8 2)).setCell ⟨G,1,none⟩ (.int .u16 1)).setCell ⟨G,2,none⟩ (.slice qd 1 ce)).setCell ⟨G,3,none⟩ (.slice qo 2 cq)) w3.heap.size (.slice qd 1 ce) [wbA] ∧
  GOwn encOp 8 96 ((((w6.setCell ⟨G,0,none⟩ (.int .u8 2)).setCell ⟨G,1,none⟩ (.int .u16 1)).setCell ⟨G,2,none⟩ (.slice qd 1 ce)).setCell ⟨G,3,none⟩ (.slice qo 2 cq)) w3.heap.size (.slice qo 2 cq) wbOpsQ ∧
  Below w3.heap.size w3 ((((w6.setCell ⟨G,0,none⟩ (.int .u8 2)).setCell ⟨G,1,none⟩ (.int .u16 1)).setCell ⟨G,2,none⟩ (.slice qd 1 ce)).setCell ⟨G,3,none⟩ (.slice qo 2 cq)):=by
 have hg:=grown_trans (grown_trans (grown_trans (grown_setCell (g:=G) w6 0 (.int .u8 2)) (grown_setCell (g:=G) _ 1 (.int .u16 1))) (grown_setCell (g:=G) _ 2 (.slice qd 1 ce))) (grown_setCell (g:=G) _ 3 (.slice qo 2 cq))
 exact⟨(((hz.set 0 (.int .u8 2)).set 1 (.int .u16 1)).set 2 (.slice qd 1 ce)).set 3 (.slice qo 2 cq),own_kept h5 hg (hz.ne h5 (by decide)),own_kept h6 hg (hz.ne h6 (by decide)),
  (((hb.setCell (p:=⟨G,0,none⟩) hG _).setCell (p:=⟨G,1,none⟩) hG _).setCell (p:=⟨G,2,none⟩) hG _).setCell (p:=⟨G,3,none⟩) hG _⟩
attribute [local irreducible] wbOpsP wbOpsQ wbG wbL wbTold
set_option maxHeartbeats 16000000 in
set_option maxRecDepth 100000 in
theorem works49_any(w:World)(ht:Tab w):Calls Tryz.prog 10 #[] w fun e w'=>e=.returned (.bool true)∧Below w.heap.size w w':=by
 have HA:=Lib.hid ((arr_new w #[.int .u8 1,.int .u16 1] 25).alloc (.cells #[.int .u8 2,.int .u16 1] 25))
 have HC:=Lib.hid (arr_new2 w (.cells #[.int .u8 1,.int .u16 1] 25) #[.int .u8 2,.int .u16 1] 25)
 have HB:=Lib.hid ((below_new (w:=w) (.cells #[.int .u8 1,.int .u16 1] 25)).alloc (below_new (w:=w) (.cells #[.int .u8 1,.int .u16 1] 25)).size (.cells #[.int .u8 2,.int .u16 1] 25))
 have HT:=Lib.hid ht
 clear ht
 go_enter Tryz.func10,Tryz.ntmps10
 go_upto_region 2 with(fail)
 generalize (w.alloc (.cells #[.int .u8 1,.int .u16 1] 25)).alloc (.cells #[.int .u8 2,.int .u16 1] 25)=w0 at *
 have i0:=HA.out.cell (j:=0) rfl
 have i1:=HA.out.cell (j:=1) rfl
 have si:=HA.out.lt
 go_wp2_with fail
 refine(pvid_any ⟨1,1⟩ 0 _ (by omega)).mono ?_
 rintro e w1 ⟨rfl,hb1⟩
 have HB1:=Lib.hid (below_over HB.out HB.out.size hb1)
 have HA1:=Lib.hid (HA.out.over hb1)
 have HC1:=Lib.hid (HC.out.over hb1)
 clear hb1 i0 i1 si
 go_upto_region 3 with(fail)
 have HA2:=Lib.hid (HA1.out.alloc (.cells #[.int .u8 1,.int .u16 1,.int .u8 0] 27))
 have HC2:=Lib.hid (HC1.out.alloc (.cells #[.int .u8 1,.int .u16 1,.int .u8 0] 27))
 have HF2:=Lib.hid (arr_new w1 #[.int .u8 1,.int .u16 1,.int .u8 0] 27)
 have HB2:=Lib.hid (HB1.out.alloc HB1.out.size (.cells #[.int .u8 1,.int .u16 1,.int .u8 0] 27))
 generalize w1.alloc (.cells #[.int .u8 1,.int .u16 1,.int .u8 0] 27)=w2 at *
 have i0:=HA2.out.cell (j:=0) rfl
 have i1:=HA2.out.cell (j:=1) rfl
 have si:=HA2.out.lt
 have j0:=HF2.out.cell (j:=0) rfl
 have j1:=HF2.out.cell (j:=1) rfl
 have j2:=HF2.out.cell (j:=2) rfl
 have sj:=HF2.out.lt
 go_wp2_with fail
 refine(wbMkP _ _ (wbRowP w2 _ rfl)).mono ?_
 rintro e u6 ⟨pd,cd,po,co,rfl,ho5,ho6,hb6⟩
 have hb26:Below w2.heap.size w2 u6:=below_over (below_new (.cells #[.int .u8 1,.int .u8 0,.int .u16 0,.int .u8 0,.int .u8 0,.int .u16 0,.int .u8 0,.string ⟨#[]⟩,.int .u8 2,.int .u8 1,.int .u16 1,.int .u8 0,.int .u8 0,.int .u16 0,.int .u8 0,.string ⟨#[110]⟩,.int .u8 3,.int .u8 1,.int .u16 1,.int .u8 0,.int .u8 0,.int .u16 0,.int .u8 0,.string ⟨#[120]⟩] 96)) (below_new (.cells #[.int .u8 1,.int .u8 0,.int .u16 0,.int .u8 0,.int .u8 0,.int .u16 0,.int .u8 0,.string ⟨#[]⟩,.int .u8 2,.int .u8 1,.int .u16 1,.int .u8 0,.int .u8 0,.int .u16 0,.int .u8 0,.string ⟨#[110]⟩,.int .u8 3,.int .u8 1,.int .u16 1,.int .u8 0,.int .u8 0,.int .u16 0,.int .u8 0,.string ⟨#[120]⟩] 96)).size hb6
 have HO5:=Lib.hid ho5
 have HO6:=Lib.hid ho6
 have HB6:=Lib.hid (below_over HB2.out HB2.out.size hb26)
 have HF6:=Lib.hid (HF2.out.over hb26)
 have HA6:=Lib.hid (HA2.out.over hb26)
 have HC6:=Lib.hid (HC2.out.over hb26)
 clear ho5 ho6 hb6 hb26 i0 i1 si j0 j1 j2 sj
 go_upto_region 4 with(fail)
 have HP:=Lib.hid (arr_new u6 #[.int .u8 1,.int .u16 1,.slice pd 0 cd,.slice po 3 co] 71)
 have HO5b:=Lib.hid (HO5.out.over (below_new (.cells #[.int .u8 1,.int .u16 1,.slice pd 0 cd,.slice po 3 co] 71)))
 have HO6b:=Lib.hid (HO6.out.over (below_new (.cells #[.int .u8 1,.int .u16 1,.slice pd 0 cd,.slice po 3 co] 71)))
 have HB7:=Lib.hid (HB6.out.alloc HB6.out.size (.cells #[.int .u8 1,.int .u16 1,.slice pd 0 cd,.slice po 3 co] 71))
 have HF7:=Lib.hid (HF6.out.alloc (.cells #[.int .u8 1,.int .u16 1,.slice pd 0 cd,.slice po 3 co] 71))
 have HA7:=Lib.hid (HA6.out.alloc (.cells #[.int .u8 1,.int .u16 1,.slice pd 0 cd,.slice po 3 co] 71))
 have HC7:=Lib.hid (HC6.out.alloc (.cells #[.int .u8 1,.int .u16 1,.slice pd 0 cd,.slice po 3 co] 71))
 generalize u6.alloc (.cells #[.int .u8 1,.int .u16 1,.slice pd 0 cd,.slice po 3 co] 71)=w3 at *
 have HU:=Lib.hid (show w1.heap.size+1≤w3.heap.size by have:=HF7.out.lt;omega)
 have HCV1:Hid (∀ W,Calls Tryz.prog 40 #[.agg #[.int .u8 1,.int .u16 1],.int .i64 2] W fun e w'=>e=.returned (.agg #[.int .u8 1,.int .u16 1,.int .u8 2])∧Below W.heap.size W w'):=Lib.hid fun W=>pvid_any ⟨1,1⟩ 2 W (by omega)
 have HCV2:Hid (∀ W,Calls Tryz.prog 40 #[.agg #[.int .u8 2,.int .u16 1],.int .i64 0] W fun e w'=>e=.returned (.agg #[.int .u8 2,.int .u16 1,.int .u8 0])∧Below W.heap.size W w'):=Lib.hid fun W=>pvid_any ⟨2,1⟩ 0 W (by omega)
 have HCM:Hid (∀ v W,GRow encOp 8 W v wbOpsQ→Calls Tryz.prog 41 #[.agg #[.int .u8 2,.int .u16 1],v] W (WbMkQ W)):=Lib.hid fun v W hv=>wbMkQ v W hv
 have i0:=HA7.out.cell (j:=0) rfl
 have i1:=HA7.out.cell (j:=1) rfl
 have si:=HA7.out.lt
 have k0:=HC7.out.cell (j:=0) rfl
 have k1:=HC7.out.cell (j:=1) rfl
 have sk:=HC7.out.lt
 have j0:=HF7.out.cell (j:=0) rfl
 have j1:=HF7.out.cell (j:=1) rfl
 have j2:=HF7.out.cell (j:=2) rfl
 have sj:=HF7.out.lt
 have HS:Hid (∀ w':World,Below w3.heap.size w3 w'→(w'.cell? ⟨w.heap.size,0,none⟩=some (.int .u8 1)∧w'.cell? ⟨w.heap.size,1,none⟩=some (.int .u16 1)∧w'.cell? ⟨w.heap.size+1,0,none⟩=some (.int .u8 2)∧w'.cell? ⟨w.heap.size+1,1,none⟩=some (.int .u16 1)∧w'.cell? ⟨w1.heap.size,0,none⟩=some (.int .u8 1)∧w'.cell? ⟨w1.heap.size,1,none⟩=some (.int .u16 1)∧w'.cell? ⟨w1.heap.size,2,none⟩=some (.int .u8 0)∧Below w3.heap.size w3 w')):=Lib.hid fun w' hb=>⟨(hb.cell (p:=⟨w.heap.size,0,none⟩) si).trans i0,(hb.cell (p:=⟨w.heap.size,1,none⟩) si).trans i1,(hb.cell (p:=⟨w.heap.size+1,0,none⟩) sk).trans k0,(hb.cell (p:=⟨w.heap.size+1,1,none⟩) sk).trans k1,(hb.cell (p:=⟨w1.heap.size,0,none⟩) sj).trans j0,(hb.cell (p:=⟨w1.heap.size,1,none⟩) sj).trans j1,(hb.cell (p:=⟨w1.heap.size,2,none⟩) sj).trans j2,hb⟩
 go_cut [6] (fun s wx=>∃ g6 qd ce qo cq,s=.pointer (some ⟨g6,0,none⟩)∧Hid (ArrT wx g6 71 [.int .u8 2,.int .u16 1,.slice qd 1 ce,.slice qo 2 cq])∧Hid (GOwn encPid 2 25 wx w3.heap.size (.slice qd 1 ce) [wbA])∧Hid (GOwn encOp 8 96 wx w3.heap.size (.slice qo 2 cq) wbOpsQ)∧Hid (Below w3.heap.size w3 wx))
 case first =>
  go_region_held3 (fun w'=>w'.cell? ⟨w.heap.size,0,none⟩=some (.int .u8 1)∧w'.cell? ⟨w.heap.size,1,none⟩=some (.int .u16 1)∧w'.cell? ⟨w.heap.size+1,0,none⟩=some (.int .u8 2)∧w'.cell? ⟨w.heap.size+1,1,none⟩=some (.int .u16 1)∧w'.cell? ⟨w1.heap.size,0,none⟩=some (.int .u8 1)∧w'.cell? ⟨w1.heap.size,1,none⟩=some (.int .u16 1)∧w'.cell? ⟨w1.heap.size,2,none⟩=some (.int .u8 0)∧Below w3.heap.size w3 w') ((refine HS.out _ ?_;(repeat(with_reducible first|exact HBm.out|exact HBw.out|exact HBv.out|exact Below.refl _ _|refine Below.drew ?_|refine balloc49 ?_ _|refine Below.setCell (p:=⟨_,_,none⟩) ?_ (by(try simp) <;> omega) _))))
   (first|(go_at_call 40;(with_reducible refine(HCV1.out _).mono ?_);rintro e w5 ⟨rfl,hb5⟩;have HBv:Hid (Below w3.heap.size w3 w5):=Lib.hid (below_over (B:=w3.heap.size) (w0:=w3) (by(repeat(with_reducible first|exact HBm.out|exact HBw.out|exact HBv.out|exact Below.refl _ _|refine Below.drew ?_|refine balloc49 ?_ _|refine Below.setCell (p:=⟨_,_,none⟩) ?_ (by(try simp) <;> omega) _))) (by(try simp) <;> omega) hb5);have HB5b:=Lib.hid hb5;have hs5:=hb5.size;(try simp at hs5);have hs5a:=HBv.out.size;(try(have q1:w3.heap.size<w5.heap.size:=by omega));obtain⟨hc5,hf5⟩:=bcell hb5;clear hb5)|(go_at_call 40;(with_reducible refine(HCV2.out _).mono ?_);rintro e w7 ⟨rfl,hb5⟩;have HBw:Hid (Below w3.heap.size w3 w7):=Lib.hid (below_over (B:=w3.heap.size) (w0:=w3) (by(repeat(with_reducible first|exact HBm.out|exact HBw.out|exact HBv.out|exact Below.refl _ _|refine Below.drew ?_|refine balloc49 ?_ _|refine Below.setCell (p:=⟨_,_,none⟩) ?_ (by(try simp) <;> omega) _))) (by(try simp) <;> omega) hb5);have HB7b:=Lib.hid hb5;have hs7:=hb5.size;(try simp at hs7);have hs7a:=HBw.out.size;(try(have q2:w3.heap.size<w7.heap.size:=by omega));(try(have q3:w5.heap.size<w7.heap.size:=by omega));obtain⟨hc7,hf7⟩:=bcell hb5;clear hb5) |
    (go_at_call 41;refine(HCM.out _ _ (by first|exact wbRowQ _ _ (by simp)|exact(wbRowQ _ _ (by simp)).over (below_new _))).mono ?_;rintro e w6 ⟨qd,ce,qo,cq,rfl,ho5,ho6,hb6⟩;have HBm:Hid (Below w3.heap.size w3 w6):=Lib.hid (below_over (B:=w3.heap.size) (w0:=w3) (by(repeat(with_reducible first|exact HBm.out|exact HBw.out|exact HBv.out|exact Below.refl _ _|refine Below.drew ?_|refine balloc49 ?_ _|refine Below.setCell (p:=⟨_,_,none⟩) ?_ (by(try simp) <;> omega) _))) (by(try simp) <;> omega) hb6);have hs6:=hb6.size;(try simp at hs6);(try(have q4:w3.heap.size<w6.heap.size:=by omega));(try(have q5:w5.heap.size<w6.heap.size:=by omega));(try(have q6:w7.heap.size<w6.heap.size:=by omega));(try(have q7:w7.heap.size+1<w6.heap.size:=by omega));have HQ5:Hid (GOwn encPid 2 25 w6 w3.heap.size (.slice qd 1 ce) [wbA]):=Lib.hid (ho5.base (by(try simp) <;> omega));have HQ6:Hid (GOwn encOp 8 96 w6 w3.heap.size (.slice qo 2 cq) wbOpsQ):=Lib.hid (ho6.base (by(try simp) <;> omega));have HB6b:=Lib.hid hb6;obtain⟨hc6,hf6⟩:=bcell hb6;clear ho5 ho6 hb6))
  ·
   rename_i J K hJ hK hHeld
   clear hHeld
   refine hK _ _ (Met.intro (hJ _ _ ?_))
   (repeat apply Exists.intro)
   refine⟨?_,rfl⟩
   exact⟨_,qd,ce,qo,cq,rfl,Lib.hid (arrT_new w6 [.int .u8 2,.int .u16 1,.slice qd 1 ce,.slice qo 2 cq] 71),Lib.hid (HQ5.out.over (below_new _)),Lib.hid (HQ6.out.over (below_new _)),Lib.hid (balloc49 HBm.out _)⟩
  ·
   rename_i J K hJ hK hHeld
   clear hHeld
   refine hK _ _ (Met.intro (hJ _ _ ?_))
   (repeat apply Exists.intro)
   refine⟨?_,rfl⟩
   have HZ:ArrT w6 (w7.heap.size+1) 71 [.int .u8 0,.int .u16 0,.slice none 0 0,.slice none 0 0]:=(show ArrT ((w7.alloc (.cells #[.int .u8 3,.int .u8 1,.int .u16 1,.int .u8 0,.int .u8 0,.int .u16 0,.int .u8 0,.string ⟨#[121]⟩,.int .u8 4,.int .u8 1,.int .u16 1,.int .u8 2,.int .u8 2,.int .u16 1,.int .u8 0,.string ⟨#[]⟩] 96)).alloc (.cells #[.int .u8 0,.int .u16 0,.slice none 0 0,.slice none 0 0] 71)) (w7.heap.size+1) 71 [.int .u8 0,.int .u16 0,.slice none 0 0,.slice none 0 0] from(by have h:=arrT_new (w7.alloc (.cells #[.int .u8 3,.int .u8 1,.int .u16 1,.int .u8 0,.int .u8 0,.int .u16 0,.int .u8 0,.string ⟨#[121]⟩,.int .u8 4,.int .u8 1,.int .u16 1,.int .u8 2,.int .u8 2,.int .u16 1,.int .u8 0,.string ⟨#[]⟩] 96)) [.int .u8 0,.int .u16 0,.slice none 0 0,.slice none 0 0] 71;simpa using h)).over HB6b.out
   have h:=put4 HZ HQ5.out HQ6.out HBm.out (by omega)
   exact⟨_,qd,ce,qo,cq,rfl,Lib.hid h.1,Lib.hid h.2.1,Lib.hid h.2.2.1,Lib.hid h.2.2.2⟩
  ·
   rename_i J K hJ hK hHeld
   clear hHeld
   refine hK _ _ (Met.intro (hJ _ _ ?_))
   (repeat apply Exists.intro)
   refine⟨?_,rfl⟩
   have HZ:ArrT w6 w7.heap.size 71 [.int .u8 0,.int .u16 0,.slice none 0 0,.slice none 0 0]:=((arrT_new w7 [.int .u8 0,.int .u16 0,.slice none 0 0,.slice none 0 0] 71).over (below_new _)).over HB6b.out
   have h:=put4 HZ HQ5.out HQ6.out HBm.out (by omega)
   exact⟨_,qd,ce,qo,cq,rfl,Lib.hid h.1,Lib.hid h.2.1,Lib.hid h.2.2.1,Lib.hid h.2.2.2⟩
  ·
   rename_i J K hJ hK hHeld
   clear hHeld
   refine hK _ _ (Met.intro (hJ _ _ ?_))
   (repeat apply Exists.intro)
   refine⟨?_,rfl⟩
   have HZ:ArrT w6 w5.heap.size 71 [.int .u8 0,.int .u16 0,.slice none 0 0,.slice none 0 0]:=(((arrT_new w5 [.int .u8 0,.int .u16 0,.slice none 0 0,.slice none 0 0] 71).over HB7b.out).over (below_new _)).over HB6b.out
   have h:=put4 HZ HQ5.out HQ6.out HBm.out (by omega)
   exact⟨_,qd,ce,qo,cq,rfl,Lib.hid h.1,Lib.hid h.2.1,Lib.hid h.2.2.1,Lib.hid h.2.2.2⟩
  ·
   rename_i J K hJ hK hHeld
   clear hHeld
   refine hK _ _ (Met.intro (hJ _ _ ?_))
   (repeat apply Exists.intro)
   refine⟨?_,rfl⟩
   have HZ:ArrT w6 w3.heap.size 71 [.int .u8 0,.int .u16 0,.slice none 0 0,.slice none 0 0]:=((((show ArrT (w3.alloc (.cells #[.int .u8 0,.int .u16 0,.slice none 0 0,.slice none 0 0] 71)).drew w3.heap.size 71 [.int .u8 0,.int .u16 0,.slice none 0 0,.slice none 0 0] from arrT_new w3 [.int .u8 0,.int .u16 0,.slice none 0 0,.slice none 0 0] 71).over HB5b.out).over HB7b.out).over (below_new _)).over HB6b.out
   have h:=put4 HZ HQ5.out HQ6.out HBm.out (by omega)
   exact⟨_,qd,ce,qo,cq,rfl,Lib.hid h.1,Lib.hid h.2.1,Lib.hid h.2.2.1,Lib.hid h.2.2.2⟩
 case rest =>
  obtain⟨g6,qd,ce,qo,cq,rfl,HQ,HQ5,HQ6,HB8⟩:=hcut
  rename World=>w4
  have HP8:=Lib.hid (HP.out.over HB8.out)
  have HF8:=Lib.hid (HF7.out.over HB8.out)
  have HA8:=Lib.hid (HA7.out.over HB8.out)
  have HC8:=Lib.hid (HC7.out.over HB8.out)
  have HD8:=Lib.hid (HO5b.out.over HB8.out)
  have HO8:=Lib.hid (HO6b.out.over HB8.out)
  have HBw:=Lib.hid (below_over HB7.out HB7.out.size HB8.out)
  have HPW:Hid (∀(W:World) (b:Nat),Below w4.heap.size w4 W→b=W.heap.size→Pats (W.alloc (.cells #[.int .u8 1,.int .u16 1,.slice pd 0 cd,.slice po 3 co,.int .u8 2,.int .u16 1,.slice qd 1 ce,.slice qo 2 cq] 71)) (.slice (some ⟨b,0,none⟩) 2 2) [(⟨wbP,.slice pd 0 cd,.slice po 3 co⟩:LaidP),⟨wbQ,.slice qd 1 ce,.slice qo 2 cq⟩]):=Lib.hid fun W b hb hbe=>by
   subst hbe
   refine⟨(show GOwn encPat 4 71 (W.alloc (.cells #[.int .u8 1,.int .u16 1,.slice pd 0 cd,.slice po 3 co,.int .u8 2,.int .u16 1,.slice qd 1 ce,.slice qo 2 cq] 71)) 0 (.slice (some ⟨W.heap.size,0,none⟩) 2 2) [(⟨wbP,.slice pd 0 cd,.slice po 3 co⟩:LaidP),⟨wbQ,.slice qd 1 ce,.slice qo 2 cq⟩] from own_lit49 W 71 [(⟨wbP,.slice pd 0 cd,.slice po 3 co⟩:LaidP),⟨wbQ,.slice qd 1 ce,.slice qo 2 cq⟩] 0 rfl (by show 2≤maxLen;unfold maxLen;omega) (Nat.zero_le _)).row,fun x hx => ?_⟩
   rcases List.mem_cons.1 hx with rfl|hx
   ·
    exact⟨((HD8.out.over hb).over (below_new _)).row,((HO8.out.over hb).over (below_new _)).row⟩
   ·
    obtain rfl:=List.mem_singleton.1 hx
    exact⟨((HQ5.out.over hb).over (below_new _)).row,((HQ6.out.over hb).over (below_new _)).row⟩
  have HCB:Hid (∀ v W,Pats W v [(⟨wbP,.slice pd 0 cd,.slice po 3 co⟩:LaidP),⟨wbQ,.slice qd 1 ce,.slice qo 2 cq⟩]→Calls Tryz.prog 11 #[v] W fun e w'=>∃ b,e=.returned (.pointer (some ⟨b,0,none⟩))∧GrIs w' b wbG∧Below W.heap.size W w'):=Lib.hid fun v W h=>by
   refine(build_any v _ 12 (by omega) W h (by rw [show([(⟨wbP,.slice pd 0 cd,.slice po 3 co⟩:LaidP),⟨wbQ,.slice qd 1 ce,.slice qo 2 cq⟩]).map (·.p)=wbG by unfold wbG;rfl];exact wbFew)).mono ?_
   rintro e w' ⟨b,bv,be,n,hn,rfl,hgr⟩
   obtain⟨_,_,_,hG,hb⟩:=hgr
   rw [show([(⟨wbP,.slice pd 0 cd,.slice po 3 co⟩:LaidP),⟨wbQ,.slice qd 1 ce,.slice qo 2 cq⟩]).map (·.p)=wbG by unfold wbG;rfl,wbBuild] at hG
   exact⟨b,rfl,⟨bv,be,n,hG⟩,hb⟩
  have p0:=HP8.out.cell (j:=0) rfl
  have p1:=HP8.out.cell (j:=1) rfl
  have p2:=HP8.out.cell (j:=2) rfl
  have p3:=HP8.out.cell (j:=3) rfl
  have sp:=HP8.out.lt
  have q0:=HQ.out.arr.cell (j:=0) rfl
  have q1:=HQ.out.arr.cell (j:=1) rfl
  have q2:=HQ.out.arr.cell (j:=2) rfl
  have q3:=HQ.out.arr.cell (j:=3) rfl
  have sq:=HQ.out.arr.lt
  go_wp2_with fail
  refine(HCB.out _ _ (HPW.out w4 _ (Below.refl _ _) rfl)).mono ?_
  rintro e w5 ⟨gb,rfl,hg,hb5⟩
  have hb45:Below w4.heap.size w4 w5:=below_over (below_new (.cells #[.int .u8 1,.int .u16 1,.slice pd 0 cd,.slice po 3 co,.int .u8 2,.int .u16 1,.slice qd 1 ce,.slice qo 2 cq] 71)) (below_new (.cells #[.int .u8 1,.int .u16 1,.slice pd 0 cd,.slice po 3 co,.int .u8 2,.int .u16 1,.slice qd 1 ce,.slice qo 2 cq] 71)).size hb5
  have HG5:=Lib.hid hg
  have HF5:=Lib.hid (HF8.out.over hb45)
  have HA5:=Lib.hid (HA8.out.over hb45)
  have HC5:=Lib.hid (HC8.out.over hb45)
  have HB5:=Lib.hid (below_over HBw.out HBw.out.size hb45)
  clear hg hb5 hb45 p0 p1 p2 p3 sp q0 q1 q2 q3 sq
  have f0:=HF5.out.cell (j:=0) rfl
  have f1:=HF5.out.cell (j:=1) rfl
  have f2:=HF5.out.cell (j:=2) rfl
  have sf:=HF5.out.lt
  go_wp2_with fail
  have h9:=ball_any gb wbG wbF w5 HG5.out wbW wbIds wbEdges
  rw [wbToldL] at h9
  refine h9.mono ?_
  clear h9
  rintro e w6 ⟨lv,rfl,hl6,hb6⟩
  have HL6:=Lib.hid hl6
  have HG6:=Lib.hid (HG5.out.over hb6)
  have HA6':=Lib.hid (HA5.out.over hb6)
  have HC6':=Lib.hid (HC5.out.over hb6)
  have HB6':=Lib.hid (below_over HB5.out HB5.out.size hb6)
  clear hl6 hb6 f0 f1 f2 sf
  obtain⟨la,lc,rfl,z1,z2,hc⟩:=HL6.out.row.at encTl_len
  unfold maxLen at z2
  obtain⟨lb,lo,rfl,sl,hcl⟩:=hc.resolve_left (by unfold wbTold;decide)
  have t0:=hcl 0 ⟨⟨#[120]⟩,wbX⟩ (by unfold wbTold;rfl) w6 (Below.refl _ _)
  have t1:=hcl 1 ⟨⟨#[121]⟩,wbY⟩ (by unfold wbTold;rfl) w6 (Below.refl _ _)
  have hll:wbTold.length=2:=by unfold wbTold;rfl
  rw [hll]
  dsimp only
  have c0:w6.cell? ⟨lb,lo,none⟩=some (.string ⟨#[120]⟩):=by simpa using t0.2 0 (.string ⟨#[120]⟩) rfl
  have c1:w6.cell? ⟨lb,lo+1,none⟩=some (.int .u8 1):=by simpa using t0.2 1 (.int .u8 1) rfl
  have c2:w6.cell? ⟨lb,lo+2,none⟩=some (.int .u16 1):=by simpa using t0.2 2 (.int .u16 1) rfl
  have c3:w6.cell? ⟨lb,lo+3,none⟩=some (.int .u8 2):=by simpa using t0.2 3 (.int .u8 2) rfl
  have d1:w6.cell? ⟨lb,lo+4+1,none⟩=some (.int .u8 2):=by simpa using t1.2 1 (.int .u8 2) rfl
  have d2:w6.cell? ⟨lb,lo+4+1+1,none⟩=some (.int .u16 1):=by simpa [Nat.add_assoc] using t1.2 2 (.int .u16 1) rfl
  have d3:w6.cell? ⟨lb,lo+4+1+2,none⟩=some (.int .u8 0):=by simpa [Nat.add_assoc] using t1.2 3 (.int .u8 0) rfl
  have i0:=HA6'.out.cell (j:=0) rfl
  have i1:=HA6'.out.cell (j:=1) rfl
  have si:=HA6'.out.lt
  have k0:=HC6'.out.cell (j:=0) rfl
  have k1:=HC6'.out.cell (j:=1) rfl
  have sk:=HC6'.out.lt
  have en1:∀ w,(binOp .eql 42 (.agg #[.string ⟨#[120]⟩,.int .u8 1,.int .u16 1,.int .u8 2]) (.agg #[.string ⟨#[120]⟩,.int .u8 1,.int .u16 1,.int .u8 2])).run Tryz.prog w=.ok (.bool true) w:=eql_line ⟨⟨#[120]⟩,wbX⟩ ⟨⟨#[120]⟩,wbX⟩ true (by simp)
  have en2:∀ w,(binOp .eql 27 (.agg #[.int .u8 2,.int .u16 1,.int .u8 0]) (.agg #[.int .u8 2,.int .u16 1,.int .u8 0])).run Tryz.prog w=.ok (.bool true) w:=eql_vid wbY wbY true (by simp)
  have gd1:=fun p q xs ys w=>guard_line .eql p q xs ys w
  have gd2:=fun p q xs ys w=>guard_vid .eql p q xs ys w
  have HBy:Hid (∀ W,Below w6.heap.size w6 W→Calls Tryz.prog 16 #[.pointer (some ⟨gb,0,none⟩),.int .u8 2] W fun e w'=>e=.returned (.int .i64 1)∧Below W.heap.size W w'):=Lib.hid fun W hb=>by
   have h8:=bby_any gb wbG 2 W (HG6.out.over hb) wbW wbIds wbEdges (HT.out.over (below_over HB6'.out HB6'.out.size hb))
   rw [wbBy] at h8
   exact h8
  clear t0 t1 hcl hc HL6
  go_upto_region 7 with(fail)
  have hcur:Below w6.heap.size w6 w6.drew:=(Below.refl _ _).drew
  refine wp_region_lex (C:=IsOver w6) 27 [] (by kernel_rfl) (by kernel_rfl) (isOver_of hcur) ?_
  simp only [List.take_succ_cons,List.take_zero,List.drop_succ_cons,List.drop_zero]
  repeat(first|(refine lex_skip rfl rfl ?_;simp only [Act.put,List.setIfInBounds_toArray,List.set_cons_succ,List.set_cons_zero])|(refine lex_one rfl ?_;go_big_quiet_step (fail);refine wpQuiet_nil ?_)|(refine lex_loud rfl ?_;go_wp2_with (first|(go_at_call 40;(with_reducible refine(HCV1.out _).mono ?_);rintro e w7 ⟨rfl,hb⟩;replace hcur:=below_over hcur hcur.size hb;clear hb)|(go_at_call 40;(with_reducible refine(HCV2.out _).mono ?_);rintro e w7 ⟨rfl,hb⟩;replace hcur:=below_over hcur hcur.size hb;clear hb)|(go_at_call 16;(with_reducible refine(HBy.out _ hcur).mono ?_);rintro e w7 ⟨rfl,hb⟩;replace hcur:=below_over hcur hcur.size hb;clear hb));refine⟨isOver_of hcur,?_⟩))
  refine lex_end ?_
  have HBE:=Lib.hid (below_over HB6'.out HB6'.out.size hcur)
  clear hcur
  go_wp2_with fail
  go_ret
  exact⟨rfl,HBE.out⟩
end Go.Proofs.YtanfebljiblhbaaGreatDoor
