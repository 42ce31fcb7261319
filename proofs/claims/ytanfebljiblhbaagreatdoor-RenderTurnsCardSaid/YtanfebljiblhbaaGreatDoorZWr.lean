/- Of nil there are no names. Contract of the example of layer 25. -/
import Derived.Test.YtanfebljiblhbaaGreatDoorZRnC
import Derived.Test.YtanfebljiblhbaaGreatDoorZWrP
set_option linter.unusedVariables false
set_option linter.unusedSimpArgs false
namespace Go.Proofs.YtanfebljiblhbaaGreatDoor
open Go Go.RowKit

def NilRes(w:World)(e:Ending)(w':World):Prop:=e=.returned (.slice none 0 0)∧Below w.heap.size w w'
set_option maxHeartbeats 2000000 in
set_option maxRecDepth 100000 in
theorem some_nil(fv:Value)(w:World):Calls Tryz.prog 49 #[.pointer none,fv] w (NilRes w):=by
 go_enter Tryz.func49,Tryz.ntmps49
 go_wp2_with fail
 go_ret
 exact⟨rfl,Below.refl _ _⟩
def NlRel(w:World)(v3 v9:Value)(wr:World):Prop:=v3=.slice none 0 0∧v9=.int .i64 ((0:Nat):Int)∧Below w.heap.size w wr
set_option maxHeartbeats 2000000 in
set_option maxRecDepth 100000 in
theorem gfiles_nil(w:World):Calls Tryz.prog 18 #[.pointer none] w (NilRes w):=by
 go_enter Tryz.func18,Tryz.ntmps18
 go_wp2_with fail
 refine(some_nil _ _).mono ?_
 rintro e w2 ⟨rfl,hb⟩
 have HB2:=Lib.hid hb
 clear hb
 go_wp2_with fail
 go_loopw [3,9] (fun v3 v9 wr=>NlRel w2 v3 v9 wr) (fun _ v9 _=>0)
 case atStart=>exact⟨rfl,rfl,Below.refl _ _⟩
 case round =>
  obtain⟨rfl,rfl,hbl⟩:=hrel
  go_wp2_with fail
  go_ret
  exact⟨rfl,below_over HB2.out HB2.out.size hbl⟩
set_option maxHeartbeats 2000000 in
set_option maxRecDepth 100000 in
theorem nall_nil(w:World):Calls Tryz.prog 34 #[.pointer none] w (NilRes w):=by
 have hmm:=@run_makeMap Tryz.prog
 have HB1:=Lib.hid (below_new (w:=w) (.map #[] 0))
 go_enter Tryz.func34,Tryz.ntmps34
 go_upto_region 3 with(fail)
 generalize hw1:w.alloc (.map #[] 0)=w1 at *
 clear hw1 hmm
 go_wp2_with fail
 refine(gfiles_nil _).mono ?_
 rintro e w2 ⟨rfl,hb⟩
 have HB2:=Lib.hid (below_over HB1.out HB1.out.size hb)
 clear hb
 go_wp2_with fail
 go_loopw [3,15] (fun v3 v15 wr=>NlRel w2 v3 v15 wr) (fun _ v15 _=>0)
 case atStart=>exact⟨rfl,rfl,Below.refl _ _⟩
 case round =>
  obtain⟨rfl,rfl,hbl⟩:=hrel
  go_wp2_with fail
  go_ret
  exact⟨rfl,below_over HB2.out HB2.out.size hbl⟩
end Go.Proofs.YtanfebljiblhbaaGreatDoor
namespace Go.Proofs.YtanfebljiblhbaaGreatDoor
open Go Go.RowKit

theorem own_lit25{α:Type}{enc:α→List Value}{sz:Nat}(w:World)(e:TypeId)(xs:List α)(B:Nat)(hl:(xs.flatMap enc).length=xs.length*sz)(hm:xs.length≤maxLen)(hB:B≤w.heap.size):GOwn enc sz e (w.alloc (.cells (xs.flatMap enc).toArray e)) B (.slice (some ⟨w.heap.size,0,none⟩) xs.length xs.length) xs:=
 ⟨hl,.inr ⟨w.heap.size,xs.length,(xs.flatMap enc).toArray,rfl,hB,by rw [heap_alloc_new],Nat.le_refl _,hm,by simp [hl],by rw [← hl];exact List.take_length⟩⟩
theorem balloc25{w w':World}(h:Below w.heap.size w w')(o:Obj):Below w.heap.size w (w'.alloc o):=h.alloc h.size o
theorem frowR(W:World):FRow ((W.alloc (.cells #[.string ⟨#[121]⟩,.string ⟨#[120]⟩] 9)).alloc (.cells #[.string ⟨#[110]⟩,.slice none 0 0,.slice (some ⟨W.heap.size,0,none⟩) 2 2] 66)) (.slice (some ⟨W.heap.size+1,0,none⟩) 1 1) wrTree:=by
 have e1:(W.alloc (.cells #[.string ⟨#[121]⟩,.string ⟨#[120]⟩] 9)).heap.size=W.heap.size+1:=by simp
 have h1:GOwn encS1 1 9 (W.alloc (.cells #[.string ⟨#[121]⟩,.string ⟨#[120]⟩] 9)) 0 (.slice (some ⟨W.heap.size,0,none⟩) 2 2) [⟨#[121]⟩,⟨#[120]⟩]:=own_lit25 (enc:=encS1) (sz:=1) W 9 [⟨#[121]⟩,⟨#[120]⟩] 0 rfl (by decide) (Nat.zero_le _)
 have h2:GOwn encF 3 66 ((W.alloc (.cells #[.string ⟨#[121]⟩,.string ⟨#[120]⟩] 9)).alloc (.cells #[.string ⟨#[110]⟩,.slice none 0 0,.slice (some ⟨W.heap.size,0,none⟩) 2 2] 66)) 0 (.slice (some ⟨(W.alloc (.cells #[.string ⟨#[121]⟩,.string ⟨#[120]⟩] 9)).heap.size,0,none⟩) 1 1) [((⟨⟨#[110]⟩,[],[⟨#[121]⟩,⟨#[120]⟩]⟩:FileM),.slice none 0 0,.slice (some ⟨W.heap.size,0,none⟩) 2 2)]:=own_lit25 (enc:=encF) (sz:=3) (W.alloc (.cells #[.string ⟨#[121]⟩,.string ⟨#[120]⟩] 9)) 66 [((⟨⟨#[110]⟩,[],[⟨#[121]⟩,⟨#[120]⟩]⟩:FileM),.slice none 0 0,.slice (some ⟨W.heap.size,0,none⟩) 2 2)] 0 rfl (by show 1≤maxLen;unfold maxLen;omega) (Nat.zero_le _)
 rw [e1] at h2
 refine⟨_,rfl,h2.row,fun x hx => ?_⟩
 rw [List.mem_singleton.1 hx]
 exact⟨row_nil _ _,(srow_of h1.row).over (below_new _)⟩
def WrMk(w:World)(e:Ending)(w':World):Prop:=∃ pd cd po co,e=.returned (.tuple #[.agg #[.int .u8 1,.int .u16 1,.slice pd 0 cd,.slice po 5 co],.int .i64 0])∧GOwn encPid 2 25 w' w.heap.size (.slice pd 0 cd) []∧GOwn encOp 8 96 w' w.heap.size (.slice po 5 co) wrOps∧Below w.heap.size w w'
theorem wrMk(v:Value)(w:World)(hv:GRow encOp 8 w v wrOps):Calls Tryz.prog 41 #[.agg #[.int .u8 1,.int .u16 1],v] w (WrMk w):=by
 have h:=pmake_any wrId v wrOps w hv (by decide) (fun o ho=>Nat.le_trans (show o.text.size≤1 from(by decide +kernel:∀ o∈wrOps,o.text.size≤1) o ho) (by unfold maxLen;omega)) wrGood
 refine h.mono ?_
 rintro e w' ⟨pd,cd,po,co,rfl,h1,h2,h3⟩
 rw [wrDeps] at h1 ⊢
 exact⟨pd,cd,po,co,rfl,h1,h2,h3⟩
theorem rowR(W:World)(b:Nat)(hb:b=W.heap.size):GRow encOp 8 (W.alloc (.cells #[.int .u8 1,.int .u8 0,.int .u16 0,.int .u8 0,.int .u8 0,.int .u16 0,.int .u8 0,.string ⟨#[]⟩,.int .u8 2,.int .u8 1,.int .u16 1,.int .u8 0,.int .u8 0,.int .u16 0,.int .u8 0,.string ⟨#[110]⟩,.int .u8 3,.int .u8 1,.int .u16 1,.int .u8 0,.int .u8 0,.int .u16 0,.int .u8 0,.string ⟨#[120]⟩,.int .u8 3,.int .u8 1,.int .u16 1,.int .u8 0,.int .u8 0,.int .u16 0,.int .u8 0,.string ⟨#[121]⟩,.int .u8 4,.int .u8 1,.int .u16 1,.int .u8 3,.int .u8 1,.int .u16 1,.int .u8 2,.string ⟨#[]⟩] 96)) (.slice (some ⟨b,0,none⟩) 5 5) wrOps:=by
 subst hb
 exact(show GOwn encOp 8 96 (W.alloc (.cells #[.int .u8 1,.int .u8 0,.int .u16 0,.int .u8 0,.int .u8 0,.int .u16 0,.int .u8 0,.string ⟨#[]⟩,.int .u8 2,.int .u8 1,.int .u16 1,.int .u8 0,.int .u8 0,.int .u16 0,.int .u8 0,.string ⟨#[110]⟩,.int .u8 3,.int .u8 1,.int .u16 1,.int .u8 0,.int .u8 0,.int .u16 0,.int .u8 0,.string ⟨#[120]⟩,.int .u8 3,.int .u8 1,.int .u16 1,.int .u8 0,.int .u8 0,.int .u16 0,.int .u8 0,.string ⟨#[121]⟩,.int .u8 4,.int .u8 1,.int .u16 1,.int .u8 3,.int .u8 1,.int .u16 1,.int .u8 2,.string ⟨#[]⟩] 96)) 0 (.slice (some ⟨W.heap.size,0,none⟩) 5 5) wrOps from own_lit25 W 96 wrOps 0 rfl (by decide) (Nat.zero_le _)).row
theorem wrSame:sameT wrTree wrTree=true:=by decide +kernel
set_option maxHeartbeats 4000000 in
set_option maxRecDepth 100000 in
theorem rtree_nil(w:World):Calls Tryz.prog 22 #[.pointer none] w (NilRes w):=by
 go_enter Tryz.func22,Tryz.ntmps22
 go_wp2_with fail
 refine(nall_nil _).mono ?_
 rintro e w1 ⟨rfl,hb⟩
 have HB:=Lib.hid hb
 clear hb
 go_wp2_with fail
 go_loopw [3,11] (fun v3 v11 wr=>NlRel w1 v3 v11 wr) (fun _ v11 _=>0)
 case atStart=>exact⟨rfl,rfl,Below.refl _ _⟩
 case round =>
  obtain⟨rfl,rfl,hbl⟩:=hrel
  have HBl:=Lib.hid (below_over HB.out HB.out.size hbl)
  clear hbl
  go_wp2_with fail
  refine(sortFile_none _ _ _).mono ?_
  rintro e w2 ⟨rfl,hw2⟩
  obtain rfl:=hw2.symm
  go_wp2_with fail
  go_ret
  exact⟨rfl,HBl.out⟩
set_option maxHeartbeats 16000000 in
set_option maxRecDepth 100000 in
theorem works25_any(w:World)(ht:Tab w):Calls Tryz.prog 20 #[] w fun e w'=>e=.returned (.bool true)∧Below w.heap.size w w':=by
 have HT:=Lib.hid ht
 have HA:=Lib.hid (arr_new w #[.int .u8 1,.int .u16 1] 25)
 have HB:=Lib.hid (below_new (w:=w) (.cells #[.int .u8 1,.int .u16 1] 25))
 clear ht
 go_enter Tryz.func20,Tryz.ntmps20
 go_upto_region 2 with(fail)
 generalize hw0:w.alloc (.cells #[.int .u8 1,.int .u16 1] 25)=w0 at *
 clear hw0
 have i0:=HA.out.cell (j:=0) rfl
 have i1:=HA.out.cell (j:=1) rfl
 have si:=HA.out.lt
 go_wp2_with fail
 refine(pvid_any ⟨1,1⟩ 0 _ (by omega)).mono ?_
 rintro e w1 ⟨rfl,hb1⟩
 have HB1:=Lib.hid (below_over HB.out HB.out.size hb1)
 have HA1:=Lib.hid (HA.out.over hb1)
 clear hb1 i0 i1 si
 go_upto_region 3 with(fail)
 have HA2:=Lib.hid (HA1.out.alloc (.cells #[.int .u8 1,.int .u16 1,.int .u8 0] 27))
 have HF2:=Lib.hid (arr_new w1 #[.int .u8 1,.int .u16 1,.int .u8 0] 27)
 have HB2:=Lib.hid (HB1.out.alloc HB1.out.size (.cells #[.int .u8 1,.int .u16 1,.int .u8 0] 27))
 generalize hw2:w1.alloc (.cells #[.int .u8 1,.int .u16 1,.int .u8 0] 27)=w2 at *
 clear hw2
 have i0:=HA2.out.cell (j:=0) rfl
 have i1:=HA2.out.cell (j:=1) rfl
 have si:=HA2.out.lt
 have j0:=HF2.out.cell (j:=0) rfl
 have j1:=HF2.out.cell (j:=1) rfl
 have j2:=HF2.out.cell (j:=2) rfl
 have sj:=HF2.out.lt
 have HZ:Hid (∀ {W:World},Below w2.heap.size w2 W→w2.heap.size≤W.heap.size):=Lib.hid fun h=>h.size
 have HS:Hid (∀ w':World,Below w2.heap.size w2 w'→(w'.cell? ⟨w.heap.size,0,none⟩=some (.int .u8 1)∧w'.cell? ⟨w.heap.size,1,none⟩=some (.int .u16 1)∧w'.cell? ⟨w1.heap.size,0,none⟩=some (.int .u8 1)∧w'.cell? ⟨w1.heap.size,1,none⟩=some (.int .u16 1)∧w'.cell? ⟨w1.heap.size,2,none⟩=some (.int .u8 0)∧Below w2.heap.size w2 w')):=Lib.hid fun w' hb=>⟨(hb.cell (p:=⟨w.heap.size,0,none⟩) si).trans i0,(hb.cell (p:=⟨w.heap.size,1,none⟩) si).trans i1,(hb.cell (p:=⟨w1.heap.size,0,none⟩) sj).trans j0,(hb.cell (p:=⟨w1.heap.size,1,none⟩) sj).trans j1,(hb.cell (p:=⟨w1.heap.size,2,none⟩) sj).trans j2,hb⟩
 have HQ:Hid (∀ {W u:World},Below w2.heap.size w2 W→Below W.heap.size W u→Below w2.heap.size w2 u):=Lib.hid fun h1 h2=>below_over h1 h1.size h2
 have HC2:Hid (∀ W,Calls Tryz.prog 40 #[.agg #[.int .u8 1,.int .u16 1],.int .i64 2] W fun e w'=>e=.returned (.agg #[.int .u8 1,.int .u16 1,.int .u8 2])∧Below W.heap.size W w'):=Lib.hid fun W=>pvid_any ⟨1,1⟩ 2 W (by omega)
 have HC3:Hid (∀ W,Calls Tryz.prog 40 #[.agg #[.int .u8 1,.int .u16 1],.int .i64 3] W fun e w'=>e=.returned (.agg #[.int .u8 1,.int .u16 1,.int .u8 3])∧Below W.heap.size W w'):=Lib.hid fun W=>pvid_any ⟨1,1⟩ 3 W (by omega)
 have HCM:Hid (∀ v W,GRow encOp 8 W v wrOps→Calls Tryz.prog 41 #[.agg #[.int .u8 1,.int .u16 1],v] W (WrMk W)):=Lib.hid fun v W hv=>wrMk v W hv
 go_cut [3] (fun s wx=>∃ g6 pd cd po co,s=.pointer (some ⟨g6,0,none⟩)∧Hid (ArrT wx g6 71 [.int .u8 1,.int .u16 1,.slice pd 0 cd,.slice po 5 co])∧Hid (GOwn encPid 2 25 wx w2.heap.size (.slice pd 0 cd) [])∧Hid (GOwn encOp 8 96 wx w2.heap.size (.slice po 5 co) wrOps)∧Hid (Below w2.heap.size w2 wx))
 case first =>
  go_region_held3 (fun w'=>w'.cell? ⟨w.heap.size,0,none⟩=some (.int .u8 1)∧w'.cell? ⟨w.heap.size,1,none⟩=some (.int .u16 1)∧w'.cell? ⟨w1.heap.size,0,none⟩=some (.int .u8 1)∧w'.cell? ⟨w1.heap.size,1,none⟩=some (.int .u16 1)∧w'.cell? ⟨w1.heap.size,2,none⟩=some (.int .u8 0)∧Below w2.heap.size w2 w') (first|(refine HS.out _ ?_;((repeat(first|exact Below.refl _ _|exact HBm.out|exact HBv2.out|exact HBv1.out|refine Below.drew ?_|refine balloc25 ?_ _|refine Below.setCell ?_ ?_ _|exact Nat.le_refl _|exact HBm.out.size|exact Nat.le_succ_of_le HBm.out.size|exact HBv2.out.size|exact Nat.le_succ_of_le HBv2.out.size|exact HBv1.out.size|exact Nat.le_succ_of_le HBv1.out.size));done)))
   (first|(go_at_call 41;refine(HCM.out _ _ (by first|exact rowR _ _ (by simp)|exact(rowR _ _ (by simp)).over (below_new _))).mono ?_;rintro e u6 ⟨pd,cd,po,co,rfl,ho5,ho6,hb6⟩;have HBm:Hid (Below w2.heap.size w2 u6):=Lib.hid (HQ.out (by with_reducible ((repeat(first|exact Below.refl _ _|exact HBv2.out|refine Below.drew ?_|refine balloc25 ?_ _|refine Below.setCell ?_ ?_ _|exact Nat.le_refl _|exact HBv2.out.size|exact Nat.le_succ_of_le HBv2.out.size));done)) hb6);have HKm:=Lib.hid hb6;obtain⟨hc6,hf6⟩:=bcell hb6;have HO5:=Lib.hid (ho5.base (HZ.out (by with_reducible ((repeat(first|exact Below.refl _ _|exact HBv2.out|refine Below.drew ?_|refine balloc25 ?_ _|refine Below.setCell ?_ ?_ _|exact Nat.le_refl _|exact HBv2.out.size|exact Nat.le_succ_of_le HBv2.out.size));done))));have HO6:=Lib.hid (ho6.base (HZ.out (by with_reducible ((repeat(first|exact Below.refl _ _|exact HBv2.out|refine Below.drew ?_|refine balloc25 ?_ _|refine Below.setCell ?_ ?_ _|exact Nat.le_refl _|exact HBv2.out.size|exact Nat.le_succ_of_le HBv2.out.size));done))));clear ho5 ho6 hb6)|(have hqq:=HBv1;clear hqq;go_at_call 40;refine(HC2.out _).mono ?_;rintro e u2 ⟨rfl,hb5⟩;have HBv2:Hid (Below w2.heap.size w2 u2):=Lib.hid (HQ.out (by with_reducible ((repeat(first|exact Below.refl _ _|exact HBv1.out|refine Below.drew ?_|refine balloc25 ?_ _|refine Below.setCell ?_ ?_ _|exact Nat.le_refl _|exact HBv1.out.size|exact Nat.le_succ_of_le HBv1.out.size));done)) hb5);have HKv2:=Lib.hid hb5;have hy2:=hb5.size;(try simp at hy2);(try(have hs5b2:w2.heap.size<u2.heap.size:=(by have h:=hb5.size;(try simp at h);omega)));(try(have hz12:u1.heap.size<u2.heap.size:=(by have h:=hb5.size;(try simp at h);omega)));obtain⟨hc2,hf2⟩:=bcell hb5;clear hb5)|(go_at_call 40;refine(HC3.out _).mono ?_;rintro e u1 ⟨rfl,hb5⟩;have HBv1:Hid (Below w2.heap.size w2 u1):=Lib.hid (HQ.out (by with_reducible ((repeat(first|exact Below.refl _ _|refine Below.drew ?_|refine balloc25 ?_ _|refine Below.setCell ?_ ?_ _|exact Nat.le_refl _|exact HS.out.size|exact Nat.le_succ_of_le HS.out.size));done)) hb5);have HKv1:=Lib.hid hb5;have hy1:=hb5.size;(try simp at hy1);(try(have hs5b1:w2.heap.size<u1.heap.size:=(by have h:=hb5.size;(try simp at h);omega)));obtain⟨hc1,hf1⟩:=bcell hb5;clear hb5))
  ·
   rename_i J K hJ hK hHeld
   clear hHeld
   refine hK _ _ (Met.intro (hJ _ _ ?_))
   (repeat apply Exists.intro)
   refine⟨?_,rfl⟩
   exact⟨_,pd,cd,po,co,rfl,Lib.hid (arrT_new u6 [.int .u8 1,.int .u16 1,.slice pd 0 cd,.slice po 5 co] 71),Lib.hid (HO5.out.over (below_new _)),Lib.hid (HO6.out.over (below_new _)),Lib.hid (balloc25 HBm.out _)⟩
  ·
   rename_i J K hJ hK hHeld
   clear hHeld
   refine hK _ _ (Met.intro (hJ _ _ ?_))
   (repeat apply Exists.intro)
   refine⟨?_,rfl⟩
   have HZ9:Hid (ArrT u6 (u2.heap.size+1) 71 [.int .u8 0,.int .u16 0,.slice none 0 0,.slice none 0 0]):=Lib.hid ((show ArrT ((u2.alloc (.cells #[.int .u8 1,.int .u8 0,.int .u16 0,.int .u8 0,.int .u8 0,.int .u16 0,.int .u8 0,.string ⟨#[]⟩,.int .u8 2,.int .u8 1,.int .u16 1,.int .u8 0,.int .u8 0,.int .u16 0,.int .u8 0,.string ⟨#[110]⟩,.int .u8 3,.int .u8 1,.int .u16 1,.int .u8 0,.int .u8 0,.int .u16 0,.int .u8 0,.string ⟨#[120]⟩,.int .u8 3,.int .u8 1,.int .u16 1,.int .u8 0,.int .u8 0,.int .u16 0,.int .u8 0,.string ⟨#[121]⟩,.int .u8 4,.int .u8 1,.int .u16 1,.int .u8 3,.int .u8 1,.int .u16 1,.int .u8 2,.string ⟨#[]⟩] 96)).alloc (.cells #[.int .u8 0,.int .u16 0,.slice none 0 0,.slice none 0 0] 71)) (u2.heap.size+1) 71 [.int .u8 0,.int .u16 0,.slice none 0 0,.slice none 0 0] from(by have h:=arrT_new (u2.alloc (.cells #[.int .u8 1,.int .u8 0,.int .u16 0,.int .u8 0,.int .u8 0,.int .u16 0,.int .u8 0,.string ⟨#[]⟩,.int .u8 2,.int .u8 1,.int .u16 1,.int .u8 0,.int .u8 0,.int .u16 0,.int .u8 0,.string ⟨#[110]⟩,.int .u8 3,.int .u8 1,.int .u16 1,.int .u8 0,.int .u8 0,.int .u16 0,.int .u8 0,.string ⟨#[120]⟩,.int .u8 3,.int .u8 1,.int .u16 1,.int .u8 0,.int .u8 0,.int .u16 0,.int .u8 0,.string ⟨#[121]⟩,.int .u8 4,.int .u8 1,.int .u16 1,.int .u8 3,.int .u8 1,.int .u16 1,.int .u8 2,.string ⟨#[]⟩] 96)) [.int .u8 0,.int .u16 0,.slice none 0 0,.slice none 0 0] 71;simpa using h)).over HKm.out)
   have nd:(Value.slice pd 0 cd).ownBlock=none∨(Value.slice pd 0 cd).ownBlock≠some (u2.heap.size+1):=.inr (fun q=>(HZ9.out.ne (show World.ownsRow _ _ _ _ _ _ _ from HO5.out) (by decide)) q.symm)
   have no:(Value.slice po 5 co).ownBlock=none∨(Value.slice po 5 co).ownBlock≠some (u2.heap.size+1):=.inr (fun q=>(HZ9.out.ne (show World.ownsRow _ _ _ _ _ _ _ from HO6.out) (by decide)) q.symm)
   exact⟨_,pd,cd,po,co,rfl,Lib.hid ((((HZ9.out.set 0 (.int .u8 1)).set 1 (.int .u16 1)).set 2 (.slice pd 0 cd)).set 3 (.slice po 5 co)),Lib.hid (show GOwn encPid 2 25 _ w2.heap.size (.slice pd 0 cd) [] from own_grown HO5.out (grown_trans (grown_trans (grown_trans (grown_trans (World.grownBy.refl u6 _) (grown_setCell _ _ _)) (grown_setCell _ _ _)) (grown_setCell _ _ _)) (grown_setCell _ _ _)) nd),Lib.hid (show GOwn encOp 8 96 _ w2.heap.size (.slice po 5 co) wrOps from own_grown HO6.out (grown_trans (grown_trans (grown_trans (grown_trans (World.grownBy.refl u6 _) (grown_setCell _ _ _)) (grown_setCell _ _ _)) (grown_setCell _ _ _)) (grown_setCell _ _ _)) no),Lib.hid ((((HBm.out.setCell (p:=⟨(u2.heap.size+1),0,none⟩) (Nat.le_succ_of_le HBv2.out.size) (.int .u8 1)).setCell (p:=⟨(u2.heap.size+1),1,none⟩) (Nat.le_succ_of_le HBv2.out.size) (.int .u16 1)).setCell (p:=⟨(u2.heap.size+1),2,none⟩) (Nat.le_succ_of_le HBv2.out.size) (.slice pd 0 cd)).setCell (p:=⟨(u2.heap.size+1),3,none⟩) (Nat.le_succ_of_le HBv2.out.size) (.slice po 5 co))⟩
  ·
   rename_i J K hJ hK hHeld
   clear hHeld
   refine hK _ _ (Met.intro (hJ _ _ ?_))
   (repeat apply Exists.intro)
   refine⟨?_,rfl⟩
   have HZ9:Hid (ArrT u6 u2.heap.size 71 [.int .u8 0,.int .u16 0,.slice none 0 0,.slice none 0 0]):=Lib.hid (((arrT_new u2 [.int .u8 0,.int .u16 0,.slice none 0 0,.slice none 0 0] 71).over (below_new _)).over HKm.out)
   have nd:(Value.slice pd 0 cd).ownBlock=none∨(Value.slice pd 0 cd).ownBlock≠some u2.heap.size:=.inr (fun q=>(HZ9.out.ne (show World.ownsRow _ _ _ _ _ _ _ from HO5.out) (by decide)) q.symm)
   have no:(Value.slice po 5 co).ownBlock=none∨(Value.slice po 5 co).ownBlock≠some u2.heap.size:=.inr (fun q=>(HZ9.out.ne (show World.ownsRow _ _ _ _ _ _ _ from HO6.out) (by decide)) q.symm)
   exact⟨_,pd,cd,po,co,rfl,Lib.hid ((((HZ9.out.set 0 (.int .u8 1)).set 1 (.int .u16 1)).set 2 (.slice pd 0 cd)).set 3 (.slice po 5 co)),Lib.hid (show GOwn encPid 2 25 _ w2.heap.size (.slice pd 0 cd) [] from own_grown HO5.out (grown_trans (grown_trans (grown_trans (grown_trans (World.grownBy.refl u6 _) (grown_setCell _ _ _)) (grown_setCell _ _ _)) (grown_setCell _ _ _)) (grown_setCell _ _ _)) nd),Lib.hid (show GOwn encOp 8 96 _ w2.heap.size (.slice po 5 co) wrOps from own_grown HO6.out (grown_trans (grown_trans (grown_trans (grown_trans (World.grownBy.refl u6 _) (grown_setCell _ _ _)) (grown_setCell _ _ _)) (grown_setCell _ _ _)) (grown_setCell _ _ _)) no),Lib.hid ((((HBm.out.setCell (p:=⟨u2.heap.size,0,none⟩) HBv2.out.size (.int .u8 1)).setCell (p:=⟨u2.heap.size,1,none⟩) HBv2.out.size (.int .u16 1)).setCell (p:=⟨u2.heap.size,2,none⟩) HBv2.out.size (.slice pd 0 cd)).setCell (p:=⟨u2.heap.size,3,none⟩) HBv2.out.size (.slice po 5 co))⟩
  ·
   rename_i J K hJ hK hHeld
   clear hHeld
   refine hK _ _ (Met.intro (hJ _ _ ?_))
   (repeat apply Exists.intro)
   refine⟨?_,rfl⟩
   have HZ9:Hid (ArrT u6 u1.heap.size 71 [.int .u8 0,.int .u16 0,.slice none 0 0,.slice none 0 0]):=Lib.hid ((((arrT_new u1 [.int .u8 0,.int .u16 0,.slice none 0 0,.slice none 0 0] 71).over HKv2.out).over (below_new _)).over HKm.out)
   have nd:(Value.slice pd 0 cd).ownBlock=none∨(Value.slice pd 0 cd).ownBlock≠some u1.heap.size:=.inr (fun q=>(HZ9.out.ne (show World.ownsRow _ _ _ _ _ _ _ from HO5.out) (by decide)) q.symm)
   have no:(Value.slice po 5 co).ownBlock=none∨(Value.slice po 5 co).ownBlock≠some u1.heap.size:=.inr (fun q=>(HZ9.out.ne (show World.ownsRow _ _ _ _ _ _ _ from HO6.out) (by decide)) q.symm)
   exact⟨_,pd,cd,po,co,rfl,Lib.hid ((((HZ9.out.set 0 (.int .u8 1)).set 1 (.int .u16 1)).set 2 (.slice pd 0 cd)).set 3 (.slice po 5 co)),Lib.hid (show GOwn encPid 2 25 _ w2.heap.size (.slice pd 0 cd) [] from own_grown HO5.out (grown_trans (grown_trans (grown_trans (grown_trans (World.grownBy.refl u6 _) (grown_setCell _ _ _)) (grown_setCell _ _ _)) (grown_setCell _ _ _)) (grown_setCell _ _ _)) nd),Lib.hid (show GOwn encOp 8 96 _ w2.heap.size (.slice po 5 co) wrOps from own_grown HO6.out (grown_trans (grown_trans (grown_trans (grown_trans (World.grownBy.refl u6 _) (grown_setCell _ _ _)) (grown_setCell _ _ _)) (grown_setCell _ _ _)) (grown_setCell _ _ _)) no),Lib.hid ((((HBm.out.setCell (p:=⟨u1.heap.size,0,none⟩) HBv1.out.size (.int .u8 1)).setCell (p:=⟨u1.heap.size,1,none⟩) HBv1.out.size (.int .u16 1)).setCell (p:=⟨u1.heap.size,2,none⟩) HBv1.out.size (.slice pd 0 cd)).setCell (p:=⟨u1.heap.size,3,none⟩) HBv1.out.size (.slice po 5 co))⟩
  ·
   rename_i J K hJ hK hHeld
   clear hHeld
   refine hK _ _ (Met.intro (hJ _ _ ?_))
   (repeat apply Exists.intro)
   refine⟨?_,rfl⟩
   have HZ9:Hid (ArrT u6 w2.heap.size 71 [.int .u8 0,.int .u16 0,.slice none 0 0,.slice none 0 0]):=Lib.hid (((((show ArrT (w2.alloc (.cells #[.int .u8 0,.int .u16 0,.slice none 0 0,.slice none 0 0] 71)).drew w2.heap.size 71 [.int .u8 0,.int .u16 0,.slice none 0 0,.slice none 0 0] from arrT_new w2 [.int .u8 0,.int .u16 0,.slice none 0 0,.slice none 0 0] 71).over HKv1.out).over HKv2.out).over (below_new _)).over HKm.out)
   have nd:(Value.slice pd 0 cd).ownBlock=none∨(Value.slice pd 0 cd).ownBlock≠some w2.heap.size:=.inr (fun q=>(HZ9.out.ne (show World.ownsRow _ _ _ _ _ _ _ from HO5.out) (by decide)) q.symm)
   have no:(Value.slice po 5 co).ownBlock=none∨(Value.slice po 5 co).ownBlock≠some w2.heap.size:=.inr (fun q=>(HZ9.out.ne (show World.ownsRow _ _ _ _ _ _ _ from HO6.out) (by decide)) q.symm)
   exact⟨_,pd,cd,po,co,rfl,Lib.hid ((((HZ9.out.set 0 (.int .u8 1)).set 1 (.int .u16 1)).set 2 (.slice pd 0 cd)).set 3 (.slice po 5 co)),Lib.hid (show GOwn encPid 2 25 _ w2.heap.size (.slice pd 0 cd) [] from own_grown HO5.out (grown_trans (grown_trans (grown_trans (grown_trans (World.grownBy.refl u6 _) (grown_setCell _ _ _)) (grown_setCell _ _ _)) (grown_setCell _ _ _)) (grown_setCell _ _ _)) nd),Lib.hid (show GOwn encOp 8 96 _ w2.heap.size (.slice po 5 co) wrOps from own_grown HO6.out (grown_trans (grown_trans (grown_trans (grown_trans (World.grownBy.refl u6 _) (grown_setCell _ _ _)) (grown_setCell _ _ _)) (grown_setCell _ _ _)) (grown_setCell _ _ _)) no),Lib.hid ((((HBm.out.setCell (p:=⟨w2.heap.size,0,none⟩) (Nat.le_refl _) (.int .u8 1)).setCell (p:=⟨w2.heap.size,1,none⟩) (Nat.le_refl _) (.int .u16 1)).setCell (p:=⟨w2.heap.size,2,none⟩) (Nat.le_refl _) (.slice pd 0 cd)).setCell (p:=⟨w2.heap.size,3,none⟩) (Nat.le_refl _) (.slice po 5 co))⟩
 case rest =>
  obtain⟨g3,pd,cd,po,co,rfl,HA3,HD3,HO3,HB3⟩:=hcut
  rename World=>w3
  have HA3:=Lib.hid HA3.out.arr
  have HB4:=Lib.hid (below_over HB2.out HB2.out.size HB3.out)
  have HT3:=Lib.hid (HT.out.over HB4.out)
  clear i0 i1 si j0 j1 j2 sj HS HZ HQ HC2 HC3 HCM HT
  have p0:=HA3.out.cell (j:=0) rfl
  have p1:=HA3.out.cell (j:=1) rfl
  have p2:=HA3.out.cell (j:=2) rfl
  have p3:=HA3.out.cell (j:=3) rfl
  have sp:=HA3.out.lt
  have HPW:Pats (w3.alloc (.cells #[.int .u8 1,.int .u16 1,.slice pd 0 cd,.slice po 5 co] 71)) (.slice (some ⟨w3.heap.size,0,none⟩) 1 1) [(⟨wrPat,.slice pd 0 cd,.slice po 5 co⟩:LaidP)]:=by
   refine⟨(show GOwn encPat 4 71 (w3.alloc (.cells #[.int .u8 1,.int .u16 1,.slice pd 0 cd,.slice po 5 co] 71)) 0 (.slice (some ⟨w3.heap.size,0,none⟩) 1 1) [(⟨wrPat,.slice pd 0 cd,.slice po 5 co⟩:LaidP)] from own_lit25 w3 71 [(⟨wrPat,.slice pd 0 cd,.slice po 5 co⟩:LaidP)] 0 rfl (by show 1≤maxLen;unfold maxLen;omega) (Nat.zero_le _)).row,fun x hx => ?_⟩
   obtain rfl:x=⟨wrPat,.slice pd 0 cd,.slice po 5 co⟩:=by simpa using hx
   exact⟨(HD3.out.over (below_new _)).row,(HO3.out.over (below_new _)).row⟩
  have HPH:=Lib.hid HPW
  clear HPW
  go_wp2_with fail
  refine(build_any _ _ 12 (by omega) _ HPH.out wrFew).mono ?_
  rintro e w5 ⟨b,bv,be,n,hn,rfl,hgr⟩
  obtain⟨_,_,_,hG,hb⟩:=hgr
  rw [show([(⟨wrPat,.slice pd 0 cd,.slice po 5 co⟩:LaidP)]).map (·.p)=[wrPat] from rfl,wrG] at hG
  have HG:Hid (GrIs w5 b [wrPat]):=Lib.hid ⟨bv,be,n,hG⟩
  have HB5:=Lib.hid (below_over (balloc25 HB4.out (.cells #[.int .u8 1,.int .u16 1,.slice pd 0 cd,.slice po 5 co] 71)) (balloc25 HB4.out (.cells #[.int .u8 1,.int .u16 1,.slice pd 0 cd,.slice po 5 co] 71)).size hb)
  have HT5:=Lib.hid (HT3.out.over (below_over (below_new (.cells #[.int .u8 1,.int .u16 1,.slice pd 0 cd,.slice po 5 co] 71)) (below_new (.cells #[.int .u8 1,.int .u16 1,.slice pd 0 cd,.slice po 5 co] 71)).size hb))
  clear hG hb hn p0 p1 p2 p3 sp
  go_wp2_with fail
  refine(rtree_any b [wrPat] w5 HG.out wrW wrIds wrEdges HT5.out).mono ?_
  rintro e w6 ⟨v6,t6,rfl,hi,hf,hb6⟩
  obtain rfl:=tree_one hi wrIs
  have HF6:=Lib.hid hf.frow
  have HB6:=Lib.hid (below_over HB5.out HB5.out.size hb6)
  have HG6:=Lib.hid (HG.out.over hb6)
  have HT6:=Lib.hid (HT5.out.over hb6)
  clear hi hf hb6 HG HT5
  have HRR:=Lib.hid (frowR w6)
  have HB7:=Lib.hid (below_over (below_new (w:=w6) (.cells #[.string ⟨#[121]⟩,.string ⟨#[120]⟩] 9)) (below_new (w:=w6) (.cells #[.string ⟨#[121]⟩,.string ⟨#[120]⟩] 9)).size (below_new (.cells #[.string ⟨#[110]⟩,.slice none 0 0,.slice (some ⟨w6.heap.size,0,none⟩) 2 2] 66)))
  go_wp2_with fail
  refine(rsame_any v6 _ wrTree wrTree _ (HF6.out.over HB7.out) HRR.out).mono ?_
  rw [wrSame]
  rintro e w8 ⟨rfl,hb8⟩
  have HB68:=Lib.hid (below_over HB7.out HB7.out.size hb8)
  have HB8:=Lib.hid (below_over HB6.out HB6.out.size HB68.out)
  have HG8:=Lib.hid (HG6.out.over HB68.out)
  have HT8:=Lib.hid (HT6.out.over HB68.out)
  clear hb8
  go_wp2_with fail
  refine(rclean_any b [wrPat] w8 HG8.out wrW wrIds wrEdges HT8.out).mono ?_
  rw [wrFlaws]
  rintro e w9 ⟨rfl,hb9⟩
  have HB9:=Lib.hid (below_over HB8.out HB8.out.size hb9)
  clear hb9
  go_wp2_with fail
  refine(rtree_nil w9).mono ?_
  rintro e w10 ⟨rfl,hb10⟩
  have HB10:=Lib.hid (below_over HB9.out HB9.out.size hb10)
  clear hb10
  go_wp2_with fail
  go_ret
  exact⟨rfl,HB10.out⟩
end Go.Proofs.YtanfebljiblhbaaGreatDoor
