/- What is proved: MergeTurns, for every input; of the listed tables the walk needs the powers of ten. -/
import Derived.Test.YtjccmcgglfncdaaGreatDoorUPlW
import Derived.Test.YtjccmcgglfncdaaGreatDoorUTreeF
set_option linter.unusedVariables false
set_option linter.unusedSimpArgs false
set_option maxRecDepth 100000
set_option maxHeartbeats 40000000
namespace Go.Proofs.YtjccmcgglfncdaaGreatDoor
open Go Go.RowKit
section
theorem ops1_any(y:LaidN)(n:ByteArray)(g:Nat)(w:World)(hg:w.cell? ⟨g,0,none⟩=some (.string n))(hlt:g<w.heap.size) :
  Calls Tryz.prog 41 #[.agg #[.int .u8 y.n.file.pid.author.toNat,.int .u16 y.n.file.pid.seq.toNat,.int .u8 y.n.file.n.toNat,.string y.n.name,.slice y.pa y.n.also.length y.ca,.slice y.pf y.n.flaws.length y.cf],.pointer (some ⟨g,0,none⟩)] w fun e w'=>e=.returned (.bool (y.n.name.toList == n.toList))∧Be w w':=by go_enter Tryz.func41,Tryz.ntmps41;go_wp2;go_ret;exact⟨rfl,(Below.refl _ _).alloc (Nat.le_refl _) _⟩
def IdxN(n:ByteArray)(xs:List LaidN)(w:World)(e:Ending)(w':World):Prop:=∃ i:Int,e=.returned (.int .i64 i)∧decide (0≤i)=(xs.any fun y=>decide (y.n.name=n))∧Be w w'
theorem idxName_any(v:Value)(xs:List LaidN)(n:ByteArray)(g:Nat)(w:World)(hv:GRow encN 6 w v xs)(hl:xs.length≤1000000)(hg:w.cell? ⟨g,0,none⟩=some (.string n))(hgl:g<w.heap.size) :
  Calls Tryz.prog 94 #[v,.func (.func 41) #[] #[.pointer (some ⟨g,0,none⟩)]] w (IdxN n xs w):=by
 obtain⟨a,cap,rfl,h1,h2,hc⟩:=hv.at encN_len;unfold maxLen at h2;have HC:=Lh hc;have HG:=Lh hg;clear hv hc hg;go_enter Tryz.func94,Tryz.ntmps94;go_wp2;go_loopw [5,8] (fun _ i wr=>∃ k:Nat,k≤xs.length∧i=.int .i64 k∧Hid ((xs.take k).any (fun y=>decide (y.n.name=n))=false)∧Be w wr) (fun _ i _=>xs.length - (intOf i).toNat)
 case atStart=>exact⟨0,by omega,rfl,(by show _=_;simp),Below.refl _ _⟩
 obtain⟨k,hk,rfl,HK,hbl⟩:=hrel;rename World=>wr
 by_cases hlt:k<xs.length
 rotate_left
 ·
  obtain rfl:k=xs.length:=by omega
  have HN:Hid (decide (0≤(-1:Int))=(xs.any fun y=>decide (y.n.name=n))):=Lh (by have h:=HK.o;rw [List.take_length] at h;rw [h];rfl);go_wp2;go_ret;exact⟨_,rfl,HN.o,hbl⟩
 obtain⟨bb,ob,rfl,sb,hcb⟩:=HC.o.resolve_left (by omega);obtain⟨y,hy⟩:=gol hlt;have HY:=Lh (hcb k y hy wr hbl);obtain⟨y0,y1,y2,y3,y4,y5,_⟩:=rc6 HY.o;have sy:=(HY.o).1;have hgw:=Lh ((hbl.cell (p:=⟨g,0,none⟩) hgl).trans HG.o);have hgl':g<wr.heap.size:=Nat.lt_of_lt_of_le hgl hbl.size;have HYk:=Lh hy;clear hy hcb
 by_cases he:y.n.name=n
 · have HN:Hid (decide (0≤(k:Int))=(xs.any fun y=>decide (y.n.name=n))):=Lh (by rw [decide_eq_true (by omega)];exact(List.any_eq_true.2 ⟨y,List.mem_of_getElem? HYk.o,decide_eq_true he⟩).symm);have hb1:=seq_t he;clear he;go_wp2_with (go_at_call 41;(with_reducible refine(ops1_any y n g _ hgw.out hgl').mono ?_);rintro e w2 ⟨rfl,hb2⟩);go_ret;exact⟨_,rfl,HN.o,bvo hbl hb2⟩
 have HS:Hid ((xs.take (k+1)).any (fun y=>decide (y.n.name=n))=false):=Lh (by rw [take_one HYk.o,List.any_append,HK.o];simp [he]);have hb1:=seq_f he;clear he;go_wp2_with (go_at_call 41;(with_reducible refine(ops1_any y n g _ hgw.out hgl').mono ?_);rintro e w2 ⟨rfl,hb2⟩);go_roundw
 case rel=>exact⟨k+1,by omega,by go_num,HS,bvo hbl hb2⟩
 simp [intOf];omega
theorem contName_any(v:Value)(xs:List LaidN)(n:ByteArray)(g:Nat)(w:World)(hv:GRow encN 6 w v xs)(hl:xs.length≤1000000)(hg:w.cell? ⟨g,0,none⟩=some (.string n))(hgl:g<w.heap.size) :
  Calls Tryz.prog 40 #[v,.func (.func 41) #[] #[.pointer (some ⟨g,0,none⟩)]] w fun e w'=>e=.returned (.bool (xs.any fun y=>decide (y.n.name=n)))∧Be w w':=by go_enter Tryz.func40,Tryz.ntmps40;go_wp2_with (go_at_call 94;(with_reducible refine(idxName_any v xs n g _ hv hl hg hgl).mono ?_);rintro e w2 ⟨i,rfl,hi,hb2⟩);go_ret;exact⟨rfl,hb2⟩
def PoCut(w1:World)(b:Nat)(id:PidM)(L:List PatchM)(s8 s9:Value)(wx:World):Prop:=∃(gw:Nat) (xs:List LaidN) (p:Option Addr) (c:Nat),s8=.pointer (some ⟨gw,0,none⟩)∧s9=.slice p xs.length c∧Hid (ArrT wx gw 81 [.pointer (some ⟨b,0,none⟩),.int .u8 id.author.toNat,.int .u16 id.seq.toNat,.slice none 0 0])∧xs.map (·.n)=allM L∧Hid (GOwn encN 6 86 wx w1.heap.size (.slice p xs.length c) xs)∧Hid (Be w1 wx)∧w1.heap.size≤gw
def P1Rel(N gw b:Nat)(id:PidM)(f:Nat→List OpM)(n:Nat)(w2:World)(vi:Value)(wr:World):Prop:=∃(k:Nat) (v':Value),k≤n∧vi=.int .i64 k∧Hid (WkSt wr N gw b id v' (f k))∧Hid (Fr 76 N gw w2 wr)
attribute [local irreducible] allM killsTo edTo newTo planM killsN linesM relM idsM edgesM fileOps linesOps
theorem pops_any(b:Nat)(L:List PatchM)(id:PidM)(t:List FileM)(tv:Value)(w:World)(m:Nat)(hg:GrIs w b L)(hw:WfG L)(hil:(idsM L).length≤m)(hm:m*m+m*(m+120)+2000≤3900000)(hm1:1≤m)(hm2:m≤1000)(hel:(edgesM L).length≤1000000)(hll:∀ f,(linesM L f).length≤m)
  (ht:FRow w tv t) (hsz:SzT t) (htab:Tab w) :
  Calls Tryz.prog 13 #[.pointer (some ⟨b,0,none⟩),pidV id,tv] w (PlRes w L t id):=by
 have HE:=Lh (bnew (w:=w) (.cells (cP id) 25));have HI:=Lh (anw w (cP id) 25);have HG:=Lh (hg.over HE.o);have HT:=Lh (ht.over HE.o);have HTab:=Lh (htab.over HE.o);have HW:=Lh hw;have HLl:=Lh hll;have HGo:=Lh (good_any tv t _ HT.o hsz);have hil6:(idsM L).length≤65536:=by omega
 have hal:=allM_few hil6;have hs0:w.heap.size≤(w.alloc (.cells (cP id) 25)).heap.size:=HE.o.size;clear hg ht htab hw hll;unfold pidV;go_enter Tryz.func13,Tryz.ntmps13;go_upto_region 1 with fail;generalize w.alloc (.cells (cP id) 25)=w0 at *;go_wp2_with fail;refine HGo.o.mono ?_;rintro e w1 ⟨rfl,hb1⟩;have HE1:=Lh (bvo HE.o hb1);have HI1:=Lh (HI.o.over hb1);have HG1:=Lh (HG.o.over hb1);have HT1:=Lh (HT.o.over hb1);have HTab1:=Lh (HTab.o.over hb1);clear hb1 HGo HI HG HT HTab;cases htg:treeGood t with
 | false =>have HR:Hid (planR L t id=([],4)):=Lh (by unfold planR;rw [if_neg (by rw [htg];simp)]);clear htg;go_wp2_with fail;refine bodyPost_ret (results_tmp2 rfl _ _ _) rfl ?_;unfold PlRes;rw [HR.o];exact⟨_,rfl,gown_nil _ _,HE1.o⟩
 | true =>
  have hts:=treeGood_sizes htg;have HTg:=Lh htg;have HAll:Hid (∀ W,Be w1 W→Calls Tryz.prog 35 #[.pointer (some ⟨b,0,none⟩)] W (AllRes W (allM L))):=Lh fun W hb=>nall_any b L W (HG1.o.over hb) HW.o (by omega) (HTab1.o.over hb);clear htg;obtain⟨i0,i1,si⟩:=HI1.o.c2;have HKS:Hid (∀ w':World,Be w1 w'→(Be w1 w'∧w'.cell? ⟨w.heap.size,0,none⟩=some (.int .u8 id.author.toNat)∧w'.cell? ⟨w.heap.size,1,none⟩=some (.int .u16 id.seq.toNat))):=Lh fun w' hb=>⟨hb,(hb.cell (p:=⟨w.heap.size,0,none⟩) si).trans i0,(hb.cell (p:=⟨w.heap.size,1,none⟩) si).trans i1⟩;go_upto_region 3 with fail;go_cut [8,9] (fun s8 s9 wx=>PoCut w1 b id L s8 s9 wx)
  case first =>
   go_region_held3 (fun w'=>Be w1 w'∧w'.cell? ⟨w.heap.size,0,none⟩=some (.int .u8 id.author.toNat)∧w'.cell? ⟨w.heap.size,1,none⟩=some (.int .u16 id.seq.toNat)) (first|(rename_i hH _ _;refine HKS.o _ ?_;(with_reducible (first|exact HBk.o|exact HBk.o.alloc HBk.o.size _|exact((Below.refl w1.heap.size w1).alloc (Nat.le_refl _) _).drew|exact Below.alloc hH.1 hH.1.size _)))|(refine HKS.o _ ?_;exact(Below.refl _ _).drew)) (first|(go_at_call 35;refine(HAll.o _ (by(with_reducible first|exact(Below.refl _ _).drew|exact((Below.refl w1.heap.size w1).alloc (Nat.le_refl _) _).drew))).mono ?_;rintro e w5 ⟨v5,rfl,⟨xs,hxs,ho5,hna5⟩,hb5⟩;have HBk:Hid (Be w1 w5):=Lh (by first|exact bov (Below.refl w1.heap.size w1).drew (Nat.le_refl _) hb5|exact bov ((Below.refl w1.heap.size w1).alloc (Nat.le_refl _) _).drew (Below.size (((Below.refl w1.heap.size w1).alloc (Nat.le_refl _) _).drew)) hb5);have HO5:=Lh (ho5.base (show w1.heap.size≤_ by first|exact Nat.le_refl _|exact Below.size (((Below.refl w1.heap.size w1).alloc (Nat.le_refl _) _).drew)));have HBb:=Lh hb5;have HXs:=Lh hxs;clear hb5 ho5 hxs hna5))
   ·
    rename_i J K hJ hK hHeld;clear hHeld;obtain⟨p5,c5,e5⟩:=own_sl HO5.o;subst e5;refine hK _ _ (Met.intro (hJ _ _ ?_))
    (repeat apply Exists.intro)
    refine⟨?_,rfl⟩;exact⟨_,xs,p5,c5,rfl,rfl,Lh ((show ArrT (w1.alloc (.cells #[.pointer (some ⟨b,0,none⟩),.int .u8 id.author.toNat,.int .u16 id.seq.toNat,.slice none 0 0] 81)).drew w1.heap.size 81 [.pointer (some ⟨b,0,none⟩),.int .u8 id.author.toNat,.int .u16 id.seq.toNat,.slice none 0 0] from arrT_new w1 [.pointer (some ⟨b,0,none⟩),.int .u8 id.author.toNat,.int .u16 id.seq.toNat,.slice none 0 0] 81).over HBb.o),HXs.o,HO5,HBk,Nat.le_refl _⟩
   ·
    rename_i J K hJ hK hHeld;clear hHeld;obtain⟨p5,c5,e5⟩:=own_sl HO5.o;subst e5;refine hK _ _ (Met.intro (hJ _ _ ?_))
    (repeat apply Exists.intro)
    refine⟨?_,rfl⟩;exact⟨_,xs,p5,c5,rfl,rfl,Lh (arrT_new w5 [.pointer (some ⟨b,0,none⟩),.int .u8 id.author.toNat,.int .u16 id.seq.toNat,.slice none 0 0] 81),HXs.o,Lh (HO5.o.over (bnew _)),Lh (HBk.o.alloc HBk.o.size _),HBk.o.size⟩
  case rest =>
   obtain⟨gw,xs,p9,c9,rfl,rfl,HBx,hxs,HOx,HBw,hgw⟩:=hcut;rename World=>w2;have HXs:=Lh hxs;have hxl:xs.length=(allM L).length:=(by rw [← hxs,List.length_map]);have HIs:=Lh (fun f=>isThere_xs (L:=L) (f:=f) hxs);have hne:(Value.slice p9 xs.length c9).ownBlock≠some gw:=fun q=>HBx.o.ne HOx.o (by decide) q.symm;have hWk0:WkSt w2 w2.heap.size gw b id (.slice none 0 0) []:=⟨HBx.o,gown_nil _ _,Nat.le_refl _,HBx.o.arr.lt⟩;have hw12:=HBw.o.size;have HE2:=Lh (bvo HE1.o HBw.o);have hkl:=killsTo_len L t (m:=m) (fun n _=>namesM_few hil) hm1;have hel2:=edTo_len L t id (m:=m) (p:=60) (fun n _=>HLl.o n.file) hts.2;have hnl2:=newTo_len L t id (p:=60) hts.2;have haln:=allM_few hil;have hmm:(allM L).length*m≤m*m:=Nat.mul_le_mul_right _ haln;have hmm2:(allM L).length*(m+2*60)≤m*(m+120):=Nat.mul_le_mul_right _ haln;have HKl:Hid (∀ k,k≤(allM L).length→(killsTo L t k).length≤3900000):=Lh fun k hk=>by have h1:=hkl k;have h2:k*m≤(allM L).length*m:=Nat.mul_le_mul_right _ hk;omega
   have HEl:Hid (∀ k,k≤(allM L).length→(edTo L t id k).length≤3900000):=Lh fun k hk=>by have h1:=hel2 k;have h2:k*(m+2*60)≤(allM L).length*(m+2*60):=Nat.mul_le_mul_right _ hk;have h3:=hkl (allM L).length;omega
   have HNl:Hid (∀ k,k≤t.length→(newTo L t id k).length≤3900000):=Lh fun k hk=>by have h1:=hnl2 k;have h2:k*(2+2*60)≤16*(2+2*60):=Nat.mul_le_mul_right _ (by omega);have h3:=hel2 (allM L).length;have h4:=hkl (allM L).length;omega
   have HTl:=Lh hts.2;have htl:=hts.1;obtain⟨N,hN⟩:∃ N,N=w2.heap.size:=⟨_,rfl⟩;rw [← hN] at hWk0;have hwN:w1.heap.size≤N:=(by omega);have HWk0:=Lh hWk0;obtain⟨n,hn⟩:∃ n,xs.length=n:=⟨_,rfl⟩;have HXl:=Lh hn;have hna:(allM L).length=n:=(by omega);rw [hn] at hne HOx ⊢;rw [hna] at HKl HEl haln;have HNa:=Lh hna;clear hxs hxl hkl hel2 hnl2 hmm hmm2 hWk0 hn hna hts HKS i0 i1 si;go_wp2;go_loopw [28] (fun v28 wr=>P1Rel N gw b id (killsTo L t) n w2 v28 wr) (fun v28 _=>n - (intOf v28).toNat)
   case atStart=>exact⟨0,_,Nat.zero_le _,rfl,by rw [killsTo_zero];exact HWk0,Fr.refl _ _ _ _⟩
   case round =>
    obtain⟨k,v1,hk,rfl,HS,HF⟩:=hrel;rename World=>wr
    by_cases hlt:k<n
    ·
     skip
     have hoR:=HF.o.own HOx.o (by decide) hne;obtain⟨a2,c2,e2,_,i2,hc2⟩:=hoR.row.at encN_len;obtain⟨rfl,e8,rfl⟩:=Value.slice.inj e2;unfold maxLen at i2;obtain⟨bb,ob,rfl,sb,hcb⟩:=hc2.resolve_left (by omega);obtain⟨y,hy⟩:=gol (xs:=xs) (i:=k) (by have:=HXl.o;omega);have hr:=hcb k y hy wr (Below.refl _ _);have y0:wr.cell? ⟨bb,ob+k*6,none⟩=some (.int .u8 y.n.file.pid.author.toNat):=(hr).2 0 _ rfl;have y1:wr.cell? ⟨bb,ob+k*6+1,none⟩=some (.int .u16 y.n.file.pid.seq.toNat):=(hr).2 1 _ rfl;have y2:wr.cell? ⟨bb,ob+k*6+2,none⟩=some (.int .u8 y.n.file.n.toNat):=(hr).2 2 _ rfl;have y3:wr.cell? ⟨bb,ob+k*6+3,none⟩=some (.string y.n.name):=(hr).2 3 _ rfl;have y4:wr.cell? ⟨bb,ob+k*6+4,none⟩=some (.slice y.pa y.n.also.length y.ca):=(hr).2 4 _ rfl;have y5:wr.cell? ⟨bb,ob+k*6+5,none⟩=some (.slice y.pf y.n.flaws.length y.cf):=(hr).2 5 _ rfl;have sy:=(hr).1;have HYk:Hid ((allM L)[k]? = some y.n):=Lh (by rw [← HXs.o,List.getElem?_map,hy];rfl);clear e8 e2 hc2 hcb hy hr hoR;go_upto_region 7 with fail;have HY:=Lh (anw wr #[.int .u8 y.n.file.pid.author.toNat,.int .u16 y.n.file.pid.seq.toNat,.int .u8 y.n.file.n.toNat,.string y.n.name,.slice y.pa y.n.also.length y.ca,.slice y.pf y.n.flaws.length y.cf] 86);have HBy:=Lh (bnew (w:=wr) (.cells #[.int .u8 y.n.file.pid.author.toNat,.int .u16 y.n.file.pid.seq.toNat,.int .u8 y.n.file.n.toNat,.string y.n.name,.slice y.pa y.n.also.length y.ca,.slice y.pf y.n.flaws.length y.cf] 86));have HSy:=Lh (HS.o.over HBy.o);have HBl:=Lh ((HBw.o.trans (HF.o.below hgw hwN hw12)).trans (HBy.o.mono (Nat.le_trans hw12 HF.o.size)));generalize wr.alloc (.cells #[.int .u8 y.n.file.pid.author.toNat,.int .u16 y.n.file.pid.seq.toNat,.int .u8 y.n.file.n.toNat,.string y.n.name,.slice y.pa y.n.also.length y.ca,.slice y.pf y.n.flaws.length y.cf] 86)=wy at *;clear y0 y1 y2 y3 y4 y5 sy;obtain⟨y0,y1,y2,y3,y4,y5,sy⟩:=HY.o.c6;have hkk:=HKl.o k hk;go_wp2_with fail;refine(pnames_any N gw b id L t tv y v1 (killsTo L t k) w1 wy HG1.o HW.o hil6 HT1.o hgw HBl.o HSy.o hkk).mono ?_;rintro e wB ⟨rfl,v2,hS2,hF2⟩;have HS2:=Lh hS2;have HF2:=Lh hF2;clear hS2 hF2 y0 y1 y2 y3 y4 y5 sy;go_wp2;go_roundw
     case rel=>exact⟨k+1,v2,hlt,by go_num,Lh (by rw [killsTo_succ HYk.o];exact HS2.o),Lh ((HF.o.trans (Fr.of_below HBy.o)).trans HF2.o)⟩
     case measure=>simp [intOf];omega
    ·
     obtain rfl:n=k:=(by omega);have HS0:Hid (WkSt wr N gw b id v1 (edTo L t id 0)):=Lh (by rw [edTo_zero,HNa.o];exact HS.o);have HF0:=HF;clear hk hlt HF HS HWk0;go_wp2;go_loopw [39] (fun v39 wr=>P1Rel N gw b id (edTo L t id) n w2 v39 wr) (fun v39 _=>n - (intOf v39).toNat)
     case atStart=>exact⟨0,v1,Nat.zero_le _,rfl,HS0,HF0⟩
     case round =>
      obtain⟨k,v1,hk,rfl,HS,HF⟩:=hrel;rename World=>wr
      by_cases hlt:k<n
      ·
       skip
       have hoR:=HF.o.own HOx.o (by decide) hne;obtain⟨a2,c2,e2,_,i2,hc2⟩:=hoR.row.at encN_len;obtain⟨rfl,e8,rfl⟩:=Value.slice.inj e2;unfold maxLen at i2;obtain⟨bb,ob,rfl,sb,hcb⟩:=hc2.resolve_left (by omega);obtain⟨y,hy⟩:=gol (xs:=xs) (i:=k) (by have:=HXl.o;omega);have hr:=hcb k y hy wr (Below.refl _ _);have y0:wr.cell? ⟨bb,ob+k*6,none⟩=some (.int .u8 y.n.file.pid.author.toNat):=(hr).2 0 _ rfl;have y1:wr.cell? ⟨bb,ob+k*6+1,none⟩=some (.int .u16 y.n.file.pid.seq.toNat):=(hr).2 1 _ rfl;have y2:wr.cell? ⟨bb,ob+k*6+2,none⟩=some (.int .u8 y.n.file.n.toNat):=(hr).2 2 _ rfl;have y3:wr.cell? ⟨bb,ob+k*6+3,none⟩=some (.string y.n.name):=(hr).2 3 _ rfl;have y4:wr.cell? ⟨bb,ob+k*6+4,none⟩=some (.slice y.pa y.n.also.length y.ca):=(hr).2 4 _ rfl;have y5:wr.cell? ⟨bb,ob+k*6+5,none⟩=some (.slice y.pf y.n.flaws.length y.cf):=(hr).2 5 _ rfl;have sy:=(hr).1;have HYk:Hid ((allM L)[k]? = some y.n):=Lh (by rw [← HXs.o,List.getElem?_map,hy];rfl);clear e8 e2 hc2 hcb hy hr hoR;go_upto_region 12 with fail;have HY:=Lh (anw wr #[.int .u8 y.n.file.pid.author.toNat,.int .u16 y.n.file.pid.seq.toNat,.int .u8 y.n.file.n.toNat,.string y.n.name,.slice y.pa y.n.also.length y.ca,.slice y.pf y.n.flaws.length y.cf] 86);have HBy:=Lh (bnew (w:=wr) (.cells #[.int .u8 y.n.file.pid.author.toNat,.int .u16 y.n.file.pid.seq.toNat,.int .u8 y.n.file.n.toNat,.string y.n.name,.slice y.pa y.n.also.length y.ca,.slice y.pf y.n.flaws.length y.cf] 86));have HSy:=Lh (HS.o.over HBy.o);have HBl:=Lh ((HBw.o.trans (HF.o.below hgw hwN hw12)).trans (HBy.o.mono (Nat.le_trans hw12 HF.o.size)));generalize wr.alloc (.cells #[.int .u8 y.n.file.pid.author.toNat,.int .u16 y.n.file.pid.seq.toNat,.int .u8 y.n.file.n.toNat,.string y.n.name,.slice y.pa y.n.also.length y.ca,.slice y.pf y.n.flaws.length y.cf] 86)=wy at *;clear y0 y1 y2 y3 y4 y5 sy;obtain⟨y0,y1,y2,y3,y4,y5,sy⟩:=HY.o.c6;have HFi:=Lh (find_any tv t y.n.name wy (HT1.o.over HBl.o));have hkk:=HEl.o k hk;go_wp2_with fail;refine HFi.o.mono ?_;rintro e w5 ⟨rfl,hb5⟩;have HBl5:=Lh (HBl.o.trans (hb5.mono HBl.o.size));have HS5:=Lh (HSy.o.over hb5);have HY5:=Lh (HY.o.over hb5);have HF5:=Lh ((HF.o.trans (Fr.of_below HBy.o)).trans (Fr.of_below hb5));clear hb5 y0 y1 y2 y3 y4 y5 sy HFi HBl HSy HY HBy
       by_cases hf:findT t y.n.name<0
       ·
        have d1:decide (findT t y.n.name ≥ 0)=false:=decide_eq_false (by omega);have HSt:Hid (edTo L t id (k+1)=edTo L t id k):=Lh (by rw [edTo_succ HYk.o];unfold plEdStep;rw [if_pos hf]);generalize findT t y.n.name=ft at *;clear hf;go_wp2;go_roundw
        case rel=>exact⟨k+1,v1,hlt,by go_num,Lh (by rw [HSt.o];exact HS5.o),HF5⟩
        case measure=>simp [intOf];omega
       ·
        obtain⟨kf,f,hfk,hft,_⟩:=findT_some hf;have hfl:=HTl.o f (List.mem_of_getElem? hft);have HSt:Hid (edTo L t id (k+1)=edTo L t id k++linesOps (linesM L y.n.file) (relM L y.n.file) y.n.file id (edTo L t id k).length f.lines):=Lh (by rw [edTo_succ HYk.o];unfold plEdStep;rw [if_neg hf,hfk];simp [hft]);have d1:decide ((kf:Int) ≥ 0)=true:=decide_eq_true (by omega);have HLo:Hid (∀ W,Be w1 W→Calls Tryz.prog 39 #[.pointer (some ⟨b,0,none⟩),.agg (cV y.n.file)] W (LofRes W (linesM L y.n.file) (relM L y.n.file))):=Lh fun W hW=>lof_any b L y.n.file W (HG1.o.over hW) HW.o hil6 hel;have hll9:=HLl.o y.n.file;generalize linesM L y.n.file=LN at *;generalize relM L y.n.file=RL at *;rw [hfk];obtain⟨at',ct,rfl,t1,t2,_,hct⟩:=HT1.o.form;obtain⟨tb,tq,rfl,stb,hcf⟩:=hct.resolve_left (by have:=(List.getElem?_eq_some_iff.1 hft).1;omega);obtain⟨av,lv,hat⟩:=hcf kf f hft;have hat5:=hat.over HBl5.o stb;have c2:=hat5.c2;have HLv:=Lh hat5.lines;have htk:=(List.getElem?_eq_some_iff.1 hft).1;have st5:tb<w5.heap.size:=Nat.lt_of_lt_of_le stb HBl5.o.size;unfold maxLen at t2;obtain⟨y0,y1,y2,sy⟩:=HY5.o.c3;clear hf hfk hft hct hcf hat hat5;go_upto_region 14 with fail;refine wlo 12 fun hcur=>?_;(repeat(first|refine lxq ?_|(refine lxl rfl ?_;go_wp2_with (first|(go_at_call 39;(with_reducible refine(HLo.o _ (bvo HBl5.o hcur)).mono ?_);rintro e w6 ⟨sA,rfl,hsz,hsh,hb⟩;have HSh:=Lh hsh;replace hcur:=bvo hcur hb;clear hsh hb hsz));refine⟨iov hcur,?_⟩)));refine lxe ?_;have HS6:=Lh (HS5.o.over hcur);have HLv6:=Lh (HLv.o.over hcur);have HF6:=Lh (HF5.o.trans (Fr.of_below hcur));clear hcur c2 y0 y1 y2 sy;go_wp2_with fail;refine(plines_any N gw b id (some ⟨sA,0,none⟩) LN RL y.n.file lv f.lines v1 _ w6 (.inl ⟨sA,rfl,HSh.o⟩) (by omega) HLv6.o (by omega) HS6.o (by omega)).mono ?_;rintro e w7 ⟨rfl,v2,hS2,hF2⟩;have HS2:=Lh hS2;have HF2:=Lh hF2;clear hS2 hF2;go_wp2;go_roundw
        case rel=>exact⟨k+1,v2,hlt,by go_num,Lh (by rw [HSt.o];exact HS2.o),Lh (HF6.o.trans HF2.o)⟩
        case measure=>simp [intOf];omega
      ·
       obtain rfl:n=k:=(by omega);obtain⟨ta,tc,rfl,t1,t2,_,hct⟩:=HT1.o.form;unfold maxLen at t2;have HCt:=Lh hct;clear hct;have HS0:Hid (WkSt wr N gw b id v1 (newTo L t id 0)):=Lh (by rw [newTo_zero,HNa.o];exact HS.o);have HF0:=HF;clear hk hlt HF HS;go_wp2;go_loopw [65] (fun v65 wr=>P1Rel N gw b id (newTo L t id) t.length w2 v65 wr) (fun v65 _=>t.length - (intOf v65).toNat)
       case atStart=>exact⟨0,v1,Nat.zero_le _,rfl,HS0,HF0⟩
       case round =>
        obtain⟨k,v1,hk,rfl,HS,HF⟩:=hrel;rename World=>wr;have HBr:=Lh (HBw.o.trans (HF.o.below hgw hwN hw12));have hkk:=HNl.o k hk
        by_cases hlt:k<t.length
        ·
         obtain⟨tb,tq,rfl,stb,hcf⟩:=HCt.o.resolve_left (by omega);obtain⟨f,hft⟩:=gol hlt;obtain⟨av,lv,hat⟩:=hcf k f hft;have hatr:=hat.over HBr.o stb;obtain⟨aa,ac,rfl,_,_,_,_⟩:=hatr.also.form;obtain⟨la,lc,rfl,l1,l2,_,_⟩:=hatr.lines.form;have c0:=hatr.c0;have c1:=hatr.c1;have c2:=hatr.c2;have HLv:=Lh hat.lines;have stw:tb<wr.heap.size:=Nat.lt_of_lt_of_le stb HBr.o.size;have hfl:=HTl.o f (List.mem_of_getElem? hft);have HSt:=Lh (newTo_succ (L:=L) (id:=id) hft);have HIf:=Lh (HIs.o f);clear hft hat hatr hcf;go_upto_region 19 with fail;have HFb:=Lh (anw wr #[.string f.name,.slice aa f.also.length ac,.slice la f.lines.length lc] 71);have HBf:=Lh (bnew (w:=wr) (.cells #[.string f.name,.slice aa f.also.length ac,.slice la f.lines.length lc] 71));have HSf:=Lh (HS.o.over HBf.o);generalize wr.alloc (.cells #[.string f.name,.slice aa f.also.length ac,.slice la f.lines.length lc] 71)=wf at *;clear c0 c1 c2;obtain⟨f0,f1,f2,sf⟩:=HFb.o.c3;have HCn:=Lh (contName_any _ xs f.name wr.heap.size wf ((HF.o.trans (Fr.of_below HBf.o)).own HOx.o (by decide) hne).row (by have:=HXl.o;omega) f0 sf);go_wp2_with fail;refine HCn.o.mono ?_;rintro e w5 ⟨rfl,hb5⟩;have HS5:=Lh (HSf.o.over hb5);have HB15:=Lh (bov (bvo HBr.o HBf.o) (Nat.le_trans HBr.o.size HBf.o.size) hb5);have HFb5:=Lh (HFb.o.over hb5);have HF5:=Lh ((HF.o.trans (Fr.of_below HBf.o)).trans (Fr.of_below hb5));clear hb5 f0 f1 f2 sf HCn;obtain⟨q,hq⟩:∃ q,(xs.any fun y=>decide (y.n.name=f.name))=q:=⟨_,rfl⟩;have HQ:Hid (isThere (allM L) f=q):=Lh (HIf.o.trans hq);rw [hq];clear hq;cases q with
         | true =>
          have HNs:Hid (newTo L t id (k+1)=newTo L t id k):=Lh (by rw [HSt.o];unfold newStep;rw [if_pos HQ.o]);go_wp2;go_roundw
          case rel=>exact⟨k+1,v1,hlt,by go_num,Lh (by rw [HNs.o];exact HS5.o),HF5⟩
          case measure=>simp [intOf];omega
         | false =>
          have HNs:Hid (newTo L t id (k+1)=newTo L t id k++fileOps id (newTo L t id k).length f):=Lh (by rw [HSt.o];unfold newStep;rw [if_neg (by rw [HQ.o];simp)]);obtain⟨f0,f1,f2,sf⟩:=HFb5.o.c3;go_wp2_with fail;refine(pfile_any N gw b id f _ _ v1 _ w1 w5 HLv.o hgw hwN HB15.o (by omega) HS5.o hkk).mono ?_;rintro e w7 ⟨rfl,v2,hS2,hF2⟩;have HS2:=Lh hS2;have HF2:=Lh hF2;clear hS2 hF2 f0 f1 f2 sf;go_wp2;go_roundw
          case rel=>exact⟨k+1,v2,hlt,by go_num,Lh (by rw [HNs.o];exact HS2.o),Lh (HF5.o.trans HF2.o)⟩
          case measure=>simp [intOf];omega
        ·
         obtain rfl:k=t.length:=(by omega);have HPl:Hid (WkSt wr N gw b id v1 (planM L t id)):=Lh (by unfold planM;exact HS.o);have HPR:Hid (planR L t id=if(planM L t id).length=0 then([],6) else if 200<(planM L t id).length then([],3) else(planM L t id,0)):=Lh (by unfold planR;rw [if_pos HTg.o]);have HBe:=Lh (bvo HE1.o HBr.o);have hwn:w.heap.size≤N:=Nat.le_trans HE1.o.size hwN;obtain⟨p,c,e⟩:=own_sl HPl.o.own;subst e;have hplt:(planM L t id).length≤3900000:=(by unfold planM;exact hkk);generalize planM L t id=PM at *;have g3:=HPl.o.box.arr.k 3 rfl;have sg:=HPl.o.box.arr.lt;clear HS HF hk hlt
         by_cases h0:PM.length=0
         · have d0:((PM.length:Int) == 0)=true:=(by rw [h0];rfl);have HR9:Hid (planR L t id=([],6)):=Lh (by rw [HPR.o,if_pos h0]);clear h0 HPR;go_wp2_with fail;refine bodyPost_ret (results_tmp2 rfl _ _ _) rfl ?_;unfold PlRes;rw [HR9.o];exact⟨_,rfl,gown_nil _ _,HBe.o⟩
         ·
          have d0:((PM.length:Int) == 0)=false:=by rw [beq_eq_false_iff_ne];omega
          by_cases h2:200<PM.length
          · have d2:decide ((PM.length:Int) > 200)=true:=decide_eq_true (by omega);have HR9:Hid (planR L t id=([],3)):=Lh (by rw [HPR.o,if_neg h0,if_pos h2]);clear h0 h2 HPR;go_wp2_with fail;refine bodyPost_ret (results_tmp2 rfl _ _ _) rfl ?_;unfold PlRes;rw [HR9.o];exact⟨_,rfl,gown_nil _ _,HBe.o⟩
          · have d2:decide ((PM.length:Int) > 200)=false:=decide_eq_false (by omega);have HR9:Hid (planR L t id=(PM,0)):=Lh (by rw [HPR.o,if_neg h0,if_neg h2]);clear h0 h2 HPR;go_wp2_with fail;refine bodyPost_ret (results_tmp2 rfl _ _ _) rfl ?_;unfold PlRes;rw [HR9.o];exact⟨_,rfl,HPl.o.own.base hwn,HBe.o⟩
end
section
theorem own_slM{α:Type}{enc:α→List Value}{sz:Nat}{e:TypeId}{w:World}{B:Nat}{v:Value}{xs:List α}(h:GOwn enc sz e w B v xs):∃ p c,v=.slice p xs.length c:=by
 rcases h.2 with⟨rfl,h0⟩|⟨g,cap,cur,rfl,_⟩
 · exact⟨none,0,by rw [h0]⟩
 exact⟨_,_,rfl⟩
theorem gown_keepM{α:Type}{enc:α→List Value}{sz:Nat}{e:TypeId}{w w':World}{B:Nat}{v:Value}{xs:List α}{row:Option Nat}(h:GOwn enc sz e w B v xs)(hg:w.grownBy w' row)(hr:∀ k,row=some k→k<B):GOwn enc sz e w' B v xs:=
 own_grown h hg (by
  cases hv:v.ownBlock with
  | none=>exact .inl rfl
  | some k=>exact .inr fun q=>by have:=gown_base h hv;have:=hr k q.symm;omega)
theorem rowPat:RowT Tryz.prog 44 4:=rowT_of Tryz.underlying44 rfl (by kernel_rfl)
def MakeRes(w:World)(id:PidM)(ops:List OpM)(e:Ending)(w':World):Prop:=∃ pd cd po co,e=.returned (.tuple #[.agg #[.int .u8 id.author.toNat,.int .u16 id.seq.toNat,.slice pd (depsM id ops).length cd,.slice po ops.length co],.int .i64 0])∧GOwn encPid 2 25 w' w.heap.size (.slice pd (depsM id ops).length cd) (depsM id ops)∧GOwn encOp 8 76 w' w.heap.size (.slice po ops.length co) ops∧Be w w'
def MakeG(w:World)(id:PidM)(ops:List OpM)(e:Ending)(w':World):Prop:=(goodQ id (depsM id ops) ops=true∧MakeRes w id ops e w')∨(goodQ id (depsM id ops) ops=false∧e=.returned (.tuple #[.agg #[.int .u8 0,.int .u16 0,.slice none 0 0,.slice none 0 0],.int .i64 1])∧Be w w')
attribute [local irreducible] depsM goodQ
theorem pmakeG_any(id:PidM)(v:Value)(ops:List OpM)(w:World)(hv:GRow encOp 8 w v ops)(hl:ops.length≤1000)(hz:∀ o∈ops,o.text.size≤maxLen) :
  Calls Tryz.prog 50 #[pidV id,v] w (MakeG w id ops):=by
 have HI:=Lh ((anw w (cP id) 25).alloc (.cells #[.int .u8 0,.int .u16 0,.slice none 0 0,.slice none 0 0] 44));have HR:=Lh (an2 w (.cells (cP id) 25) #[.int .u8 0,.int .u16 0,.slice none 0 0,.slice none 0 0] 44);have HB:=Lh ((bnew (w:=w) (.cells (cP id) 25)).alloc (by simp) (.cells #[.int .u8 0,.int .u16 0,.slice none 0 0,.slice none 0 0] 44));have HV:=Lh (hv.over HB.o);have HZs:=Lh hz;clear hv hz;unfold pidV;go_enter Tryz.func50,Tryz.ntmps50;go_upto_region 1 with fail;have hs0:((w.alloc (.cells (cP id) 25)).alloc (.cells #[.int .u8 0,.int .u16 0,.slice none 0 0,.slice none 0 0] 44)).heap.size=w.heap.size+1+1:=by simp
 generalize (w.alloc (.cells (cP id) 25)).alloc (.cells #[.int .u8 0,.int .u16 0,.slice none 0 0,.slice none 0 0] 44)=w0 at *;have HS0:=Lh hs0;clear hs0;obtain⟨i0,i1,si⟩:=HI.o.c2;have HS:Hid (∀ w':World,Be w0 w'→(w'.cell? ⟨w.heap.size,0,none⟩=some (.int .u8 id.author.toNat)∧w'.cell? ⟨w.heap.size,1,none⟩=some (.int .u16 id.seq.toNat)∧Be w0 w')):=fun w' hb=>⟨(hb.cell (p:=⟨w.heap.size,0,none⟩) si).trans i0,(hb.cell (p:=⟨w.heap.size,1,none⟩) si).trans i1,hb⟩;go_cut [6] (fun s6 wx=>∃ g6 pd cd po co,s6=.pointer (some ⟨g6,0,none⟩)∧Hid (ArrT wx g6 44 [.int .u8 id.author.toNat,.int .u16 id.seq.toNat,.slice pd (depsM id ops).length cd,.slice po ops.length co])∧Hid (GOwn encPid 2 25 wx w0.heap.size (.slice pd (depsM id ops).length cd) (depsM id ops))∧Hid (GOwn encOp 8 76 wx w0.heap.size (.slice po ops.length co) ops)∧Hid (Be w0 wx))
 case first =>
  go_region_held3 (fun w'=>w'.cell? ⟨w.heap.size,0,none⟩=some (.int .u8 id.author.toNat)∧w'.cell? ⟨w.heap.size,1,none⟩=some (.int .u16 id.seq.toNat)∧Be w0 w') ((refine HS.o _ ?_;(with_reducible (first|exact(Below.refl _ _).drew|exact HBc.o|exact HBc.o.alloc HBc.o.size _|exact HBd.o|exact HBd.o.alloc HBd.o.size _|exact((Below.refl w0.heap.size w0).alloc (Nat.le_refl _) _).drew|exact((((HBc.o.setCell (p:=⟨w0.heap.size,0,none⟩) (Nat.le_refl _) (.int .u8 id.author.toNat)).setCell (p:=⟨w0.heap.size,1,none⟩) (Nat.le_refl _) (.int .u16 id.seq.toNat)).setCell (p:=⟨w0.heap.size,2,none⟩) (Nat.le_refl _) (.slice pd (depsM id ops).length cd)).setCell (p:=⟨w0.heap.size,3,none⟩) (Nat.le_refl _) (.slice po ops.length co))|exact((((HBc.o.setCell (p:=⟨w5.heap.size,0,none⟩) HBd.o.size (.int .u8 id.author.toNat)).setCell (p:=⟨w5.heap.size,1,none⟩) HBd.o.size (.int .u16 id.seq.toNat)).setCell (p:=⟨w5.heap.size,2,none⟩) HBd.o.size (.slice pd (depsM id ops).length cd)).setCell (p:=⟨w5.heap.size,3,none⟩) HBd.o.size (.slice po ops.length co))))))
   (first|(go_at_call 109;refine(pdeps_any id v ops _ (HV.o.over (by first|exact(Below.refl _ _).drew|exact((Below.refl w0.heap.size w0).alloc (Nat.le_refl _) _).drew)) (by omega)).mono ?_;rintro e w5 ⟨dv,rfl,ho5,hb5⟩;obtain⟨pd,cd,hdv⟩:=own_slM ho5;subst hdv;have HBd:Hid (Be w0 w5):=(by show Be w0 w5;with_reducible (first|exact bov (Below.refl w0.heap.size w0).drew (Nat.le_refl _) hb5|exact bov (((Below.refl w0.heap.size w0).alloc (Nat.le_refl _) _).drew) (Below.size (((Below.refl w0.heap.size w0).alloc (Nat.le_refl _) _).drew)) hb5));have HO5:Hid (GOwn encPid 2 25 w5 w0.heap.size (.slice pd (depsM id ops).length cd) (depsM id ops)):=Lh (ho5.base (by first|exact Nat.le_refl _|(simp)));have HB5b:=Lh hb5;have hs5:=hb5.size;(try(have hs5b:w0.heap.size<w5.heap.size:=(by have h:=hb5.size;simp at h;omega)));clear hs5;obtain⟨hc5,hf5⟩:=bcell hb5;clear ho5 hb5) |
    (go_at_call 110;refine(cloneOp v ops _ (HV.o.over (by first|exact HBd.o|exact HBd.o.alloc HBd.o.size _)) (by omega)).mono ?_;rintro e w6 ⟨ov,rfl,ho6,hb6⟩;obtain⟨po,co,hov⟩:=own_slM ho6;subst hov;have HBc:Hid (Be w0 w6):=(by show Be w0 w6;with_reducible (first|exact bvo HBd.o hb6|exact bov (HBd.o.alloc HBd.o.size _) (Below.size (HBd.o.alloc HBd.o.size _)) hb6));have HO6:Hid (GOwn encOp 8 76 w6 w0.heap.size (.slice po ops.length co) ops):=Lh (ho6.base (by have:=HBd.o.size;first|exact this|(simp;omega)));have HO56:Hid (GOwn encPid 2 25 w6 w0.heap.size (.slice pd (depsM id ops).length cd) (depsM id ops)):=Lh (by first|exact HO5.o.over hb6|exact(HO5.o.over (bnew _)).over hb6);have HB6b:=Lh hb6;obtain⟨hc6,hf6⟩:=bcell hb6;clear ho6 hb6))
  ·
   rename_i J K hJ hK hHeld;clear hHeld;refine hK _ _ (Met.intro (hJ _ _ ?_))
   (repeat apply Exists.intro)
   refine⟨?_,rfl⟩;exact⟨_,pd,cd,po,co,rfl,Lh (arrT_new w6 [.int .u8 id.author.toNat,.int .u16 id.seq.toNat,.slice pd (depsM id ops).length cd,.slice po ops.length co] 44),Lh (HO56.o.over (bnew _)),Lh (HO6.o.over (bnew _)),Lh (HBc.o.alloc HBc.o.size _)⟩
  ·
   rename_i J K hJ hK hHeld;clear hHeld;refine hK _ _ (Met.intro (hJ _ _ ?_))
   (repeat apply Exists.intro)
   refine⟨?_,rfl⟩;have HZ:Hid (ArrT w6 w5.heap.size 44 [.int .u8 0,.int .u16 0,.slice none 0 0,.slice none 0 0]):=Lh ((arrT_new w5 [.int .u8 0,.int .u16 0,.slice none 0 0,.slice none 0 0] 44).over HB6b.o);have nd:(Value.slice pd (depsM id ops).length cd).ownBlock=none∨(Value.slice pd (depsM id ops).length cd).ownBlock≠some w5.heap.size:=.inr (fun q=>(HZ.o.ne (show World.ownsRow _ _ _ _ _ _ _ from HO56.o) (by decide)) q.symm);have no:(Value.slice po ops.length co).ownBlock=none∨(Value.slice po ops.length co).ownBlock≠some w5.heap.size:=.inr (fun q=>(HZ.o.ne (show World.ownsRow _ _ _ _ _ _ _ from HO6.o) (by decide)) q.symm);exact⟨_,pd,cd,po,co,rfl,Lh ((((HZ.o.set 0 (.int .u8 id.author.toNat)).set 1 (.int .u16 id.seq.toNat)).set 2 (.slice pd (depsM id ops).length cd)).set 3 (.slice po ops.length co)),Lh (show GOwn encPid 2 25 _ w0.heap.size (.slice pd (depsM id ops).length cd) (depsM id ops) from own_grown HO56.o (gtr (gtr (gtr (gtr (World.grownBy.refl w6 _) (gsc _ _ _)) (gsc _ _ _)) (gsc _ _ _)) (gsc _ _ _)) nd),Lh (show GOwn encOp 8 76 _ w0.heap.size (.slice po ops.length co) ops from own_grown HO6.o (gtr (gtr (gtr (gtr (World.grownBy.refl w6 _) (gsc _ _ _)) (gsc _ _ _)) (gsc _ _ _)) (gsc _ _ _)) no),Lh ((((HBc.o.setCell (p:=⟨w5.heap.size,0,none⟩) HBd.o.size (.int .u8 id.author.toNat)).setCell (p:=⟨w5.heap.size,1,none⟩) HBd.o.size (.int .u16 id.seq.toNat)).setCell (p:=⟨w5.heap.size,2,none⟩) HBd.o.size (.slice pd (depsM id ops).length cd)).setCell (p:=⟨w5.heap.size,3,none⟩) HBd.o.size (.slice po ops.length co))⟩
  rename_i J K hJ hK hHeld;clear hHeld;refine hK _ _ (Met.intro (hJ _ _ ?_))
  (repeat apply Exists.intro)
  refine⟨?_,rfl⟩;have HZ:Hid (ArrT w6 w0.heap.size 44 [.int .u8 0,.int .u16 0,.slice none 0 0,.slice none 0 0]):=Lh (((show ArrT (w0.alloc (.cells #[.int .u8 0,.int .u16 0,.slice none 0 0,.slice none 0 0] 44)).drew w0.heap.size 44 [.int .u8 0,.int .u16 0,.slice none 0 0,.slice none 0 0] from arrT_new w0 [.int .u8 0,.int .u16 0,.slice none 0 0,.slice none 0 0] 44).over HB5b.o).over HB6b.o);have nd:(Value.slice pd (depsM id ops).length cd).ownBlock=none∨(Value.slice pd (depsM id ops).length cd).ownBlock≠some w0.heap.size:=.inr (fun q=>(HZ.o.ne (show World.ownsRow _ _ _ _ _ _ _ from HO56.o) (by decide)) q.symm);have no:(Value.slice po ops.length co).ownBlock=none∨(Value.slice po ops.length co).ownBlock≠some w0.heap.size:=.inr (fun q=>(HZ.o.ne (show World.ownsRow _ _ _ _ _ _ _ from HO6.o) (by decide)) q.symm);exact⟨_,pd,cd,po,co,rfl,Lh ((((HZ.o.set 0 (.int .u8 id.author.toNat)).set 1 (.int .u16 id.seq.toNat)).set 2 (.slice pd (depsM id ops).length cd)).set 3 (.slice po ops.length co)),Lh (show GOwn encPid 2 25 _ w0.heap.size (.slice pd (depsM id ops).length cd) (depsM id ops) from own_grown HO56.o (gtr (gtr (gtr (gtr (World.grownBy.refl w6 _) (gsc _ _ _)) (gsc _ _ _)) (gsc _ _ _)) (gsc _ _ _)) nd),Lh (show GOwn encOp 8 76 _ w0.heap.size (.slice po ops.length co) ops from own_grown HO6.o (gtr (gtr (gtr (gtr (World.grownBy.refl w6 _) (gsc _ _ _)) (gsc _ _ _)) (gsc _ _ _)) (gsc _ _ _)) no),Lh ((((HBc.o.setCell (p:=⟨w0.heap.size,0,none⟩) (Nat.le_refl _) (.int .u8 id.author.toNat)).setCell (p:=⟨w0.heap.size,1,none⟩) (Nat.le_refl _) (.int .u16 id.seq.toNat)).setCell (p:=⟨w0.heap.size,2,none⟩) (Nat.le_refl _) (.slice pd (depsM id ops).length cd)).setCell (p:=⟨w0.heap.size,3,none⟩) (Nat.le_refl _) (.slice po ops.length co))⟩
 obtain⟨g6,pd,cd,po,co,rfl,HA6,HO5,HO6,HB6⟩:=hcut;rename World=>w6;have HR6:=Lh (HR.o.over HB6.o);have hs6:=HB6.o.size;clear i0 i1 si HS;obtain⟨p0,p1,p2,p3,sp⟩:=HA6.o.arr.c4;go_wp2_with fail;refine(pgood_any id _ _ (depsM id ops) ops _ HO5.o.row HO6.o.row (by omega) HZs.o).mono ?_;rintro e w7 ⟨rfl,hb7⟩;obtain⟨gq,hgq⟩:∃ q,goodQ id (depsM id ops) ops=q:=⟨_,rfl⟩;rw [hgq];have HB7:=Lh (bvo HB6.o hb7);have HA7:=Lh (HA6.o.over hb7);have HR7:=Lh (HR6.o.over hb7);have HO57:=Lh (HO5.o.over hb7);have HO67:=Lh (HO6.o.over hb7);clear hb7 p0 p1 p2 p3 sp;obtain⟨p0,p1,p2,p3,sp⟩:=HA7.o.arr.c4;obtain⟨r0,r1,r2,r3,sr⟩:=HR7.o.c4;have rf0:=HR7.o.free 0;have rf1:=HR7.o.free 1;have rf2:=HR7.o.free 2;have rf3:=HR7.o.free 3;have HGq:=Lh hgq;clear hgq;cases gq with
 | true =>have HF:=Lh ((((HR7.o.set 0 (.int .u8 id.author.toNat)).set 1 (.int .u16 id.seq.toNat)).set 2 (.slice pd (depsM id ops).length cd)).set 3 (.slice po ops.length co));have hs0:=HS0.o;have hgr:World.grownBy w7 ((((w7.setCell ⟨w.heap.size+1,0,none⟩ (.int .u8 id.author.toNat)).setCell ⟨w.heap.size+1,1,none⟩ (.int .u16 id.seq.toNat)).setCell ⟨w.heap.size+1,2,none⟩ (.slice pd (depsM id ops).length cd)).setCell ⟨w.heap.size+1,3,none⟩ (.slice po ops.length co)) (some (w.heap.size+1)):=(gtr (gtr (gtr (gtr (World.grownBy.refl w7 _) (gsc _ _ _)) (gsc _ _ _)) (gsc _ _ _)) (gsc _ _ _));have HO58:=Lh (gown_keepM HO57.o hgr (fun j hj=>by cases hj;omega));have HO68:=Lh (gown_keepM HO67.o hgr (fun j hj=>by cases hj;omega));have HB8:=Lh ((bvo HB.o HB7.o).grown hgr (by have:=HB7.o.size;omega) (fun j hj=>by cases hj;omega));clear hgr hs0;go_wp2_with fail;exact bodyPost_ret (v:=.tuple #[.agg #[.int .u8 id.author.toNat,.int .u16 id.seq.toNat,.slice pd (depsM id ops).length cd,.slice po ops.length co],.int .i64 0]) (rasl rowPat rfl HF.o rfl rfl rfl) rfl (.inl ⟨HGq.o,pd,cd,po,co,rfl,HO58.o.base (by have:=HS0.o;omega),HO68.o.base (by have:=HS0.o;omega),HB8.o⟩)
 | false =>have HF:=Lh ((((HR7.o.set 0 (.int .u8 0)).set 1 (.int .u16 0)).set 2 (.slice none 0 0)).set 3 (.slice none 0 0));have hs0:=HS0.o;have hgr:World.grownBy w7 ((((w7.setCell ⟨w.heap.size+1,0,none⟩ (.int .u8 0)).setCell ⟨w.heap.size+1,1,none⟩ (.int .u16 0)).setCell ⟨w.heap.size+1,2,none⟩ (.slice none 0 0)).setCell ⟨w.heap.size+1,3,none⟩ (.slice none 0 0)) (some (w.heap.size+1)):=(gtr (gtr (gtr (gtr (World.grownBy.refl w7 _) (gsc _ _ _)) (gsc _ _ _)) (gsc _ _ _)) (gsc _ _ _));have HB8:=Lh ((bvo HB.o HB7.o).grown hgr (by have:=HB7.o.size;omega) (fun j hj=>by cases hj;omega));clear hgr hs0;go_wp2_with fail;exact bodyPost_ret (v:=.tuple #[.agg #[.int .u8 0,.int .u16 0,.slice none 0 0,.slice none 0 0],.int .i64 1]) (rasl rowPat rfl HF.o rfl rfl rfl) rfl (.inr ⟨HGq.o,rfl,HB8.o⟩)
end
section
attribute [local irreducible] depsM goodR
end
variable{m:Nat}{id:PidM}
theorem stepA_small{l:List VertM}{file:VidM}{c:Nat}:∀(zs:List (Int × ByteArray)) (s:List OpM × List VidM),(∀ z∈zs,z.2.size≤m)→(∀ o∈s.1,o.text.size≤m)→∀ o∈(zs.foldl (stepA l file id c) s).1,o.text.size≤m
 | [],_,_,h=>h
 | z :: zs,s,hz,h=>by
  rw [List.foldl_cons];refine stepA_small zs _ (fun y hy=>hz y (List.mem_cons_of_mem _ hy)) fun o ho => ?_;unfold stepA at ho;split at ho
  · exact h o ho
  rcases List.mem_append.1 ho with ho|ho
  · exact h o ho
  rw [List.mem_singleton.1 ho];exact hz z (List.mem_cons_self ..)
theorem linesOps_small(l:List VertM)(R:List (Nat × Nat))(file:VidM)(id:PidM)(c:Nat)(want:List ByteArray)(hw:∀ s∈want,s.size≤m):∀ o∈linesOps l R file id c want,o.text.size≤m:=by
 unfold linesOps editM;intro o ho;simp only at ho;rcases List.mem_append.1 ho with ho|ho
 ·
  unfold addsTo at ho;refine stepA_small _ _ (fun z hz => ?_) (fun o ho => ?_) o ho
  · have h1:=List.mem_of_mem_take hz;have h2:z.2∈want:=(List.of_mem_zip (a:=z.1) (b:=z.2) h1).2;exact hw _ h2
  unfold killsE at ho;obtain⟨i,_,rfl⟩:=List.mem_map.1 ho;exact Nat.zero_le _
 obtain⟨j,_,ho⟩:=List.mem_flatMap.1 ho;unfold edgesE at ho;split at ho
 · rw [List.mem_singleton.1 ho];exact Nat.zero_le _
 cases ho
theorem killsTo_small(L:List PatchM)(t:List FileM)(k m:Nat):∀ o∈killsTo L t k,o.text.size≤m:=by
 intro o ho;unfold killsTo at ho;obtain⟨n,_,ho⟩:=List.mem_flatMap.1 ho;unfold killsN at ho;split at ho
 · rw [List.mem_singleton.1 ho];exact Nat.zero_le _
 obtain⟨v,_,rfl⟩:=List.mem_map.1 ho;exact Nat.zero_le _
theorem edFold_small{L:List PatchM}{t:List FileM}(ht:∀ f∈t,∀ s∈f.lines,s.size≤m):∀(ns:List NameM) (out:List OpM),(∀ o∈out,o.text.size≤m)→∀ o∈ns.foldl (plEdStep L t id) out,o.text.size≤m
 | [],_,h=>h
 | n :: ns,out,h=>by
  rw [List.foldl_cons];refine edFold_small ht ns _ fun o ho => ?_;unfold plEdStep at ho;split at ho
  · exact h o ho
  rcases List.mem_append.1 ho with ho|ho
  · exact h o ho
  refine linesOps_small _ _ _ _ _ _ (fun s hs => ?_) o ho;rw [List.getD_eq_getElem?_getD] at hs;cases hg:t[(findT t n.name).toNat]? with
  | none=>rw [hg] at hs;cases hs
  | some f=>rw [hg] at hs;exact ht f (List.mem_of_getElem? hg) s hs
theorem newFold_small{ns:List NameM}:∀(t:List FileM) (out:List OpM),(∀ f∈t,f.name.size≤m∧∀ s∈f.lines,s.size≤m)→(∀ o∈out,o.text.size≤m)→∀ o∈t.foldl (newStep ns id) out,o.text.size≤m
 | [],_,_,h=>h
 | f :: t,out,ht,h=>by
  rw [List.foldl_cons];refine newFold_small t _ (fun g hg=>ht g (List.mem_cons_of_mem _ hg)) fun o ho => ?_;obtain⟨h1,h2⟩:=ht f (List.mem_cons_self ..);unfold newStep at ho;split at ho
  · exact h o ho
  rcases List.mem_append.1 ho with ho|ho
  · exact h o ho
  unfold fileOps at ho;rcases List.mem_cons.1 ho with rfl|ho
  · exact Nat.zero_le _
  rcases List.mem_cons.1 ho with rfl|ho
  · exact h1
  exact linesOps_small _ _ _ _ _ _ h2 o ho
theorem planM_small(L:List PatchM)(t:List FileM)(id:PidM)(ht:∀ f∈t,f.name.size≤m∧∀ s∈f.lines,s.size≤m):∀ o∈planM L t id,o.text.size≤m:=by unfold planM newTo;rw [List.take_length];refine newFold_small t _ ht ?_;unfold edTo;exact edFold_small (fun f hf=>(ht f hf).2) _ _ (killsTo_small L t _ m)
theorem planR_small(L:List PatchM)(t:List FileM)(id:PidM)(hz:SzT t):∀ o∈(planR L t id).1,o.text.size≤maxLen:=by
 intro o ho;unfold planR at ho;split at ho
 ·
  split at ho
  · cases ho
  split at ho
  · cases ho
  exact planM_small L t id (fun f hf=>⟨(hz f hf).1,(hz f hf).2.2⟩) o ho
 cases ho
theorem planR_len(L:List PatchM)(t:List FileM)(id:PidM):(planR L t id).1.length≤200:=by
 unfold planR;split
 ·
  split
  · simp
  split
  · simp
  simp only;omega
 simp
end Go.Proofs.YtjccmcgglfncdaaGreatDoor
