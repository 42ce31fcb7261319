/- What is proved: MergeTurns, for every input; of the listed tables the walk needs the powers of ten. -/
import Derived.Test.YtjccmcgglfncdaaGreatDoorUMgW
import Derived.Test.YtjccmcgglfncdaaGreatDoorUDiffE
set_option linter.unusedVariables false
set_option linter.unusedSimpArgs false
set_option maxRecDepth 100000
set_option maxHeartbeats 40000000
namespace Go.Proofs.YtjccmcgglfncdaaGreatDoor
open Go
section
open Go.RowKit
theorem wone_any(v:Value)(l:List ByteArray)(w:World)(hv:SRow w v l) :
  Calls Tryz.prog 73 #[v] w fun e w'=>∃ v',e=.returned v'∧FRow w' v' (wmT l)∧Be w w':=by
 obtain⟨a,c,rfl,h1,h2,_,_⟩:=hv.form;have HV:=Lh hv;obtain⟨n,hn⟩:∃ n,l.length=n:=⟨_,rfl⟩;rw [hn] at HV ⊢;clear hv hn;go_enter Tryz.func73,Tryz.ntmps73;go_wp2;go_ret;have hb:=bnew (w:=w) (.cells #[.string ⟨#[97]⟩,.slice none 0 0,.slice a n c] 71);refine⟨_,rfl,⟨[(⟨wmN,[],l⟩,.slice none 0 0,.slice a n c)],rfl,?_,?_⟩,hb⟩
 · exact(show GOwn encF 3 71 _ 0 _ _ from own_lit w 71 [((⟨wmN,[],l⟩:FileM),(.slice none 0 0:Value),(.slice a n c:Value))] 0 rfl (by show 1≤maxLen;decide) (Nat.zero_le _)).row
 intro x hx;rw [List.mem_singleton.1 hx];exact⟨srow_nil _,HV.o.over hb⟩
def encSm(x:ByteArray):List Value:=[.string x]
theorem sm_map(l:List ByteArray):l.flatMap encSm=l.map fun x=>Value.string x:=by
 induction l with
 | nil=>rfl
 | cons x l ih=>rw [List.flatMap_cons,ih];rfl
theorem lit_row(W:World)(l:List ByteArray)(hl:l.length≤maxLen):SRow (W.alloc (.cells (l.flatMap encSm).toArray 9)) (.slice (some ⟨W.heap.size,0,none⟩) l.length l.length) l:=by have h:=(show GOwn encSm 1 9 _ 0 _ _ from own_lit W 9 l 0 (by rw [sm_map,List.length_map,Nat.mul_one]) hl (Nat.zero_le _)).row;unfold GRow at h;rw [sm_map] at h ⊢;exact h
theorem wm_sizes(l:List ByteArray)(h:∀ x∈l,x.size≤1):SzT (wmT l):=by intro f hf;rw [List.mem_singleton.1 hf];unfold SzS maxLen;exact⟨by show wmN.size≤2 ^ 63 - 1;decide,fun x hx=>absurd hx List.not_mem_nil,fun x hx=>by have:=h x hx;omega⟩
theorem works55_any(w:World)(ht:Tab w):Calls Tryz.prog 28 #[] w fun e w'=>e=.returned (.bool true)∧Be w w':=by
 have HT:=Lh ht;clear ht;go_enter Tryz.func28,Tryz.ntmps28;go_wp2_with fail;have hbA:=bnew (w:=w) (.cells #[.string ⟨#[120]⟩] 9);refine(wone_any _ [wmX] _ (lit_row w [wmX] (by show 1≤maxLen;decide))).mono ?_;rintro e w1 ⟨v1,rfl,hf1,hb1⟩;have HF1:=Lh hf1;have HB1:=Lh (bvo hbA hb1);clear hf1 hb1 hbA;go_wp2_with fail;have hbA2:=bnew (w:=w1) (.cells #[.string ⟨#[120]⟩,.string ⟨#[121]⟩] 9);refine(wone_any _ [wmX,wmY] _ (lit_row w1 [wmX,wmY] (by show 2≤maxLen;decide))).mono ?_;rintro e w2 ⟨v2,rfl,hf2,hb2⟩;have HF2:=Lh hf2;have HBs2:=Lh (bvo hbA2 hb2);have HB2:=Lh (bvo HB1.o HBs2.o);clear hf2 hb2 hbA2;go_wp2_with fail;have hbA3:=bnew (w:=w2) (.cells #[.string ⟨#[122]⟩,.string ⟨#[120]⟩] 9);refine(wone_any _ [wmZ,wmX] _ (lit_row w2 [wmZ,wmX] (by show 2≤maxLen;decide))).mono ?_;rintro e w3 ⟨v3,rfl,hf3,hb3⟩;have HF3:=Lh hf3;have HBs3:=Lh (bvo hbA3 hb3);have HB3:=Lh (bvo HB2.o HBs3.o);clear hf3 hb3 hbA3;have HF13:=Lh ((HF1.o.over HBs2.o).over HBs3.o);have HF23:=Lh (HF2.o.over HBs3.o);have HTh:=Lh (three_any v1 v2 v3 _ _ _ w3 HF13.o HF23.o HF3.o (wm_sizes _ (by decide)) (wm_sizes _ (by decide)) (wm_sizes _ (by decide)) wm_good.1 wm_good.2.1 wm_good.2.2 (HT.o.over HB3.o));go_wp2_with fail;refine HTh.o.mono ?_;rintro e w4 h4;rcases h4 with⟨hl,_⟩|⟨_,v4,t4,rfl,hi4,hf4,hb4⟩
 · exact absurd hl wm_notLong
 rw [wm_L2] at hi4 ⊢;rw [wm_clean];have e4:=wm_tree hi4;subst e4;have HF4:=Lh hf4;have HB4:=Lh (bvo HB3.o hb4);clear hi4 hf4 hb4 HTh;go_wp2_with fail;have hbA5:=bnew (w:=w4) (.cells #[.string ⟨#[122]⟩,.string ⟨#[120]⟩,.string ⟨#[121]⟩] 9);refine(wone_any _ [wmZ,wmX,wmY] _ (lit_row w4 [wmZ,wmX,wmY] (by show 3≤maxLen;decide))).mono ?_;rintro e w5 ⟨v5,rfl,hf5,hb5⟩;have HF5:=Lh hf5;have HBs5:=Lh (bvo hbA5 hb5);have HB5:=Lh (bvo HB4.o HBs5.o);clear hf5 hb5 hbA5;go_wp2_with fail;refine(rsame_any v4 v5 _ _ w5 (HF4.o.over HBs5.o) HF5.o).mono ?_;rw [sameT_t rfl];rintro e w6 ⟨rfl,hb6⟩;have HB6:=Lh (bvo HB5.o hb6);clear hb6;go_wp2;go_ret;exact⟨rfl,HB6.o⟩
attribute [local irreducible] mgL2 MgLong cleanM mgP mgC mg1
end
variable{L:List PatchM}
theorem dec_lenF:∀ u:Nat,(Lib.decDigits u).length≤u+1:=by
 intro u;induction u using Nat.strongRecOn with
 | _ u ih =>
  rw [Lib.decDigits];split
  · simp
  · rename_i h;rw [List.length_append];have:=ih (u / 10) (by omega);simp only [List.length_cons,List.length_nil];omega
theorem textB_few(v:VidM):(textB v).size≤70000:=by have h1:=dec_lenF v.pid.author.toNat;have h2:=dec_lenF v.pid.seq.toNat;have h3:=dec_lenF v.n.toNat;have h4:=v.pid.author.toNat_lt;have h5:=v.pid.seq.toNat_lt;have h6:=v.n.toNat_lt;show(textL v).toArray.size≤70000;unfold textL;simp only [List.size_toArray,List.length_append,List.length_cons];omega
theorem name_short{s:ByteArray}(h:nameOk s=true):s.size≤16:=by unfold nameOk at h;simp only [Bool.and_eq_true,decide_eq_true_eq] at h;exact h.2.2
theorem compact_in{l:List (List UInt8)}{x:List UInt8}(h:x∈Lib.compact l):x∈l:=by unfold Lib.compact Lib.compactUpTo at h;obtain⟨i,hi,rfl⟩:=List.mem_map.1 h;have h1:=List.mem_range.1 (List.mem_filter.1 hi).1;rw [getElem!_pos l.toArray i (by simpa using h1)];simp
theorem also_one{f:VidM}(c:ByteArray→Nat):∀ {l:List VertM},(∀ x∈l,nameOk x.text=true)→∀ t∈(nameOne L c f l).also,t.length≤16
 | [],_=>fun t ht=>by cases ht
 | x :: l,h=>fun t ht=>by have h1:t∈alsoM (x :: l) x.text:=ht;unfold alsoM at h1;have h2:=List.mem_mergeSort.1 (compact_in h1);unfold othersM at h2;obtain⟨y,hy,rfl⟩:=List.mem_map.1 h2;exact name_short (h y (List.mem_filter.1 hy).1)
theorem also_all(hw:WfG L):∀ k,k≤(filesM L).length→∀ n∈(allTo L k).1,∀ t∈n.also,t.length≤16
 | 0,_=>fun n hn=>by rw [allTo_zero] at hn;cases hn
 | k+1,hk=>fun n hn=>by
  have hf:=List.getElem?_eq_getElem (l:=filesM L) (i:=k) (by omega);rw [allTo_succ hf] at hn;unfold stepN at hn;split at hn
  · exact also_all hw k (by omega) n hn
  rcases List.mem_append.1 hn with hn|hn
  · exact also_all hw k (by omega) n hn
  rw [List.mem_singleton.1 hn];exact also_one _ fun x hx=>name_ok hw hx
theorem tree_sizes(hw:WfG L){t:List FileM}(h:IsTree L t):SzT t:=by
 intro f hf;rw [h.perm.mem_iff] at hf;obtain⟨n,hn,rfl⟩:=List.mem_map.1 hf;have hinv:=inv_all hw (filesM L).length (Nat.le_refl _);have hn':n∈(allTo L (filesM L).length).1:=hn;have h0:=textB_few n.file;have h1:(tilde++textB n.file).size≤70001:=by rw [ByteArray.size_append];have:tilde.size=1:=rfl;omega
 refine⟨?_,fun x hx => ?_,fun x hx => ?_⟩
 ·
  show n.name.size≤maxLen;unfold maxLen;rcases hinv.forms n hn' with⟨e,_⟩|⟨e,_⟩|⟨t,ht,e,_⟩
  · rw [e];omega
  · have:=name_short e;omega
  have:=name_short ht;rw [e,ByteArray.size_append];omega
 · obtain⟨t,ht,rfl⟩:=List.mem_map.1 hx;have:=also_all hw _ (Nat.le_refl _) n hn' t ht;show t.toArray.size≤maxLen;unfold maxLen;simp only [List.size_toArray];omega
 have hl:=wl_lines_bare hw (wf_len hw) n.file;unfold maxLen;rcases seen_each hl x hx with hm|hm
 · unfold isMark at hm;simp only [Bool.or_eq_true,decide_eq_true_eq] at hm;rcases hm with((rfl|rfl)|rfl)|rfl <;> decide
 have:=alive_line hw x hm;unfold lineOk at this;simp only [Bool.and_eq_true,decide_eq_true_eq] at this;omega
end Go.Proofs.YtjccmcgglfncdaaGreatDoor
