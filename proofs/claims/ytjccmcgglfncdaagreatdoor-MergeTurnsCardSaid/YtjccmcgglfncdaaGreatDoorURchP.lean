/- What is proved: MergeTurns, for every input; of the listed tables the walk needs the powers of ten. -/
import Derived.Test.YtjccmcgglfncdaaGreatDoorURDeps
import Derived.Test.YtjccmcgglfncdaaGreatDoorUKeys
import Derived.Test.YtjccmcgglfncdaaGreatDoorUBitP
import Derived.Laws.BitsAllLaws
set_option linter.unusedVariables false
set_option linter.unusedSimpArgs false
set_option maxRecDepth 100000
set_option maxHeartbeats 40000000
namespace Go.Proofs.YtjccmcgglfncdaaGreatDoor
open Go Go.RowKit
section
variable{ws:List Nat}{b g i n:Nat}{w:World}
def encW(ws:List Nat):List Value:=ws.map fun x:Nat=>.int .u64 (x:Int)
theorem encW_get{k x:Nat}(h:ws[k]? = some x):(encW ws)[k]? = some (.int .u64 (x:Int)):=by unfold encW;rw [List.getElem?_map,h];rfl
theorem encW_set(ws:List Nat)(k x:Nat):(encW ws).set k (.int .u64 (x:Int))=encW (ws.set k x):=by unfold encW;rw [List.map_set]
theorem encW_zeros(n:Nat):encW (List.replicate n 0)=List.replicate n (.int .u64 0):=by unfold encW;rw [List.map_replicate];rfl
structure SetAt (w:World) (b g n:Nat) (ws:List Nat):Prop where
 headT:ArrT w b 284 [.int .i64 n,.slice (some ⟨g,0,none⟩) ws.length ws.length]
 wordsT:ArrT w g 264 (encW ws)
 ne:b≠g
structure SetOk (n:Nat) (ws:List Nat):Prop where
 len:ws.length=(n+63) / 64
 small:SmallW ws
 up:UpW n ws
 room:n≤65536
theorem SetAt.head(h:SetAt w b g n ws):Arr w b [.int .i64 n,.slice (some ⟨g,0,none⟩) ws.length ws.length]:=h.headT.arr
theorem SetAt.words(h:SetAt w b g n ws):Arr w g (encW ws):=h.wordsT.arr
theorem SetAt.over{w':World}(h:SetAt w b g n ws)(hb:Be w w'):SetAt w' b g n ws:=⟨h.headT.over hb,h.wordsT.over hb,h.ne⟩
theorem SetAt.grown{w':World}{row:Option Nat}(h:SetAt w b g n ws)(hg:w.grownBy w' row)(h1:some b≠row)(h2:some g≠row):SetAt w' b g n ws:=⟨h.headT.kept hg h1,h.wordsT.kept hg h2,h.ne⟩
theorem ok_zeros(hn:n≤65536):SetOk n (List.replicate ((n+63) / 64) 0):=⟨by simp,small_zeros _,fun i _=>bit_zeros _ i,hn⟩
theorem SetOk.lt(h:SetOk n ws)(hi:i<n):i / 64<ws.length:=by have:=h.len;omega
theorem SetOk.get(h:SetOk n ws)(hi:i<n):ws[i / 64]? = some (ws.getD (i / 64) 0):=by rw [List.getD_eq_getElem?_getD,List.getElem?_eq_getElem (h.lt hi)];rfl
theorem SetOk.put(h:SetOk n ws)(hi:i<n):SetOk n (putW ws i):=by refine⟨by rw [putW_len];exact h.len,small_put h.small i,fun j hj => ?_,h.room⟩;rw [bit_put (h.lt hi),h.up j hj];simp;omega
theorem SetOk.or{a b:List Nat}(h:SetOk n a)(h':SetOk n b):SetOk n (orTo a b a.length):=by refine⟨by rw [orTo_len];exact h.len,small_or h.small h'.small _,fun j hj => ?_,h.room⟩;rw [bit_or (by rw [h.len,h'.len]),h.up j hj,h'.up j hj];rfl
theorem get_getD{k:Nat}(h:k<ws.length):ws[k]? = some (ws.getD k 0):=by rw [List.getD_eq_getElem?_getD,List.getElem?_eq_getElem h];rfl
theorem small64(h:SmallW ws)(k:Nat):ws.getD k 0<18446744073709551616:=small_getD h k
theorem bit_word{x q:Nat}(hx:x<18446744073709551616):bits .and .u64 ((x / 2 ^ q:Nat):Int) 1=(if x.testBit q=true then 1 else 0:Int):=by have h1:x / 2 ^ q<18446744073709551616:=Nat.lt_of_le_of_lt (Nat.div_le_self _ _) hx;have:=u64_and_nat (x / 2 ^ q) 1 h1 (by decide);rw [show((1:Nat):Int)=1 from rfl] at this;rw [this,nat_mask1,Nat.testBit_eq_decide_div_mod_eq];have:=Nat.mod_two_eq_zero_or_one (x / 2 ^ q);rcases this with h|h <;> simp [h]
abbrev numV(x:Int):Value:=.int .i64 x
def okInt(x:Int):Prop := -9223372036854775808≤x∧x≤9223372036854775807
theorem keysInt:KeyEnc Tryz.prog 3 numV okInt:=⟨Maps.int_keyed Tryz.underlying3,fun x hx=>by
 refine⟨.int .i64 x,?_⟩;have hw:(Lit.int .i64 x).wf=true:=by unfold okInt at hx;simp [Lit.wf,IntKind.min,IntKind.max,IntKind.bits,IntKind.signed];omega
 unfold keyOf;rw [Tryz.underlying3];unfold mapKey numV;rw [Tryz.underlying3];simp [hw],fun x y h=>by unfold numV at h;cases h;rfl⟩
end
section
variable{half n p x:Nat}
theorem low_mid(x h:Nat)(w:World)(h1:1≤h)(h2:h≤63)(hx:x<18446744073709551616) :
  Calls Tryz.prog 279 #[.int .u64 (x:Int),.int .i64 h] w fun e w'=>e=.returned (.int .u64 ((x % 2 ^ h:Nat):Int))∧w'=w:=by
 have d1:decide ((h:Int)≤0)=false:=by simp;omega
 have d2:decide ((64:Int)≤(h:Int))=false:=by simp;omega
 go_enter Tryz.func279,Tryz.ntmps279;go_wp2;go_ret;refine⟨ret_int ?_,rfl⟩;have hp:2 ^ h≤2 ^ 63:=Nat.pow_le_pow_right (by decide) h2;have hp1:1≤2 ^ h:=Nat.one_le_two_pow;have e1:((2:Int) ^ h)=((2 ^ h:Nat):Int):=by simp
 have hQ:=low_and x h;rw [e1];generalize 2 ^ h=P at *;have hP:P<18446744073709551616:=by omega
 rw [wraps_u64 (P:Int) (by omega) (by omega),show(P:Int) - 1=((P - 1:Nat):Int) by omega,wraps_u64 _ (by omega) (by omega),u64_and_nat x (P - 1) hx (by omega),hQ]
theorem low_all(x:Nat)(h:Nat)(w:World)(h1:64≤h)(h2:h≤1000000) :
  Calls Tryz.prog 279 #[.int .u64 (x:Int),.int .i64 h] w fun e w'=>e=.returned (.int .u64 (x:Int))∧w'=w:=by
 have d1:decide ((h:Int)≤0)=false:=by simp;omega
 have d2:decide ((64:Int)≤(h:Int))=true:=by simp;omega
 go_enter Tryz.func279,Tryz.ntmps279;go_wp2;go_ret;exact⟨rfl,rfl⟩
def Fst(p x n half:Nat):Prop:=(half=0∧p=n∧x % 2=1)∨((half=1∨half=2∨half=4∨half=8∨half=16∨half=32)∧FirI p x n half)
theorem fst_high(h:Fst p x n half)(hz:half≠0)(h0:x % 2 ^ half=0):Fst p (x / 2 ^ half) (n+half) (half / 2):=by
 rcases h with⟨h,_⟩|⟨hh,h⟩
 · exact absurd h hz
 by_cases h1:half=1
 · subst h1;obtain⟨a,b⟩:=fir_high1 h h0;exact .inl ⟨rfl,a,b⟩
 rcases fir_high h h0 with h|⟨ho,_⟩
 · exact .inr ⟨by omega,h⟩
 omega
theorem fst_low(h:Fst p x n half)(hz:half≠0)(h0:x % 2 ^ half≠0):Fst p x n (half / 2):=by
 rcases h with⟨h,_⟩|⟨hh,h⟩
 · exact absurd h hz
 by_cases h1:half=1
 · subst h1;obtain⟨a,b⟩:=fir_low1 h h0;exact .inl ⟨rfl,a,b⟩
 exact .inr ⟨by omega,fir_low h h0 (by omega)⟩
theorem fst_le(h:Fst p x n half):n≤p∧half≤32:=by
 rcases h with⟨rfl,rfl,_⟩|⟨hh,r,rfl,_⟩
 · exact⟨Nat.le_refl _,by omega⟩
 exact⟨by omega,by omega⟩
theorem fst_start(h:LowB x p)(hx:x<18446744073709551616):Fst p x 0 32:=.inr ⟨by omega,fir_start h hx⟩
theorem fst_end(h:Fst p x n 0):p=n∧x % 2=1:=by
 rcases h with⟨_,h⟩|⟨hh,_⟩
 · exact h
 omega
def FsRelQ(p:Nat)(v0 v3 v4:Value)(w wr:World):Prop:=∃ x n half:Nat,v0=.int .u64 (x:Int)∧v3=.int .i64 n∧v4=.int .i64 half∧x<18446744073709551616∧Hid (Fst p x n half)∧wr=w
theorem odd_and(hx:x<18446744073709551616)(h:x % 2=1):(bits .and .u64 (x:Int) 1 == 0)=false:=by have:=u64_and_nat x 1 hx (by decide);rw [show((1:Nat):Int)=1 from rfl] at this;rw [this,nat_mask1,h];rfl
attribute [local irreducible] Fst
theorem first_any(x p:Nat)(w:World)(hx:x<18446744073709551616)(hp:LowB x p) :
  Calls Tryz.prog 280 #[.int .u64 (x:Int)] w fun e w'=>e=.returned (.int .i64 p)∧w'=w:=by
 have H0:=Lh (fst_start hp hx);have hp64:p<64:=lowB_lt hp hx;clear hp;go_enter Tryz.func280,Tryz.ntmps280;go_wp2;go_loopw [0,3,4] (fun v0 v3 v4 wr=>FsRelQ p v0 v3 v4 w wr) (fun _ _ v4 _=>(intOf v4).toNat)
 case atStart=>exact⟨x,0,32,rfl,rfl,rfl,hx,H0,rfl⟩
 obtain⟨x,n,half,rfl,rfl,rfl,hx,H,hw⟩:=hrel;obtain rfl:=hw;have hle:=fst_le H.o
 by_cases hz:half=0
 · subst hz;obtain⟨h1,h2⟩:=fst_end H.o;have ho:=odd_and hx h2;clear h2;go_wp2;go_ret;exact⟨by rw [h1];rfl,rfl⟩
 by_cases h0:x % 2 ^ half=0
 ·
  have HN:=Lh (fst_high H.o hz h0);have hd:x / 2 ^ half<18446744073709551616:=Nat.lt_of_le_of_lt (Nat.div_le_self _ _) hx;go_wp2_with fail;refine(low_mid x half _ (by omega) (by omega) hx).mono ?_;rw [h0];rintro e w1 ⟨rfl,hw⟩;obtain rfl:=hw.symm;clear h0;go_wp2;go_roundw
  case rel=>exact⟨x / 2 ^ half,n+half,half / 2,by simp,by simp,by go_num,hd,HN,rfl⟩
  simp [intOf];omega
 have HN:=Lh (fst_low H.o hz h0);obtain⟨m,hm⟩:∃ m,x % 2 ^ half=m:=⟨_,rfl⟩;have e0:((m:Int) == 0)=false:=by rw [hm] at h0;simp;omega
 go_wp2_with fail;refine(low_mid x half _ (by omega) (by omega) hx).mono ?_;rw [hm];rintro e w1 ⟨rfl,hw⟩;obtain rfl:=hw.symm;clear h0 hm;go_wp2;go_roundw
 case rel=>exact⟨x,n,half / 2,rfl,rfl,by go_num,hx,HN,rfl⟩
 simp [intOf];omega
end
section
variable{ws:List Nat}{i n q:Nat}
theorem slzW:SlZ Tryz.prog 282 264 (.int .u64 0) 8:=slZ_of Tryz.underlying282 (by kernel_rfl) rfl
theorem own_full{w:World}{B g:Nat}{e:TypeId}{xs:List Value}(h:w.ownsRow B e 1 (.slice (some ⟨g,0,none⟩) n n) n xs):ArrT w g e xs∧B≤g:=by
 obtain⟨h1,h2⟩:=h;rcases h2 with⟨hv,_⟩|⟨g',cap,cur,hv,hb,hg,hn,hm,hs,ht⟩
 · cases hv
 cases hv
 have hl:cur.toList.length≤cur.toList.length:=Nat.le_refl _;have:cur.toList=xs:=by rw [← ht,List.take_of_length_le (by simp;omega)]
 refine⟨?_,hb⟩;unfold ArrT;rw [hg,← this]
def zerosW(n:Nat):List Nat:=List.replicate ((n+63) / 64) 0
theorem zerosW_ok(hn:n≤65536):SetOk n (zerosW n):=ok_zeros hn
theorem zerosW_bit(n i:Nat):bitW (zerosW n) i=false:=bit_zeros _ i
theorem zerosW_len(n:Nat):(zerosW n).length=(n+63) / 64:=by unfold zerosW;simp
theorem zerosW_enc(n:Nat):encW (zerosW n)=List.replicate ((n+63) / 64) (.int .u64 0):=encW_zeros _
def NewSet(w:World)(n:Nat)(e:Ending)(w':World):Prop:=
 ∃ b g,e=.returned (.pointer (some ⟨b,0,none⟩))∧w.heap.size≤b∧w.heap.size≤g∧SetAt w' b g n (zerosW n)∧Be w w'
attribute [local irreducible] zerosW
theorem mnew_any(n:Nat)(w:World)(hn:n≤65536):Calls Tryz.prog 156 #[.int .i64 n] w (NewSet w n):=by
 have hl:=zerosW_len n;have HE:=Lh (zerosW_enc n);have hm:(n+63) / 64≤maxLen:=by unfold maxLen;omega
 have hq:8*((n+63) / 64)≤281474976710656:=by omega
 go_enter Tryz.func156,Tryz.ntmps156;go_wp2_with (at_make;refine wpList_make_zeros slzW rfl _ _ rfl w.heap.size ((n+63) / 64) _ rfl rfl (by omega) hq hm (Nat.le_refl _) ?_;intro w1 ho1 hg1);go_ret;have hb1:Be w w1:=grown_over' hg1 (fun g hg=>by cases hg);obtain⟨hA,hg⟩:=own_full ho1;refine⟨_,_,rfl,hb1.size,Nat.le_refl _,⟨?_,?_,?_⟩,hb1.alloc hb1.size _⟩
 · rw [hl];first|exact arrT_new w1 [_,_] _|(rw [show min (n:Int) 65536=(n:Int) from by omega];exact arrT_new w1 [_,_] _)
 · rw [HE.o];exact hA.over (bnew _)
 have:=hA.arr.lt;omega
theorem mroom_any(b g n:Nat)(ws:List Nat)(w:World)(hs:SetAt w b g n ws):Calls Tryz.prog 227 #[.pointer (some ⟨b,0,none⟩)] w fun e w'=>e=.returned (.int .i64 n)∧w'=w:=by obtain⟨h0,h1,hl⟩:=hs.head.c2;clear hs;go_enter Tryz.func227,Tryz.ntmps227;go_wp2;go_ret;exact⟨rfl,rfl⟩
theorem mroom_nil(w:World):Calls Tryz.prog 227 #[.pointer none] w fun e w'=>e=.returned (.int .i64 0)∧w'=w:=by go_enter Tryz.func227,Tryz.ntmps227;go_wp2;go_ret;exact⟨rfl,rfl⟩
theorem mfits_any(b g n i:Nat)(ws:List Nat)(w:World)(hs:SetAt w b g n ws):Calls Tryz.prog 226 #[.pointer (some ⟨b,0,none⟩),.int .i64 i] w fun e w'=>e=.returned (.bool (decide (i<n)))∧w'=w:=by go_enter Tryz.func226,Tryz.ntmps226;go_wp2_with fail;refine(mroom_any b g n ws _ hs).mono ?_;rintro e w1 ⟨rfl,hw⟩;obtain rfl:=hw.symm;go_wp2;go_ret;exact⟨rvl (congrArg Value.bool (by simp)),rfl⟩
theorem mfits_nil(i:Nat)(w:World):Calls Tryz.prog 226 #[.pointer none,.int .i64 i] w fun e w'=>e=.returned (.bool false)∧w'=w:=by
 have hd:decide ((i:Int)<0)=false:=by simp
 go_enter Tryz.func226,Tryz.ntmps226;go_wp2_with fail;refine(mroom_nil _).mono ?_;rintro e w1 ⟨rfl,hw⟩;obtain rfl:=hw.symm;go_wp2;go_ret;exact⟨rfl,rfl⟩
theorem mhas_nil(i:Nat)(w:World):Calls Tryz.prog 158 #[.pointer none,.int .i64 i] w fun e w'=>e=.returned (.bool false)∧w'=w:=by go_enter Tryz.func158,Tryz.ntmps158;go_wp2_with fail;refine(mfits_nil i _).mono ?_;rintro e w1 ⟨rfl,hw⟩;obtain rfl:=hw.symm;go_wp2;go_ret;exact⟨rfl,rfl⟩
theorem i64_and63(n:Int):bits .and .i64 n 63=n % 64:=by
 have h63:(BitVec.ofInt 64 63).toNat=2 ^ 6 - 1:=by decide
 have key:(BitVec.ofInt 64 n &&& BitVec.ofInt 64 63).toNat=(n % ((2 ^ 64:Nat):Int)).toNat % 2 ^ 6:=by rw [BitVec.toNat_and,BitVec.toNat_ofInt,h63,Nat.and_two_pow_sub_one_eq_mod]
 show IntKind.i64.wrap ((BitVec.ofInt 64 n &&& BitVec.ofInt 64 63).toNat:Nat)=n % 64;rw [key,IntKind.wrap_i64];omega
theorem and63(hq:i % 64=q):bits .and .i64 (i:Int) 63=(q:Int):=by rw [i64_and63];omega
theorem bit_is(ws:List Nat)(i:Nat):bitW ws i=(ws.getD (i / 64) 0).testBit (i % 64):=rfl
theorem has_bit{x:Nat}(hx:x<18446744073709551616){b:Bool}(hb:x.testBit q=b):(bits .and .u64 ((x:Int) / 2 ^ q) 1 == 1)=b:=by
 have e:((x:Int) / 2 ^ q)=((x / 2 ^ q:Nat):Int):=by simp
 rw [e,bit_word hx,hb];cases b <;> rfl
def hasS(n:Nat)(ws:List Nat)(i:Nat):Bool:=decide (i<n) && bitW ws i
theorem mhas_any(b g n i:Nat)(ws:List Nat)(w:World)(hs:SetAt w b g n ws)(hk:SetOk n ws):Calls Tryz.prog 158 #[.pointer (some ⟨b,0,none⟩),.int .i64 i] w fun e w'=>e=.returned (.bool (hasS n ws i))∧w'=w:=by
 by_cases h:i<n
 ·
  have h1:=hs.head.k 1 rfl;have hl:=hs.head.lt;have hgl:=hs.words.lt;have hlt:=hk.lt h;have hr:=hk.room;have hc:=hs.words.cell (encW_get (hk.get h));have hx:=small64 hk.small (i / 64);obtain⟨q,hq⟩:∃ q,i % 64=q:=⟨_,rfl⟩;have hq64:q<64:=by omega
  have HB:=Lh (has_bit (q:=q) hx rfl);have HV:Hid (hasS n ws i=(ws.getD (i / 64) 0).testBit q):=by show _=_;unfold hasS;rw [bit_is,hq];simp [h]
  generalize ws.getD (i / 64) 0=x at *;have ha:bits .and .i64 (i:Int) 63=(q:Int):=and63 hq;have hd:decide (i<n)=true:=by simp [h]
  go_enter Tryz.func158,Tryz.ntmps158;go_wp2_with fail;refine(mfits_any b g n i ws _ hs).mono ?_;rintro e w1 ⟨rfl,hw⟩;obtain rfl:=hw.symm;rw [hd];clear hk hs h hd;go_wp2;go_ret;exact⟨rvl (congrArg Value.bool (by rw [HV.o];exact HB.o)),rfl⟩
 have hd:decide (i<n)=false:=by simp [h]
 have HV:Hid (hasS n ws i=false):=by show _=_;unfold hasS;simp [h]
 go_enter Tryz.func158,Tryz.ntmps158;go_wp2_with fail;refine(mfits_any b g n i ws _ hs).mono ?_;rintro e w1 ⟨rfl,hw⟩;obtain rfl:=hw.symm;rw [hd];clear hk hs h hd;go_wp2;go_ret;exact⟨rvb HV.o,rfl⟩
def PutRes(b g n i:Nat)(ws:List Nat)(w:World)(e:Ending)(w':World):Prop:=
 ∃(ok:Bool) (ws':List Nat),e=.returned (.bool ok)∧SetAt w' b g n ws'∧SetOk n ws'∧(∀ j,bitW ws' j=(bitW ws j || (decide (j=i) && decide (i<n))))∧w.grownBy w' (some g)∧w'.heap.size=w.heap.size
theorem put_same{b g:Nat}{w:World}(hs:SetAt w b g n ws)(hk:SetOk n ws){ok:Bool}(h:i<n→bitW ws i=true):PutRes b g n i ws w (.returned (.bool ok)) w:=by
 refine⟨ok,ws,rfl,hs,hk,fun j => ?_,⟨rfl,rfl,rfl,Nat.le_refl _,fun _ _ _=>rfl⟩,rfl⟩
 by_cases hj:j=i
 ·
  subst hj
  by_cases hi:j<n
  · rw [h hi];rfl
  simp [hi]
 simp [hj]
theorem has_yes(h:i<n)(hb:bitW ws i=true):hasS n ws i=true:=by unfold hasS;simp [h,hb]
theorem has_no(hb:bitW ws i=false):hasS n ws i=false:=by unfold hasS;simp [hb]
theorem put_val{x:Nat}(hx:x<18446744073709551616)(hq:q<64):bits .or .u64 (x:Int) (IntKind.u64.wrap (2 ^ q))=((x ||| 2 ^ q:Nat):Int):=by
 have hp:2 ^ q≤2 ^ 63:=Nat.pow_le_pow_right (by decide) (by omega);have e1:((2:Int) ^ q)=((2 ^ q:Nat):Int):=by simp
 rw [e1];generalize 2 ^ q=P at *;rw [wraps_u64 (P:Int) (by omega) (by omega),u64_or_nat x P hx (by omega)]
theorem putW_is(ws:List Nat)(hq:i % 64=q):putW ws i=ws.set (i / 64) (ws.getD (i / 64) 0 ||| 2 ^ q):=by unfold putW;rw [hq]
theorem grown_set(w:World)(g j:Nat)(u:Value):w.grownBy (w.setCell ⟨g,j,none⟩ u) (some g):=gsc _ _ _
attribute [local irreducible] putW hasS
theorem mput_any(b g n i:Nat)(ws:List Nat)(w:World)(hs:SetAt w b g n ws)(hk:SetOk n ws):Calls Tryz.prog 157 #[.pointer (some ⟨b,0,none⟩),.int .i64 i] w (PutRes b g n i ws w):=by
 have HS:=Lh hs;have HO:=Lh hk
 by_cases h:i<n
 rotate_left
 ·
  have hd:decide (i<n)=false:=by simp [h]
  go_enter Tryz.func157,Tryz.ntmps157;go_wp2_with fail;refine(mfits_any b g n i ws _ HS.o).mono ?_;rintro e w1 ⟨rfl,hw⟩;obtain rfl:=hw.symm;rw [hd];clear hk hs hd;go_wp2;go_ret;exact put_same HS.o HO.o (fun q=>absurd q h)
 cases hb:bitW ws i with
 | true =>
  have HV:=Lh (has_yes h hb);have hd:decide (i<n)=true:=by simp [h]
  go_enter Tryz.func157,Tryz.ntmps157;go_wp2_with fail;refine(mfits_any b g n i ws _ HS.o).mono ?_;rintro e w1 ⟨rfl,hw⟩;obtain rfl:=hw.symm;rw [hd];clear hk hs hd;go_wp2_with fail;refine(mhas_any b g n i ws _ HS.o HO.o).mono ?_;rintro e w1 ⟨rfl,hw⟩;obtain rfl:=hw.symm;rw [HV.o];go_wp2;go_ret;exact put_same HS.o HO.o (fun _=>hb)
 | false =>
  have HV:=Lh (has_no (n:=n) hb);have h1:=hs.head.k 1 rfl;have hl:=hs.head.lt;have hgl:=hs.words.lt;have hlt:=hk.lt h;have hr:=hk.room;have hne:=hs.ne;have hc:=hs.words.cell (encW_get (hk.get h));have hf:=hs.words.free (i / 64);have hx:=small64 hk.small (i / 64);obtain⟨q,hq⟩:∃ q,i % 64=q:=⟨_,rfl⟩;have hq64:q<64:=by omega
  have HP:=Lh (putW_is ws hq);generalize ws.getD (i / 64) 0=x at *;have HX:=Lh (put_val hx hq64);have ha:=and63 hq;have hd:decide (i<n)=true:=by simp [h]
  go_enter Tryz.func157,Tryz.ntmps157;go_wp2_with fail;refine(mfits_any b g n i ws _ HS.o).mono ?_;rintro e w1 ⟨rfl,hw⟩;obtain rfl:=hw.symm;rw [hd];clear hk hs hd;go_wp2_with fail;refine(mhas_any b g n i ws _ HS.o HO.o).mono ?_;rintro e w1 ⟨rfl,hw⟩;obtain rfl:=hw.symm;rw [HV.o];clear hb hq;go_wp2;go_ret;rw [HX.o];refine⟨true,putW ws i,rfl,⟨?_,?_,hne⟩,HO.o.put h,fun j => ?_,grown_set _ _ _ _,by simp⟩
  · rw [putW_len];exact HS.o.headT.set_other hne _
  · rw [HP.o,← encW_set];exact HS.o.wordsT.set _ _
  rw [bit_put hlt];simp [h]
end
section
variable{ws:List Nat}{k n:Nat}
theorem up_small(h:UpW n ws)(hs:SmallW ws)(hk:64*k≤n)(hn:n - 64*k<64):ws.getD k 0 % 2 ^ (n - 64*k)=ws.getD k 0:=by
 apply Nat.mod_eq_of_lt;apply Nat.lt_pow_two_of_testBit;intro i hi;rcases Nat.lt_or_ge i 64 with hlt|hge
 ·
  have:=h (64*k+i) (by omega);unfold bitW at this
  rwa [show(64*k+i) / 64=k by omega,show(64*k+i) % 64=i by omega] at this
 exact Nat.testBit_lt_two_pow (Nat.lt_of_lt_of_le (small_getD hs k) (Nat.pow_le_pow_right (by decide) hge))
theorem low_room(x h:Nat)(z:Int)(hz:z=(h:Int))(w:World)(h1:1≤h)(h2:h≤1000000)(hx:x<18446744073709551616)(hm:h<64→x % 2 ^ h=x) :
  Calls Tryz.prog 279 #[.int .u64 (x:Int),.int .i64 z] w fun e w'=>e=.returned (.int .u64 (x:Int))∧w'=w:=by
 subst hz;rcases Nat.lt_or_ge h 64 with hlt|hge
 · have:=low_mid x h w h1 (by omega) hx;rw [hm hlt] at this;exact this
 exact low_all x h w hge h2
theorem mword_any(b g n k:Nat)(ws:List Nat)(w:World)(hs:SetAt w b g n ws)(hk:SetOk n ws)(hlt:k<ws.length) :
  Calls Tryz.prog 228 #[.pointer (some ⟨b,0,none⟩),.int .i64 k,.int .i64 n] w fun e w'=>e=.returned (.int .u64 ((ws.getD k 0:Nat):Int))∧Be w w':=by
 have h1:=hs.head.k 1 rfl;have hl:=hs.head.lt;have hgl:=hs.words.lt;have hr:=hk.room;have hlen:=hk.len;have hc:=hs.words.cell (encW_get (get_getD hlt));have hx:=small64 hk.small k;have HM:=Lh (up_small (k:=k) hk.up hk.small (by omega));generalize ws.getD k 0=x at *;have hd:decide ((ws.length:Int)≤(k:Int))=false:=by simp;omega
 clear hs hk;go_enter Tryz.func228,Tryz.ntmps228;go_wp2_with fail;refine(low_room x (n - 64*k) _ (by omega) _ (by omega) (by omega) hx (fun h=>HM.o h)).mono ?_;rintro e w1 ⟨rfl,hw⟩;obtain rfl:=hw.symm;go_wp2;go_ret;exact⟨rfl,Below.refl _ _⟩
theorem cutX_eq{f q:Nat}(hk:k=f / 64)(hq:f % 64=q):cutX ws f k=ws.getD k 0 / 2 ^ q*2 ^ q:=by unfold cutX;rw [if_pos hk,hq]
theorem cutX_ne{f:Nat}(hk:¬ k=f / 64):cutX ws f k=ws.getD k 0:=by unfold cutX;rw [if_neg hk]
theorem cut_val{x q y:Nat}(hx:x<18446744073709551616)(h:y=x / 2 ^ q*2 ^ q):IntKind.u64.wrap ((x:Int) / 2 ^ q*2 ^ q)=(y:Int):=by
 have e1:((2:Int) ^ q)=((2 ^ q:Nat):Int):=by simp
 have hle:x / 2 ^ q*2 ^ q≤x:=Nat.div_mul_le_self _ _;rw [e1,← Int.natCast_ediv,← Int.natCast_mul,← h];rw [← h] at hle;exact wraps_u64 _ (by omega) (by omega)
def NextRes(n f:Nat)(ws:List Nat)(w:World)(e:Ending)(w':World):Prop:=∃ r:Int,e=.returned (.int .i64 r)∧NextP (bitW ws) n f r∧w'=w
def NxRel(f:Nat)(ws:List Nat)(w:World)(v5:Value)(wr:World):Prop:=∃ k:Nat,f / 64≤k∧k≤ws.length∧v5=.int .i64 k∧Hid (NxtAt ws f k)∧wr=w
attribute [local irreducible] cutX
theorem mnext_any(b g n f:Nat)(ws:List Nat)(w:World)(hs:SetAt w b g n ws)(hk:SetOk n ws)(hf:f≤1000000) :
  Calls Tryz.prog 229 #[.pointer (some ⟨b,0,none⟩),.int .i64 f] w (NextRes n f ws w):=by
 have HS:=Lh hs;have HO:=Lh hk;have hlen:=hk.len;have hr:=hk.room
 by_cases hn:f<n
 rotate_left
 ·
  have hd:decide ((n:Int)≤(f:Int))=true:=by simp;omega
  clear hs hk;go_enter Tryz.func229,Tryz.ntmps229;go_wp2_with fail;refine(mroom_any b g n ws _ HS.o).mono ?_;rintro e w1 ⟨rfl,hw⟩;obtain rfl:=hw.symm;go_wp2;go_ret;exact⟨_,rfl,next_past _ (by omega),rfl⟩
 have hd:decide ((n:Int)≤(f:Int))=false:=by simp;omega
 have h1:=hs.head.k 1 rfl;have hl:=hs.head.lt;have hgl:=hs.words.lt;clear hs hk;go_enter Tryz.func229,Tryz.ntmps229;go_wp2_with fail;refine(mroom_any b g n ws _ HS.o).mono ?_;rintro e w1 ⟨rfl,hw⟩;obtain rfl:=hw.symm;go_wp2;go_loopw [5] (fun v5 wr=>NxRel f ws w v5 wr) (fun v5 _=>ws.length - (intOf v5).toNat)
 case atStart=>exact⟨f / 64,Nat.le_refl _,by omega,by go_num,nxt_start ws f,rfl⟩
 obtain⟨k,hfk,hkl,rfl,HN,hw⟩:=hrel;obtain rfl:=hw
 by_cases hlt:k<ws.length
 rotate_left
 ·
  obtain rfl:k=ws.length:=by omega
  go_wp2;go_ret;exact⟨_,rfl,nxt_none HN.o (by omega),rfl⟩
 have hc:=HS.o.words.cell (encW_get (get_getD hlt));have hx:=small64 HO.o.small k;obtain⟨y,hy⟩:∃ y,cutX ws f k=y:=⟨_,rfl⟩;have HY:=Lh hy;have hyl:y<18446744073709551616:=by rw [← hy];exact cutX_lt HO.o.small f k
 by_cases he:k=f / 64
 ·
  have e1:((k:Int) == (f:Int) / 64)=true:=by simp;omega
  obtain⟨q,hq⟩:∃ q,f % 64=q:=⟨_,rfl⟩;have hq64:q<64:=by omega
  have ha:=and63 hq;have hX:=cut_val (q:=q) (y:=y) hx (by rw [← hy];exact cutX_eq he hq);generalize ws.getD k 0=x at *;clear he hq hy
  by_cases h0:y=0
  ·
   have e2:((y:Int) == 0)=true:=(by simp [h0]);have e3:((y:Int) != 0)=false:=(by simp [h0]);have HN2:Hid (NxtAt ws f (k+1)):=nxt_zero HN.o hfk (by rw [HY.o,h0]);clear h0;go_wp2;go_roundw
   case rel=>exact⟨k+1,by omega,by omega,by go_num,HN2,rfl⟩
   simp [intOf];omega
  have e2:((y:Int) == 0)=false:=by simp;omega
  have e3:((y:Int) != 0)=true:=by simp;omega
  obtain⟨p,hp⟩:=lowB_ex h0;have HF:Hid (NextP (bitW ws) n f ((64*k+p:Nat):Int)):=nxt_found HN.o hfk HO.o.small HO.o.up (by rw [HY.o];exact hp);have HP:=Lh hp;have hp64:p<64:=lowB_lt hp hyl;clear h0 hp;go_wp2_with fail;refine(first_any y p _ hyl HP.o).mono ?_;rintro e w1 ⟨rfl,hw⟩;obtain rfl:=hw.symm;go_wp2;go_ret;refine⟨_,ret_int ?_,HF.o,rfl⟩;omega
 have e1:((k:Int) == (f:Int) / 64)=false:=by simp;omega
 have hX:ws.getD k 0=y:=by rw [← hy];exact(cutX_ne he).symm
 rw [hX] at hc;clear he hy hX hx
 by_cases h0:y=0
 ·
  have e2:((y:Int) == 0)=true:=by simp [h0]
  have e3:((y:Int) != 0)=false:=by simp [h0]
  have HN2:Hid (NxtAt ws f (k+1)):=nxt_zero HN.o hfk (by rw [HY.o,h0]);clear h0;go_wp2;go_roundw
  case rel=>exact⟨k+1,by omega,by omega,by go_num,HN2,rfl⟩
  simp [intOf];omega
 have e2:((y:Int) == 0)=false:=by simp;omega
 have e3:((y:Int) != 0)=true:=by simp;omega
 obtain⟨p,hp⟩:=lowB_ex h0;have HF:Hid (NextP (bitW ws) n f ((64*k+p:Nat):Int)):=nxt_found HN.o hfk HO.o.small HO.o.up (by rw [HY.o];exact hp);have HP:=Lh hp;have hp64:p<64:=lowB_lt hp hyl;clear h0 hp;go_wp2_with fail;refine(first_any y p _ hyl HP.o).mono ?_;rintro e w1 ⟨rfl,hw⟩;obtain rfl:=hw.symm;go_wp2;go_ret;refine⟨_,ret_int ?_,HF.o,rfl⟩;omega
theorem mnext_nil(f:Nat)(w:World)(hf:f≤1000000):Calls Tryz.prog 229 #[.pointer none,.int .i64 f] w fun e w'=>e=.returned (.int .i64 (-1))∧w'=w:=by
 have hd:decide ((0:Int)≤(f:Int))=true:=by simp
 go_enter Tryz.func229,Tryz.ntmps229;go_wp2_with fail;refine(mroom_nil _).mono ?_;rintro e w1 ⟨rfl,hw⟩;obtain rfl:=hw.symm;go_wp2;go_ret;exact⟨rfl,rfl⟩
def winM(n:Nat)(r:Int):Nat:=if 0≤r then n+1 - r.toNat else 0
def WinRel(n:Nat)(wa wb:List Nat)(w:World)(v5:Value)(wr:World):Prop:=∃(f:Nat) (r:Int),f≤n∧v5=.int .i64 r∧NextP (bitW wa) n f r∧Hid (∀ i,i<f→bitW wa i=true→bitW wb i=true)∧wr=w
open Classical in
noncomputable def withinB(n:Nat)(wa wb:List Nat):Bool:=decide (∀ i,i<n→bitW wa i=true→bitW wb i=true)
theorem within_yes{wa wb:List Nat}(h:∀ i,i<n→bitW wa i=true→bitW wb i=true):withinB n wa wb=true:=by unfold withinB;simpa using h
theorem within_no{i:Nat}{wa wb:List Nat}(h:i<n)(h1:bitW wa i=true)(h2:bitW wb i=false):withinB n wa wb=false:=by unfold withinB;rw [decide_eq_false_iff_not];intro q;have:=q i h h1;rw [h2] at this;cases this
attribute [local irreducible] hasS withinB
theorem mwithin_any(b g b' g' n:Nat)(wa wb:List Nat)(w:World)(ha:SetAt w b g n wa)(ka:SetOk n wa)(hb:SetAt w b' g' n wb)(kb:SetOk n wb) :
  Calls Tryz.prog 163 #[.pointer (some ⟨b,0,none⟩),.pointer (some ⟨b',0,none⟩)] w fun e w'=>e=.returned (.bool (withinB n wa wb))∧w'=w:=by
 have hr:=ka.room;have HA:=Lh ha;have KA:=Lh ka;have HB:=Lh hb;have KB:=Lh kb;clear ha ka hb kb;go_enter Tryz.func163,Tryz.ntmps163;go_wp2_with fail;refine(mnext_any b g n 0 wa _ HA.o KA.out (by omega)).mono ?_;rintro e w1 ⟨r0,rfl,h0,hw⟩;obtain rfl:=hw.symm;have H0:=Lh h0;clear h0;go_wp2;go_loopw [5] (fun v5 wr=>WinRel n wa wb w v5 wr) (fun v5 _=>winM n (intOf v5))
 case atStart=>exact⟨0,r0,by omega,rfl,H0.o,fun i h=>absurd h (Nat.not_lt_zero i),rfl⟩
 obtain⟨f,r,hfn,rfl,hP,HW,hw⟩:=hrel;obtain rfl:=hw;rcases hP with⟨rfl,hno⟩|⟨i,rfl,h1,h2,h3,h4⟩
 ·
  have HV:Hid (withinB n wa wb=true):=within_yes fun j hj hb=>by
   rcases Nat.lt_or_ge j f with hl|hg
   · exact HW.o j hl hb
   rw [hno j hg hj] at hb;cases hb
  clear hno;go_wp2;go_ret;exact⟨rvb HV.o,rfl⟩
 have H4:=Lh h4;clear h4;cases hb:bitW wb i with
 | true =>
  have HV:=Lh (has_yes h2 hb);have HW2:Hid (∀ j,j<i+1→bitW wa j=true→bitW wb j=true):=fun j hj hja=>by
   rcases Nat.lt_or_ge j f with hl|hg
   · exact HW.o j hl hja
   rcases Nat.lt_or_ge j i with hl2|hg2
   · rw [H4.o j hg hl2] at hja;cases hja
   obtain rfl:j=i:=(by omega);exact hb
  clear hb h3;go_wp2_with fail;refine(mhas_any b' g' n i wb _ HB.o KB.out).mono ?_;rintro e w1 ⟨rfl,hw⟩;obtain rfl:=hw.symm;rw [HV.o];go_wp2_with fail;refine(mnext_any b g n (i+1) wa _ HA.o KA.out (by omega)).mono ?_;rintro e w1 ⟨r2,rfl,h0,hw⟩;obtain rfl:=hw.symm;have H5:=Lh h0;have hdec:winM n r2<winM n (i:Int):=by
   unfold winM;rcases h0 with⟨rfl,_⟩|⟨j,rfl,g1,g2,_⟩
   · simp;omega
   simp;omega
  clear h0;go_wp2;go_roundw
  case rel=>exact⟨i+1,r2,by omega,rfl,H5.o,HW2,rfl⟩
  exact hdec
 | false =>have HV:=Lh (has_no (n:=n) hb);have HR:=Lh (within_no h2 h3 hb);clear hb h3;go_wp2_with fail;refine(mhas_any b' g' n i wb _ HB.o KB.out).mono ?_;rintro e w1 ⟨rfl,hw⟩;obtain rfl:=hw.symm;rw [HV.o];go_wp2;go_ret;exact⟨rvb HR.o,rfl⟩
end
variable{g:Nat}{w:World}
def OrRes(b g n:Nat)(ws wt:List Nat)(w:World)(e:Ending)(w':World):Prop:=
 ∃ more:Bool,e=.returned (.bool more)∧SetAt w' b g n (orTo ws wt ws.length)∧w.grownBy w' (some g)
def OrWith(b g b' g':Nat)(ws wt:List Nat):Prop:=(b'=b∧g'=g∧wt=ws)∨(g'≠g∧b'≠g∧b≠g')
theorem list_ext_getD{a b:List Nat}(hl:a.length=b.length)(h:∀ j,a.getD j 0=b.getD j 0):a=b:=List.ext_getElem? fun j=>by
 by_cases hj:j<a.length
 · rw [get_getD hj,get_getD (by omega),h]
 · rw [List.getElem?_eq_none (by omega),List.getElem?_eq_none (by omega)]
theorem orTo_self(ws:List Nat)(k:Nat):orTo ws ws k=ws:=list_ext_getD (orTo_len ws ws k) fun j=>by
 rw [orTo_get];split
 · exact Nat.or_self _
 · rfl
def OrRel(b g b' g' n:Nat)(ws wt:List Nat)(w:World)(v5 v12:Value)(wr:World):Prop:=
 ∃(k:Nat) (m:Bool),k≤ws.length∧v5=.bool m∧v12=.int .i64 k∧Hid (SetAt wr b g n (orTo ws wt k))∧Hid (SetAt wr b' g' n wt)∧Hid (w.grownBy wr (some g))
theorem or_val{x y:Nat}(hx:x<18446744073709551616)(hy:y<18446744073709551616):bits .or .u64 (x:Int) (y:Int)=((x ||| y:Nat):Int):=u64_or_nat x y hx hy
theorem SetAt.put{b n k x:Nat}{ws:List Nat}(h:SetAt w b g n ws)(u:Value)(hu:u=.int .u64 (x:Int)):SetAt (w.setCell ⟨g,k,none⟩ u) b g n (ws.set k x):=by
 subst hu;refine⟨?_,?_,h.ne⟩
 · rw [List.length_set];exact h.headT.set_other h.ne _
 rw [← encW_set];exact h.wordsT.set _ _
theorem SetAt.apart{b n k g2:Nat}{ws:List Nat}(h:SetAt w b g n ws)(h1:b≠g2)(h2:g≠g2)(u:Value):SetAt (w.setCell ⟨g2,k,none⟩ u) b g n ws:=
 ⟨h.headT.set_other h1 _,h.wordsT.set_other h2 _,h.ne⟩
theorem grown_step{w1:World}{row:Option Nat}(h:w.grownBy w1 row){j:Nat}(hg:row=some g)(u:Value):w.grownBy (w1.setCell ⟨g,j,none⟩ u) row:=by subst hg;exact gtr h (gsc _ _ _)
theorem grown_below{w1 w2:World}{row:Option Nat}(h:w.grownBy w1 row)(hb:Be w1 w2):w.grownBy w2 row:=
 gtr h ⟨hb.os,hb.tape,hb.output,hb.size,fun k hk _=>hb.block k hk⟩
attribute [local irreducible] orTo
theorem mor_any(b g b' g' n:Nat)(ws wt:List Nat)(w:World)(hs:SetAt w b g n ws)(hk:SetOk n ws)(ht:SetAt w b' g' n wt)(kt:SetOk n wt)(hw:OrWith b g b' g' ws wt) :
  Calls Tryz.prog 159 #[.pointer (some ⟨b,0,none⟩),.pointer (some ⟨b',0,none⟩)] w (OrRes b g n ws wt w):=by
 have HS:=Lh hs;have HT:=Lh ht;have KS:=Lh hk;have KT:=Lh kt;have HW:=Lh hw;have hr:=hk.room;have hlen:=hk.len;have hlen2:=kt.len;clear hs ht hk kt hw;go_enter Tryz.func159,Tryz.ntmps159;go_wp2_with fail;refine(mroom_any b g n ws _ HS.o).mono ?_;rintro e w1 ⟨rfl,hw⟩;obtain rfl:=hw.symm;go_wp2;go_loopw [5,12] (fun v5 v12 wr=>OrRel b g b' g' n ws wt w v5 v12 wr) (fun _ v12 _=>ws.length - (intOf v12).toNat)
 case atStart=>exact⟨0,false,by omega,rfl,rfl,(by show SetAt _ _ _ _ _;rw [orTo_zero];exact HS.o),HT,⟨rfl,rfl,rfl,Nat.le_refl _,fun _ _ _=>rfl⟩⟩
 obtain⟨k,m,hkl,rfl,rfl,HA,HB,HG⟩:=hrel;rename World=>wr
 by_cases hlt:k<ws.length
 rotate_left
 ·
  have hq:decide ((k:Int)<((n:Int)+63) / 64)=false:=by simp;omega
  obtain rfl:k=ws.length:=by omega
  go_wp2;go_ret;exact⟨m,rfl,HA.o,HG.o⟩
 obtain⟨h0,h1,_⟩:=HA.o.head.c2;rw [orTo_len] at h1;have hl:=HA.o.head.lt;have hgl:=HA.o.words.lt;have hc:=HA.o.words.cell (encW_get (orTo_at (b:=wt) hlt));have hf:=HA.o.words.free k;have hx:=small64 KS.out.small k;have hy:=small64 KT.out.small k;have HSu:=Lh (orTo_succ (a:=ws) (b:=wt) hlt);have hlt2:k<wt.length:=by omega
 obtain⟨x,hxe⟩:∃ x,ws.getD k 0=x:=⟨_,rfl⟩;obtain⟨y,hye⟩:∃ y,wt.getD k 0=y:=⟨_,rfl⟩;rw [hxe] at hx;rw [hye] at hy;rw [hxe,hye] at HSu;rw [hxe] at hc;have HXe:=Lh hxe;have HYe:=Lh hye;have hv:=or_val hx hy;have HWd:∀ u:World,Be wr u→Calls Tryz.prog 228 #[.pointer (some ⟨b',0,none⟩),.int .i64 k,.int .i64 n] u fun e w'=>e=.returned (.int .u64 (y:Int))∧Be u w':=fun u hu=>by
  have:=mword_any b' g' n k wt u (HB.o.over hu) KT.out hlt2
  rwa [hye] at this
 have HWD:=Lh HWd;have hq:decide ((k:Int)<((n:Int)+63) / 64)=true:=by simp;omega
 clear hxe hye HWd;go_upto_region 5 with fail;refine wlo 16 fun hcur=>?_;repeat(first|refine lxq ?_|(refine lxl rfl ?_;go_wp2_with (first|(go_at_call 228;(with_reducible refine(HWD.o _ hcur).mono ?_);rintro e w' ⟨rfl,hb⟩;have hcur:=bvo hcur hb));refine⟨iov hcur,?_⟩))
 refine lxe ?_;rename World=>wx;have HA2:=Lh (HA.o.over hcur);have HB2:=Lh (HB.o.over hcur);have HG2:Hid (w.grownBy wx (some g)):=grown_below HG.o hcur;clear hcur h0 h1 hl hgl hc hf;obtain⟨h0,h1,_⟩:=HA2.o.head.c2;rw [orTo_len] at h1;have hl:=HA2.o.head.lt;have hgl:=HA2.o.words.lt;have hc:=HA2.o.words.cell (encW_get (orTo_at (b:=wt) hlt));rw [HXe.o] at hc;have hf:=HA2.o.words.free k;have hne:=HA2.o.ne;have HA3:Hid (SetAt (wx.setCell ⟨g,k,none⟩ (.int .u64 ((x ||| y:Nat):Int))) b g n (orTo ws wt (k+1))):=by show SetAt _ _ _ _ _;rw [HSu.o];exact HA2.o.put _ rfl
 have HB3:Hid (SetAt (wx.setCell ⟨g,k,none⟩ (.int .u64 ((x ||| y:Nat):Int))) b' g' n wt):=by
  show SetAt _ _ _ _ _;rcases HW.o with⟨rfl,rfl,rfl⟩|⟨h1,h2,_⟩
  · have:=HA3.o;rw [orTo_self] at this;exact this
  exact HB2.o.apart h2 h1 _
 cases m
 ·
  go_wp2;go_roundw
  case rel=>exact⟨k+1,_,by omega,rfl,by go_num,HA3,HB3,grown_step HG2.o rfl _⟩
  simp [intOf];omega
 go_wp2;go_roundw
 case rel=>exact⟨k+1,_,by omega,rfl,by go_num,HA3,HB3,grown_step HG2.o rfl _⟩
 simp [intOf];omega
end Go.Proofs.YtjccmcgglfncdaaGreatDoor
namespace Go.Proofs.YtjccmcgglfncdaaGreatDoor
open Go Go.RowKit
variable{L:List (Nat × Nat)}{FS ws:List Nat}{xs:List Value}{N b base g i j m n r t u:Nat}{B:Nat→Nat × Nat}{P:Nat→Nat→Prop}{e:TypeId}{w w':World}
def encI(x:Nat):List Value:=[.int .i64 x]
theorem encI_len(x:Nat):(encI x).length=1:=rfl
theorem oneI(x:Nat):∀ v∈encI x,v.oneCell'=true:=fun v hv=>by simp [encI] at hv;subst hv;rfl
def ptrV(x:Option Nat):Value:=match x with
 | none=>.pointer none
 | some b=>.pointer (some ⟨b,0,none⟩)
theorem ptrV_inj(x y:Option Nat)(h:ptrV x=ptrV y):x=y:=by cases x <;> cases y <;> simp [ptrV] at h <;> simp [h]
theorem Arr.det{ys:List Value}(h:Arr w b xs)(h':Arr w b ys):xs=ys:=by obtain⟨e,h⟩:=h;obtain⟨e',h'⟩:=h';rw [h] at h';simp only [Option.some.injEq,Obj.cells.injEq,and_true,true_and] at h';have:=h'.1;simpa using congrArg Array.toList this
theorem TMap.ne_blk{P:Program}{k:TypeId}{κ ν:Type}{kenc:κ→Value}{ok:κ→Prop}{venc:ν→Value}{f:κ→Option ν}{cs:List Value}(h:TMap P k kenc ok venc w b n f)(hA:Arr w g cs):b≠g:=by rintro rfl;obtain⟨D,⟨es,clock,h1,_⟩,_⟩:=h;obtain⟨e,h2⟩:=hA;rw [h1] at h2;cases h2
theorem SetAt.head_words{b' g' n':Nat}{ws':List Nat}(h:SetAt w b g n ws)(h':SetAt w b' g' n' ws'):b≠g':=by rintro rfl;have:=h.head.det h'.words;unfold encW at this;cases ws' <;> simp at this
theorem SetAt.ne_rel{x:Value}{n':Int}(h:SetAt w b g n ws)(hr:Arr w r [.int .i64 n',x]):g≠r:=by rintro rfl;have:=hr.det h.words;unfold encW at this;cases ws <;> simp at this
structure RelW (w:World) (r n m N base:Nat) (FS:List Nat) (B:Nat→Nat × Nat) (P:Nat→Nat→Prop):Prop where
 arrT:ArrT w r 226 [.int .i64 n,.map (some m)]
 map:TMap Tryz.prog 3 numV okInt ptrV w m N (fun x:Int=>if 0≤x∧x.toNat∈FS then some (some (B x.toNat).1) else none)
 sets:∀ i∈FS,∃ ws,SetAt w (B i).1 (B i).2 n ws∧SetOk n ws∧∀ j,bitW ws j=true↔P i j
 apart:∀ i∈FS,∀ i'∈FS,i≠i'→(B i).2≠(B i').2
 low:base≤r∧base≤m∧∀ i∈FS,base≤(B i).1∧base≤(B i).2
theorem RelW.arr(h:RelW w r n m N base FS B P):Arr w r [.int .i64 n,.map (some m)]:=h.arrT.arr
theorem RelW.look(_h:RelW w r n m N base FS B P)(hi:i∈FS) :
  ptrV (((fun x:Int=>if 0≤x∧x.toNat∈FS then some (some (B x.toNat).1) else none) (i:Int)).getD none)=.pointer (some ⟨(B i).1,0,none⟩):=by simp only [Int.natCast_nonneg,Int.toNat_natCast,hi,and_self,if_true,Option.getD_some,ptrV]
theorem RelW.miss(_h:RelW w r n m N base FS B P)(hi:i ∉ FS) :
  ptrV (((fun x:Int=>if 0≤x∧x.toNat∈FS then some (some (B x.toNat).1) else none) (i:Int)).getD none)=.pointer none:=by simp only [Int.toNat_natCast,hi,and_false,if_false,Option.getD_none,ptrV]
theorem RelW.over(h:RelW w r n m N base FS B P)(hb:Be w w'):RelW w' r n m N base FS B P:=
 ⟨h.arrT.over hb,h.map.over hb,fun i hi=>by obtain⟨ws,h1,h2⟩:=h.sets i hi;exact⟨ws,h1.over hb,h2⟩,h.apart,h.low⟩
theorem RelW.congr{Q:Nat→Nat→Prop}(h:RelW w r n m N base FS B P)(hq:∀ i∈FS,∀ j,P i j↔Q i j):RelW w r n m N base FS B Q:=
 ⟨h.arrT,h.map,fun i hi=>by obtain⟨ws,h1,h2,h3⟩:=h.sets i hi;exact⟨ws,h1,h2,fun j=>(h3 j).trans (hq i hi j)⟩,h.apart,h.low⟩
theorem TMap.ne_own{P:Program}{k:TypeId}{κ ν:Type}{kenc:κ→Value}{ok:κ→Prop}{venc:ν→Value}{B sz:Nat}{f:κ→Option ν}{v:Value}(h:TMap P k kenc ok venc w b n f)(ho:w.ownsRow B e sz v j xs):some b≠v.ownBlock:=by
 rcases ho.2 with⟨rfl,_⟩|⟨g',cap,cur,rfl,_,hg,_⟩
 · simp [Value.ownBlock]
 intro he;simp only [Value.ownBlock,Option.some.injEq] at he;subst he;exact h.ne_blk (cs:=cur.toList) ⟨e,by rw [hg]⟩ rfl
theorem RelW.kept(h:RelW w r n m N base FS B P){b0 sz:Nat}{v:Value}(ho:w.ownsRow b0 e sz v j xs)
  (h1:e≠226) (h2:e≠284) (h3:e≠264) (hg:w.grownBy w' v.ownBlock):RelW w' r n m N base FS B P:=
 ⟨h.arrT.kept hg (h.arrT.ne ho h1),h.map.kept hg (h.map.ne_own ho),fun i hi=>by obtain⟨ws,s1,s2⟩:=h.sets i hi;exact⟨ws,s1.grown hg (s1.headT.ne ho h2) (s1.wordsT.ne ho h3),s2⟩,h.apart,h.low⟩
theorem RelW.turn{Q:Nat→Nat→Prop}(h:RelW w r n m N base FS B P)(hi:i∈FS)(hs:SetAt w' (B i).1 (B i).2 n ws)(hk:SetOk n ws)
  (hg:w.grownBy w' (some (B i).2)) (hb:∀ j,bitW ws j=true↔Q i j) (hq:∀ i'∈FS,i'≠i→∀ j,P i' j↔Q i' j):RelW w' r n m N base FS B Q:=by
 obtain⟨ws0,s0,_,_⟩:=h.sets i hi;refine⟨h.arrT.kept hg (fun e=>s0.ne_rel h.arr (Option.some.inj e).symm),h.map.kept hg (fun e=>h.map.ne_blk s0.words (Option.some.inj e)),fun i' hi' => ?_,h.apart,h.low⟩
 by_cases he:i'=i
 · subst he;exact⟨ws,hs,hk,hb⟩
 obtain⟨ws',s1,s2,s3⟩:=h.sets i' hi';refine⟨ws',s1.grown hg (fun e=>s1.head_words s0 (Option.some.inj e)) (fun e=>h.apart i' hi' i hi he (Option.some.inj e)),s2,fun j=>(s3 j).trans (hq i' hi' he j)⟩
theorem RelW.add{w'':World}(h:RelW w r n m N base FS B P)(hi:i ∉ FS)(hP:∀ j,¬ P i j)(hn:n≤65536)
  (hb:Be w w') (hB:base≤w.heap.size) (hbb:w.heap.size≤b) (hgg:w.heap.size≤g) (hs:SetAt w' b g n (zerosW n))
  (hm:TMap Tryz.prog 3 numV okInt ptrV w'' m (N+1) (updM (fun x:Int=>if 0≤x∧x.toNat∈FS then some (some (B x.toNat).1) else none) (i:Int) (some b))) (hg:w'.grownBy w'' (some m)) :
  RelW w'' r n m (N+1) base (FS++[i]) (fun x=>if x=i then(b,g) else B x) P:=by
 have h':=h.over hb;have hml:=h.map.lt;have old:∀ {x:Nat},x∈FS→x≠i:=fun hx e=>hi (e▸hx);refine⟨h'.arrT.kept hg (fun e=>h'.map.ne_blk h'.arr (Option.some.inj e).symm),hm.congr fun x _ => ?_,fun x hx => ?_,fun x hx y hy hxy => ?_,h.low.1,h.low.2.1,fun x hx => ?_⟩
 ·
  unfold updM
  by_cases hx:x=(i:Int)
  · subst hx;simp
  rw [if_neg hx]
  by_cases hq:0≤x∧x.toNat∈FS
  · have hne:x.toNat≠i:=old hq.2;simp [hq,hne]
  have hne:¬ (0≤x∧(x.toNat∈FS∨x.toNat=i)):=fun⟨q1,q2⟩=>q2.elim (fun q=>hq ⟨q1,q⟩) (fun q=>hx (by omega));simp only [List.mem_append,List.mem_singleton];rw [if_neg hq,if_neg hne]
 ·
  rcases List.mem_append.1 hx with hx|hx
  · obtain⟨ws,s1,s2,s3⟩:=h'.sets x hx;rw [if_neg (old hx)];exact⟨ws,s1.grown hg (fun e=>h'.map.ne_blk s1.head (Option.some.inj e).symm) (fun e=>h'.map.ne_blk s1.words (Option.some.inj e).symm),s2,s3⟩
  obtain rfl:=List.mem_singleton.1 hx;rw [if_pos rfl];refine⟨zerosW n,hs.grown hg (fun e=>h'.map.ne_blk hs.head (Option.some.inj e).symm) (fun e=>h'.map.ne_blk hs.words (Option.some.inj e).symm),zerosW_ok hn,fun j => ?_⟩;rw [zerosW_bit];exact⟨fun q=>(by cases q),fun q=>absurd q (hP j)⟩
 ·
  have lo:∀ z∈FS,(B z).2<w.heap.size:=fun z hz=>by obtain⟨ws,s1,_⟩:=h.sets z hz;exact s1.words.lt
  rcases List.mem_append.1 hx with q|q <;> rcases List.mem_append.1 hy with q'|q'
  · rw [if_neg (old q),if_neg (old q')];exact h.apart x q y q' hxy
  · have e:=List.mem_singleton.1 q';rw [if_neg (old q),if_pos e];have:=lo x q;show(B x).2≠g;omega
  · have e:=List.mem_singleton.1 q;rw [if_neg (old q'),if_pos e];have:=lo y q';show g≠(B y).2;omega
  exact absurd ((List.mem_singleton.1 q).trans (List.mem_singleton.1 q').symm) hxy
 rcases List.mem_append.1 hx with hx|hx
 · rw [if_neg (old hx)];exact h.low.2.2 x hx
 obtain rfl:=List.mem_singleton.1 hx;rw [if_pos rfl];exact⟨by show base≤b;omega,by show base≤g;omega⟩
def PVia(L:List (Nat × Nat))(FS:List Nat)(t u:Nat)(i j:Nat):Prop:=Via L (if i∈FS.take u then FS.take (t+1) else FS.take t) i j
theorem pvia_start:(i,j)∈L↔PVia L FS 0 0 i j:=by unfold PVia;rw [if_neg (by simp),List.take_zero];exact via_nil.symm
theorem pvia_row(hi:i∈FS):PVia L FS t FS.length i j↔PVia L FS (t+1) 0 i j:=by unfold PVia;rw [if_pos (by rw [List.take_length];exact hi),if_neg (by simp)]
theorem pvia_end(hFS:∀ s∈L,s.1∈FS):PVia L FS FS.length 0 i j↔Lead L i j:=by unfold PVia;rw [if_neg (by simp),List.take_length];exact via_all hFS
theorem nodup_not_take(hn:FS.Nodup)(hu:FS[u]? = some i):i ∉ FS.take u:=by
 intro h;obtain⟨j,hj⟩:=List.getElem?_of_mem h;rw [List.getElem?_take] at hj;split at hj
 · rename_i hlt;have:=(List.getElem?_inj (List.getElem?_eq_some_iff.1 hu).1 hn).1 (hu.trans hj.symm);omega
 cases hj
theorem pvia_self{k:Nat}(ht:FS[t]? = some k):PVia L FS t u k j↔Via L (FS.take t) k j:=by
 unfold PVia;split
 · rw [take_one ht];exact via_self
 exact Iff.rfl
theorem pvia_at(hn:FS.Nodup)(hu:FS[u]? = some i):PVia L FS t u i j↔Via L (FS.take t) i j:=by unfold PVia;rw [if_neg (nodup_not_take hn hu)]
theorem pvia_other{i':Nat}(hu:FS[u]? = some i)(hne:i'≠i):PVia L FS t u i' j↔PVia L FS t (u+1) i' j:=by
 unfold PVia;rw [take_one hu];have:i'∈FS.take u++[i]↔i'∈FS.take u:=by simp [hne]
 by_cases h:i'∈FS.take u
 · rw [if_pos h,if_pos (this.2 h)]
 rw [if_neg h,if_neg (fun q=>h (this.1 q))]
theorem pvia_next{k:Nat}(hu:FS[u]? = some i)(ht:FS[t]? = some k):PVia L FS t (u+1) i j↔Via L (FS.take t) i j∨(Via L (FS.take t) i k∧Via L (FS.take t) k j):=by unfold PVia;rw [if_pos (by rw [take_one hu];simp),take_one ht];exact via_snoc
def RelAt(w:World)(r n:Nat)(R:List (Nat × Nat)):Prop:=n≤65536∧(∀ s∈R,s.1<n∧s.2<n)∧∃ m N base FS B,RelW w r n m N base FS B (Lead R)∧∀ i,i∈FS↔∃ j,(i,j)∈R
theorem RelAt.over{R:List (Nat × Nat)}(h:RelAt w r n R)(hb:Be w w'):RelAt w' r n R:=by obtain⟨h1,h2,m,N,base,FS,B,h3,h4⟩:=h;exact⟨h1,h2,m,N,base,FS,B,h3.over hb,h4⟩
section
variable {P : Program} {k : TypeId} {κ ν : Type} {kenc : κ → Value} {ok : κ → Prop} {venc : ν → Value}
variable {w : World} {ops : Array Oper} {rest : List Oper} {o : Oper} {a : Act} {Q : Exit → Act → World → Prop}
theorem wpList_tlookV(KE:KeyEnc P k kenc ok)(hv:∀ x y,venc x=venc y→x=y)(hw:Region.wanted o (yielded ops a.tmps)=true)(m x:Operand)(t:TypeId)(hop:o.op=Op.lookup t m x false)(ht:P.underlying t=some (.map k e))(zv:ν)
  (hz:(zeroValue e).run P w=.ok (venc zv) w) (b n:Nat) (f:κ→Option ν) (hm:a.eval m=.map (some b)) (h:TMap P k kenc ok venc w b n f) (y:κ) (hx:a.eval x=kenc y) (hy:ok y) (V:Value) (hV:venc ((f y).getD zv)=V)
  (hK:wpList P ops Q rest (a.put o.dst V) w):wpList P ops Q (o :: rest) a w:=by subst hV;refine wpList_step fun K' hK' => ?_;rw [if_pos hw];unfold Oper.wp;simp [execOp,hop,hm,hx,h.lookup KE hv ht hz y hy,Result.andThen];exact hK' _ _ hK
theorem lex_tlook{C:World→Prop}{loud:Nat→Bool}{Q:Act→World→Prop}(KE:KeyEnc P k kenc ok)(hv:∀ x y,venc x=venc y→x=y){kk:Nat}{l:List Oper}(hl:loud kk=false)(m x:Operand)(t:TypeId)(ho:o.op=Op.lookup t m x false)
  (hw:Region.wanted o (yielded ops a.tmps)=true)  (ht:P.underlying t=some (.map k e)) (zv:ν) (hz:∀ u:World,(zeroValue e).run P u=.ok (venc zv) u) (b n:Nat) (f:κ→Option ν) (hm:a.eval m=.map (some b))
  (hA:∀ w',C w'→TMap P k kenc ok venc w' b n f) (y:κ) (hx:a.eval x=kenc y) (hy:ok y) (V:Value) (hV:venc ((f y).getD zv)=V)
  (h:wpLex P ops C loud Q (kk+1) l (a.put o.dst V) w):wpLex P ops C loud Q kk (o :: l) a w:=by subst hV;unfold wpLex;rw [if_pos hw,hl];refine⟨_,fun w' hw' => ?_,h⟩;unfold Oper.quietAt execOp;simp only [ho,hm,hx,(hA w' hw').lookup KE hv ht (hz w') y hy,Sem.run_bind,Sem.run_pure,Result.andThen_ok];exact⟨rfl,rfl⟩
end
theorem zero_ptr(u:World):(zeroValue 227).run Tryz.prog u=.ok (ptrV none) u:=by kernel_rfl
end Go.Proofs.YtjccmcgglfncdaaGreatDoor
