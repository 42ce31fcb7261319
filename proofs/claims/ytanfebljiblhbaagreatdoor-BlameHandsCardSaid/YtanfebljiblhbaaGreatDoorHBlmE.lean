/- Blame: All. -/
import Derived.Test.YtanfebljiblhbaaGreatDoorHBlmD
import Derived.Maps.OwnIn
import Derived.RangeFuncBox
import Derived.Shelf.Abstract
set_option linter.unusedVariables false
set_option linter.unusedSimpArgs false
namespace Go.Proofs.YtanfebljiblhbaaGreatDoor
open Go Go.RowKit Go.Shelf
attribute [local go_sem] Oper.semAt_some
theorem slTl:SlT Tryz.prog 37 42 4 24:=slT_of Tryz.underlying37 (by kernel_rfl) (by decide)
theorem encTl_len(t:TLine):(tlL t).length=4:=rfl
theorem own_mid{α:Type}{enc:α→List Value}{sz:Nat}{e:TypeId}{A B:World}{base:Nat}{v:Value}{xs:List α}(h:GOwn enc sz e A base v xs)(hb:∀ b,v.ownBlock=some b→B.heap[b]? = A.heap[b]?):GOwn enc sz e B base v xs:=by
 obtain⟨h1,h2|⟨g,cap,cur,rfl,h3,h4,h5⟩⟩:=h
 ·
  exact⟨h1,.inl h2⟩
 ·
  exact⟨h1,.inr ⟨g,cap,cur,rfl,h3,(hb g rfl).trans h4,h5⟩⟩
theorem numF_snd:∀(k:Nat) (z:List TLine),(numF k z).map (·.2)=z
 | _,[]=>rfl
 | k,y :: z=>by simp [numF,numF_snd (k+1) z]
def AlI(w0:World)(go:Nat)(O:Nat→Prop)(pre:List (Nat × TLine))(W:World):Prop:=
 (∀ k,O k→go<k)∧(∃ v,ArrT W go 37 [v]∧GOwn tlL 4 42 W w0.heap.size v (pre.map (·.2))∧∀ k,v.ownBlock=some k→¬ O k)∧Below w0.heap.size w0 W
theorem ali_keep{w0:World}{go:Nat}(hgo:w0.heap.size≤go)(O O':Nat→Prop)(pre:List (Nat × TLine))(A B:World)(h:AlI w0 go O pre A)(ho:MidOut O A B)(hn:∀ k,O' k→(O k∨A.heap.size≤k)∧k<B.heap.size):AlI w0 go O' pre B:=by
 obtain⟨h1,⟨v,h2,h3,h4⟩,h5⟩:=h
 have hlt:=h2.arr.lt
 refine⟨fun k q => ?_,⟨v,(ho.block go hlt fun q=>absurd (h1 go q) (Nat.lt_irrefl _)).trans h2,own_mid h3 fun k q=>ho.block k (gown_size h3 q) (h4 k q),fun k q q2 => ?_⟩,⟨ho.os.trans h5.os,ho.tape.trans h5.tape,ho.output.trans h5.output,Nat.le_trans h5.size ho.size,fun k q=>(ho.block k ?_ fun q2 => ?_).trans (h5.block k q)⟩⟩
 ·
  rcases (hn k q).1 with q|q
  ·
   exact h1 k q
  ·
   omega
 ·
  rcases (hn k q2).1 with q2|q2
  ·
   exact h4 k q q2
  ·
   have:=gown_size h3 q;omega
 ·
  have:=h5.size;omega
 ·
  have:=h1 k q2;omega
set_option maxHeartbeats 16000000 in
set_option maxRecDepth 100000 in
theorem ball_gen(p:Option Addr)(LL:List VertM)(RR:List (Nat × Nat))(file:VidM)(w:World)(hlof:∀ W,Below w.heap.size w W→Calls Tryz.prog 35 #[.pointer p,vidV file] W (LofL W LL RR))(hll:LL.length≤65536) :
  Calls Tryz.prog 14 #[.pointer p,vidV file] w (OwnRes tlL 4 42 w (toldL LL RR)):=by
 obtain⟨i0,z0,ht,hi,hz,hsize,hby,hzs,hsz⟩:=slTl.out
 have HI:=Lib.hid (And.intro hi (And.intro hz (And.intro hsize (And.intro hby (And.intro hzs hsz)))))
 clear ht hi hz hsize hby hzs hsz
 refine(callsIn_wide (n:=3)).1 ?_
 refine callsIn_of_wp_marks Tryz.func14 rfl trivial ?_ rfl
 simp only [Tryz.ntmps14,List.size_toArray,List.length_cons,List.length_nil,Nat.reduceAdd,Nat.reduceSub,Array.replicate_succ,Array.replicate_zero,List.push_toArray,List.append_toArray,List.nil_append,List.cons_append]
 gi_wp2_with (refine⟨trivial,?_⟩;gi_at_call 19;refine(callsIn_wide.2 (lines_any p file _)).mono ?_;rintro e w' ⟨rfl,rfl⟩)
 have e1:=below_new (w:=w) (.cells #[.int .u8 file.pid.author.toNat,.int .u16 file.pid.seq.toNat,.int .u8 file.n.toNat] 27)
 have s1:(w.alloc (.cells #[.int .u8 file.pid.author.toNat,.int .u16 file.pid.seq.toNat,.int .u8 file.n.toNat] 27)).heap.size=w.heap.size+1:=by simp
 generalize w.alloc (.cells #[.int .u8 file.pid.author.toNat,.int .u16 file.pid.seq.toNat,.int .u8 file.n.toNat] 27)=W1 at *
 have o2:=arrT_new W1 [.slice none 0 0] 37
 have e2:=below_new (w:=W1) (.cells #[.slice none 0 0] 37)
 have s2:(W1.alloc (.cells #[.slice none 0 0] 37)).heap.size=W1.heap.size+1:=by simp
 change ArrT (W1.alloc (.cells #[.slice none 0 0] 37)) _ _ _ at o2
 generalize W1.alloc (.cells #[.slice none 0 0] 37)=W2 at *
 have g3:=arr_new W2 #[.pointer p] 30
 have e3:=below_new (w:=W2) (.cells #[.pointer p] 30)
 have s3:(W2.alloc (.cells #[.pointer p] 30)).heap.size=W2.heap.size+1:=by simp
 generalize W2.alloc (.cells #[.pointer p] 30)=W3 at *
 have f4:=arr_new W3 #[.int .u8 file.pid.author.toNat,.int .u16 file.pid.seq.toNat,.int .u8 file.n.toNat] 27
 have e4:=below_new (w:=W3) (.cells #[.int .u8 file.pid.author.toNat,.int .u16 file.pid.seq.toNat,.int .u8 file.n.toNat] 27)
 have s4:(W3.alloc (.cells #[.int .u8 file.pid.author.toNat,.int .u16 file.pid.seq.toNat,.int .u8 file.n.toNat] 27)).heap.size=W3.heap.size+1:=by simp
 generalize W3.alloc (.cells #[.int .u8 file.pid.author.toNat,.int .u16 file.pid.seq.toNat,.int .u8 file.n.toNat] 27)=W4 at *
 rw [s3,s2,s1] at f4
 rw [s2,s1] at g3
 rw [s1] at o2
 have o4:=((o2.over e3).over e4)
 have g4:=g3.over e4
 have b4:Below w.heap.size w W4:=below_over (below_over (below_over e1 e1.size e2) (by omega) e3) (by omega) e4
 clear e1 e2 e3 e4 o2 g3
 refine wpIn_rangeFunc_mid (gf:=51) rfl (enters_of Tryz.func51 (by kernel_rfl) rfl) (lines1_gen (w.heap.size+1+1) (w.heap.size+1+1+1) p LL RR file W4 g4 f4 (fun W h=>hlof W (below_over b4 b4.size h)) hll) (Below.refl _ _) (fun _=>rfl)
  (AlI w (w.heap.size+1)) (fun _ _ _ _=>False) (ali_keep (by omega)) (fun _ _ _ _ _ _ h _ _=>h) ?start
  (fun O x a' W=>∃ B,¬ O B∧ArrT W B 42 (tlL x.2)∧a'={tmps:=#[.pointer p,vidV file,undef,.pointer (some ⟨w.heap.size,0,none⟩),.slice none 0 0,.pointer (some ⟨w.heap.size+1,0,none⟩),undef,.pointer (some ⟨B,0,none⟩),.pointer p,vidV file,
   .func (.func 51) #[] #[.pointer (some ⟨w.heap.size+1+1,0,none⟩),.pointer (some ⟨w.heap.size+1+1+1,0,none⟩)],.int .i64 x.1,tlV x.2,undef,undef,undef,undef,undef],defers:=[]}) ?ax ?assign ?body ?done ?stop
 case start =>
  intro O B hO hB
  exact⟨fun k q=>by have:=(hO k q).1;omega,⟨_,o4.over hB,gown_nil _ _,nofun⟩,b4.trans (hB.mono (by omega))⟩
 case ax =>
  rintro O x a' A B ⟨B0,h1,h2,rfl⟩ ho
  exact⟨B0,h1,(ho.block B0 h2.arr.lt h1).trans h2,rfl⟩
 case assign =>
  intro l m O pre x W K hO hi hK
  gi_wp2
  have hb:=below_new (w:=W) (.cells #[.string x.2.text,.int .u8 x.2.id.pid.author.toNat,.int .u16 x.2.id.pid.seq.toNat,.int .u8 x.2.id.n.toNat] 42)
  have hs:(W.alloc (.cells #[.string x.2.text,.int .u8 x.2.id.pid.author.toNat,.int .u16 x.2.id.pid.seq.toNat,.int .u8 x.2.id.n.toNat] 42)).heap.size=W.heap.size+1:=by simp
  exact hK _ _ (MidIn.of_below hb fun k q=>(hO k q).2) (ali_keep (by omega) _ _ _ _ _ hi (MidOut.of_below hb) fun k q=>⟨.inl q,by have:=(hO k q).2;omega⟩) ⟨W.heap.size,fun q=>by have:=(hO _ q).2;omega,arrT_new W (tlL x.2) _,rfl⟩
 case body =>
  rintro l m O pre x rest W hx hO ⟨h1,⟨v,h2,h3,h4⟩,h5⟩ a' ⟨B,hB,hl,rfl⟩
  have hlen:(pre.map (·.2)).length≤262144:=by
   have h6:=congrArg List.length hx
   have h7:=toldL_few LL RR
   have h8:=hll
   have h9:∀(k:Nat) (z:List TLine),(numF k z).length=z.length:=fun k z=>by
    induction z generalizing k with
    | nil=>rfl
    | cons y z ih=>simp [numF,ih]
   rw [h9,List.length_append,List.length_cons] at h6
   rw [List.length_map];omega
  have HX:=Lib.hid hx
  have HO:=Lib.hid hO
  have H1:=Lib.hid h1
  have H4:=Lib.hid h4
  clear hx hO h1 h4
  have c0:=h2.arr.cell (j:=0) rfl
  have sc:=h2.arr.lt
  have l0:=hl.arr.cell (j:=0) rfl
  have l1:=hl.arr.cell (j:=1) rfl
  have l2:=hl.arr.cell (j:=2) rfl
  have l3:=hl.arr.cell (j:=3) rfl
  have sl:=hl.arr.lt
  have hbl:=below_new (w:=W) (.cells #[.string x.2.text,.int .u8 x.2.id.pid.author.toNat,.int .u16 x.2.id.pid.seq.toNat,.int .u8 x.2.id.n.toNat] 42)
  have hsl:(W.alloc (.cells #[.string x.2.text,.int .u8 x.2.id.pid.author.toNat,.int .u16 x.2.id.pid.seq.toNat,.int .u8 x.2.id.n.toNat] 42)).heap.size=W.heap.size+1:=by simp
  have hnl:=arrT_new W (tlL x.2) 42
  have hd:=h2.over hbl
  have hd0:=hd.arr.cell (j:=0) rfl
  have hr:=h3.over hbl
  have hne:=hd.ne hr (by decide)
  have h5s:=h5.size
  have HNw:Hid (∀ q u,(tlL x.2)[q]? = some u→(W.alloc (.cells #[.string x.2.text,.int .u8 x.2.id.pid.author.toNat,.int .u16 x.2.id.pid.seq.toNat,.int .u8 x.2.id.n.toNat] 42)).cell? (Addr.add ⟨W.heap.size,0,none⟩ q)=some u):=Lib.hid fun q u hu=>by
   have e:Addr.add ⟨W.heap.size,0,none⟩ q=⟨W.heap.size,q,none⟩:=by
    unfold Addr.add
    by_cases hq:q=0
    ·
     subst hq;rfl
    ·
     simp [hq]
   rw [e]
   exact hnl.arr.cell hu
  gi_wp2_with (gi_at_builtin;refine wpListIn_append_own_at _ rfl _ _ 37 rfl w.heap.size 42 i0 z0 4 24 Tryz.underlying37 HI.out.1 HI.out.2.1 HI.out.2.2.1 HI.out.2.2.2.1 HI.out.2.2.2.2.1 HI.out.2.2.2.2.2 v _ _ rfl hr ⟨W.heap.size,0,none⟩ 1 1 (tlL x.2) rfl rfl HNw.out (by intro u hu;simp at hu;rcases hu with rfl|rfl|rfl|rfl <;> rfl) (by unfold maxLen;omega) (by omega) (by omega) ?_;intro v' w1 hown' hgrow _ hat;obtain⟨g',cap',rfl⟩:=ownsRow_succ hown';have hk:=hd.grown hr (by decide) hgrow;have hk0:=hk.arr.cell (j:=0) rfl;have hkf:=hk.arr.free 0;have hks:=hk.arr.lt)
  have hO:=HO.out
  have h1:=H1.out
  have h4:=H4.out
  have hown9:=hown'
  have hno:∀ k,(Value.slice (some ⟨g',0,none⟩) ((pre.map (·.2)).length+1) cap').ownBlock=some k→¬ O k:=fun k q q2=>by
   rcases hat with e|e
   ·
    rw [e] at q;exact h4 k q q2
   ·
    rw [e] at q;cases q;have:=(hO _ q2).2;omega
  have hgo:¬ O (w.heap.size+1):=fun q=>absurd (h1 _ q) (Nat.lt_irrefl _)
  have hks':W.heap.size≤w1.heap.size:=by have:=hgrow.size;omega
  have hm1:MidIn O W w1:=(MidIn.of_below hbl fun k q=>(hO k q).2).trans (MidIn.of_grown hgrow (fun k q=>by have:=(hO k q).2;omega) (fun k e=>h4 k e))
  have hgn:GOwn tlL 4 42 w1 w.heap.size (.slice (some ⟨g',0,none⟩) ((pre.map (·.2)).length+1) cap') ((pre++[x]).map (·.2)):=by
   rw [List.map_append]
   exact GOwn.snoc hown9
  have hbw:Below w.heap.size w w1:=below_grown (below_over h5 h5s hbl) (by omega) hr hgrow
  have hne2:=hk.ne hgn (by decide)
  rw [List.length_map] at hgn hno hne2
  refine⟨hm1.trans (MidIn.of_grown (grown_setCell (g:=w.heap.size+1) w1 0 _) (fun k q=>by have:=(hO k q).2;omega) (fun k e=>by cases e;exact hgo)),h1,⟨_,hk.set 0 _,own_set hgn (fun q=>hne2 q.symm) _ _,hno⟩,hbw.setCell (p:=⟨w.heap.size+1,0,none⟩) (Nat.le_succ _) _⟩
 case done =>
  rintro O W hO ⟨h1,⟨v,h2,h3,h4⟩,h5⟩ hO0 hK
  have c0:=h2.arr.cell (j:=0) rfl
  have sc:=h2.arr.lt
  gi_wp2
  rw [numF_snd] at h3
  have s5:W4.heap.size=w.heap.size+1+1+1+1:=by omega
  rw [s5] at hK hO0
  refine⟨by simp,.inl ⟨_,_,rfl,run_takeDeferred hK,?_⟩⟩
  refine⟨_,results_tmp rfl _ _ _,v,rfl,own_mid h3 fun k q=>World.putObj_heap_other (fun e=>h4 k q (e▸hO0)),h5.grown (grownBy_putObj' W _ _) h5.size (fun k e=>by cases e;omega)⟩
 case stop =>
  rintro c O pre W _ _ h _ _
  exact h.elim
theorem ball_any(b:Nat)(L:List PatchM)(file:VidM)(w:World)(hg:GrIs w b L)(hw:WfG L)(hil:(idsM L).length≤65536)(hel:(edgesM L).length≤1000000) :
  Calls Tryz.prog 14 #[.pointer (some ⟨b,0,none⟩),vidV file] w (OwnRes tlL 4 42 w (toldL (linesM L file) (relM L file))):=
 ball_gen (some ⟨b,0,none⟩) _ _ file w (fun W h=>lofL_any b L file W (hg.over h) hw hil hel) (lines_few hil)
end Go.Proofs.YtanfebljiblhbaaGreatDoor
