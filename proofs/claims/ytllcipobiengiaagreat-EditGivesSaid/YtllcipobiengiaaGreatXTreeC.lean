/- Contracts of bruitref14: Name, Mark, Line. Contracts of bruitref14.Line, bruitref15.Texts, Find, Same. Trees that lie in old memory. Contracts of bruitref15.Find, Same. -/
import Derived.Test.YtllcipobiengiaaGreatXGen
import Derived.Test.YtllcipobiengiaaGreatXTreeP
set_option linter.unusedVariables false
set_option linter.unusedSimpArgs false
namespace Go.Proofs.YtllcipobiengiaaGreat
open Go Go.RowKit

set_option maxHeartbeats 1000000 in
theorem rmark_any(s:ByteArray)(w:World)(hs:s.size≤maxLen) :
  Calls Tryz.prog 62 #[.string s] w fun e w'=>e=.returned (.bool (markOk s))∧Below w.heap.size w w':=by
 unfold maxLen at hs
 by_cases h7:s.size<7
 ·
  have HM:=Lib.hid (mark_short h7)
  go_enter Tryz.func62,Tryz.ntmps62
  go_wp2
  go_ret
  exact⟨ret_val (congrArg Value.bool HM.out.symm),Below.refl _ _⟩
 ·
  have h0:0<s.size:=by omega
  cases hm:markAt s[0] with
  | false =>
   have HM:=Lib.hid (mark_first h0 hm)
   obtain⟨e1,e2,e3,e4,e5,e6,e7,e8⟩:=mark_no hm
   clear hm
   go_enter Tryz.func62,Tryz.ntmps62
   go_wp2
   go_ret
   exact⟨ret_val (congrArg Value.bool HM.out.symm),Below.refl _ _⟩
  | true =>
   have HA:Hid ((∀ j,j<7→s.data.toList[j]? = some s[0])→markOk s=true):=fun h=>mark_all (by omega) hm h
   have HO:Hid (∀ j (hj:j<s.size),j<7→s[j]≠s[0]→markOk s=false):=fun j hj h7 hne=>mark_other h0 hj h7 hne
   have hc:=mark_yes hm
   clear hm
   have HG:=Lib.hid (get_list s)
   go_enter Tryz.func62,Tryz.ntmps62
   rcases hc with hc|hc|hc|hc
   all_goals
    go_wp2
    go_loopw [3] (fun i wr=>∃ k:Nat,k≤7∧1≤k∧i=.int .i64 k∧Hid (∀ j,j<k→s.data.toList[j]? = some s[0])∧Below w.heap.size w wr) (fun i _=>7 - (intOf i).toNat)
    case atStart=>exact⟨1,by omega,by omega,rfl,(fun j hj=>by rw [show j=0 by omega];exact HG.out 0 h0),Below.refl _ _⟩
    case round =>
     obtain⟨k,hk,hk1,rfl,HL,hbl⟩:=hrel
     by_cases hlt:k<7
     ·
      have hks:k<s.size:=by omega
      have HOk:=Lib.hid (HO.out k hks hlt)
      have HGk:=Lib.hid (HG.out k hks)
      by_cases he:s[k]=s[0]
      ·
       have hS:Hid (∀ j,j<k+1→s.data.toList[j]? = some s[0]):=by
        intro j hj
        by_cases hjk:j=k
        ·
         subst hjk;rw [HGk.out,he]
        ·
         exact HL.out j (by omega)
       have hbne:((s[k].toNat:Int) != (s[0].toNat:Int))=false:=by rw [he];simp
       have hb2:((s[k].toNat:Int) == (s[0].toNat:Int))=true:=by rw [he];simp
       clear he
       go_wp2_with fail
       refine wp_region_lex (C:=IsOver wr) 6 [] (by kernel_rfl) (by kernel_rfl) (isOver_of (by repeat(first|exact Below.refl _ _|apply Below.drew|apply below_drewN|(refine Below.alloc ?_ (by simp) _)))) ?_
       simp only [List.take_succ_cons,List.take_zero,List.drop_succ_cons,List.drop_zero]
       repeat(first|(refine lex_skip rfl rfl ?_;simp only [Act.put,List.setIfInBounds_toArray,List.set_cons_succ,List.set_cons_zero])|(refine lex_one rfl ?_;go_big_quiet_step (fail);refine wpQuiet_nil ?_))
       refine lex_end ?_
       go_wp2_with fail
       go_roundw
       case rel=>exact⟨k+1,by omega,by omega,by go_num,hS,hbl.drew⟩
       case measure=>simp [intOf];omega
      ·
       have HM:=Lib.hid (HOk.out he)
       have hbne:((s[k].toNat:Int) != (s[0].toNat:Int))=true:=by
        simp;intro h;exact he (UInt8.toNat_inj.1 (by omega))
       have hb2:((s[k].toNat:Int) == (s[0].toNat:Int))=false:=by
        simp;intro h;exact he (UInt8.toNat_inj.1 (by omega))
       clear he
       go_wp2_with fail
       refine wp_region_lex (C:=IsOver wr) 6 [] (by kernel_rfl) (by kernel_rfl) (isOver_of (by repeat(first|exact Below.refl _ _|apply Below.drew|apply below_drewN|(refine Below.alloc ?_ (by simp) _)))) ?_
       simp only [List.take_succ_cons,List.take_zero,List.drop_succ_cons,List.drop_zero]
       repeat(first|(refine lex_skip rfl rfl ?_;simp only [Act.put,List.setIfInBounds_toArray,List.set_cons_succ,List.set_cons_zero])|(refine lex_one rfl ?_;go_big_quiet_step (fail);refine wpQuiet_nil ?_))
       refine lex_end ?_
       go_wp2_with fail
       go_ret
       exact⟨ret_val (congrArg Value.bool HM.out.symm),hbl.drew⟩
     ·
      obtain rfl:k=7:=by omega
      have HM:=Lib.hid (HA.out HL.out)
      go_wp2_with fail
      go_ret
      exact⟨ret_val (congrArg Value.bool HM.out.symm),hbl⟩
end Go.Proofs.YtllcipobiengiaaGreat
namespace Go.Proofs.YtllcipobiengiaaGreat
open Go Go.RowKit

set_option maxHeartbeats 1000000 in
theorem rline_any(s:ByteArray)(w:World)(hs:s.size≤maxLen) :
  Calls Tryz.prog 20 #[.string s] w fun e w'=>e=.returned (.bool (lineOk s))∧Below w.heap.size w w':=by
 have HM:=Lib.hid hs
 unfold maxLen at hs
 have HG:=Lib.hid (get_list s)
 go_enter Tryz.func20,Tryz.ntmps20
 go_wp2
 go_loop [3] (fun i=>∃ k:Nat,k≤s.size∧i=.int .i64 k∧Hid (∀ j,j<k→s.data.toList[j]? ≠ some 10)) (fun i=>s.size - (intOf i).toNat)
 case atStart=>exact⟨0,by omega,rfl,fun j hj=>by omega⟩
 case round =>
  obtain⟨k,hk,rfl,HL⟩:=hrel
  by_cases hlt:k<s.size
  ·
   have HGk:=Lib.hid (HG.out k hlt)
   by_cases hc:s[k]=10
   ·
    have HN:=Lib.hid (lineOk_has hlt hc)
    have hb:((s[k].toNat:Int) == 10)=true:=by rw [hc];rfl
    clear hc
    go_wp2
    go_ret
    exact⟨ret_val (congrArg Value.bool HN.out.symm),Below.refl _ _⟩
   ·
    have HS:Hid (∀ j,j<k+1→s.data.toList[j]? ≠ some 10):=by
     intro j hj
     by_cases hjk:j=k
     ·
      subst hjk;rw [HGk.out];simpa using hc
     ·
      exact HL.out j (by omega)
    have hb:((s[k].toNat:Int) == 10)=false:=by
     simp;intro h;exact hc (UInt8.toNat_inj.1 (by show s[k].toNat=10;omega))
    clear hc
    go_wp2
    go_round
    case rel=>exact⟨k+1,by omega,by go_num,HS⟩
    case measure=>simp [intOf];omega
  ·
   obtain rfl:k=s.size:=by omega
   have HN:=Lib.hid (lineOk_none HL.out)
   by_cases h6:s.size≤60
   ·
    go_wp2_with (go_at_call 62;refine(rmark_any _ _ HM.out).mono ?_;rintro e w1 ⟨rfl,hb1⟩)
    go_ret
    refine⟨ret_val ?_,hb1⟩
    rw [HN.out];simp [h6]
   ·
    go_wp2
    go_ret
    refine⟨ret_val ?_,Below.refl _ _⟩
    rw [HN.out];simp [h6]

set_option maxHeartbeats 1000000 in
theorem rtexts_any(va vb:Value)(xs ys:List ByteArray)(w:World)(ha:SRow w va xs)(hb:SRow w vb ys) :
  Calls Tryz.prog 23 #[va,vb] w fun e w'=>e=.returned (.bool (sameS xs ys))∧Below w.heap.size w w':=by
 obtain⟨a,ca,rfl,h1,h2,_,hca⟩:=ha.form
 obtain⟨b,cb,rfl,h3,h4,_,hcb⟩:=hb.form
 unfold maxLen at h2 h4
 by_cases hl:xs.length=ys.length
 ·
  have HE:Hid ((∀ j,j<xs.length→xs[j]? = ys[j]?)→xs=ys):=eq_of_all hl
  have HL:=Lib.hid hl
  clear ha hb
  rw [← hl]
  rw [← hl] at h3
  rw [← hl] at hcb
  clear hl
  go_enter Tryz.func23,Tryz.ntmps23
  go_wp2
  go_loopw [5] (fun i wr=>∃ k:Nat,k≤xs.length∧i=.int .i64 k∧Hid (∀ j,j<k→xs[j]? = ys[j]?)∧Below w.heap.size w wr) (fun i _=>xs.length - (intOf i).toNat)
  case atStart=>exact⟨0,by omega,rfl,(fun j hj=>by omega),Below.refl _ _⟩
  case round =>
   obtain⟨k,hk,rfl,HK,hbl⟩:=hrel
   by_cases hlt:k<xs.length
   ·
    obtain⟨bA,oA,rfl,sA,cA⟩:=hca.resolve_left (by omega)
    obtain⟨bB,oB,rfl,sB,cB⟩:=hcb.resolve_left (by omega)
    obtain⟨x,hx⟩:=get_of_lt hlt
    obtain⟨y,hy⟩:=get_of_lt (xs:=ys) (i:=k) (by have:=HL.out;omega)
    have c1:=(hbl.cell (p:=⟨bA,oA+k,none⟩) sA).trans (cA k x hx)
    have c2:=(hbl.cell (p:=⟨bB,oB+k,none⟩) sB).trans (cB k y hy)
    have sA':bA<wr.heap.size:=Nat.lt_of_lt_of_le sA hbl.size
    have sB':bB<wr.heap.size:=Nat.lt_of_lt_of_le sB hbl.size
    have HXY:=Lib.hid (And.intro hx hy)
    clear hx hy cA cB hca hcb
    by_cases he:x=y
    ·
     subst he
     have HS:Hid (∀ j,j<k+1→xs[j]? = ys[j]?):=by
      intro j hj
      by_cases hjk:j=k
      ·
       subst hjk;rw [HXY.out.1,HXY.out.2]
      ·
       exact HK.out j (by omega)
     go_wp2_with fail
     refine wp_region_lex (C:=IsOver wr) 9 [] (by kernel_rfl) (by kernel_rfl) (isOver_of (by repeat(first|exact Below.refl _ _|apply Below.drew|apply below_drewN|(refine Below.alloc ?_ (by simp) _)))) ?_
     simp only [List.take_succ_cons,List.take_zero,List.drop_succ_cons,List.drop_zero]
     repeat(first|(refine lex_skip rfl rfl ?_;simp only [Act.put,List.setIfInBounds_toArray,List.set_cons_succ,List.set_cons_zero])|(refine lex_one rfl ?_;go_big_quiet_step (fail);refine wpQuiet_nil ?_))
     refine lex_end ?_
     go_wp2_with fail
     go_roundw
     case rel=>exact⟨k+1,by omega,by go_num,HS,hbl.drew⟩
     case measure=>simp [intOf];omega
    ·
     have hne:(x.toList == y.toList)=false:=by simp [ba_list,he]
     have hne2:(x.toList != y.toList)=true:=by simp [ba_list,he]
     have HN:Hid (sameS xs ys=false):=sameS_f (by rintro rfl;rw [HXY.out.1] at HXY;exact he (by simpa using HXY.out.2))
     clear he
     go_wp2_with fail
     refine wp_region_lex (C:=IsOver wr) 9 [] (by kernel_rfl) (by kernel_rfl) (isOver_of (by repeat(first|exact Below.refl _ _|apply Below.drew|apply below_drewN|(refine Below.alloc ?_ (by simp) _)))) ?_
     simp only [List.take_succ_cons,List.take_zero,List.drop_succ_cons,List.drop_zero]
     repeat(first|(refine lex_skip rfl rfl ?_;simp only [Act.put,List.setIfInBounds_toArray,List.set_cons_succ,List.set_cons_zero])|(refine lex_one rfl ?_;go_big_quiet_step (fail);refine wpQuiet_nil ?_))
     refine lex_end ?_
     go_wp2_with fail
     go_ret
     exact⟨ret_val (congrArg Value.bool HN.out.symm),hbl.drew⟩
   ·
    obtain rfl:k=xs.length:=by omega
    have HN:Hid (sameS xs ys=true):=sameS_t (HE.out HK.out)
    go_wp2_with fail
    go_ret
    exact⟨ret_val (congrArg Value.bool HN.out.symm),hbl⟩
 ·
  have HN:Hid (sameS xs ys=false):=sameS_f (by rintro rfl;exact hl rfl)
  go_enter Tryz.func23,Tryz.ntmps23
  have hb1:((xs.length:Int) != (ys.length:Int))=true:=by simp;omega
  clear hl
  go_wp2
  go_ret
  exact⟨ret_val (congrArg Value.bool HN.out.symm),Below.refl _ _⟩
end Go.Proofs.YtllcipobiengiaaGreat
namespace Go.Proofs.YtllcipobiengiaaGreat
open Go Go.RowKit

def encF(x:FileM × Value × Value):List Value:=[.string x.1.name,x.2.1,x.2.2]
theorem encF_len(x:FileM × Value × Value):(encF x).length=3:=rfl
def FRow(w:World)(v:Value)(t:List FileM):Prop:=∃ hs:List (FileM × Value × Value),hs.map (·.1)=t∧Row w v t.length 3 (hs.flatMap encF)∧∀ x∈hs,SRow w x.2.1 x.1.also∧SRow w x.2.2 x.1.lines
theorem FRow.over{w w':World}{v:Value}{t:List FileM}(h:FRow w v t)(hb:Below w.heap.size w w'):FRow w' v t:=by
 obtain⟨hs,h1,h2,h3⟩:=h
 exact⟨hs,h1,h2.over hb,fun x hx=>⟨(h3 x hx).1.over hb,(h3 x hx).2.over hb⟩⟩
/-- what lies at a file's place -/
structure FAt (w:World) (b o:Nat) (f:FileM) (av lv:Value):Prop where
 c0:w.cell? ⟨b,o,none⟩=some (.string f.name)
 c1:w.cell? ⟨b,o+1,none⟩=some av
 c2:w.cell? ⟨b,o+2,none⟩=some lv
 also:SRow w av f.also
 lines:SRow w lv f.lines
theorem FAt.over{w w':World}{b o:Nat}{f:FileM}{av lv:Value}(h:FAt w b o f av lv)(hb:Below w.heap.size w w')(hlt:b<w.heap.size):FAt w' b o f av lv:=
 ⟨(hb.cell (p:=⟨b,_,none⟩) hlt).trans h.c0,(hb.cell (p:=⟨b,_,none⟩) hlt).trans h.c1,(hb.cell (p:=⟨b,_,none⟩) hlt).trans h.c2,h.also.over hb,h.lines.over hb⟩
theorem FRow.form{w:World}{v:Value}{t:List FileM}(h:FRow w v t):∃ a cap,v=.slice a t.length cap∧t.length≤cap∧cap≤maxLen∧(a=none→cap=0) ∧
  (t.length=0∨∃ b off,a=some ⟨b,off,none⟩∧b<w.heap.size∧∀ i f,t[i]? = some f→∃ av lv,FAt w b (off+i*3) f av lv):=by
 obtain⟨hs,rfl,h2,h3⟩:=h
 obtain⟨a,cap,e1,e2,e3,e4,e5⟩:=h2.form
 refine⟨a,cap,e1,e2,e3,e4,e5.imp id ?_⟩
 rintro⟨b,off,rfl,hb,hc⟩
 refine⟨b,off,rfl,hb,fun i f hf => ?_⟩
 rw [List.getElem?_map,Option.map_eq_some_iff] at hf
 obtain⟨x,hx,rfl⟩:=hf
 have hm:=h3 x (List.mem_of_getElem? hx)
 exact⟨x.2.1,x.2.2,Row.elem (j:=0) encF_len hc hx rfl,Row.elem (j:=1) encF_len hc hx rfl,Row.elem (j:=2) encF_len hc hx rfl,hm.1,hm.2⟩
end Go.Proofs.YtllcipobiengiaaGreat
namespace Go.Proofs.YtllcipobiengiaaGreat
open Go Go.RowKit

end Go.Proofs.YtllcipobiengiaaGreat
