/- Contracts of package word: letter, Name. -/
import Derived.Test.YtllcipobiengiaaGreatXTreeC
import Derived.Laws.RangeAny
set_option linter.unusedVariables false
set_option linter.unusedSimpArgs false
namespace Go.Proofs.YtllcipobiengiaaGreat
open Go Go.RowKit

set_option maxHeartbeats 1000000 in
theorem letter_any(n:Nat)(w:World)(hn:n≤2147483647) :
  Calls Tryz.prog 180 #[.int .i32 (n:Int)] w fun e w'=>e=.returned (.bool (letterN n))∧w'=w:=by
 go_enter Tryz.func180,Tryz.ntmps180
 cases hb:letterN n with
 | true =>
  rcases letterN_yes hb with rfl|rfl|rfl|⟨h,h'⟩|⟨h,h'⟩
  all_goals
   clear hb
   go_wp2
   go_ret
   exact⟨rfl,rfl⟩
 | false =>
  rcases letterN_no hb with⟨h,e1,e2,e3⟩|rfl|⟨h,h',⟨e1,e2,e3⟩,e4⟩|rfl|⟨h,⟨e1,e2,e3⟩,e4,e5⟩
  all_goals
   clear hb
   go_wp2
   go_ret
   exact⟨rfl,rfl⟩

theorem below_iter(w:World)(s:ByteArray)(k:Nat):Below w.heap.size w (w.iter s k):=(Below.refl _ _).alloc (Nat.le_refl _) _

set_option maxHeartbeats 2000000 in
theorem name_any(s:ByteArray)(w:World)(hs:s.size≤maxLen) :
  Calls Tryz.prog 153 #[.string s] w fun e w'=>e=.returned (.bool (nameOk s))∧Below w.heap.size w w':=by
 unfold maxLen at hs
 go_enter Tryz.func153,Tryz.ntmps153
 go_wp2
 go_loopw [4] (fun _ w'=>∃ k:Nat,k≤s.size∧w'=w.iter s k∧Hid ((s.data.toList.take k).all letterB=true)) (fun _ w'=>s.size - w'.iterPos w.heap.size)
 case atStart=>exact⟨0,by omega,rfl,rfl⟩
 case round =>
  obtain⟨k,hk,rfl,HL⟩:=hrel
  by_cases hp:k<s.size
  ·
   by_cases ha:s[k].toNat<128
   ·
    have hnx:∀ ty,(Instr.next (.pointer (some ⟨w.heap.size,0,none⟩)) true ty).run Tryz.prog (w.iter s k)=_:=fun ty=>run_next_ascii w s k ty hp ha
    have hle:s[k].toNat≤2147483647:=by omega
    cases hb:letterB s[k] with
    | true =>
     have HS:=Lib.hid (all_snoc hp HL.out hb)
     have hl:letterN s[k].toNat=true:=by rw [letterN_of];exact hb
     clear hb
     go_wp2_with (go_at_call 180;(with_reducible refine(letter_any _ _ hle).mono ?_);rintro e w2 ⟨rfl,rfl⟩)
     go_roundw
     case rel=>exact⟨k+1,by omega,rfl,HS⟩
     case measure=>simp;omega
    | false =>
     have HN:=Lib.hid (nameOk_bad hp hb)
     have hl:letterN s[k].toNat=false:=by rw [letterN_of];exact hb
     clear hb
     go_wp2_with (go_at_call 180;(with_reducible refine(letter_any _ _ hle).mono ?_);rintro e w2 ⟨rfl,rfl⟩)
     go_ret
     exact⟨ret_val (congrArg Value.bool HN.out.symm),below_iter _ _ _⟩
   ·
    have hnx:∀ ty,(Instr.next (.pointer (some ⟨w.heap.size,0,none⟩)) true ty).run Tryz.prog (w.iter s k)=_:=fun ty=>run_next_any w s k ty hp
    have hd:=decode_high s k hp (by omega)
    have hle:=decode_le s k
    have HN:=Lib.hid (nameOk_bad hp (letterB_high (by omega)))
    have hl:letterN (Utf8.decode s k).1=false:=letterN_high hd.1
    generalize (Utf8.decode s k).1=r at *
    generalize (Utf8.decode s k).2=q at *
    clear hd ha
    go_wp2_with (go_at_call 180;(with_reducible refine(letter_any _ _ hle).mono ?_);rintro e w2 ⟨rfl,rfl⟩)
    go_ret
    exact⟨ret_val (congrArg Value.bool HN.out.symm),below_iter _ _ _⟩
  ·
   have hnx:∀ ty,(Instr.next (.pointer (some ⟨w.heap.size,0,none⟩)) true ty).run Tryz.prog (w.iter s k)=_:=fun ty=>run_next_end w s k ty hp
   obtain rfl:k=s.size:=by omega
   have hall:s.data.toList.all letterB=true:=by
    have:=HL.out
    rwa [List.take_of_length_le (by simp)] at this
   have HN:=Lib.hid (nameOk_all hall)
   clear hall
   by_cases h1:1≤s.size
   ·
    obtain⟨g1,g2⟩:=nonempty_tl h1
    go_wp2_with fail
    go_ret
    refine⟨ret_val ?_,below_iter _ _ _⟩
    rw [HN.out]
    simp [h1]
    try omega
   ·
    have g1:=empty_tl (s:=s) (by omega)
    go_wp2_with fail
    go_ret
    refine⟨ret_val ?_,below_iter _ _ _⟩
    rw [HN.out]
    simp [h1]
end Go.Proofs.YtllcipobiengiaaGreat
