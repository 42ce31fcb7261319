/- Contracts of bruitref14: Name, Mark, Line. Contracts of bruitref14.Line, bruitref15.Texts, Find, Same. Trees that lie in old memory. Contracts of bruitref15.Find, Same. Contracts of package word: letter, Name. -/
import Derived.Test.YtanfebljiblhbaaGreatDoorHGen
import Derived.Test.YtanfebljiblhbaaGreatDoorHTreeP
import Derived.Laws.RangeAny
set_option linter.unusedVariables false
set_option linter.unusedSimpArgs false
namespace Go.Proofs.YtanfebljiblhbaaGreatDoor
open Go Go.RowKit

end Go.Proofs.YtanfebljiblhbaaGreatDoor
namespace Go.Proofs.YtanfebljiblhbaaGreatDoor
open Go Go.RowKit

end Go.Proofs.YtanfebljiblhbaaGreatDoor
namespace Go.Proofs.YtanfebljiblhbaaGreatDoor
open Go Go.RowKit

def encF(x:FileM × Value × Value):List Value:=[.string x.1.name,x.2.1,x.2.2]
theorem encF_len(x:FileM × Value × Value):(encF x).length=3:=rfl
def FRow(w:World)(v:Value)(t:List FileM):Prop:=∃ hs:List (FileM × Value × Value),hs.map (·.1)=t∧Row w v t.length 3 (hs.flatMap encF)∧∀ x∈hs,SRow w x.2.1 x.1.also∧SRow w x.2.2 x.1.lines
theorem FRow.over{w w':World}{v:Value}{t:List FileM}(h:FRow w v t)(hb:Below w.heap.size w w'):FRow w' v t:=by
 obtain⟨hs,h1,h2,h3⟩:=h
 exact⟨hs,h1,h2.over hb,fun x hx=>⟨(h3 x hx).1.over hb,(h3 x hx).2.over hb⟩⟩
/-- what lies at a file's place -/
structure FAt (w:World) (b o:Nat) (f:FileM) (av lv:Value):Prop where
 c0:w.cell? ⟨b,o,none⟩=some (.string f.name)
 c1:w.cell? ⟨b,o+1,none⟩=some av
 c2:w.cell? ⟨b,o+2,none⟩=some lv
 also:SRow w av f.also
 lines:SRow w lv f.lines
theorem FAt.over{w w':World}{b o:Nat}{f:FileM}{av lv:Value}(h:FAt w b o f av lv)(hb:Below w.heap.size w w')(hlt:b<w.heap.size):FAt w' b o f av lv:=
 ⟨(hb.cell (p:=⟨b,_,none⟩) hlt).trans h.c0,(hb.cell (p:=⟨b,_,none⟩) hlt).trans h.c1,(hb.cell (p:=⟨b,_,none⟩) hlt).trans h.c2,h.also.over hb,h.lines.over hb⟩
theorem FRow.form{w:World}{v:Value}{t:List FileM}(h:FRow w v t):∃ a cap,v=.slice a t.length cap∧t.length≤cap∧cap≤maxLen∧(a=none→cap=0) ∧
  (t.length=0∨∃ b off,a=some ⟨b,off,none⟩∧b<w.heap.size∧∀ i f,t[i]? = some f→∃ av lv,FAt w b (off+i*3) f av lv):=by
 obtain⟨hs,rfl,h2,h3⟩:=h
 obtain⟨a,cap,e1,e2,e3,e4,e5⟩:=h2.form
 refine⟨a,cap,e1,e2,e3,e4,e5.imp id ?_⟩
 rintro⟨b,off,rfl,hb,hc⟩
 refine⟨b,off,rfl,hb,fun i f hf => ?_⟩
 rw [List.getElem?_map,Option.map_eq_some_iff] at hf
 obtain⟨x,hx,rfl⟩:=hf
 have hm:=h3 x (List.mem_of_getElem? hx)
 exact⟨x.2.1,x.2.2,Row.elem (j:=0) encF_len hc hx rfl,Row.elem (j:=1) encF_len hc hx rfl,Row.elem (j:=2) encF_len hc hx rfl,hm.1,hm.2⟩
end Go.Proofs.YtanfebljiblhbaaGreatDoor
namespace Go.Proofs.YtanfebljiblhbaaGreatDoor
open Go Go.RowKit

end Go.Proofs.YtanfebljiblhbaaGreatDoor
namespace Go.Proofs.YtanfebljiblhbaaGreatDoor
open Go Go.RowKit

set_option maxHeartbeats 1000000 in
theorem letter_any(n:Nat)(w:World)(hn:n≤2147483647) :
  Calls Tryz.prog 247 #[.int .i32 (n:Int)] w fun e w'=>e=.returned (.bool (letterN n))∧w'=w:=by
 go_enter Tryz.func247,Tryz.ntmps247
 cases hb:letterN n with
 | true =>
  rcases letterN_yes hb with rfl|rfl|rfl|⟨h,h'⟩|⟨h,h'⟩
  all_goals
   clear hb
   go_wp2
   go_ret
   exact⟨rfl,rfl⟩
 | false =>
  rcases letterN_no hb with⟨h,e1,e2,e3⟩|rfl|⟨h,h',⟨e1,e2,e3⟩,e4⟩|rfl|⟨h,⟨e1,e2,e3⟩,e4,e5⟩
  all_goals
   clear hb
   go_wp2
   go_ret
   exact⟨rfl,rfl⟩

theorem below_iter(w:World)(s:ByteArray)(k:Nat):Below w.heap.size w (w.iter s k):=(Below.refl _ _).alloc (Nat.le_refl _) _

set_option maxHeartbeats 2000000 in
theorem name_any(s:ByteArray)(w:World)(hs:s.size≤maxLen) :
  Calls Tryz.prog 199 #[.string s] w fun e w'=>e=.returned (.bool (nameOk s))∧Below w.heap.size w w':=by
 unfold maxLen at hs
 go_enter Tryz.func199,Tryz.ntmps199
 go_wp2
 go_loopw [4] (fun _ w'=>∃ k:Nat,k≤s.size∧w'=w.iter s k∧Hid ((s.data.toList.take k).all letterB=true)) (fun _ w'=>s.size - w'.iterPos w.heap.size)
 case atStart=>exact⟨0,by omega,rfl,rfl⟩
 case round =>
  obtain⟨k,hk,rfl,HL⟩:=hrel
  by_cases hp:k<s.size
  ·
   by_cases ha:s[k].toNat<128
   ·
    have hnx:∀ ty,(Instr.next (.pointer (some ⟨w.heap.size,0,none⟩)) true ty).run Tryz.prog (w.iter s k)=_:=fun ty=>run_next_ascii w s k ty hp ha
    have hle:s[k].toNat≤2147483647:=by omega
    cases hb:letterB s[k] with
    | true =>
     have HS:=Lib.hid (all_snoc hp HL.out hb)
     have hl:letterN s[k].toNat=true:=by rw [letterN_of];exact hb
     clear hb
     go_wp2_with (go_at_call 247;(with_reducible refine(letter_any _ _ hle).mono ?_);rintro e w2 ⟨rfl,rfl⟩)
     go_roundw
     case rel=>exact⟨k+1,by omega,rfl,HS⟩
     case measure=>simp;omega
    | false =>
     have HN:=Lib.hid (nameOk_bad hp hb)
     have hl:letterN s[k].toNat=false:=by rw [letterN_of];exact hb
     clear hb
     go_wp2_with (go_at_call 247;(with_reducible refine(letter_any _ _ hle).mono ?_);rintro e w2 ⟨rfl,rfl⟩)
     go_ret
     exact⟨ret_val (congrArg Value.bool HN.out.symm),below_iter _ _ _⟩
   ·
    have hnx:∀ ty,(Instr.next (.pointer (some ⟨w.heap.size,0,none⟩)) true ty).run Tryz.prog (w.iter s k)=_:=fun ty=>run_next_any w s k ty hp
    have hd:=decode_high s k hp (by omega)
    have hle:=decode_le s k
    have HN:=Lib.hid (nameOk_bad hp (letterB_high (by omega)))
    have hl:letterN (Utf8.decode s k).1=false:=letterN_high hd.1
    generalize (Utf8.decode s k).1=r at *
    generalize (Utf8.decode s k).2=q at *
    clear hd ha
    go_wp2_with (go_at_call 247;(with_reducible refine(letter_any _ _ hle).mono ?_);rintro e w2 ⟨rfl,rfl⟩)
    go_ret
    exact⟨ret_val (congrArg Value.bool HN.out.symm),below_iter _ _ _⟩
  ·
   have hnx:∀ ty,(Instr.next (.pointer (some ⟨w.heap.size,0,none⟩)) true ty).run Tryz.prog (w.iter s k)=_:=fun ty=>run_next_end w s k ty hp
   obtain rfl:k=s.size:=by omega
   have hall:s.data.toList.all letterB=true:=by
    have:=HL.out
    rwa [List.take_of_length_le (by simp)] at this
   have HN:=Lib.hid (nameOk_all hall)
   clear hall
   by_cases h1:1≤s.size
   ·
    obtain⟨g1,g2⟩:=nonempty_tl h1
    go_wp2_with fail
    go_ret
    refine⟨ret_val ?_,below_iter _ _ _⟩
    rw [HN.out]
    simp [h1]
    try omega
   ·
    have g1:=empty_tl (s:=s) (by omega)
    go_wp2_with fail
    go_ret
    refine⟨ret_val ?_,below_iter _ _ _⟩
    rw [HN.out]
    simp [h1]
end Go.Proofs.YtanfebljiblhbaaGreatDoor
