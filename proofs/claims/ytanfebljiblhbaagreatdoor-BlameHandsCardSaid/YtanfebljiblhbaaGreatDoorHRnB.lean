/- A []api.File that a call has made, with the rows of its files; slices.SortFunc at files by their names. Contract of names.All. Contract of render.Tree. -/
import Derived.Test.YtanfebljiblhbaaGreatDoorHRcR
import Derived.Test.YtanfebljiblhbaaGreatDoorHNmE
import Derived.Test.YtanfebljiblhbaaGreatDoorHLay4
set_option linter.unusedVariables false
set_option linter.unusedSimpArgs false
namespace Go.Proofs.YtanfebljiblhbaaGreatDoor
open Go Go.RowKit

/-! ### texts compared -/
/-! ### files with their rows -/
structure LaidF where
 f:FileM
 pa:Option Addr
 ca:Nat
 pl:Option Addr
 cl:Nat
instance:Inhabited LaidF:=⟨⟨default,none,0,none,0⟩⟩
def encL(x:LaidF):List Value:=[.string x.f.name,.slice x.pa x.f.also.length x.ca,.slice x.pl x.f.lines.length x.cl]
def FileAt(w:World)(B:Nat)(x:LaidF):Prop:=GOwn encS1 1 9 w B (.slice x.pa x.f.also.length x.ca) x.f.also∧GOwn encS1 1 9 w B (.slice x.pl x.f.lines.length x.cl) x.f.lines
/-- a []File, and the rows of its files: all from block B on -/
def FilesL(w:World)(B:Nat)(v:Value)(xs:List LaidF):Prop:=GOwn encL 3 66 w B v xs∧∀ x∈xs,FileAt w B x
def FilesW(w:World)(B:Nat)(v:Value)(t:List FileM):Prop:=∃ xs:List LaidF,xs.map (·.f)=t∧FilesL w B v xs
theorem FileAt.keep{w w':World}{B:Nat}{x:LaidF}{row:Option Nat}(h:FileAt w B x)(hg:w.grownBy w' row)(hr:∀ k,row=some k→k<B):FileAt w' B x:=⟨gown_keep h.1 hg hr,gown_keep h.2 hg hr⟩
theorem FilesW.keep{w w':World}{B:Nat}{v:Value}{t:List FileM}{row:Option Nat}(h:FilesW w B v t)(hg:w.grownBy w' row)(hr:∀ k,row=some k→k<B):FilesW w' B v t:=by
 obtain⟨xs,h1,h2,h3⟩:=h
 exact⟨xs,h1,gown_keep h2 hg hr,fun x hx=>(h3 x hx).keep hg hr⟩
theorem FilesW.over{w w':World}{B:Nat}{v:Value}{t:List FileM}(h:FilesW w B v t)(hb:Below w.heap.size w w'):FilesW w' B v t:=h.keep (below_none hb) (fun k hk=>by cases hk)
theorem FilesW.base{w:World}{B B':Nat}{v:Value}{t:List FileM}(h:FilesW w B v t)(hB:B'≤B):FilesW w B' v t:=by
 obtain⟨xs,h1,h2,h3⟩:=h
 exact⟨xs,h1,h2.base hB,fun x hx=>⟨(h3 x hx).1.base hB,(h3 x hx).2.base hB⟩⟩
/-! ### the order of files -/
end Go.Proofs.YtanfebljiblhbaaGreatDoor
namespace Go.Proofs.YtanfebljiblhbaaGreatDoor
open Go Go.RowKit

theorem grown_farN{w w1 w2:World}{row r2:Option Nat}(h:w.grownBy w1 row)(h':w1.grownBy w2 r2)(hr:∀ k,r2=some k→w.heap.size≤k):w.grownBy w2 row:=
 ⟨h'.os.trans h.os,h'.tape.trans h.tape,h'.output.trans h.output,Nat.le_trans h.size h'.size,fun k hk hne=>(h'.block k (Nat.lt_of_lt_of_le hk h.size) (fun q=>by have:=hr k q.symm;omega)).trans (h.block k hk hne)⟩
theorem names_len(L:List PatchM)(f:VidM)(hl:∀ p∈L,p.ops.length≤200):(namesM L f).length≤(idsM L).length:=by
 unfold namesM
 rw [List.length_map]
 refine nodup_len ?_ fun v hv => ?_
 ·
  exact(rises_setS revK_inj _).imp fun {a b} h e=>by rw [e] at h;omega
 ·
  rw [mem_setS revK_inj] at hv
  obtain⟨y,hy,rfl⟩:=List.mem_map.1 hv
  rw [mem_idsM hl,(aliveM_at hl hy).1];rfl
attribute [local irreducible] vertsM idsM filesM namesM alsoM textB allTo vertM
theorem nameOne_nil(L:List PatchM)(c:ByteArray→Nat)(f:VidM):nameOne L c f []=⟨f,tilde++textB f,[],[3]⟩:=rfl
theorem nameOne_cons(L:List PatchM)(c:ByteArray→Nat)(f:VidM)(x:VertM)(l:List VertM){al:List (List UInt8)}(ha:alsoM (x :: l) x.text=al){q:Bool}(hq:decide (0<al.length)=q){r:Bool}(hr:decide (0<c x.text)=r) :
  nameOne L c f (x :: l)=⟨f,if r=true then x.text++(tilde++textB f) else x.text,al,(if q=true then [2] else [])++(if r=true then [4] else [])⟩:=by
 simp only [nameOne,ha]
 have e1:(1<c x.text+1)↔r=true:=by rw [← hr,decide_eq_true_iff];omega
 have e2:(al.length=0)↔¬ q=true:=by rw [← hq,decide_eq_true_iff];omega
 by_cases h1:r=true
 ·
  rw [if_pos (e1.2 h1),if_pos h1,if_pos (e1.2 h1),if_pos h1]
  by_cases h2:q=true
  ·
   rw [if_neg (fun h=>e2.1 h h2),if_pos h2]
  ·
   rw [if_pos (e2.2 h2),if_neg h2]
 ·
  rw [if_neg (fun h=>h1 (e1.1 h)),if_neg h1,if_neg (fun h=>h1 (e1.1 h)),if_neg h1]
  by_cases h2:q=true
  ·
   rw [if_neg (fun h=>e2.1 h h2),if_pos h2]
  ·
   rw [if_pos (e2.2 h2),if_neg h2]
set_option maxHeartbeats 40000000 in
set_option maxRecDepth 100000 in
theorem nall_any(b:Nat)(L:List PatchM)(w:World)(hg:GrIs w b L)(hw:WfG L)(hil:(idsM L).length≤1000000)(ht:Tab w) :
  Calls Tryz.prog 34 #[.pointer (some ⟨b,0,none⟩)] w (AllRes w (allM L)):=by
 have HGA:=Lib.hid hg
 obtain⟨bv,be,nG,hG⟩:=hg
 have HG:=Lib.hid hG
 have HW:=Lib.hid hw
 have hwl:=Lib.hid (wf_len hw)
 have HT:=Lib.hid ht
 have hfl:=Nat.le_trans (filesM_len L) hil
 have HAL:Hid (∀ k,k≤(filesM L).length→(allTo L k).1.length≤k∧∀ t,(allTo L k).2 t≤k):=Lib.hid (allTo_len L)
 have HNO:Hid (∀ f x,x∈namesM L f→nameOk x.text=true):=Lib.hid fun f x hx=>name_ok hw hx
 have hmm:=@run_makeMap Tryz.prog
 have HM0:Hid (TMap Tryz.prog 9 strV okStr intV (w.alloc (.map #[] 0)) w.heap.size 0 (fun _=>none)):=Lib.hid (TMap.made w)
 have HB1:=Lib.hid (below_new (w:=w) (.map #[] 0))
 have hs1:(w.alloc (.map #[] 0)).heap.size=w.heap.size+1:=by simp
 clear hw ht hG
 go_enter Tryz.func34,Tryz.ntmps34
 go_upto_region 3 with(fail)
 generalize hw1:w.alloc (.map #[] 0)=w1 at *
 clear hw1 hmm
 go_wp2_with fail
 refine(gfiles_any b L _ (HGA.out.over HB1.out) HW.out hil).mono ?_
 rintro e w2 ⟨v13,rfl,ho,hb⟩
 have hs2:=hb.size
 have HF0:Hid (GOwn encVid 3 27 w2 (w.heap.size+1) v13 (filesM L)):=Lib.hid (ho.base (by omega))
 have HM2:=Lib.hid (HM0.out.over hb)
 have HB2:=Lib.hid (below_over HB1.out HB1.out.size hb)
 obtain⟨p13,c13,rfl⟩:=own_sl ho
 clear ho hb
 go_wp2_with fail
 go_loopw [3,15] (fun v3 v15 wr=>AllIn L w w.heap.size (.slice p13 (filesM L).length c13) v3 v15 wr) (fun _ v15 _=>(filesM L).length - (intOf v15).toNat)
 case atStart=>exact⟨0,0,fun _=>none,Nat.zero_le _,Nat.le_refl _,rfl,(by show Names _ _ _ _;rw [allTo_zero];exact names_nil _ _),HM2,(by show ∀ t,_;intro t;rw [allTo_zero];rfl),HF0,HB2,by omega⟩
 case round =>
  obtain⟨k,n,f,hk,hnk,rfl,HN,HM,HC,HF,HB,hs⟩:=hrel
  rename World=>wr
  by_cases hlt:k<(filesM L).length
  ·
   obtain⟨fv,hfv⟩:=get_of_lt hlt
   have HSu:=Lib.hid (allTo_succ hfv)
   obtain⟨hal,hac⟩:=HAL.out k hk
   have HAC:=Lib.hid hac
   obtain⟨g13,cap13,he13,hA13⟩:=own_at (show World.ownsRow _ _ _ _ _ _ _ from HF.out) (by omega)
   cases he13
   have p0:wr.cell? ⟨g13,k*3,none⟩=some (.int .u8 fv.pid.author.toNat):=hA13.cell ((flat_get encVid_len _ k 0 fv hfv (by decide)).trans rfl)
   have p1:wr.cell? ⟨g13,k*3+1,none⟩=some (.int .u16 fv.pid.seq.toNat):=hA13.cell ((flat_get encVid_len _ k 1 fv hfv (by decide)).trans rfl)
   have p2:wr.cell? ⟨g13,k*3+2,none⟩=some (.int .u8 fv.n.toNat):=hA13.cell ((flat_get encVid_len _ k 2 fv hfv (by decide)).trans rfl)
   have s13:=hA13.lt
   clear hA13 hfv hac
   go_upto_region 6 with(fail)
   have HA6T:=Lib.hid (arrT_new wr [.int .u8 fv.pid.author.toNat,.int .u16 fv.pid.seq.toNat,.int .u8 fv.n.toNat] 27)
   have HA6:=Lib.hid (arr_new wr #[.int .u8 fv.pid.author.toNat,.int .u16 fv.pid.seq.toNat,.int .u8 fv.n.toNat] 27)
   have HB6:=Lib.hid (below_new (w:=wr) (.cells #[.int .u8 fv.pid.author.toNat,.int .u16 fv.pid.seq.toNat,.int .u8 fv.n.toNat] 27))
   generalize hw6:wr.alloc (.cells #[.int .u8 fv.pid.author.toNat,.int .u16 fv.pid.seq.toNat,.int .u8 fv.n.toNat] 27)=w6 at *
   clear hw6 p0 p1 p2 s13
   have q0:=HA6.out.cell (j:=0) rfl
   have q1:=HA6.out.cell (j:=1) rfl
   have q2:=HA6.out.cell (j:=2) rfl
   have sq:=HA6.out.lt
   have HVT:=Lib.hid (gvert_any b bv be nG _ _ _ fv w6 (HG.out.over (below_over HB.out HB.out.size HB6.out)))
   generalize hy:optV (vertM L fv)=y at *
   have HY:Hid ((vertM L fv).getD noVert=y):=Lib.hid hy
   have HVT2:Hid (Calls Tryz.prog 37 #[.pointer (some ⟨b,0,none⟩),vidV fv] w6 fun e w'=>e=.returned (.tuple #[vertV y,.bool (vertM L fv).isSome])∧Below w6.heap.size w6 w'):=Lib.hid (HVT.out.mono fun e w' h=>by obtain⟨h1,h2⟩:=h;exact⟨by rw [h1,hy],h2⟩)
   clear hy HVT
   go_upto_region 7 with(first|(go_at_call 37;(with_reducible refine HVT2.out.mono ?_);rintro e w7 ⟨rfl,hb7⟩;have HB7:=Lib.hid hb7;clear hb7))
   have hA8:=arr_new w7 #[.int .u8 y.id.pid.author.toNat,.int .u16 y.id.pid.seq.toNat,.int .u8 y.id.n.toNat,.int .u8 y.kind.toNat,.int .u8 y.file.pid.author.toNat,.int .u16 y.file.pid.seq.toNat,.int .u8 y.file.n.toNat,.string y.text,.bool y.dead] 86
   have HA8:=Lib.hid hA8
   have HB8:=Lib.hid (below_new (w:=w7) (.cells #[.int .u8 y.id.pid.author.toNat,.int .u16 y.id.pid.seq.toNat,.int .u8 y.id.n.toNat,.int .u8 y.kind.toNat,.int .u8 y.file.pid.author.toNat,.int .u16 y.file.pid.seq.toNat,.int .u8 y.file.n.toNat,.string y.text,.bool y.dead] 86))
   generalize hw8:w7.alloc (.cells #[.int .u8 y.id.pid.author.toNat,.int .u16 y.id.pid.seq.toNat,.int .u8 y.id.n.toNat,.int .u8 y.kind.toNat,.int .u8 y.file.pid.author.toNat,.int .u16 y.file.pid.seq.toNat,.int .u8 y.file.n.toNat,.string y.text,.bool y.dead] 86)=w8 at *
   clear hw8 hA8 q0 q1 q2 sq HVT2
   have HBr:=Lib.hid (below_over (below_over HB6.out HB6.out.size HB7.out) (by have:=HB6.out.size;have:=HB7.out.size;omega) HB8.out)
   have HN8:=Lib.hid (HN.out.over HBr.out)
   have HM8:=Lib.hid (HM.out.over HBr.out)
   have HF8:=Lib.hid (HF.out.over HBr.out)
   have HBw:=Lib.hid (below_over HB.out HB.out.size HBr.out)
   have HA68T:=Lib.hid (HA6T.out.over (below_over HB7.out HB7.out.size HB8.out))
   have HA68:=Lib.hid (HA6.out.over (below_over HB7.out HB7.out.size HB8.out))
   have hsr:=HBr.out.size
   have hs8:w.heap.size+1≤w8.heap.size:=by omega
   clear HN HM HF
   have y0:=HA8.out.cell (j:=0) rfl
   have y1:=HA8.out.cell (j:=1) rfl
   have y2:=HA8.out.cell (j:=2) rfl
   have y3:=HA8.out.cell (j:=3) rfl
   have y4:=HA8.out.cell (j:=4) rfl
   have y5:=HA8.out.cell (j:=5) rfl
   have y6:=HA8.out.cell (j:=6) rfl
   have y7:=HA8.out.cell (j:=7) rfl
   have y8:=HA8.out.cell (j:=8) rfl
   have sy:=HA8.out.lt
   cases hd:y.dead with
   | true =>
    have HS:=Lib.hid (step_dead (s:=allTo L k) HY.out hd)
    rw [hd] at y8
    clear hd
    go_wp2_with fail
    go_roundw
    case rel=>exact⟨k+1,n,f,hlt,by omega,by go_num,(by show Names _ _ _ _;rw [HSu.out,HS.out];exact HN8.out),HM8,(by show ∀ t,_;rw [HSu.out,HS.out];exact HC.out),HF8,HBw,hs8⟩
    case measure=>simp [intOf];omega
   | false =>
    have HS:=Lib.hid (step_live (s:=allTo L k) HY.out hd)
    rw [hd] at y8
    clear hd
    go_upto_region 8 with(fail)
    clear y0 y1 y2 y3 y4 y5 y6 y7 y8 sy
    have q0:=HA68.out.cell (j:=0) rfl
    have q1:=HA68.out.cell (j:=1) rfl
    have q2:=HA68.out.cell (j:=2) rfl
    have sq:=HA68.out.lt
    have HGA8:=Lib.hid (HGA.out.over HBw.out)
    have HKS:Hid (∀ w':World,Below w8.heap.size w8 w'→(w'.cell? ⟨wr.heap.size,0,none⟩=some (.int .u8 fv.pid.author.toNat)∧w'.cell? ⟨wr.heap.size,1,none⟩=some (.int .u16 fv.pid.seq.toNat)∧w'.cell? ⟨wr.heap.size,2,none⟩=some (.int .u8 fv.n.toNat)∧Below w8.heap.size w8 w')):=fun w' hb=>⟨(hb.cell (p:=⟨wr.heap.size,0,none⟩) sq).trans q0,(hb.cell (p:=⟨wr.heap.size,1,none⟩) sq).trans q1,(hb.cell (p:=⟨wr.heap.size,2,none⟩) sq).trans q2,hb⟩
    go_cut [9,10] (fun s9 s10 wx=>∃ g9,s9=.pointer (some ⟨g9,0,none⟩)∧Hid (ArrT wx g9 82 [.int .u8 fv.pid.author.toNat,.int .u16 fv.pid.seq.toNat,.int .u8 fv.n.toNat,.string ⟨#[]⟩,.slice none 0 0,.slice none 0 0])∧Hid (GOwn encVert 9 86 wx w8.heap.size s10 (namesM L fv))∧Hid (Below w8.heap.size w8 wx)∧w8.heap.size≤g9)
    case first =>
     go_region_held3 (fun w'=>w'.cell? ⟨wr.heap.size,0,none⟩=some (.int .u8 fv.pid.author.toNat)∧w'.cell? ⟨wr.heap.size,1,none⟩=some (.int .u16 fv.pid.seq.toNat)∧w'.cell? ⟨wr.heap.size,2,none⟩=some (.int .u8 fv.n.toNat)∧Below w8.heap.size w8 w') ((refine HKS.out _ ?_;(with_reducible (first|exact(Below.refl _ _).drew|exact HBk.out|exact HBk.out.alloc HBk.out.size _|exact((Below.refl w8.heap.size w8).alloc (Nat.le_refl _) _).drew|exact((((((HBk.out.setCell (p:=⟨w8.heap.size,0,none⟩) (Nat.le_refl _) (.int .u8 fv.pid.author.toNat)).setCell (p:=⟨w8.heap.size,1,none⟩) (Nat.le_refl _) (.int .u16 fv.pid.seq.toNat)).setCell (p:=⟨w8.heap.size,2,none⟩) (Nat.le_refl _) (.int .u8 fv.n.toNat)).setCell (p:=⟨w8.heap.size,3,none⟩) (Nat.le_refl _) (.string ⟨#[]⟩)).setCell (p:=⟨w8.heap.size,4,none⟩) (Nat.le_refl _) (.slice none 0 0)).setCell (p:=⟨w8.heap.size,5,none⟩) (Nat.le_refl _) (.slice none 0 0))))))
      (first|(go_at_call 68;refine(nof_any b L fv _ (HGA8.out.over (by first|exact(Below.refl _ _).drew|exact((Below.refl w8.heap.size w8).alloc (Nat.le_refl _) _).drew)) HW.out hil).mono ?_;rintro e w9 ⟨v10,rfl,ho10,hb⟩;have HBk:Hid (Below w8.heap.size w8 w9):=(by show Below w8.heap.size w8 w9;with_reducible (first|exact below_over (Below.refl w8.heap.size w8).drew (Nat.le_refl _) hb|exact below_over (((Below.refl w8.heap.size w8).alloc (Nat.le_refl _) _).drew) (Below.size (((Below.refl w8.heap.size w8).alloc (Nat.le_refl _) _).drew)) hb));have HBb:=Lib.hid hb;have HO10:=Lib.hid ho10;obtain⟨hcc,hff⟩:=bcell hb;clear hb ho10))
     ·
      rename_i J K hJ hK hHeld
      clear hHeld
      refine hK _ _ (Met.intro (hJ _ _ ?_))
      (repeat apply Exists.intro)
      refine⟨?_,rfl⟩
      exact⟨_,rfl,Lib.hid (arrT_new w9 [.int .u8 fv.pid.author.toNat,.int .u16 fv.pid.seq.toNat,.int .u8 fv.n.toNat,.string ⟨#[]⟩,.slice none 0 0,.slice none 0 0] 82),Lib.hid (HO10.out.over (below_new (w:=w9) (.cells #[.int .u8 fv.pid.author.toNat,.int .u16 fv.pid.seq.toNat,.int .u8 fv.n.toNat,.string ⟨#[]⟩,.slice none 0 0,.slice none 0 0] 82))),Lib.hid (HBk.out.alloc HBk.out.size _),HBk.out.size⟩
     ·
      rename_i J K hJ hK hHeld
      clear hHeld
      refine hK _ _ (Met.intro (hJ _ _ ?_))
      (repeat apply Exists.intro)
      refine⟨?_,rfl⟩
      have HZ:Hid (ArrT w9 w8.heap.size 82 [.int .u8 0,.int .u16 0,.int .u8 0,.string ⟨#[]⟩,.slice none 0 0,.slice none 0 0]):=((show ArrT (w8.alloc (.cells #[.int .u8 0,.int .u16 0,.int .u8 0,.string ⟨#[]⟩,.slice none 0 0,.slice none 0 0] 82)).drew w8.heap.size 82 [.int .u8 0,.int .u16 0,.int .u8 0,.string ⟨#[]⟩,.slice none 0 0,.slice none 0 0] from arrT_new w8 [.int .u8 0,.int .u16 0,.int .u8 0,.string ⟨#[]⟩,.slice none 0 0,.slice none 0 0] 82).over HBb.out)
      have hne:v10.ownBlock=none∨v10.ownBlock≠some w8.heap.size:=.inr (fun q=>(HZ.out.ne (show World.ownsRow _ _ _ _ _ _ _ from HO10.out) (by decide)) q.symm)
      exact⟨_,rfl,Lib.hid ((((((HZ.out.set 0 (.int .u8 fv.pid.author.toNat)).set 1 (.int .u16 fv.pid.seq.toNat)).set 2 (.int .u8 fv.n.toNat)).set 3 (.string ⟨#[]⟩)).set 4 (.slice none 0 0)).set 5 (.slice none 0 0)),Lib.hid (GOwn.base (show GOwn encVert 9 86 _ _ _ _ from own_grown HO10.out (grown_trans (grown_trans (grown_trans (grown_trans (grown_trans (grown_trans (World.grownBy.refl w9 _) (grown_setCell _ _ _)) (grown_setCell _ _ _)) (grown_setCell _ _ _)) (grown_setCell _ _ _)) (grown_setCell _ _ _)) (grown_setCell _ _ _)) hne) (by simp)),Lib.hid ((((((HBk.out.setCell (p:=⟨w8.heap.size,0,none⟩) (Nat.le_refl _) (.int .u8 fv.pid.author.toNat)).setCell (p:=⟨w8.heap.size,1,none⟩) (Nat.le_refl _) (.int .u16 fv.pid.seq.toNat)).setCell (p:=⟨w8.heap.size,2,none⟩) (Nat.le_refl _) (.int .u8 fv.n.toNat)).setCell (p:=⟨w8.heap.size,3,none⟩) (Nat.le_refl _) (.string ⟨#[]⟩)).setCell (p:=⟨w8.heap.size,4,none⟩) (Nat.le_refl _) (.slice none 0 0)).setCell (p:=⟨w8.heap.size,5,none⟩) (Nat.le_refl _) (.slice none 0 0)),Nat.le_refl _⟩
    case rest =>
     obtain⟨g9,rfl,HA9,HO9,HB9,hg9⟩:=hcut
     rename World=>w9
     have HFb9:=Lib.hid (HA68.out.over HB9.out)
     have HT9:=Lib.hid (HT.out.over (below_over HBw.out HBw.out.size HB9.out))
     obtain⟨p10,c10,rfl⟩:=own_sl HO9.out
     have hs9:=HB9.out.size
     have zt:=textB_size fv
     clear q0 q1 q2 sq HKS
     have q0:=HFb9.out.cell (j:=0) rfl
     have q1:=HFb9.out.cell (j:=1) rfl
     have q2:=HFb9.out.cell (j:=2) rfl
     have sq:=HFb9.out.lt
     cases hn:namesM L fv with
     | nil =>
      rw [hn] at HO9 HS
      have HNM:=Lib.hid hn
      clear hn
      go_upto_region 10 with(fail)
      go_wp2_with fail
      refine(vtext_any fv _ HT9.out).mono ?_
      rintro e w10 ⟨rfl,hb10⟩
      have HB10:=Lib.hid (below_over HB9.out HB9.out.size hb10)
      have HA10:=Lib.hid (HA9.out.over hb10)
      have hAS:=(HA10.out.set 3 (.string (tilde++textB fv))).set 5 (.slice (some ⟨w10.heap.size,0,none⟩) 1 1)
      have hBS:=(HB10.out.setCell (p:=⟨g9,3,none⟩) hg9 (.string (tilde++textB fv))).setCell (p:=⟨g9,5,none⟩) hg9 (.slice (some ⟨w10.heap.size,0,none⟩) 1 1)
      have hsS:((w10.setCell ⟨g9,3,none⟩ (.string (tilde++textB fv))).setCell ⟨g9,5,none⟩ (.slice (some ⟨w10.heap.size,0,none⟩) 1 1)).heap.size=w10.heap.size:=by simp
      have HAS:=Lib.hid hAS
      have HBS:=Lib.hid hBS
      clear hAS hBS
      clear hb10 q0 q1 q2 sq
      unfold tilde at *
      generalize hT:textB fv=T at *
      have HTT:=Lib.hid hT
      clear hT
      have c0:=HA10.out.arr.cell (j:=0) rfl
      have c1:=HA10.out.arr.cell (j:=1) rfl
      have c2:=HA10.out.arr.cell (j:=2) rfl
      have c3:=HA10.out.arr.cell (j:=3) rfl
      have c4:=HA10.out.arr.cell (j:=4) rfl
      have c5:=HA10.out.arr.cell (j:=5) rfl
      have sc:=HA10.out.arr.lt
      have cf3:=HA10.out.arr.free 3
      have cf5:=HA10.out.arr.free 5
      go_upto_region 11 with(fail)
      generalize hwS:(w10.setCell ⟨g9,3,none⟩ (.string ((⟨#[126]⟩:ByteArray)++T))).setCell ⟨g9,5,none⟩ (.slice (some ⟨w10.heap.size,0,none⟩) 1 1)=wS at *
      have hL11:=own_lit (enc:=encU8) (sz:=1) wS 5 [3] wS.heap.size rfl (by decide) (Nat.le_refl _)
      rw [hsS] at hL11
      have HL11:Hid (GOwn encU8 1 5 (wS.alloc (.cells #[.int .u8 3] 5)) w10.heap.size (.slice (some ⟨w10.heap.size,0,none⟩) 1 1) [3]):=Lib.hid hL11
      have HA11:=Lib.hid (HAS.out.over (below_new (w:=wS) (.cells #[.int .u8 3] 5)))
      have HB11:=Lib.hid (HBS.out.alloc (by have:=HB10.out.size;omega) (.cells #[.int .u8 3] 5))
      clear hL11
      generalize hw11:wS.alloc (.cells #[.int .u8 3] 5)=w11 at *
      clear hw11 hwS hsS HAS HBS c0 c1 c2 c3 c4 c5 cf3 cf5 sc
      obtain⟨xs,hxs,hO,hNa⟩:=HN8.out.over HB11.out
      have HXS:=Lib.hid hxs
      have HO11:=Lib.hid hO
      have HNa:=Lib.hid hNa
      have hxl:xs.length≤k:=by rw [← hxs,List.length_map] at hal;exact hal
      have hN11:xs.length+1≤1099511627776:=by omega
      have hs11:=HB11.out.size
      have hB11:w.heap.size+1≤w11.heap.size:=by omega
      have HAT:Hid (NameAt w11 (w.heap.size+1) ⟨⟨fv,(⟨#[126]⟩:ByteArray)++T,[],[3]⟩,none,0,some ⟨w10.heap.size,0,none⟩,1⟩):=Lib.hid ⟨gown_nil _ _,HL11.out.base (by have:=HB10.out.size;omega)⟩
      have HE:Hid (nameOne L (allTo L k).2 fv []=⟨fv,(⟨#[126]⟩:ByteArray)++T,[],[3]⟩):=by show _=_;rw [nameOne_nil];unfold tilde;rw [HTT.out]
      have HM11:=Lib.hid (HM8.out.over HB11.out)
      have HF11:=Lib.hid (HF8.out.over HB11.out)
      have HBw11:=Lib.hid (below_over HBw.out HBw.out.size HB11.out)
      clear hxs hO hNa
      have d0:=HA11.out.arr.cell (j:=0) rfl
      have d1:=HA11.out.arr.cell (j:=1) rfl
      have d2:=HA11.out.arr.cell (j:=2) rfl
      have d3:=HA11.out.arr.cell (j:=3) rfl
      have d4:=HA11.out.arr.cell (j:=4) rfl
      have d5:=HA11.out.arr.cell (j:=5) rfl
      have sd:=HA11.out.arr.lt
      go_wp2_with (at_builtin;(first|refine wpList_append_newD slName rfl _ _ rfl (w.heap.size+1) _ _ (drawn_alloc_drewN _ _ _) 1 _ _ _ HO11.out rfl rfl rfl rfl hN11 (by decide) hB11 ?_|refine wpList_append_newD slName rfl _ _ rfl (w.heap.size+1) _ _ (drawn_drew _) 1 _ _ _ HO11.out rfl rfl rfl rfl hN11 (by decide) hB11 ?_|refine wpList_append_newD slName rfl _ _ rfl (w.heap.size+1) _ _ (drawn_drewN _ _) 1 _ _ _ HO11.out rfl rfl rfl rfl hN11 (by decide) hB11 ?_|refine wpList_append_newD slName rfl _ _ rfl (w.heap.size+1) _ _ (drawn_refl _) 1 _ _ _ HO11.out rfl rfl rfl rfl hN11 (by decide) hB11 ?_);intro v12 w12 ho12 hg12)
      have hkb:∀ j,u3.ownBlock=some j→w.heap.size+1≤j:=fun j hj=>gown_base HO11.out hj
      have hNs:=names_snoc (y:=⟨⟨fv,(⟨#[126]⟩:ByteArray)++T,[],[3]⟩,none,0,some ⟨w10.heap.size,0,none⟩,1⟩) HXS.out HO11.out HNa.out HAT.out hg12 ho12
      have HNs:=Lib.hid hNs
      have hs12:=hg12.size
      have HM12:=Lib.hid (HM11.out.kept hg12 (fun q=>by have:=hkb _ q.symm;omega))
      have HF12:=Lib.hid (show GOwn encVid 3 27 _ _ _ _ from own_grown HF11.out hg12 (own_apart HF11.out HO11.out (by decide)))
      have HBw12:=Lib.hid (HBw11.out.grown hg12 HBw11.out.size (fun j hj=>by have:=hkb _ hj;omega))
      clear hNs ho12 hg12
      go_roundw
      case rel=>exact⟨k+1,n,f,hlt,by omega,by go_num,(by show Names _ _ _ _;rw [HSu.out,HS.out,HE.out];exact HNs.out),HM12,(by show ∀ t,_;rw [HSu.out,HS.out];exact HC.out),HF12,HBw12,by omega⟩
      case measure=>simp [intOf];omega
     | cons x l =>
      have hxm:x∈namesM L fv:=by rw [hn];exact List.mem_cons_self ..
      have hno:=HNO.out fv x hxm
      have zx:x.text.size≤16:=by unfold nameOk at hno;simp only [Bool.and_eq_true,decide_eq_true_eq] at hno;exact hno.2.2
      have hok:okStr x.text:=Nat.le_trans zx (by unfold maxLen;omega)
      have hnl:=names_len L fv hwl.out
      rw [hn] at HO9 HS hnl
      have hnl2:l.length+1≤1000000:=by simp at hnl;omega
      obtain⟨gX,capX,heX,hX⟩:=own_at (show World.ownsRow _ _ _ _ _ _ _ from HO9.out) (by simp)
      cases heX
      have HX9:Hid (OwnAt w9 w8.heap.size 86 9 gX (l.length+1) c10 ((x :: l).flatMap encVert)):=Lib.hid hX
      have HXr:Hid (GRow encVert 9 w9 (.slice (some ⟨gX,0,none⟩) (l.length+1) c10) (x :: l)):=Lib.hid hX.row
      have hXl:=hX.lt
      have hXc:=hX.nc
      have hXm:=hX.cm
      unfold maxLen at hXm
      have HFb8T:=HA68T
      clear hn hxm hno hX hnl
      obtain⟨c,hcc⟩:∃ c,(allTo L k).2 x.text=c:=⟨_,rfl⟩
      have hck:c≤k:=by rw [← hcc];exact HAC.out _
      have HCc:=Lib.hid hcc
      have HCx:Hid ((f x.text).getD 0=(c:Int)):=Lib.hid (by have:=HC.out x.text;rw [hcc] at this;exact this)
      have HU:Hid ((updM f x.text ((c:Int)+1) x.text).getD 0=(c:Int)+1):=Lib.hid (by unfold updM;rw [if_pos rfl];rfl)
      clear hcc
      have hcon:=fun w' (hr:GRow encVert 9 w' (.slice (some ⟨gX,0,none⟩) (l.length+1) c10) (x :: l))=>nalso_any _ (x :: l) x w' hr rfl (by simp;omega)
      generalize has:alsoM (x :: l) x.text=al at *
      have HAS:=Lib.hid has
      have HCON:=Lib.hid hcon
      clear has hcon
      have hgne:¬ gX=g9:=fun q=>(HA9.out.ne (show World.ownsRow _ _ _ _ _ _ _ from HX9.out.own) (by decide)) (by rw [q];rfl)
      have hfl8:=HFb8T.out.arr.lt
      have hfbne:¬ wr.heap.size=g9:=by omega
      go_upto_region 12 with(fail)
      have t7:w9.cell? ⟨gX,7,none⟩=some (.string x.text):=HX9.out.cell (j:=7) (u:=.string x.text) rfl
      have hcur:World.grownBy w9 w9.drew (some g9):=⟨rfl,rfl,rfl,Nat.le_refl _,fun _ _ _=>rfl⟩
      refine wp_region_lex (C:=IsKept w9 (some g9)) 10 [] (by kernel_rfl) (by kernel_rfl) (isKept_of hcur) ?_
      simp only [List.take_succ_cons,List.take_zero,List.drop_succ_cons,List.drop_zero]
      repeat(first|(refine lex_skip rfl rfl ?_;simp only [Act.put,List.setIfInBounds_toArray,List.set_cons_succ,List.set_cons_zero])|(refine lex_one rfl ?_;go_big_quiet_step (fail);refine wpQuiet_nil ?_)|(refine lex_loud rfl ?_;go_wp2_with (first|(go_at_call 70;(with_reducible refine(HCON.out _ (HXr.out.over (Below.refl _ _).drew)).mono ?_);rintro e w10 ⟨va,rfl,hoa,hb10⟩;have HB10:Hid (Below w9.heap.size w9 w10):=Lib.hid (below_over (Below.refl _ _).drew (Nat.le_refl _) hb10);replace hcur:=grown_trans hcur (grown_of_below hb10);obtain⟨pa,ca,hva⟩:=own_sl hoa;subst hva;have HOa10:=Lib.hid (show GOwn encT 1 9 w10 w8.heap.size (.slice pa al.length ca) al from hoa.base hs9);have HA10:=Lib.hid (HA9.out.over HB10.out);have c3:=HA10.out.arr.cell (j:=3) rfl;have c4:=HA10.out.arr.cell (j:=4) rfl;have cf3:=HA10.out.arr.free 3;have cf4:=HA10.out.arr.free 4;have sc:=HA10.out.arr.lt;clear hoa hb10));refine⟨isKept_of (by first|exact hcur|exact only_alloc hcur _|exact grown_trans hcur (grown_setCell _ _ _)|exact grown_trans (grown_trans hcur (grown_setCell _ _ _)) (grown_setCell _ _ _)),?_⟩))
      refine lex_end ?_
      clear c3 c4 cf3 cf4 sc t7
      have HA12:=Lib.hid ((HA10.out.set 3 (.string x.text)).set 4 (.slice pa al.length ca))
      have hg12:World.grownBy w10 ((w10.setCell ⟨g9,3,none⟩ (.string x.text)).setCell ⟨g9,4,none⟩ (.slice pa al.length ca)) (some g9):=grown_trans (grown_setCell _ _ _) (grown_setCell _ _ _)
      generalize hw12:((w10.setCell ⟨g9,3,none⟩ (.string x.text)).setCell ⟨g9,4,none⟩ (.slice pa al.length ca))=w12 at *
      clear hw12 hcur
      have HX10:=Lib.hid (HX9.out.over HB10.out)
      have HX12:=Lib.hid (HX10.out.grown hg12 (fun q=>HA10.out.ne (show World.ownsRow _ _ _ _ _ _ _ from HX10.out.own) (by decide) q.symm))
      have neA:(Value.slice pa al.length ca).ownBlock=none∨(Value.slice pa al.length ca).ownBlock≠some g9:=.inr (fun q=>(HA10.out.ne (show World.ownsRow _ _ _ _ _ _ _ from HOa10.out) (by decide)) q.symm)
      have HOa12:=Lib.hid (show GOwn encT 1 9 w12 w8.heap.size (.slice pa al.length ca) al from own_grown HOa10.out hg12 neA)
      have HQ12:Hid (w8.grownBy w12 none):=Lib.hid (grown_farN (below_none (below_over HB9.out hs9 HB10.out)) hg12 (fun j hj=>by cases hj;exact hg9))
      have hs12:=HQ12.out.size
      clear hg12 neA
      have c0:=HA12.out.arr.cell (j:=0) rfl
      have c1:=HA12.out.arr.cell (j:=1) rfl
      have c2:=HA12.out.arr.cell (j:=2) rfl
      have c3:=HA12.out.arr.cell (j:=3) rfl
      have c4:=HA12.out.arr.cell (j:=4) rfl
      have c5:=HA12.out.arr.cell (j:=5) rfl
      have sc:=HA12.out.arr.lt
      have cf5:=HA12.out.arr.free 5
      obtain⟨q,hq⟩:∃ q,decide (0<al.length)=q:=⟨_,rfl⟩
      obtain⟨F,hF⟩:∃ F:List UInt8,(if q=true then [2] else [])=F:=⟨_,rfl⟩
      have hFl:F.length≤1:=by rw [← hF];split <;> simp
      have HF:=Lib.hid hF
      have HQq:=Lib.hid hq
      clear hF
      go_upto_if 56 with(fail)
      go_cut [] (fun wx=>∃ pf cf,Hid (ArrT wx g9 82 [.int .u8 fv.pid.author.toNat,.int .u16 fv.pid.seq.toNat,.int .u8 fv.n.toNat,.string x.text,.slice pa al.length ca,.slice pf F.length cf])∧Hid (OwnAt wx w8.heap.size 86 9 gX (l.length+1) c10 ((x :: l).flatMap encVert))∧Hid (GOwn encT 1 9 wx w8.heap.size (.slice pa al.length ca) al)∧Hid (GOwn encU8 1 5 wx w8.heap.size (.slice pf F.length cf) F)∧Hid (w8.grownBy wx none))
      case first =>
       cases q with
       | true =>
        have eF:F=[2]:=HF.out.symm
        subst eF
        have d13:decide ((0:Int)<(al.length:Int))=true:=decide_eq_true (by have:=of_decide_eq_true hq;omega)
        have HOf12:Hid (GOwn encU8 1 5 w12 w8.heap.size (.slice none 0 0) []):=Lib.hid (gown_nil _ _)
        have hN14:([]:List UInt8).length+1≤1099511627776:=by decide
        clear hq
        go_wp2_with ((at_builtin;(first|refine wpList_append_newD slByte rfl _ _ rfl w8.heap.size _ _ (drawn_alloc_drewN _ _ _) 1 _ _ _ HOf12.out rfl rfl rfl rfl hN14 (by decide) hs12 ?_|refine wpList_append_newD slByte rfl _ _ rfl w8.heap.size _ _ (drawn_drew _) 1 _ _ _ HOf12.out rfl rfl rfl rfl hN14 (by decide) hs12 ?_|refine wpList_append_newD slByte rfl _ _ rfl w8.heap.size _ _ (drawn_drewN _ _) 1 _ _ _ HOf12.out rfl rfl rfl rfl hN14 (by decide) hs12 ?_|refine wpList_append_newD slByte rfl _ _ rfl w8.heap.size _ _ (drawn_refl _) 1 _ _ _ HOf12.out rfl rfl rfl rfl hN14 (by decide) hs12 ?_);intro v13 w13 ho13 hg13);(obtain⟨pf,cf,hpf⟩:=own_sl (show GOwn encU8 1 5 w13 w8.heap.size v13 [2] from GOwn.snoc (xs:=[]) (x:=2) ho13);subst hpf;have HOf13:=Lib.hid (show GOwn encU8 1 5 w13 w8.heap.size (.slice pf 1 cf) [2] from GOwn.snoc (xs:=[]) (x:=2) ho13);have HG13:Hid (w12.grownBy w13 none):=Lib.hid hg13;have HA13:=Lib.hid (HA12.out.kept hg13 (by simp [Value.ownBlock]));have o13:=HA13.out.arr.cell (j:=5) rfl;have o13f:=HA13.out.arr.free 5;have o13s:=HA13.out.arr.lt;clear ho13 hg13))
        clear c0 c1 c2 c3 c4 c5 cf5 sc o13 o13f o13s
        have HA14:=Lib.hid (HA13.out.set 5 (.slice pf 1 cf))
        have hg14:World.grownBy w13 (w13.setCell ⟨g9,5,none⟩ (.slice pf 1 cf)) (some g9):=grown_setCell _ _ _
        generalize hw14:w13.setCell ⟨g9,5,none⟩ (.slice pf 1 cf)=w14 at *
        clear hw14
        have hge:World.grownBy w12 w14 (some g9):=grown_trans (grown_none HG13.out) hg14
        have HX14:=Lib.hid (HX12.out.grown hge (fun q=>HA12.out.ne (show World.ownsRow _ _ _ _ _ _ _ from HX12.out.own) (by decide) q.symm))
        have neA:(Value.slice pa al.length ca).ownBlock=none∨(Value.slice pa al.length ca).ownBlock≠some g9:=.inr (fun q=>(HA12.out.ne (show World.ownsRow _ _ _ _ _ _ _ from HOa12.out) (by decide)) q.symm)
        have neF:(Value.slice pf 1 cf).ownBlock=none∨(Value.slice pf 1 cf).ownBlock≠some g9:=.inr (fun q=>(HA13.out.ne (show World.ownsRow _ _ _ _ _ _ _ from HOf13.out) (by decide)) q.symm)
        have HOa14:=Lib.hid (show GOwn encT 1 9 w14 w8.heap.size (.slice pa al.length ca) al from own_grown HOa12.out hge neA)
        have HOf14:=Lib.hid (show GOwn encU8 1 5 w14 w8.heap.size (.slice pf 1 cf) [2] from own_grown HOf13.out hg14 neF)
        have HQ14:=Lib.hid (grown_farN HQ12.out hge (fun j hj=>by cases hj;exact hg9))
        clear hge hg14 neA neF
        go_meet
        exact⟨pf,cf,HA14,HX14,HOa14,HOf14,HQ14⟩
       | false =>
        have eF:F=[]:=HF.out.symm
        subst eF
        have d13:decide ((0:Int)<(al.length:Int))=false:=decide_eq_false (by have:=of_decide_eq_false hq;omega)
        clear hq
        go_wp2_with fail
        go_meet
        exact⟨none,0,HA12,HX12,HOa12,Lib.hid (gown_nil _ _),HQ12⟩
      case rest =>
       obtain⟨pf,cf,HA14,HX14,HOa14,HOf14,HQ14⟩:=hcut
       rename World=>w14
       clear c0 c1 c2 c3 c4 c5 cf5 sc hq HA12 HX12 HOa12 HQ12
       have HM14:=Lib.hid (HM8.out.kept HQ14.out (by simp))
       have HFb14:=Lib.hid (HFb8T.out.kept HQ14.out (by simp))
       have hs14:=HQ14.out.size
       have t7:w14.cell? ⟨gX,7,none⟩=some (.string x.text):=HX14.out.cell (j:=7) (u:=.string x.text) rfl
       have tl:=HX14.out.lt
       go_upto_region 16 with(first|(refine wpList_tlook keysStr int_inj rfl _ _ _ rfl Tryz.underlying144 0 (zero_int _) w.heap.size n f rfl HM14.out x.text rfl hok ?_;rw [HCx.out])|(refine wpList_tstore keysStr int_inj rfl _ _ _ _ rfl Tryz.underlying144 w.heap.size n f rfl HM14.out (by unfold maxLen;omega) x.text rfl hok ((c:Int)+1) rfl ?_;intro w15 hM15 hg15 hs15))
       have HM15:=Lib.hid hM15
       have hgX:=HX14.out.base
       have HA15:=Lib.hid (HA14.out.kept hg15 (fun q=>by have:=Option.some.inj q;omega))
       have HX15:=Lib.hid (HX14.out.grown hg15 (fun q=>by have:=Option.some.inj q;omega))
       have HOa15:=Lib.hid (gown_keep HOa14.out hg15 (fun j hj=>by cases hj;omega))
       have HOf15:=Lib.hid (gown_keep HOf14.out hg15 (fun j hj=>by cases hj;omega))
       have HP15:Hid (w8.grownBy w15 (some w.heap.size)):=Lib.hid (grown_trans (grown_none HQ14.out) hg15)
       have HFb15:=Lib.hid (HFb14.out.kept hg15 (fun q=>by have:=Option.some.inj q;omega))
       have HCn:Hid (∀ t,(updM f x.text ((c:Int)+1) t).getD 0=((bumpT (allTo L k).2 x.text t:Nat):Int)):=Lib.hid (fun t=>by have:=cnt_bump HC.out x.text t;rw [HCc.out] at this;exact this)
       have hs15':=Nat.le_of_eq hs15.symm
       clear hM15 hg15 t7 tl hs15
       have t7:w15.cell? ⟨gX,7,none⟩=some (.string x.text):=HX15.out.cell (j:=7) (u:=.string x.text) rfl
       have tl:=HX15.out.lt
       by_cases hc:0<c
       ·
        have d16:decide ((1:Int)<(c:Int)+1)=true:=decide_eq_true (by omega)
        obtain⟨G,hG⟩:∃ G:List UInt8,F++[4]=G:=⟨_,rfl⟩
        have HGG:=Lib.hid hG
        clear hG
        have HE:Hid (nameOne L (allTo L k).2 fv (x :: l)=⟨fv,x.text++((⟨#[126]⟩:ByteArray)++textB fv),al,G⟩):=by show _=_;rw [nameOne_cons L _ fv x l HAS.out HQq.out (r:=true) (decide_eq_true (by have:=HCc.out;omega)),HF.out,← HGG.out];rfl
        clear hc
        go_upto_region 17 with(refine wpList_tlook keysStr int_inj rfl _ _ _ rfl Tryz.underlying144 0 (zero_int _) w.heap.size (n+1) _ rfl HM15.out x.text rfl hok ?_;rw [HU.out])
        have HT15:=Lib.hid (HT.out.over (HBw.out.grown HP15.out HBw.out.size (fun j hj=>by cases hj;omega)))
        have HTX:Hid (∀ w',Below w15.heap.size w15 w'→Calls Tryz.prog 69 #[vidV fv] w' fun e w''=>e=.returned (.string (textB fv))∧Below w'.heap.size w' w''):=fun w' hb=>vtext_any fv w' (HT15.out.over hb)
        generalize textB fv=T at *
        clear t7 tl
        have c0:=HA15.out.arr.cell (j:=0) rfl
        have c1:=HA15.out.arr.cell (j:=1) rfl
        have c2:=HA15.out.arr.cell (j:=2) rfl
        have c3:=HA15.out.arr.cell (j:=3) rfl
        have c4:=HA15.out.arr.cell (j:=4) rfl
        have c5:=HA15.out.arr.cell (j:=5) rfl
        have sc:=HA15.out.arr.lt
        have cf3:=HA15.out.arr.free 3
        have q0:=HFb15.out.arr.cell (j:=0) rfl
        have q1:=HFb15.out.arr.cell (j:=1) rfl
        have q2:=HFb15.out.arr.cell (j:=2) rfl
        have sq:=HFb15.out.arr.lt
        have hcur:Below w15.heap.size w15 w15.drew:=(Below.refl _ _).drew
        refine wp_region_lex (C:=IsOver w15) 7 [] (by kernel_rfl) (by kernel_rfl) (isOver_of hcur) ?_
        simp only [List.take_succ_cons,List.take_zero,List.drop_succ_cons,List.drop_zero]
        repeat(first|(refine lex_skip rfl rfl ?_;simp only [Act.put,List.setIfInBounds_toArray,List.set_cons_succ,List.set_cons_zero])|(refine lex_one rfl ?_;go_big_quiet_step (fail);refine wpQuiet_nil ?_)|(refine lex_loud rfl ?_;go_wp2_with (first|(go_at_call 69;(with_reducible refine(HTX.out _ hcur).mono ?_);rintro e w' ⟨rfl,hb⟩;replace hcur:=below_over hcur hcur.size hb;clear hb));refine⟨isOver_of hcur,?_⟩))
        refine lex_end ?_
        rename World=>w16
        have HB16:=Lib.hid hcur
        have HA16:=Lib.hid (HA15.out.over hcur)
        clear c0 c1 c2 c3 c4 c5 cf3 sc q0 q1 q2 sq hcur
        have c0:=HA16.out.arr.cell (j:=0) rfl
        have c1:=HA16.out.arr.cell (j:=1) rfl
        have c2:=HA16.out.arr.cell (j:=2) rfl
        have c3:=HA16.out.arr.cell (j:=3) rfl
        have c4:=HA16.out.arr.cell (j:=4) rfl
        have c5:=HA16.out.arr.cell (j:=5) rfl
        have sc:=HA16.out.arr.lt
        have cf3:=HA16.out.arr.free 3
        go_upto_region 18 with(fail)
        have HA17:=Lib.hid (HA16.out.set 3 (.string (x.text++((⟨#[126]⟩:ByteArray)++T))))
        have hg17:World.grownBy w15 (w16.setCell ⟨g9,3,none⟩ (.string (x.text++((⟨#[126]⟩:ByteArray)++T)))) (some g9):=grown_trans (grown_of_below HB16.out) (grown_setCell _ _ _)
        generalize hw17:w16.setCell ⟨g9,3,none⟩ (.string (x.text++((⟨#[126]⟩:ByteArray)++T)))=w17 at *
        clear hw17 c0 c1 c2 c3 c4 c5 cf3 sc
        have hs17:=hg17.size
        have neA:(Value.slice pa al.length ca).ownBlock=none∨(Value.slice pa al.length ca).ownBlock≠some g9:=.inr (fun q=>(HA15.out.ne (show World.ownsRow _ _ _ _ _ _ _ from HOa15.out) (by decide)) q.symm)
        have neF:(Value.slice pf F.length cf).ownBlock=none∨(Value.slice pf F.length cf).ownBlock≠some g9:=.inr (fun q=>(HA15.out.ne (show World.ownsRow _ _ _ _ _ _ _ from HOf15.out) (by decide)) q.symm)
        have HOa17:=Lib.hid (show GOwn encT 1 9 w17 w8.heap.size (.slice pa al.length ca) al from own_grown HOa15.out hg17 neA)
        have HOf17:=Lib.hid (show GOwn encU8 1 5 w17 w8.heap.size (.slice pf F.length cf) F from own_grown HOf15.out hg17 neF)
        have HP17:=Lib.hid (grown_farN HP15.out hg17 (fun j hj=>by cases hj;exact hg9))
        have HM17:=Lib.hid (HM15.out.kept hg17 (fun q=>by have:=Option.some.inj q;omega))
        clear hg17 neA neF
        have c0:=HA17.out.arr.cell (j:=0) rfl
        have c1:=HA17.out.arr.cell (j:=1) rfl
        have c2:=HA17.out.arr.cell (j:=2) rfl
        have c3:=HA17.out.arr.cell (j:=3) rfl
        have c4:=HA17.out.arr.cell (j:=4) rfl
        have c5:=HA17.out.arr.cell (j:=5) rfl
        have sc:=HA17.out.arr.lt
        have cf5:=HA17.out.arr.free 5
        have hN18:F.length+1≤1099511627776:=by omega
        have hB18:w8.heap.size≤w17.heap.size:=HP17.out.size
        go_upto_region 19 with((at_builtin;(first|refine wpList_append_newD slByte rfl _ _ rfl w8.heap.size _ _ (drawn_alloc_drewN _ _ _) 1 _ _ _ HOf17.out rfl rfl rfl rfl hN18 (by decide) hB18 ?_|refine wpList_append_newD slByte rfl _ _ rfl w8.heap.size _ _ (drawn_drew _) 1 _ _ _ HOf17.out rfl rfl rfl rfl hN18 (by decide) hB18 ?_|refine wpList_append_newD slByte rfl _ _ rfl w8.heap.size _ _ (drawn_drewN _ _) 1 _ _ _ HOf17.out rfl rfl rfl rfl hN18 (by decide) hB18 ?_|refine wpList_append_newD slByte rfl _ _ rfl w8.heap.size _ _ (drawn_refl _) 1 _ _ _ HOf17.out rfl rfl rfl rfl hN18 (by decide) hB18 ?_);intro v18 w18 ho18 hg18);have hsn:GOwn encU8 1 5 w18 w8.heap.size v18 G:=(by rw [← HGG.out];exact GOwn.snoc (xs:=F) (x:=4) ho18);obtain⟨pf2,cf2,hpf⟩:=own_sl hsn;subst hpf;have HOf18:=Lib.hid hsn;clear hsn;have HA18:=Lib.hid (HA17.out.grown (show World.ownsRow _ _ _ _ _ _ _ from HOf17.out) (by decide) hg18);have HOa18:=Lib.hid (show GOwn encT 1 9 w18 w8.heap.size (.slice pa al.length ca) al from own_grown HOa17.out hg18 (own_apart HOa17.out HOf17.out (by decide)));have hfb:=fun j (hj:(Value.slice pf F.length cf).ownBlock=some j)=>gown_base HOf17.out hj;have HP18:=Lib.hid (grown_farN HP17.out hg18 hfb);have HM18:=Lib.hid (HM17.out.kept hg18 (fun q=>by have:=hfb _ q.symm;omega));have o18:=HA18.out.arr.cell (j:=5) rfl;have o18f:=HA18.out.arr.free 5;have o18s:=HA18.out.arr.lt;clear hfb ho18 hg18)
        clear c0 c1 c2 c3 c4 c5 cf5 sc o18 o18f o18s
        have HAz:=Lib.hid (HA18.out.set 5 (.slice pf2 G.length cf2))
        have hgz:World.grownBy w18 (w18.setCell ⟨g9,5,none⟩ (.slice pf2 G.length cf2)) (some g9):=grown_setCell _ _ _
        generalize hwz:w18.setCell ⟨g9,5,none⟩ (.slice pf2 G.length cf2)=wz at *
        clear hwz
        have neA:(Value.slice pa al.length ca).ownBlock=none∨(Value.slice pa al.length ca).ownBlock≠some g9:=.inr (fun q=>(HA18.out.ne (show World.ownsRow _ _ _ _ _ _ _ from HOa18.out) (by decide)) q.symm)
        have neF:(Value.slice pf2 G.length cf2).ownBlock=none∨(Value.slice pf2 G.length cf2).ownBlock≠some g9:=.inr (fun q=>(HA18.out.ne (show World.ownsRow _ _ _ _ _ _ _ from HOf18.out) (by decide)) q.symm)
        have HOaz:=Lib.hid (show GOwn encT 1 9 wz w8.heap.size (.slice pa al.length ca) al from own_grown HOa18.out hgz neA)
        have HOfz:=Lib.hid (show GOwn encU8 1 5 wz w8.heap.size (.slice pf2 G.length cf2) G from own_grown HOf18.out hgz neF)
        have HPz:=Lib.hid (grown_farN HP18.out hgz (fun j hj=>by cases hj;exact hg9))
        have HMz:=Lib.hid (HM18.out.kept hgz (fun q=>by have:=Option.some.inj q;omega))
        clear hgz neA neF
        have HNx:=Lib.hid (HN8.out.keep HPz.out (fun j hj=>by cases hj;omega))
        have HFx:=Lib.hid (gown_keep HF8.out HPz.out (fun j hj=>by cases hj;omega))
        have HBx:=Lib.hid (HBw.out.grown HPz.out HBw.out.size (fun j hj=>by cases hj;omega))
        have hsx:=HPz.out.size
        obtain⟨xs,hxs,hO,hNa⟩:=HNx.out
        have HXS:=Lib.hid hxs
        have HOx:=Lib.hid hO
        have HNa:=Lib.hid hNa
        have hxl:xs.length≤k:=by rw [← hxs,List.length_map] at hal;exact hal
        have hNx:xs.length+1≤1099511627776:=by omega
        have hBx:w.heap.size+1≤wz.heap.size:=by omega
        have HAT:Hid (NameAt wz (w.heap.size+1) ⟨⟨fv,x.text++((⟨#[126]⟩:ByteArray)++T),al,G⟩,pa,ca,pf2,cf2⟩):=Lib.hid ⟨HOaz.out.base (by omega),HOfz.out.base (by omega)⟩
        clear hxs hO hNa
        have d0:=HAz.out.arr.cell (j:=0) rfl
        have d1:=HAz.out.arr.cell (j:=1) rfl
        have d2:=HAz.out.arr.cell (j:=2) rfl
        have d3:=HAz.out.arr.cell (j:=3) rfl
        have d4:=HAz.out.arr.cell (j:=4) rfl
        have d5:=HAz.out.arr.cell (j:=5) rfl
        have sd:=HAz.out.arr.lt
        go_wp2_with (at_builtin;(first|refine wpList_append_newD slName rfl _ _ rfl (w.heap.size+1) _ _ (drawn_alloc_drewN _ _ _) 1 _ _ _ HOx.out rfl rfl rfl rfl hNx (by decide) hBx ?_|refine wpList_append_newD slName rfl _ _ rfl (w.heap.size+1) _ _ (drawn_drew _) 1 _ _ _ HOx.out rfl rfl rfl rfl hNx (by decide) hBx ?_|refine wpList_append_newD slName rfl _ _ rfl (w.heap.size+1) _ _ (drawn_drewN _ _) 1 _ _ _ HOx.out rfl rfl rfl rfl hNx (by decide) hBx ?_|refine wpList_append_newD slName rfl _ _ rfl (w.heap.size+1) _ _ (drawn_refl _) 1 _ _ _ HOx.out rfl rfl rfl rfl hNx (by decide) hBx ?_);intro v19 w19 ho19 hg19)
        have hkb:∀ j,u3.ownBlock=some j→w.heap.size+1≤j:=fun j hj=>gown_base HOx.out hj
        have hNs:=names_snoc (y:=⟨⟨fv,x.text++((⟨#[126]⟩:ByteArray)++T),al,G⟩,pa,ca,pf2,cf2⟩) HXS.out HOx.out HNa.out HAT.out hg19 ho19
        have HNs:=Lib.hid hNs
        have hs19:=hg19.size
        have HM19:=Lib.hid (HMz.out.kept hg19 (fun q=>by have:=hkb _ q.symm;omega))
        have HF19:=Lib.hid (show GOwn encVid 3 27 _ _ _ _ from own_grown HFx.out hg19 (own_apart HFx.out HOx.out (by decide)))
        have HBw19:=Lib.hid (HBx.out.grown hg19 HBx.out.size (fun j hj=>by have:=hkb _ hj;omega))
        clear hNs ho19 hg19
        go_roundw
        case rel=>exact⟨k+1,n+1,_,hlt,by omega,by go_num,(by show Names _ _ _ _;rw [HSu.out,HS.out,HE.out];exact HNs.out),HM19,(by show ∀ t,_;rw [HSu.out,HS.out];exact HCn.out),HF19,HBw19,by omega⟩
        case measure=>simp [intOf];omega
       ·
        have d16:decide ((1:Int)<(c:Int)+1)=false:=decide_eq_false (by omega)
        have HE:Hid (nameOne L (allTo L k).2 fv (x :: l)=⟨fv,x.text,al,F⟩):=by show _=_;rw [nameOne_cons L _ fv x l HAS.out HQq.out (r:=false) (decide_eq_false (by have:=HCc.out;omega)),HF.out];simp
        clear hc
        go_upto_region 19 with(refine wpList_tlook keysStr int_inj rfl _ _ _ rfl Tryz.underlying144 0 (zero_int _) w.heap.size (n+1) _ rfl HM15.out x.text rfl hok ?_;rw [HU.out])
        clear t7 tl
        have HNx:=Lib.hid (HN8.out.keep HP15.out (fun j hj=>by cases hj;omega))
        have HFx:=Lib.hid (gown_keep HF8.out HP15.out (fun j hj=>by cases hj;omega))
        have HBx:=Lib.hid (HBw.out.grown HP15.out HBw.out.size (fun j hj=>by cases hj;omega))
        have hsx:=HP15.out.size
        obtain⟨xs,hxs,hO,hNa⟩:=HNx.out
        have HXS:=Lib.hid hxs
        have HOx:=Lib.hid hO
        have HNa:=Lib.hid hNa
        have hxl:xs.length≤k:=by rw [← hxs,List.length_map] at hal;exact hal
        have hNx:xs.length+1≤1099511627776:=by omega
        have hBx:w.heap.size+1≤w15.heap.size:=by omega
        have HAT:Hid (NameAt w15 (w.heap.size+1) ⟨⟨fv,x.text,al,F⟩,pa,ca,pf,cf⟩):=Lib.hid ⟨HOa15.out.base (by omega),HOf15.out.base (by omega)⟩
        clear hxs hO hNa
        have d0:=HA15.out.arr.cell (j:=0) rfl
        have d1:=HA15.out.arr.cell (j:=1) rfl
        have d2:=HA15.out.arr.cell (j:=2) rfl
        have d3:=HA15.out.arr.cell (j:=3) rfl
        have d4:=HA15.out.arr.cell (j:=4) rfl
        have d5:=HA15.out.arr.cell (j:=5) rfl
        have sd:=HA15.out.arr.lt
        go_wp2_with (at_builtin;(first|refine wpList_append_newD slName rfl _ _ rfl (w.heap.size+1) _ _ (drawn_alloc_drewN _ _ _) 1 _ _ _ HOx.out rfl rfl rfl rfl hNx (by decide) hBx ?_|refine wpList_append_newD slName rfl _ _ rfl (w.heap.size+1) _ _ (drawn_drew _) 1 _ _ _ HOx.out rfl rfl rfl rfl hNx (by decide) hBx ?_|refine wpList_append_newD slName rfl _ _ rfl (w.heap.size+1) _ _ (drawn_drewN _ _) 1 _ _ _ HOx.out rfl rfl rfl rfl hNx (by decide) hBx ?_|refine wpList_append_newD slName rfl _ _ rfl (w.heap.size+1) _ _ (drawn_refl _) 1 _ _ _ HOx.out rfl rfl rfl rfl hNx (by decide) hBx ?_);intro v19 w19 ho19 hg19)
        have hkb:∀ j,u3.ownBlock=some j→w.heap.size+1≤j:=fun j hj=>gown_base HOx.out hj
        have hNs:=names_snoc (y:=⟨⟨fv,x.text,al,F⟩,pa,ca,pf,cf⟩) HXS.out HOx.out HNa.out HAT.out hg19 ho19
        have HNs:=Lib.hid hNs
        have hs19:=hg19.size
        have HM19:=Lib.hid (HM15.out.kept hg19 (fun q=>by have:=hkb _ q.symm;omega))
        have HF19:=Lib.hid (show GOwn encVid 3 27 _ _ _ _ from own_grown HFx.out hg19 (own_apart HFx.out HOx.out (by decide)))
        have HBw19:=Lib.hid (HBx.out.grown hg19 HBx.out.size (fun j hj=>by have:=hkb _ hj;omega))
        clear hNs ho19 hg19
        go_roundw
        case rel=>exact⟨k+1,n+1,_,hlt,by omega,by go_num,(by show Names _ _ _ _;rw [HSu.out,HS.out,HE.out];exact HNs.out),HM19,(by show ∀ t,_;rw [HSu.out,HS.out];exact HCn.out),HF19,HBw19,by omega⟩
        case measure=>simp [intOf];omega
  ·
   obtain rfl:k=(filesM L).length:=by omega
   have hE:(allTo L (filesM L).length).1=allM L:=rfl
   have HE:=HN.out.base (Nat.le_succ _)
   rw [hE] at HE
   have HE2:=Lib.hid HE
   clear HE HN
   go_wp2_with fail
   go_ret
   exact⟨_,rfl,HE2.out,HB.out⟩
end Go.Proofs.YtanfebljiblhbaaGreatDoor
namespace Go.Proofs.YtanfebljiblhbaaGreatDoor
open Go Go.RowKit

theorem all_few{L:List PatchM}{m:Nat}(h:(idsM L).length≤m):(allM L).length≤m:=by
 have h1:=(allTo_len L (filesM L).length (Nat.le_refl _)).1
 have h2:=filesM_len L
 unfold allM
 omega
theorem FileAt.kept{w w':World}{B B':Nat}{v:Value}{xs:List LaidF}{x:LaidF}(h:FileAt w B' x)(ho:GOwn encL 3 66 w B v xs)(hg:w.grownBy w' v.ownBlock):FileAt w' B' x:=⟨own_grown h.1 hg (own_apart h.1 ho (by decide)),own_grown h.2 hg (own_apart h.2 ho (by decide))⟩
theorem NameAt.keep{w w':World}{B:Nat}{x:LaidN}(h:NameAt w B x)(hb:Below w.heap.size w w'):NameAt w' B x:=⟨h.1.over hb,h.2.over hb⟩
attribute [local irreducible] allM fileT idsM linesM relM edgesM
end Go.Proofs.YtanfebljiblhbaaGreatDoor
