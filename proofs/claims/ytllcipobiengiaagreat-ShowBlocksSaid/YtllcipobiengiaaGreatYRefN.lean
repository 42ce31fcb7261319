/- Contract of ref20.Verts. Contract of ref20.Files. Contract of ref20.Of. Graphs that were built: each patch was its author's next one when it came (for ref20.Vec). -/
import Derived.Test.YtllcipobiengiaaGreatYRefF
set_option linter.unusedVariables false
set_option linter.unusedSimpArgs false
namespace Go.Proofs.YtllcipobiengiaaGreat
open Go Go.RowKit

def vsTo(L:List PatchM)(k:Nat):List VertM:=((idsM L).take k).map fun v=>optV (vertM L v)
theorem vsTo_all(L:List PatchM):vsTo L (idsM L).length=vertsM L:=by unfold vsTo vertsM optV;rw [List.take_length]
theorem vsTo_succ{L:List PatchM}{k:Nat}{u:VidM}(h:(idsM L)[k]? = some u):vsTo L (k+1)=vsTo L k++[optV (vertM L u)]:=by unfold vsTo;rw [take_succ' h];simp
theorem vsTo_zero(L:List PatchM):vsTo L 0=[]:=rfl
theorem vsTo_len(L:List PatchM)(k:Nat):(vsTo L k).length≤(idsM L).length:=by unfold vsTo;rw [List.length_map,List.length_take];omega
def VsIn(w2:World)(L:List PatchM)(v3 v5:Value)(wr:World):Prop:=∃ k:Nat,k≤(idsM L).length∧v5=.int .i64 k∧Hid (GOwn encVert 9 88 wr w2.heap.size v3 (vsTo L k))∧Below w2.heap.size w2 wr
attribute [local irreducible] idsM vsTo vertM optV
set_option maxHeartbeats 16000000 in
set_option maxRecDepth 100000 in
theorem rverts20_any(gv:Value)(xs:List LaidP)(w:World)(hv:Pats w gv xs)(hn:xs.length≤300)(hl:∀ x∈xs,x.p.ops.length≤260)(hil:(idsM (patsOf xs)).length≤100000) :
  Calls Tryz.prog 40 #[rgV gv] w (SetRes encVert 9 w (vertsM (patsOf xs))):=by
 have HL:=Lh hl
 have HL4:Hid (∀ x∈xs,x.p.ops.length≤40000):=Lh fun x hx=>Nat.le_trans (hl x hx) (by omega)
 have HV:=Lh hv
 obtain⟨a,cap,rfl,h1,h2,hc⟩:=hv.1.at encPat_len
 unfold maxLen at h2
 have HC:=Lh hc
 have HG:=Lh (anw w #[.slice a xs.length cap] 35)
 have HB:=Lh (bnew (w:=w) (.cells #[.slice a xs.length cap] 35))
 clear hv hc hl
 unfold rgV
 go_enter Tryz.func40,Tryz.ntmps40
 go_upto_region 1 with(fail)
 generalize hw0:(w.alloc (.cells #[.slice a xs.length cap] 35))=w0 at *
 clear hw0
 have g0:=HG.out.k 0 rfl
 have sg:=HG.out.lt
 have HV0:=Lh (HV.out.over HB.out)
 go_upto_region 3 with(first|(go_at_call 83;(with_reducible refine(rids20_any _ xs _ (HV0.out.over (Below.refl _ _)) hn HL.out).mono ?_);rintro e w2 ⟨u2,rfl,hu2,hb2⟩))
 obtain⟨a3,cap3,rfl,t1,t2,hc3⟩:=hu2.at encVid_len
 unfold maxLen at t2
 have HC3:=Lh hc3
 have HG2:=Lh (HG.out.over hb2)
 have HB2:=Lh (bov HB.out HB.out.size hb2)
 have HV2:=Lh (HV.out.over HB2.out)
 clear hu2 hc3 hb2 g0 sg
 go_wp2_with fail
 go_loopw [3,5] (fun v3 v5 wr=>VsIn w2 (patsOf xs) v3 v5 wr) (fun _ v5 _=>(idsM (patsOf xs)).length - (intOf v5).toNat)
 case atStart=>exact⟨0,by omega,rfl,(by show GOwn _ _ _ _ _ _ _;rw [vsTo_zero];exact gown_nil _ _),Below.refl _ _⟩
 case round =>
  obtain⟨k,hk,rfl,HM,hbl⟩:=hrel
  rename World=>wr
  have hvl:=vsTo_len (patsOf xs) k
  by_cases hlt:k<(idsM (patsOf xs)).length
  ·
   obtain⟨b3,off3,rfl,sb3,hcb⟩:=HC3.out.resolve_left (by omega)
   obtain⟨u,hu⟩:=gol hlt
   have HSu:=Lh (vsTo_succ hu)
   have HU:=Lh (hcb k u hu wr hbl)
   have u0:wr.cell? ⟨b3,off3+k*3,none⟩=some (.int .u8 u.pid.author.toNat):=(HU.out).2 0 _ rfl
   have u1:wr.cell? ⟨b3,off3+k*3+1,none⟩=some (.int .u16 u.pid.seq.toNat):=(HU.out).2 1 _ rfl
   have u2:wr.cell? ⟨b3,off3+k*3+2,none⟩=some (.int .u8 u.n.toNat):=(HU.out).2 2 _ rfl
   have su:=HU.out.1
   have HGr:=Lh (HG2.out.over hbl)
   have HVr:=Lh (HV2.out.over hbl)
   have g0:=HGr.out.k 0 rfl
   have sg:=HGr.out.lt
   generalize hx:vertM (patsOf xs) u=x at *
   have HX:=Lh hx
   clear hx hcb hu
   generalize hy:optV x=y at *
   have HY:=Lh hy
   clear hy
   go_upto_region 6 with(fail)
   have HS:Hid (∀ w':World,Below wr.heap.size wr w'→(w'.cell? ⟨w.heap.size,0,none⟩=some (.slice a xs.length cap)∧w'.cell? ⟨b3,off3+k*3,none⟩=some (.int .u8 u.pid.author.toNat)∧w'.cell? ⟨b3,off3+k*3+1,none⟩=some (.int .u16 u.pid.seq.toNat)∧w'.cell? ⟨b3,off3+k*3+2,none⟩=some (.int .u8 u.n.toNat)∧Below wr.heap.size wr w')):=fun w' hb=>⟨(hb.cell (p:=⟨w.heap.size,0,none⟩) sg).trans g0,(hb.cell (p:=⟨b3,off3+k*3,none⟩) su).trans u0,(hb.cell (p:=⟨b3,off3+k*3+1,none⟩) su).trans u1,(hb.cell (p:=⟨b3,off3+k*3+2,none⟩) su).trans u2,hb⟩
   go_cut [6] (fun s6 wx=>∃ g2,s6=.pointer (some ⟨g2,0,none⟩)∧Hid (Arr wx g2 [.int .u8 y.id.pid.author.toNat,.int .u16 y.id.pid.seq.toNat,.int .u8 y.id.n.toNat,.int .u8 y.kind.toNat,.int .u8 y.file.pid.author.toNat,.int .u16 y.file.pid.seq.toNat,.int .u8 y.file.n.toNat,.string y.text,.bool y.dead])∧Hid (Below wr.heap.size wr wx)∧wr.heap.size≤g2)
   case first =>
    go_region_held3 (fun w'=>w'.cell? ⟨w.heap.size,0,none⟩=some (.slice a xs.length cap)∧w'.cell? ⟨b3,off3+k*3,none⟩=some (.int .u8 u.pid.author.toNat)∧w'.cell? ⟨b3,off3+k*3+1,none⟩=some (.int .u16 u.pid.seq.toNat)∧w'.cell? ⟨b3,off3+k*3+2,none⟩=some (.int .u8 u.n.toNat)∧Below wr.heap.size wr w') ((refine HS.out _ ?_;(with_reducible (first|exact(Below.refl _ _).drew|exact HBk.out|exact HBk.out.alloc HBk.out.size _|exact((Below.refl wr.heap.size wr).alloc (Nat.le_refl _) _).drew|exact(((((((((HBk.out.setCell (p:=⟨wr.heap.size,0,none⟩) (Nat.le_refl _) (.int .u8 y.id.pid.author.toNat)).setCell (p:=⟨wr.heap.size,1,none⟩) (Nat.le_refl _) (.int .u16 y.id.pid.seq.toNat)).setCell (p:=⟨wr.heap.size,2,none⟩) (Nat.le_refl _) (.int .u8 y.id.n.toNat)).setCell (p:=⟨wr.heap.size,3,none⟩) (Nat.le_refl _) (.int .u8 y.kind.toNat)).setCell (p:=⟨wr.heap.size,4,none⟩) (Nat.le_refl _) (.int .u8 y.file.pid.author.toNat)).setCell (p:=⟨wr.heap.size,5,none⟩) (Nat.le_refl _) (.int .u16 y.file.pid.seq.toNat)).setCell (p:=⟨wr.heap.size,6,none⟩) (Nat.le_refl _) (.int .u8 y.file.n.toNat)).setCell (p:=⟨wr.heap.size,7,none⟩) (Nat.le_refl _) (.string y.text)).setCell (p:=⟨wr.heap.size,8,none⟩) (Nat.le_refl _) (.bool y.dead))))))
     (first|(go_at_call 84;refine(rvert20_any _ xs u _ (HVr.out.over (by first|exact(Below.refl _ _).drew|exact((Below.refl wr.heap.size wr).alloc (Nat.le_refl _) _).drew)) HL4.out).mono ?_;rintro e w7 ⟨rfl,hb⟩;rw [HX.out,HY.out];have HBk:Hid (Below wr.heap.size wr w7):=(by show Below wr.heap.size wr w7;with_reducible (first|exact bov (Below.refl wr.heap.size wr).drew (Nat.le_refl _) hb|exact bov (((Below.refl wr.heap.size wr).alloc (Nat.le_refl _) _).drew) (Below.size (((Below.refl wr.heap.size wr).alloc (Nat.le_refl _) _).drew)) hb));have HBb:=Lh hb;obtain⟨hcc,hff⟩:=bcell hb;clear hb))
    ·
     rename_i J K hJ hK hHeld
     clear hHeld
     refine hK _ _ (Met.intro (hJ _ _ ?_))
     (repeat apply Exists.intro)
     refine⟨?_,rfl⟩
     exact⟨_,rfl,Lh (anw _ _ _),Lh (HBk.out.alloc HBk.out.size _),HBk.out.size⟩
    ·
     rename_i J K hJ hK hHeld
     clear hHeld
     refine hK _ _ (Met.intro (hJ _ _ ?_))
     (repeat apply Exists.intro)
     refine⟨?_,rfl⟩
     have HZ:Hid (Arr w7 wr.heap.size [.int .u8 0,.int .u16 0,.int .u8 0,.int .u8 0,.int .u8 0,.int .u16 0,.int .u8 0,.string ⟨#[]⟩,.bool false]):=(((anw wr #[.int .u8 0,.int .u16 0,.int .u8 0,.int .u8 0,.int .u8 0,.int .u16 0,.int .u8 0,.string ⟨#[]⟩,.bool false] 88).drew).over HBb.out)
     exact⟨_,rfl,Lh (((((((((HZ.out.set 0 (.int .u8 y.id.pid.author.toNat)).set 1 (.int .u16 y.id.pid.seq.toNat)).set 2 (.int .u8 y.id.n.toNat)).set 3 (.int .u8 y.kind.toNat)).set 4 (.int .u8 y.file.pid.author.toNat)).set 5 (.int .u16 y.file.pid.seq.toNat)).set 6 (.int .u8 y.file.n.toNat)).set 7 (.string y.text)).set 8 (.bool y.dead)),Lh (((((((((HBk.out.setCell (p:=⟨wr.heap.size,0,none⟩) (Nat.le_refl _) (.int .u8 y.id.pid.author.toNat)).setCell (p:=⟨wr.heap.size,1,none⟩) (Nat.le_refl _) (.int .u16 y.id.pid.seq.toNat)).setCell (p:=⟨wr.heap.size,2,none⟩) (Nat.le_refl _) (.int .u8 y.id.n.toNat)).setCell (p:=⟨wr.heap.size,3,none⟩) (Nat.le_refl _) (.int .u8 y.kind.toNat)).setCell (p:=⟨wr.heap.size,4,none⟩) (Nat.le_refl _) (.int .u8 y.file.pid.author.toNat)).setCell (p:=⟨wr.heap.size,5,none⟩) (Nat.le_refl _) (.int .u16 y.file.pid.seq.toNat)).setCell (p:=⟨wr.heap.size,6,none⟩) (Nat.le_refl _) (.int .u8 y.file.n.toNat)).setCell (p:=⟨wr.heap.size,7,none⟩) (Nat.le_refl _) (.string y.text)).setCell (p:=⟨wr.heap.size,8,none⟩) (Nat.le_refl _) (.bool y.dead)),Nat.le_refl _⟩
   case rest =>
    obtain⟨g2,rfl,HA2,HBx,hg2⟩:=hcut
    rename World=>w8
    have HM8:=Lh (HM.out.over HBx.out)
    have hb8:=bov hbl hbl.size HBx.out
    have hB8:=hb8.size
    have hN8:(vsTo (patsOf xs) k).length+1≤1099511627776:=by omega
    clear u0 u1 u2 su g0 sg HS HM HGr
    have y0:=HA2.out.k 0 rfl
    have y1:=HA2.out.k 1 rfl
    have y2:=HA2.out.k 2 rfl
    have y3:=HA2.out.k 3 rfl
    have y4:=HA2.out.k 4 rfl
    have y5:=HA2.out.k 5 rfl
    have y6:=HA2.out.k 6 rfl
    have y7:=HA2.out.k 7 rfl
    have y8:=HA2.out.k 8 rfl
    have sy:=HA2.out.lt
    go_wp2_with (at_builtin;refine apD slVert rfl _ _ rfl w2.heap.size _ _ (drf _) 1 _ _ _ HM8.out rfl rfl rfl rfl hN8 (by decide) hB8 ?_;intro v9 w9 ho9 hg9)
    go_roundw
    case rel=>exact⟨k+1,hlt,by go_num,(by show GOwn _ _ _ _ _ _ _;rw [HSu.out];exact GOwn.snoc ho9),bgr hb8 hB8 HM8.out hg9⟩
    case measure=>simp [intOf];omega
  ·
   obtain rfl:k=(idsM (patsOf xs)).length:=by omega
   have HE:=HM.out
   rw [vsTo_all] at HE
   have HE2:=Lh HE.row
   clear HE HM
   go_wp2_with fail
   go_ret
   exact⟨_,rfl,HE2.out,bov HB2.out HB2.out.size hbl⟩
end Go.Proofs.YtllcipobiengiaaGreat
namespace Go.Proofs.YtllcipobiengiaaGreat
open Go Go.RowKit

def flTo(l:List VertM)(k:Nat):List VidM:=((l.take k).filter fun x=>decide (x.kind.toNat=1)).map (·.id)
theorem flTo_zero(l:List VertM):flTo l 0=[]:=rfl
theorem flTo_yes{l:List VertM}{k:Nat}{x:VertM}(h:l[k]? = some x)(h1:x.kind.toNat=1):flTo l (k+1)=flTo l k++[x.id]:=by unfold flTo;rw [take_succ' h,List.filter_append];simp [h1]
theorem flTo_no{l:List VertM}{k:Nat}{x:VertM}(h:l[k]? = some x)(h1:¬ x.kind.toNat=1):flTo l (k+1)=flTo l k:=by unfold flTo;rw [take_succ' h,List.filter_append];simp [h1]
theorem flTo_len(l:List VertM)(k:Nat):(flTo l k).length≤l.length:=by
 unfold flTo;rw [List.length_map];exact Nat.le_trans (List.length_filter_le _ _) (by rw [List.length_take];omega)
def FlIn(w2:World)(l:List VertM)(v3 v5:Value)(wr:World):Prop:=∃ k:Nat,k≤l.length∧v5=.int .i64 k∧Hid (GOwn encVid 3 40 wr w2.heap.size v3 (flTo l k))∧Below w2.heap.size w2 wr
attribute [local irreducible] idsM vertsM flTo
set_option maxHeartbeats 16000000 in
set_option maxRecDepth 100000 in
theorem rfiles20_own(gv:Value)(xs:List LaidP)(w:World)(hv:Pats w gv xs)(hn:xs.length≤300)(hl:∀ x∈xs,x.p.ops.length≤260)(hil:(idsM (patsOf xs)).length≤100000)(hvl:(vertsM (patsOf xs)).length≤100000) :
  Calls Tryz.prog 14 #[rgV gv] w (OwnRes encVid 3 40 w (flTo (vertsM (patsOf xs)) (vertsM (patsOf xs)).length)):=by
 have HL:=Lh hl
 have HV:=Lh hv
 obtain⟨a,cap,rfl,h1,h2,hc⟩:=hv.1.at encPat_len
 unfold maxLen at h2
 have HC:=Lh hc
 have HG:=Lh (anw w #[.slice a xs.length cap] 35)
 have HB:=Lh (bnew (w:=w) (.cells #[.slice a xs.length cap] 35))
 clear hv hc hl
 unfold rgV
 go_enter Tryz.func14,Tryz.ntmps14
 go_upto_region 1 with(fail)
 generalize hw0:(w.alloc (.cells #[.slice a xs.length cap] 35))=w0 at *
 clear hw0
 have g0:=HG.out.k 0 rfl
 have sg:=HG.out.lt
 have HV0:=Lh (HV.out.over HB.out)
 go_upto_region 3 with(first|(go_at_call 40;(with_reducible refine(rverts20_any _ xs _ (HV0.out.over (Below.refl _ _)) hn HL.out hil).mono ?_);rintro e w2 ⟨u2,rfl,hu2,hb2⟩))
 generalize vertsM (patsOf xs)=l at *
 obtain⟨a3,cap3,rfl,t1,t2,hc3⟩:=hu2.at encVert_len
 unfold maxLen at t2
 have HC3:=Lh hc3
 have HB2:=Lh (bov HB.out HB.out.size hb2)
 clear hu2 hc3 hb2 g0 sg
 go_wp2_with fail
 go_loopw [3,5] (fun v3 v5 wr=>FlIn w2 l v3 v5 wr) (fun _ v5 _=>l.length - (intOf v5).toNat)
 case atStart=>exact⟨0,by omega,rfl,(by show GOwn _ _ _ _ _ _ _;rw [flTo_zero];exact gown_nil _ _),Below.refl _ _⟩
 case round =>
  obtain⟨k,hk,rfl,HM,hbl⟩:=hrel
  rename World=>wr
  have hfl:=flTo_len l k
  have hN:(flTo l k).length+1≤1099511627776:=by omega
  have hB2:=hbl.size
  by_cases hlt:k<l.length
  ·
   obtain⟨b3,off3,rfl,sb3,hcb⟩:=HC3.out.resolve_left (by omega)
   obtain⟨x,hx⟩:=gol hlt
   have HX:=Lh hx
   have HU:=Lh (hcb k x hx wr hbl)
   have x0:wr.cell? ⟨b3,off3+k*9,none⟩=some (.int .u8 x.id.pid.author.toNat):=(HU.out).2 0 _ rfl
   have x1:wr.cell? ⟨b3,off3+k*9+1,none⟩=some (.int .u16 x.id.pid.seq.toNat):=(HU.out).2 1 _ rfl
   have x2:wr.cell? ⟨b3,off3+k*9+2,none⟩=some (.int .u8 x.id.n.toNat):=(HU.out).2 2 _ rfl
   have x3:wr.cell? ⟨b3,off3+k*9+3,none⟩=some (.int .u8 x.kind.toNat):=(HU.out).2 3 _ rfl
   have x4:wr.cell? ⟨b3,off3+k*9+4,none⟩=some (.int .u8 x.file.pid.author.toNat):=(HU.out).2 4 _ rfl
   have x5:wr.cell? ⟨b3,off3+k*9+5,none⟩=some (.int .u16 x.file.pid.seq.toNat):=(HU.out).2 5 _ rfl
   have x6:wr.cell? ⟨b3,off3+k*9+6,none⟩=some (.int .u8 x.file.n.toNat):=(HU.out).2 6 _ rfl
   have x7:wr.cell? ⟨b3,off3+k*9+7,none⟩=some (.string x.text):=(HU.out).2 7 _ rfl
   have x8:wr.cell? ⟨b3,off3+k*9+8,none⟩=some (.bool x.dead):=(HU.out).2 8 _ rfl
   have su:=HU.out.1
   clear hcb hx
   by_cases h1:x.kind.toNat=1
   ·
    have e1:((x.kind.toNat:Int) == 1)=true:=by simp;omega
    have HN:=Lh (flTo_yes HX.out h1)
    clear h1
    go_wp2_with (at_builtin;refine apD slVid rfl _ _ rfl w2.heap.size _ _ (drf _) 1 _ _ _ HM.out rfl rfl rfl rfl hN (by decide) hB2 ?_;intro v9 w9 ho9 hg9)
    go_roundw
    case rel=>exact⟨k+1,hlt,by go_num,(by show GOwn _ _ _ _ _ _ _;rw [HN.out];exact GOwn.snoc ho9),bgr hbl hB2 HM.out hg9⟩
    case measure=>simp [intOf];omega
   ·
    have e1:((x.kind.toNat:Int) == 1)=false:=by simp;omega
    have HN:=Lh (flTo_no HX.out h1)
    clear h1
    go_wp2_with fail
    go_roundw
    case rel=>exact⟨k+1,hlt,by go_num,(by show GOwn _ _ _ _ _ _ _;rw [HN.out];exact HM.out),hbl⟩
    case measure=>simp [intOf];omega
  ·
   obtain rfl:k=l.length:=by omega
   have HE:=HM.out
   have HE2:=Lh (HE.base HB2.out.size)
   clear HE
   clear HM
   go_wp2_with fail
   go_ret
   exact⟨_,rfl,HE2.out,bov HB2.out HB2.out.size hbl⟩
end Go.Proofs.YtllcipobiengiaaGreat
namespace Go.Proofs.YtllcipobiengiaaGreat
open Go Go.RowKit

def ofTo(l:List VertM)(v:VidM)(kd:UInt8)(k:Nat):List VertM:=(l.take k).filter fun x=>decide (x.kind=kd) && decide (x.file=v)
theorem ofTo_all(L:List PatchM)(v:VidM)(kd:UInt8):ofTo (vertsM L) v kd (vertsM L).length=ofM L v kd:=by unfold ofTo ofM;rw [List.take_length]
theorem ofTo_zero(l:List VertM)(v:VidM)(kd:UInt8):ofTo l v kd 0=[]:=rfl
theorem ofTo_yes{l:List VertM}{v:VidM}{kd:UInt8}{k:Nat}{x:VertM}(h:l[k]? = some x)(h1:x.kind=kd)(h2:x.file=v):ofTo l v kd (k+1)=ofTo l v kd k++[x]:=by unfold ofTo;rw [take_succ' h,List.filter_append];simp [h1,h2]
theorem ofTo_no1{l:List VertM}{v:VidM}{kd:UInt8}{k:Nat}{x:VertM}(h:l[k]? = some x)(h1:¬ x.kind=kd):ofTo l v kd (k+1)=ofTo l v kd k:=by unfold ofTo;rw [take_succ' h,List.filter_append];simp [h1]
theorem ofTo_no2{l:List VertM}{v:VidM}{kd:UInt8}{k:Nat}{x:VertM}(h:l[k]? = some x)(h1:¬ x.file=v):ofTo l v kd (k+1)=ofTo l v kd k:=by unfold ofTo;rw [take_succ' h,List.filter_append];simp [h1]
theorem ofTo_len(l:List VertM)(v:VidM)(kd:UInt8)(k:Nat):(ofTo l v kd k).length≤l.length:=by
 unfold ofTo;exact Nat.le_trans (List.length_filter_le _ _) (by rw [List.length_take];omega)
def OfIn(w2:World)(l:List VertM)(v:VidM)(kd:UInt8)(v7 v9:Value)(wr:World):Prop:=∃ k:Nat,k≤l.length∧v9=.int .i64 k∧Hid (GOwn encVert 9 88 wr w2.heap.size v7 (ofTo l v kd k))∧Below w2.heap.size w2 wr
attribute [local irreducible] idsM vertsM ofTo
set_option maxHeartbeats 16000000 in
set_option maxRecDepth 100000 in
theorem rof20_any(gv:Value)(xs:List LaidP)(v:VidM)(kd:UInt8)(w:World)(hv:Pats w gv xs)(hn:xs.length≤300)(hl:∀ x∈xs,x.p.ops.length≤260)(hil:(idsM (patsOf xs)).length≤100000)(hvl:(vertsM (patsOf xs)).length≤100000) :
  Calls Tryz.prog 58 #[rgV gv,vidV v,.int .u8 kd.toNat] w (SetRes encVert 9 w (ofM (patsOf xs) v kd)):=by
 rw [← ofTo_all]
 have HL:=Lh hl
 have gd:=fun p q xs ys w=>guard_vid .eql p q xs ys w
 have HV:=Lh hv
 obtain⟨a,cap,rfl,h1,h2,hc⟩:=hv.1.at encPat_len
 unfold maxLen at h2
 have HC:=Lh hc
 have HG:=Lh ((anw w #[.slice a xs.length cap] 35).alloc (.cells #[.int .u8 v.pid.author.toNat,.int .u16 v.pid.seq.toNat,.int .u8 v.n.toNat] 40))
 have HQ:=Lh (an2 w (.cells #[.slice a xs.length cap] 35) #[.int .u8 v.pid.author.toNat,.int .u16 v.pid.seq.toNat,.int .u8 v.n.toNat] 40)
 have HB:=Lh ((bnew (w:=w) (.cells #[.slice a xs.length cap] 35)).alloc (by simp) (.cells #[.int .u8 v.pid.author.toNat,.int .u16 v.pid.seq.toNat,.int .u8 v.n.toNat] 40))
 clear hv hc hl
 unfold rgV vidV
 go_enter Tryz.func58,Tryz.ntmps58
 go_upto_region 1 with(fail)
 generalize hw0:(w.alloc (.cells #[.slice a xs.length cap] 35)).alloc (.cells #[.int .u8 v.pid.author.toNat,.int .u16 v.pid.seq.toNat,.int .u8 v.n.toNat] 40)=w0 at *
 clear hw0
 have g0:=HG.out.k 0 rfl
 have sg:=HG.out.lt
 have HV0:=Lh (HV.out.over HB.out)
 go_upto_region 3 with(first|(go_at_call 40;(with_reducible refine(rverts20_any _ xs _ (HV0.out.over (Below.refl _ _)) hn HL.out hil).mono ?_);rintro e w2 ⟨u2,rfl,hu2,hb2⟩))
 generalize vertsM (patsOf xs)=l at *
 obtain⟨a3,cap3,rfl,t1,t2,hc3⟩:=hu2.at encVert_len
 unfold maxLen at t2
 have HC3:=Lh hc3
 have HB2:=Lh (bov HB.out HB.out.size hb2)
 have HQ2:=Lh (HQ.out.over hb2)
 clear hu2 hc3 hb2 g0 sg
 go_wp2_with fail
 go_loopw [7,9] (fun v7 v9 wr=>OfIn w2 l v kd v7 v9 wr) (fun _ v9 _=>l.length - (intOf v9).toNat)
 case atStart=>exact⟨0,by omega,rfl,(by show GOwn _ _ _ _ _ _ _;rw [ofTo_zero];exact gown_nil _ _),Below.refl _ _⟩
 case round =>
  obtain⟨k,hk,rfl,HM,hbl⟩:=hrel
  rename World=>wr
  have hfl:=ofTo_len l v kd k
  have hN:(ofTo l v kd k).length+1≤1099511627776:=by omega
  have hB2:=hbl.size
  have HQr:=Lh (HQ2.out.over hbl)
  have q0:=HQr.out.k 0 rfl
  have q1:=HQr.out.k 1 rfl
  have q2:=HQr.out.k 2 rfl
  have sq:=HQr.out.lt
  by_cases hlt:k<l.length
  ·
   obtain⟨b3,off3,rfl,sb3,hcb⟩:=HC3.out.resolve_left (by omega)
   obtain⟨x,hx⟩:=gol hlt
   have HX:=Lh hx
   have HU:=Lh (hcb k x hx wr hbl)
   have x0:wr.cell? ⟨b3,off3+k*9,none⟩=some (.int .u8 x.id.pid.author.toNat):=(HU.out).2 0 _ rfl
   have x1:wr.cell? ⟨b3,off3+k*9+1,none⟩=some (.int .u16 x.id.pid.seq.toNat):=(HU.out).2 1 _ rfl
   have x2:wr.cell? ⟨b3,off3+k*9+2,none⟩=some (.int .u8 x.id.n.toNat):=(HU.out).2 2 _ rfl
   have x3:wr.cell? ⟨b3,off3+k*9+3,none⟩=some (.int .u8 x.kind.toNat):=(HU.out).2 3 _ rfl
   have x4:wr.cell? ⟨b3,off3+k*9+4,none⟩=some (.int .u8 x.file.pid.author.toNat):=(HU.out).2 4 _ rfl
   have x5:wr.cell? ⟨b3,off3+k*9+5,none⟩=some (.int .u16 x.file.pid.seq.toNat):=(HU.out).2 5 _ rfl
   have x6:wr.cell? ⟨b3,off3+k*9+6,none⟩=some (.int .u8 x.file.n.toNat):=(HU.out).2 6 _ rfl
   have x7:wr.cell? ⟨b3,off3+k*9+7,none⟩=some (.string x.text):=(HU.out).2 7 _ rfl
   have x8:wr.cell? ⟨b3,off3+k*9+8,none⟩=some (.bool x.dead):=(HU.out).2 8 _ rfl
   have su:=HU.out.1
   clear hcb hx
   by_cases h1:x.kind=kd
   ·
    have e1:((x.kind.toNat:Int) == (kd.toNat:Int))=true:=by simp [h1]
    by_cases h2:x.file=v
    ·
     have e2:=eql_vid x.file v true (by simp [h2])
     unfold vidV at e2
     have HN:=Lh (ofTo_yes HX.out h1 h2)
     clear h1 h2
     go_wp2_with fail
     have hcur:Below wr.heap.size wr wr.drew:=(Below.refl _ _).drew
     refine wlex (C:=IsOver wr) 16 [] (by kernel_rfl) (by kernel_rfl) (iov hcur) ?_
     simp only [Tsc,Tz,Dsc,Dz]
     repeat(first|(refine lxs rfl rfl ?_;simp only [Act.put,Sib,Scs,Scz])|(refine lxo rfl ?_;go_big_quiet_step (fail);refine wpQuiet_nil ?_))
     refine lxe ?_
     clear hcur
     go_wp2_with (at_builtin;refine apD slVert rfl _ _ rfl w2.heap.size _ _ (dad _ _ _) 1 _ _ _ HM.out rfl rfl rfl rfl hN (by decide) hB2 ?_;intro v9 w9 ho9 hg9)
     go_roundw
     case rel=>exact⟨k+1,hlt,by go_num,(by show GOwn _ _ _ _ _ _ _;rw [HN.out];exact GOwn.snoc ho9),bgr hbl hB2 HM.out hg9⟩
     case measure=>simp [intOf];omega
    ·
     have e2:=eql_vid x.file v false (by simp [h2])
     unfold vidV at e2
     have HN:=Lh (ofTo_no2 (kd:=kd) HX.out h2)
     clear h1 h2
     go_wp2_with fail
     have hcur:Below wr.heap.size wr wr.drew:=(Below.refl _ _).drew
     refine wlex (C:=IsOver wr) 16 [] (by kernel_rfl) (by kernel_rfl) (iov hcur) ?_
     simp only [Tsc,Tz,Dsc,Dz]
     repeat(first|(refine lxs rfl rfl ?_;simp only [Act.put,Sib,Scs,Scz])|(refine lxo rfl ?_;go_big_quiet_step (fail);refine wpQuiet_nil ?_))
     refine lxe ?_
     clear hcur
     go_wp2_with fail
     go_roundw
     case rel=>exact⟨k+1,hlt,by go_num,(by show GOwn _ _ _ _ _ _ _;rw [HN.out];exact HM.out),hbl.drew⟩
     case measure=>simp [intOf];omega
   ·
    have e1:((x.kind.toNat:Int) == (kd.toNat:Int))=false:=by
     simp;intro h;exact h1 (UInt8.toNat_inj.1 (by omega))
    have HN:=Lh (ofTo_no1 (v:=v) HX.out h1)
    clear h1
    go_wp2_with fail
    have hcur:Below wr.heap.size wr wr.drew:=(Below.refl _ _).drew
    refine wlex (C:=IsOver wr) 16 [] (by kernel_rfl) (by kernel_rfl) (iov hcur) ?_
    simp only [Tsc,Tz,Dsc,Dz]
    repeat(first|(refine lxs rfl rfl ?_;simp only [Act.put,Sib,Scs,Scz])|(refine lxo rfl ?_;go_big_quiet_step (fail);refine wpQuiet_nil ?_))
    refine lxe ?_
    clear hcur
    go_wp2_with fail
    go_roundw
    case rel=>exact⟨k+1,hlt,by go_num,(by show GOwn _ _ _ _ _ _ _;rw [HN.out];exact HM.out),hbl.drew⟩
    case measure=>simp [intOf];omega
  ·
   obtain rfl:k=l.length:=by omega
   have HE2:=Lh HM.out.row
   clear HM
   go_wp2_with fail
   go_ret
   exact⟨_,rfl,HE2.out,bov HB2.out HB2.out.size hbl⟩
end Go.Proofs.YtllcipobiengiaaGreat
namespace Go.Proofs.YtllcipobiengiaaGreat
open Go Go.RowKit

def OrdL(L:List PatchM):Prop:=∀ k p,L[k]? = some p→goodP p=true∧nextM (L.take k) p.id.author=p.id
theorem ord_nil:OrdL []:=fun k p h=>by simp at h
theorem ord_apply{L:List PatchM}(h:OrdL L)(p:PatchM):OrdL (applyM L p):=by
 unfold applyM
 by_cases hc:checkM L p=0
 ·
  rw [if_pos hc]
  have hok:=check_ok hc
  intro k q hq
  by_cases hk:k<L.length
  ·
   rw [List.getElem?_append_left hk] at hq
   rw [List.take_append_of_le_length (by omega)]
   exact h k q hq
  ·
   have hk2:k=L.length:=by have:=(List.getElem?_eq_some_iff.1 hq).1;simp at this;omega
   subst hk2
   rw [List.getElem?_append_right (Nat.le_refl _)] at hq
   simp at hq;subst hq
   rw [List.take_append_of_le_length (Nat.le_refl _),List.take_length]
   exact⟨hok.good,hok.next⟩
 ·
  rw [if_neg hc];exact h
theorem ord_foldl:∀(l:List PatchM) {L:List PatchM},OrdL L→OrdL (l.foldl applyM L)
 | [],_,h=>h
 | p :: l,_,h=>ord_foldl l (ord_apply h p)
theorem ord_build(l:List PatchM):OrdL (buildM l):=ord_foldl l ord_nil
theorem ord_step{L:List PatchM}(h:OrdL L){k:Nat}{p:PatchM}(hp:L[k]? = some p):authorOk p.id.author=true∧nextF (vecM (L.take k)) p.id.author=p.id∧setV (vecM (L.take k)) p.id.author p.id.seq.toNat=vecM (L.take (k+1)):=by
 obtain⟨hg,hn⟩:=h k p hp
 obtain⟨h1,_,h3⟩:=next_parts (goodP_id hg) hn
 refine⟨h1,hn,?_⟩
 rw [take_succ' hp]
 funext a
 rw [vecM_snoc];unfold setV
 by_cases ha:a=p.id.author
 ·
  subst ha;rw [if_pos rfl,if_pos rfl,h3]
 ·
  rw [if_neg ha,if_neg (fun e=>ha e.symm)];rfl
theorem vec_take_le{L:List PatchM}(hw:WfG L)(k:Nat)(a:UInt8):vecM (L.take k) a≤60000:=by
 refine Nat.le_trans ?_ (hw.vec a)
 unfold vecM
 exact List.Sublist.length_le ((List.take_sublist k L).filter _)
theorem flTo_all(L:List PatchM):flTo (vertsM L) (vertsM L).length=filesM L:=by
 unfold flTo filesM
 rw [List.take_length]
 have:(fun x:VertM=>decide (x.kind.toNat=1))=fun x=>decide (x.kind=1):=by
  funext x
  rw [Bool.eq_iff_iff,decide_eq_true_iff,decide_eq_true_iff]
  exact⟨fun h=>(u8_nat x.kind 1 (by omega)).2 h,fun h=>by rw [h];rfl⟩
 rw [this]
end Go.Proofs.YtllcipobiengiaaGreat
