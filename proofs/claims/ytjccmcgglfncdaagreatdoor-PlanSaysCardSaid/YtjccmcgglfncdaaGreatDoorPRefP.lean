/- What is proved: PlanSays, for every input; of the listed tables the walk needs the powers of ten. -/
import Derived.Test.YtjccmcgglfncdaaGreatDoorPRefF
import Derived.Deep.MidRow
set_option linter.unusedVariables false
set_option linter.unusedSimpArgs false
set_option maxRecDepth 100000
set_option maxHeartbeats 40000000
namespace Go.Proofs.YtjccmcgglfncdaaGreatDoor
open Go Go.RowKit
section
def vsTo(L:List PatchM)(k:Nat):List VertM:=((idsM L).take k).map fun v=>optV (vertM L v)
theorem vsTo_all(L:List PatchM):vsTo L (idsM L).length=vertsM L:=by unfold vsTo vertsM optV;rw [List.take_length]
theorem vsTo_succ{L:List PatchM}{k:Nat}{u:VidM}(h:(idsM L)[k]? = some u):vsTo L (k+1)=vsTo L k++[optV (vertM L u)]:=by unfold vsTo;rw [take_succ' h];simp
theorem vsTo_zero(L:List PatchM):vsTo L 0=[]:=rfl
theorem vsTo_len(L:List PatchM)(k:Nat):(vsTo L k).length≤(idsM L).length:=by unfold vsTo;rw [List.length_map,List.length_take];omega
def VsIn(w2:World)(L:List PatchM)(v3 v5:Value)(wr:World):Prop:=∃ k:Nat,k≤(idsM L).length∧v5=.int .i64 k∧Hid (GOwn encVert 9 101 wr w2.heap.size v3 (vsTo L k))∧Be w2 wr
attribute [local irreducible] idsM vsTo vertM optV
theorem rverts20_any(gv:Value)(xs:List LaidP)(w:World)(hv:Pats w gv xs)(hn:xs.length≤300)(hl:∀ x∈xs,x.p.ops.length≤260)(hil:(idsM (patsOf xs)).length≤100000) :
  Calls Tryz.prog 167 #[rgV gv] w (SetRes encVert 9 w (vertsM (patsOf xs))):=by
 have HL:=Lh hl;have HL4:Hid (∀ x∈xs,x.p.ops.length≤40000):=Lh fun x hx=>Nat.le_trans (hl x hx) (by omega);have HV:=Lh hv;obtain⟨a,cap,rfl,h1,h2,hc⟩:=hv.1.at encPat_len;unfold maxLen at h2;have HC:=Lh hc;have HG:=Lh (anw w #[.slice a xs.length cap] 34);have HB:=Lh (bnew (w:=w) (.cells #[.slice a xs.length cap] 34));clear hv hc hl;unfold rgV;go_enter Tryz.func167,Tryz.ntmps167;go_upto_region 1 with fail;generalize (w.alloc (.cells #[.slice a xs.length cap] 34))=w0 at *;obtain⟨g0,sg⟩:=HG.o.c1;have HV0:=Lh (HV.o.over HB.o);go_upto_region 3 with(first|(go_at_call 230;(with_reducible refine(rids20_any _ xs _ (HV0.o.over (Below.refl _ _)) hn HL.o).mono ?_);rintro e w2 ⟨u2,rfl,hu2,hb2⟩))
 obtain⟨a3,cap3,rfl,t1,t2,hc3⟩:=hu2.at encVid_len;unfold maxLen at t2;have HC3:=Lh hc3;have HG2:=Lh (HG.o.over hb2);have HB2:=Lh (bvo HB.o hb2);have HV2:=Lh (HV.o.over HB2.o);clear hu2 hc3 hb2 g0 sg;go_wp2;go_loopw [3,5] (fun v3 v5 wr=>VsIn w2 (patsOf xs) v3 v5 wr) (fun _ v5 _=>(idsM (patsOf xs)).length - (intOf v5).toNat)
 case atStart=>exact⟨0,by omega,rfl,(by show GOwn _ _ _ _ _ _ _;rw [vsTo_zero];exact gown_nil _ _),Below.refl _ _⟩
 obtain⟨k,hk,rfl,HM,hbl⟩:=hrel;rename World=>wr;have hvl:=vsTo_len (patsOf xs) k
 by_cases hlt:k<(idsM (patsOf xs)).length
 rotate_left
 ·
  obtain rfl:k=(idsM (patsOf xs)).length:=by omega
  have HE:=HM.o;rw [vsTo_all] at HE;have HE2:=Lh HE.row;clear HE HM;go_wp2;go_ret;exact⟨_,rfl,HE2.o,bvo HB2.o hbl⟩
 obtain⟨b3,off3,rfl,sb3,hcb⟩:=HC3.o.resolve_left (by omega);obtain⟨u,hu⟩:=gol hlt;have HSu:=Lh (vsTo_succ hu);have HU:=Lh (hcb k u hu wr hbl);obtain⟨u0,u1,u2,su⟩:=rc3 HU.o;have HGr:=Lh (HG2.o.over hbl);have HVr:=Lh (HV2.o.over hbl);obtain⟨g0,sg⟩:=HGr.o.c1;generalize hx:vertM (patsOf xs) u=x at *;have HX:=Lh hx;clear hx hcb hu;generalize hy:optV x=y at *;have HY:=Lh hy;clear hy;go_upto_region 6 with fail;have HS:Hid (∀ w':World,Be wr w'→(w'.cell? ⟨w.heap.size,0,none⟩=some (.slice a xs.length cap)∧w'.cell? ⟨b3,off3+k*3,none⟩=some (.int .u8 u.pid.author.toNat)∧w'.cell? ⟨b3,off3+k*3+1,none⟩=some (.int .u16 u.pid.seq.toNat)∧w'.cell? ⟨b3,off3+k*3+2,none⟩=some (.int .u8 u.n.toNat)∧Be wr w')):=fun w' hb=>⟨(hb.cell (p:=⟨w.heap.size,0,none⟩) sg).trans g0,(hb.cell (p:=⟨b3,off3+k*3,none⟩) su).trans u0,(hb.cell (p:=⟨b3,off3+k*3+1,none⟩) su).trans u1,(hb.cell (p:=⟨b3,off3+k*3+2,none⟩) su).trans u2,hb⟩;go_cut [6] (fun s6 wx=>∃ g2,s6=.pointer (some ⟨g2,0,none⟩)∧Hid (Arr wx g2 [.int .u8 y.id.pid.author.toNat,.int .u16 y.id.pid.seq.toNat,.int .u8 y.id.n.toNat,.int .u8 y.kind.toNat,.int .u8 y.file.pid.author.toNat,.int .u16 y.file.pid.seq.toNat,.int .u8 y.file.n.toNat,.string y.text,.bool y.dead])∧Hid (Be wr wx)∧wr.heap.size≤g2)
 case first =>
  go_region_held3 (fun w'=>w'.cell? ⟨w.heap.size,0,none⟩=some (.slice a xs.length cap)∧w'.cell? ⟨b3,off3+k*3,none⟩=some (.int .u8 u.pid.author.toNat)∧w'.cell? ⟨b3,off3+k*3+1,none⟩=some (.int .u16 u.pid.seq.toNat)∧w'.cell? ⟨b3,off3+k*3+2,none⟩=some (.int .u8 u.n.toNat)∧Be wr w') ((refine HS.o _ ?_;(with_reducible (first|exact(Below.refl _ _).drew|exact HBk.o|exact HBk.o.alloc HBk.o.size _|exact((Below.refl wr.heap.size wr).alloc (Nat.le_refl _) _).drew|exact(((((((((HBk.o.setCell (p:=⟨wr.heap.size,0,none⟩) (Nat.le_refl _) (.int .u8 y.id.pid.author.toNat)).setCell (p:=⟨wr.heap.size,1,none⟩) (Nat.le_refl _) (.int .u16 y.id.pid.seq.toNat)).setCell (p:=⟨wr.heap.size,2,none⟩) (Nat.le_refl _) (.int .u8 y.id.n.toNat)).setCell (p:=⟨wr.heap.size,3,none⟩) (Nat.le_refl _) (.int .u8 y.kind.toNat)).setCell (p:=⟨wr.heap.size,4,none⟩) (Nat.le_refl _) (.int .u8 y.file.pid.author.toNat)).setCell (p:=⟨wr.heap.size,5,none⟩) (Nat.le_refl _) (.int .u16 y.file.pid.seq.toNat)).setCell (p:=⟨wr.heap.size,6,none⟩) (Nat.le_refl _) (.int .u8 y.file.n.toNat)).setCell (p:=⟨wr.heap.size,7,none⟩) (Nat.le_refl _) (.string y.text)).setCell (p:=⟨wr.heap.size,8,none⟩) (Nat.le_refl _) (.bool y.dead))))))
   (first|(go_at_call 131;refine(rvert20_any _ xs u _ (HVr.o.over (by first|exact(Below.refl _ _).drew|exact((Below.refl wr.heap.size wr).alloc (Nat.le_refl _) _).drew)) HL4.o).mono ?_;rintro e w7 ⟨rfl,hb⟩;rw [HX.o,HY.o];have HBk:Hid (Be wr w7):=(by show Be wr w7;with_reducible (first|exact bov (Below.refl wr.heap.size wr).drew (Nat.le_refl _) hb|exact bov (((Below.refl wr.heap.size wr).alloc (Nat.le_refl _) _).drew) (Below.size (((Below.refl wr.heap.size wr).alloc (Nat.le_refl _) _).drew)) hb));have HBb:=Lh hb;obtain⟨hcc,hff⟩:=bcell hb;clear hb))
  ·
   rename_i J K hJ hK hHeld;clear hHeld;refine hK _ _ (Met.intro (hJ _ _ ?_))
   (repeat apply Exists.intro)
   refine⟨?_,rfl⟩;exact⟨_,rfl,Lh (anw _ _ _),Lh (HBk.o.alloc HBk.o.size _),HBk.o.size⟩
  rename_i J K hJ hK hHeld;clear hHeld;refine hK _ _ (Met.intro (hJ _ _ ?_))
  (repeat apply Exists.intro)
  refine⟨?_,rfl⟩;have HZ:Hid (Arr w7 wr.heap.size [.int .u8 0,.int .u16 0,.int .u8 0,.int .u8 0,.int .u8 0,.int .u16 0,.int .u8 0,.string ⟨#[]⟩,.bool false]):=(((anw wr #[.int .u8 0,.int .u16 0,.int .u8 0,.int .u8 0,.int .u8 0,.int .u16 0,.int .u8 0,.string ⟨#[]⟩,.bool false] 101).drew).over HBb.o);exact⟨_,rfl,Lh (((((((((HZ.o.set 0 (.int .u8 y.id.pid.author.toNat)).set 1 (.int .u16 y.id.pid.seq.toNat)).set 2 (.int .u8 y.id.n.toNat)).set 3 (.int .u8 y.kind.toNat)).set 4 (.int .u8 y.file.pid.author.toNat)).set 5 (.int .u16 y.file.pid.seq.toNat)).set 6 (.int .u8 y.file.n.toNat)).set 7 (.string y.text)).set 8 (.bool y.dead)),Lh (((((((((HBk.o.setCell (p:=⟨wr.heap.size,0,none⟩) (Nat.le_refl _) (.int .u8 y.id.pid.author.toNat)).setCell (p:=⟨wr.heap.size,1,none⟩) (Nat.le_refl _) (.int .u16 y.id.pid.seq.toNat)).setCell (p:=⟨wr.heap.size,2,none⟩) (Nat.le_refl _) (.int .u8 y.id.n.toNat)).setCell (p:=⟨wr.heap.size,3,none⟩) (Nat.le_refl _) (.int .u8 y.kind.toNat)).setCell (p:=⟨wr.heap.size,4,none⟩) (Nat.le_refl _) (.int .u8 y.file.pid.author.toNat)).setCell (p:=⟨wr.heap.size,5,none⟩) (Nat.le_refl _) (.int .u16 y.file.pid.seq.toNat)).setCell (p:=⟨wr.heap.size,6,none⟩) (Nat.le_refl _) (.int .u8 y.file.n.toNat)).setCell (p:=⟨wr.heap.size,7,none⟩) (Nat.le_refl _) (.string y.text)).setCell (p:=⟨wr.heap.size,8,none⟩) (Nat.le_refl _) (.bool y.dead)),Nat.le_refl _⟩
 obtain⟨g2,rfl,HA2,HBx,hg2⟩:=hcut;rename World=>w8;have HM8:=Lh (HM.o.over HBx.o);have hb8:=bvo hbl HBx.o;have hB8:=hb8.size;have hN8:(vsTo (patsOf xs) k).length+1≤1099511627776:=by omega
 clear u0 u1 u2 su g0 sg HS HM HGr;obtain⟨y0,y1,y2,y3,y4,y5,y6,y7,y8,sy⟩:=HA2.o.c9;go_wp2_with (at_builtin;refine apD slVert rfl _ _ rfl w2.heap.size _ _ (drf _) 1 _ _ _ HM8.o rfl rfl rfl rfl hN8 (by decide) hB8 ?_;intro v9 w9 ho9 hg9);go_roundw
 case rel=>exact⟨k+1,hlt,by go_num,(by show GOwn _ _ _ _ _ _ _;rw [HSu.o];exact GOwn.snoc ho9),bgr hb8 hB8 HM8.o hg9⟩
 simp [intOf];omega
end
section
def flTo(l:List VertM)(k:Nat):List VidM:=((l.take k).filter fun x=>decide (x.kind.toNat=1)).map (·.id)
theorem flTo_zero(l:List VertM):flTo l 0=[]:=rfl
theorem flTo_yes{l:List VertM}{k:Nat}{x:VertM}(h:l[k]? = some x)(h1:x.kind.toNat=1):flTo l (k+1)=flTo l k++[x.id]:=by unfold flTo;rw [take_succ' h,List.filter_append];simp [h1]
theorem flTo_no{l:List VertM}{k:Nat}{x:VertM}(h:l[k]? = some x)(h1:¬ x.kind.toNat=1):flTo l (k+1)=flTo l k:=by unfold flTo;rw [take_succ' h,List.filter_append];simp [h1]
theorem flTo_len(l:List VertM)(k:Nat):(flTo l k).length≤l.length:=by unfold flTo;rw [List.length_map];exact Nat.le_trans (List.length_filter_le _ _) (by rw [List.length_take];omega)
def FlIn(w2:World)(l:List VertM)(v3 v5:Value)(wr:World):Prop:=∃ k:Nat,k≤l.length∧v5=.int .i64 k∧Hid (GOwn encVid 3 74 wr w2.heap.size v3 (flTo l k))∧Be w2 wr
attribute [local irreducible] idsM vertsM flTo
theorem rfiles20_own(gv:Value)(xs:List LaidP)(w:World)(hv:Pats w gv xs)(hn:xs.length≤300)(hl:∀ x∈xs,x.p.ops.length≤260)(hil:(idsM (patsOf xs)).length≤100000)(hvl:(vertsM (patsOf xs)).length≤100000) :
  Calls Tryz.prog 164 #[rgV gv] w (OwnRes encVid 3 74 w (flTo (vertsM (patsOf xs)) (vertsM (patsOf xs)).length)):=by
 have HL:=Lh hl;have HV:=Lh hv;obtain⟨a,cap,rfl,h1,h2,hc⟩:=hv.1.at encPat_len;unfold maxLen at h2;have HC:=Lh hc;have HG:=Lh (anw w #[.slice a xs.length cap] 34);have HB:=Lh (bnew (w:=w) (.cells #[.slice a xs.length cap] 34));clear hv hc hl;unfold rgV;go_enter Tryz.func164,Tryz.ntmps164;go_upto_region 1 with fail;generalize (w.alloc (.cells #[.slice a xs.length cap] 34))=w0 at *;obtain⟨g0,sg⟩:=HG.o.c1;have HV0:=Lh (HV.o.over HB.o);go_upto_region 3 with(first|(go_at_call 167;(with_reducible refine(rverts20_any _ xs _ (HV0.o.over (Below.refl _ _)) hn HL.o hil).mono ?_);rintro e w2 ⟨u2,rfl,hu2,hb2⟩))
 generalize vertsM (patsOf xs)=l at *;obtain⟨a3,cap3,rfl,t1,t2,hc3⟩:=hu2.at encVert_len;unfold maxLen at t2;have HC3:=Lh hc3;have HB2:=Lh (bvo HB.o hb2);clear hu2 hc3 hb2 g0 sg;go_wp2;go_loopw [3,5] (fun v3 v5 wr=>FlIn w2 l v3 v5 wr) (fun _ v5 _=>l.length - (intOf v5).toNat)
 case atStart=>exact⟨0,by omega,rfl,(by show GOwn _ _ _ _ _ _ _;rw [flTo_zero];exact gown_nil _ _),Below.refl _ _⟩
 obtain⟨k,hk,rfl,HM,hbl⟩:=hrel;rename World=>wr;have hfl:=flTo_len l k;have hN:(flTo l k).length+1≤1099511627776:=by omega
 have hB2:=hbl.size
 by_cases hlt:k<l.length
 rotate_left
 ·
  obtain rfl:k=l.length:=by omega
  have HE:=HM.o;have HE2:=Lh (HE.base HB2.o.size);clear HE;clear HM;go_wp2;go_ret;exact⟨_,rfl,HE2.o,bvo HB2.o hbl⟩
 obtain⟨b3,off3,rfl,sb3,hcb⟩:=HC3.o.resolve_left (by omega);obtain⟨x,hx⟩:=gol hlt;have HX:=Lh hx;have HU:=Lh (hcb k x hx wr hbl);obtain⟨x0,x1,x2,x3,x4,x5,x6,x7,x8,su⟩:=rc9 HU.o;clear hcb hx
 by_cases h1:x.kind.toNat=1
 ·
  have e1:((x.kind.toNat:Int) == 1)=true:=by simp;omega
  have HN:=Lh (flTo_yes HX.o h1);clear h1;go_wp2_with (at_builtin;refine apD slVid rfl _ _ rfl w2.heap.size _ _ (drf _) 1 _ _ _ HM.o rfl rfl rfl rfl hN (by decide) hB2 ?_;intro v9 w9 ho9 hg9);go_roundw
  case rel=>exact⟨k+1,hlt,by go_num,(by show GOwn _ _ _ _ _ _ _;rw [HN.o];exact GOwn.snoc ho9),bgr hbl hB2 HM.o hg9⟩
  simp [intOf];omega
 have e1:((x.kind.toNat:Int) == 1)=false:=by simp;omega
 have HN:=Lh (flTo_no HX.o h1);clear h1;go_wp2;go_roundw
 case rel=>exact⟨k+1,hlt,by go_num,(by show GOwn _ _ _ _ _ _ _;rw [HN.o];exact HM.o),hbl⟩
 simp [intOf];omega
theorem rfiles20_any(gv:Value)(xs:List LaidP)(w:World)(hv:Pats w gv xs)(hn:xs.length≤300)(hl:∀ x∈xs,x.p.ops.length≤260)(hil:(idsM (patsOf xs)).length≤100000)(hvl:(vertsM (patsOf xs)).length≤100000) :
  Calls Tryz.prog 164 #[rgV gv] w (SetRes encVid 3 w (flTo (vertsM (patsOf xs)) (vertsM (patsOf xs)).length)):=
 (rfiles20_own gv xs w hv hn hl hil hvl).mono fun _ _ ⟨u,h1,h2,h3⟩=>⟨u,h1,h2.row,h3⟩
end
section
variable{l:List VertM}{k:Nat}{kd:UInt8}{x:VertM}{v:VidM}
def ofTo(l:List VertM)(v:VidM)(kd:UInt8)(k:Nat):List VertM:=(l.take k).filter fun x=>decide (x.kind=kd) && decide (x.file=v)
theorem ofTo_all(L:List PatchM)(v:VidM)(kd:UInt8):ofTo (vertsM L) v kd (vertsM L).length=ofM L v kd:=by unfold ofTo ofM;rw [List.take_length]
theorem ofTo_zero(l:List VertM)(v:VidM)(kd:UInt8):ofTo l v kd 0=[]:=rfl
theorem ofTo_yes(h:l[k]? = some x)(h1:x.kind=kd)(h2:x.file=v):ofTo l v kd (k+1)=ofTo l v kd k++[x]:=by unfold ofTo;rw [take_succ' h,List.filter_append];simp [h1,h2]
theorem ofTo_no1(h:l[k]? = some x)(h1:¬ x.kind=kd):ofTo l v kd (k+1)=ofTo l v kd k:=by unfold ofTo;rw [take_succ' h,List.filter_append];simp [h1]
theorem ofTo_no2(h:l[k]? = some x)(h1:¬ x.file=v):ofTo l v kd (k+1)=ofTo l v kd k:=by unfold ofTo;rw [take_succ' h,List.filter_append];simp [h1]
theorem ofTo_len(l:List VertM)(v:VidM)(kd:UInt8)(k:Nat):(ofTo l v kd k).length≤l.length:=by unfold ofTo;exact Nat.le_trans (List.length_filter_le _ _) (by rw [List.length_take];omega)
def OfIn(w2:World)(l:List VertM)(v:VidM)(kd:UInt8)(v7 v9:Value)(wr:World):Prop:=∃ k:Nat,k≤l.length∧v9=.int .i64 k∧Hid (GOwn encVert 9 101 wr w2.heap.size v7 (ofTo l v kd k))∧Be w2 wr
attribute [local irreducible] idsM vertsM ofTo
theorem rof20_any(gv:Value)(xs:List LaidP)(v:VidM)(kd:UInt8)(w:World)(hv:Pats w gv xs)(hn:xs.length≤300)(hl:∀ x∈xs,x.p.ops.length≤260)(hil:(idsM (patsOf xs)).length≤100000)(hvl:(vertsM (patsOf xs)).length≤100000) :
  Calls Tryz.prog 99 #[rgV gv,vidV v,.int .u8 kd.toNat] w (SetRes encVert 9 w (ofM (patsOf xs) v kd)):=by
 rw [← ofTo_all];have HL:=Lh hl;have gd:=fun p q xs ys w=>guard_vid .eql p q xs ys w;have HV:=Lh hv;obtain⟨a,cap,rfl,h1,h2,hc⟩:=hv.1.at encPat_len;unfold maxLen at h2;have HC:=Lh hc;have HG:=Lh ((anw w #[.slice a xs.length cap] 34).alloc (.cells (cV v) 74));have HQ:=Lh (an2 w (.cells #[.slice a xs.length cap] 34) (cV v) 74);have HB:=Lh ((bnew (w:=w) (.cells #[.slice a xs.length cap] 34)).alloc (by simp) (.cells (cV v) 74));clear hv hc hl;unfold rgV vidV;go_enter Tryz.func99,Tryz.ntmps99;go_upto_region 1 with fail;generalize (w.alloc (.cells #[.slice a xs.length cap] 34)).alloc (.cells (cV v) 74)=w0 at *;obtain⟨g0,sg⟩:=HG.o.c1;have HV0:=Lh (HV.o.over HB.o);go_upto_region 3 with(first|(go_at_call 167;(with_reducible refine(rverts20_any _ xs _ (HV0.o.over (Below.refl _ _)) hn HL.o hil).mono ?_);rintro e w2 ⟨u2,rfl,hu2,hb2⟩))
 generalize vertsM (patsOf xs)=l at *;obtain⟨a3,cap3,rfl,t1,t2,hc3⟩:=hu2.at encVert_len;unfold maxLen at t2;have HC3:=Lh hc3;have HB2:=Lh (bvo HB.o hb2);have HQ2:=Lh (HQ.o.over hb2);clear hu2 hc3 hb2 g0 sg;go_wp2;go_loopw [7,9] (fun v7 v9 wr=>OfIn w2 l v kd v7 v9 wr) (fun _ v9 _=>l.length - (intOf v9).toNat)
 case atStart=>exact⟨0,by omega,rfl,(by show GOwn _ _ _ _ _ _ _;rw [ofTo_zero];exact gown_nil _ _),Below.refl _ _⟩
 obtain⟨k,hk,rfl,HM,hbl⟩:=hrel;rename World=>wr;have hfl:=ofTo_len l v kd k;have hN:(ofTo l v kd k).length+1≤1099511627776:=by omega
 have hB2:=hbl.size;have HQr:=Lh (HQ2.o.over hbl);obtain⟨q0,q1,q2,sq⟩:=HQr.o.c3
 by_cases hlt:k<l.length
 rotate_left
 ·
  obtain rfl:k=l.length:=by omega
  have HE2:=Lh HM.o.row;clear HM;go_wp2;go_ret;exact⟨_,rfl,HE2.o,bvo HB2.o hbl⟩
 obtain⟨b3,off3,rfl,sb3,hcb⟩:=HC3.o.resolve_left (by omega);obtain⟨x,hx⟩:=gol hlt;have HX:=Lh hx;have HU:=Lh (hcb k x hx wr hbl);obtain⟨x0,x1,x2,x3,x4,x5,x6,x7,x8,su⟩:=rc9 HU.o;clear hcb hx
 by_cases h1:x.kind=kd
 rotate_left
 ·
  have e1:((x.kind.toNat:Int) == (kd.toNat:Int))=false:=by simp;intro h;exact h1 (UInt8.toNat_inj.1 (by omega))
  have HN:=Lh (ofTo_no1 (v:=v) HX.o h1);clear h1;go_wp2_with fail;refine wlo 16 fun hcur=>?_;repeat refine lxq ?_
  refine lxe ?_;clear hcur;go_wp2;go_roundw
  case rel=>exact⟨k+1,hlt,by go_num,(by show GOwn _ _ _ _ _ _ _;rw [HN.o];exact HM.o),hbl.drew⟩
  simp [intOf];omega
 have e1:((x.kind.toNat:Int) == (kd.toNat:Int))=true:=by simp [h1]
 by_cases h2:x.file=v
 ·
  have e2:=eql_vid x.file v true (by simp [h2]);unfold vidV at e2;have HN:=Lh (ofTo_yes HX.o h1 h2);clear h1 h2;go_wp2_with fail;refine wlo 16 fun hcur=>?_;repeat refine lxq ?_
  refine lxe ?_;clear hcur;go_wp2_with (at_builtin;refine apD slVert rfl _ _ rfl w2.heap.size _ _ (dad _ _ _) 1 _ _ _ HM.o rfl rfl rfl rfl hN (by decide) hB2 ?_;intro v9 w9 ho9 hg9);go_roundw
  case rel=>exact⟨k+1,hlt,by go_num,(by show GOwn _ _ _ _ _ _ _;rw [HN.o];exact GOwn.snoc ho9),bgr hbl hB2 HM.o hg9⟩
  simp [intOf];omega
 have e2:=eql_vid x.file v false (by simp [h2]);unfold vidV at e2;have HN:=Lh (ofTo_no2 (kd:=kd) HX.o h2);clear h1 h2;go_wp2_with fail;refine wlo 16 fun hcur=>?_;repeat refine lxq ?_
 refine lxe ?_;clear hcur;go_wp2;go_roundw
 case rel=>exact⟨k+1,hlt,by go_num,(by show GOwn _ _ _ _ _ _ _;rw [HN.o];exact HM.o),hbl.drew⟩
 simp [intOf];omega
end
section
variable{L:List PatchM}
def OrdL(L:List PatchM):Prop:=∀ k p,L[k]? = some p→goodP p=true∧nextM (L.take k) p.id.author=p.id
theorem ord_nil:OrdL []:=fun k p h=>by simp at h
theorem ord_apply(h:OrdL L)(p:PatchM):OrdL (applyM L p):=by
 unfold applyM
 by_cases hc:checkM L p=0
 ·
  rw [if_pos hc];have hok:=check_ok hc;intro k q hq
  by_cases hk:k<L.length
  · rw [List.getElem?_append_left hk] at hq;rw [List.take_append_of_le_length (by omega)];exact h k q hq
  have hk2:k=L.length:=by have:=(List.getElem?_eq_some_iff.1 hq).1;simp at this;omega
  subst hk2;rw [List.getElem?_append_right (Nat.le_refl _)] at hq;simp at hq;subst hq;rw [List.take_append_of_le_length (Nat.le_refl _),List.take_length];exact⟨hok.good,hok.next⟩
 rw [if_neg hc];exact h
theorem ord_foldl:∀(l:List PatchM) {L:List PatchM},OrdL L→OrdL (l.foldl applyM L)
 | [],_,h=>h
 | p :: l,_,h=>ord_foldl l (ord_apply h p)
theorem ord_build(l:List PatchM):OrdL (buildM l):=ord_foldl l ord_nil
theorem ord_step(h:OrdL L){k:Nat}{p:PatchM}(hp:L[k]? = some p):authorOk p.id.author=true∧nextF (vecM (L.take k)) p.id.author=p.id∧setV (vecM (L.take k)) p.id.author p.id.seq.toNat=vecM (L.take (k+1)):=by
 obtain⟨hg,hn⟩:=h k p hp;obtain⟨h1,_,h3⟩:=next_parts (goodP_id hg) hn;refine⟨h1,hn,?_⟩;rw [take_succ' hp];funext a;rw [vecM_snoc];unfold setV
 by_cases ha:a=p.id.author
 · subst ha;rw [if_pos rfl,if_pos rfl,h3]
 rw [if_neg ha,if_neg (fun e=>ha e.symm)];rfl
theorem vec_take_le(hw:WfG L)(k:Nat)(a:UInt8):vecM (L.take k) a≤60000:=by refine Nat.le_trans ?_ (hw.vec a);unfold vecM;exact List.Sublist.length_le ((List.take_sublist k L).filter _)
theorem flTo_all(L:List PatchM):flTo (vertsM L) (vertsM L).length=filesM L:=by
 unfold flTo filesM;rw [List.take_length];have:(fun x:VertM=>decide (x.kind.toNat=1))=fun x=>decide (x.kind=1):=by funext x;rw [Bool.eq_iff_iff,decide_eq_true_iff,decide_eq_true_iff];exact⟨fun h=>(u8_nat x.kind 1 (by omega)).2 h,fun h=>by rw [h];rfl⟩
 rw [this]
end
variable{w:World}
theorem arr_setCells:∀(vs pre zs:List Value) (w:World) (b o:Nat),Arr w b (pre++zs)→zs.length=vs.length→o=pre.length→Arr (w.setCells b o vs) b (pre++vs)
 | [],pre,zs,w,b,o,h,hl,_=>by have:zs=[]:=List.eq_nil_of_length_eq_zero hl;subst this;exact h
 | v :: vs,pre,[],w,b,o,h,hl,_=>by simp at hl
 | v :: vs,pre,z :: zs,w,b,o,h,hl,ho=>by subst ho;have h1:=h.set pre.length v;rw [List.set_append_right _ _ (Nat.le_refl _),Nat.sub_self,List.set_cons_zero] at h1;have h2:=arr_setCells vs (pre++[v]) zs (w.setCell ⟨b,pre.length,none⟩ v) b (pre.length+1) (by rw [List.append_assoc];exact h1) (by simpa using hl) (by simp);rw [List.append_assoc] at h2;exact h2
theorem arr_put0{g:Nat}{zs vs:List Value}(h:Arr w g zs)(hl:zs.length=vs.length):Arr (w.setCells g 0 vs) g vs:=arr_setCells vs [] zs w g 0 h hl rfl
theorem below_setCells:∀(vs:List Value) {B:Nat} {w0 w:World} {b:Nat} (o:Nat),Below B w0 w→B≤b→Below B w0 (w.setCells b o vs)
 | [],_,_,_,_,_,h,_=>h
 | v :: vs,B,w0,w,b,o,h,hb=>below_setCells vs (o+1) (h.setCell (p:=⟨b,o,none⟩) hb v) hb
theorem Arr.range{b:Nat}{cs:List Value}(h:Arr w b cs):w.rangeAt b 0 cs:=fun j v hv=>by rw [Nat.zero_add];exact h.cell hv
theorem Arr.there{b:Nat}{cs:List Value}(h:Arr w b cs):w.there b 0 cs.length:=fun j hj=>by rw [Nat.zero_add];exact⟨by rw [h.cell (List.getElem?_eq_getElem hj)];rfl,h.free j⟩
theorem infoVec(f:VecM):(Tryz.prog.info? 54).map (·.size)=some (vecL f).length:=by rw [vecL_len];kernel_rfl
theorem underVec:Tryz.prog.underlying 54=some (.array 64 23):=Tryz.underlying54
theorem oneVec(f:VecM):∀ v∈vecL f,v.oneCell'=true:=fun v hv=>List.all_eq_true.1 (vecL_one f) v hv
def VcRel(w w0:World)(xs:List LaidP)(zs:List Value)(a:Option Addr)(cap:Nat)(v4:Value)(wr:World):Prop:=
 ∃ k:Nat,k≤xs.length∧v4=.int .i64 k∧Hid (Arr wr (w.heap.size+1+1) (vecL (vecM ((patsOf xs).take k))))∧Hid (Arr wr (w.heap.size+1) zs)∧Hid (Arr wr w.heap.size [.slice a xs.length cap])∧Hid (Be w wr)
attribute [local irreducible] vecL authorOk numM nextF vecM
theorem rvec20_any(gv:Value)(xs:List LaidP)(w:World)(hv:Pats w gv xs)(hn:xs.length≤300)(ho:OrdL (patsOf xs))(hw:WfG (patsOf xs)) :
  Calls Tryz.prog 51 #[rgV gv] w fun e w'=>e=.returned (vecV (vecM (patsOf xs)))∧Be w w':=by
 have HV:=Lh hv;have HO:=Lh ho;have HW:=Lh hw;have HIV:=Lh infoVec;have HUV:=Lh underVec;obtain⟨a,cap,rfl,h1,h2,hc⟩:=hv.1.at encPat_len;unfold maxLen at h2;have HC:=Lh hc;clear hv hc ho hw;unfold rgV;go_enter Tryz.func51,Tryz.ntmps51;go_upto_region 2 with fail;refine code_gen (fun w0=>∃ zs:List Value,zs.length=64∧Arr w0 (w.heap.size+1) zs∧Arr w0 (w.heap.size+1+1) (vecL (fun _=>0))∧Arr w0 w.heap.size [.slice a xs.length cap]∧Be w w0)
  (by
   refine⟨_,?_,(an2 w (.cells #[.slice a xs.length cap] 34) _ _).alloc _,?_,((anw w #[.slice a xs.length cap] _).alloc _).alloc _,((bnew (w:=w) _).alloc (by simp) _).alloc (by simp;omega) _⟩
   rotate_left
   ·
    rw [vecL_zero];exact arr_new3 w (.cells #[.slice a xs.length cap] 34) _ _ _
   ·
    rfl) ?_
 rintro w0 ⟨zs,hzl,hR,hZ,hA,hB⟩;have HR:=Lh hR;have HZ:=Lh hZ;have HA:=Lh hA;have HB:=Lh hB;have HZL:=Lh hzl;clear hR hZ hA hB hzl;go_wp2;go_loopw [4] (fun v4 wr=>VcRel w w0 xs zs a cap v4 wr) (fun v4 _=>xs.length - (intOf v4).toNat)
 case atStart=>exact⟨0,Nat.zero_le _,rfl,(by show Arr _ _ _;rw [List.take_zero,vecM_nil];exact HZ.o),HR,HA,HB⟩
 obtain⟨k,hk,rfl,HF,HR1,HA1,HBr⟩:=hrel;rename World=>wr;obtain⟨g0,sg⟩:=HA1.o.c1;have sf:=HF.o.lt
 by_cases hlt:k<xs.length
 rotate_left
 ·
  obtain rfl:k=xs.length:=by omega
  have HFe:Hid (Arr wr (w.heap.size+1+1) (vecL (vecM (patsOf xs)))):=by have:=HF.o;rw [List.take_of_length_le (by unfold patsOf;rw [List.length_map];exact Nat.le_refl _)] at this;exact this
  generalize hf:vecM (patsOf xs)=f at *;clear HF;go_wp2_with (first|(refine wpList_load_arr rowVec rfl _ rfl _ _ HFe.o rfl (vecL_len _) ?_)|(refine wpList_put_arr rowVec rfl _ _ rfl _ _ _ HR1.o rfl rfl HZL.o (vecL_len _) (vecL_one _) ?_;intro w9 HV9 ho9 hb9 hs9;clear hs9));exact bodyPost_ret (v:=.agg (vecL f).toArray) (results_arr rowVec rfl HV9 rfl (vecL_len _)) rfl ⟨by rw [hf],hb9 _ _ (by show w.heap.size≤w.heap.size+1;omega) HBr.o⟩
 obtain⟨bo,off,rfl,sb,hcb⟩:=HC.o.resolve_left (by omega);obtain⟨x,hx⟩:=gol hlt;have hpx:(patsOf xs)[k]? = some x.p:=by unfold patsOf;rw [List.getElem?_map,hx];rfl
 obtain⟨ha,hp,hs⟩:=ord_step HO.o hpx;have HS1:=Lh hs;have HLe:=Lh (vec_take_le HW.o k);have HX:=Lh (hcb k x hx wr HBr.o);obtain⟨x0,x1,sx⟩:=rc2 HX.o;generalize vecM ((patsOf xs).take k)=f at *;generalize hf':setV f x.p.id.author x.p.id.seq.toNat=f' at *;have HPut:Hid (∀ W,Calls Tryz.prog 112 #[.agg (vecL f).toArray,.agg (cP x.p.id)] W fun e w'=>e=.returned (.tuple #[.agg (vecL f').toArray,.bool true])∧Be W w'):=Lh fun W=>by refine(rput_any f HLe.o x.p.id W ha hp).mono ?_;rintro e w' ⟨rfl,hb⟩;rw [hf'];exact⟨rfl,hb⟩
 clear hcb hx hpx ha hp hs hf';have hu:=HUV.o;have hi1:=HIV.o f;have hi2:=HIV.o f';have ho2:=oneVec f';have hlen:(vecL f').length=64:=vecL_len f';have HLen:=Lh hlen;clear hlen;have HKS:Hid (∀ w':World,Be wr w'→(w'.cell? ⟨w.heap.size,0,none⟩=some (.slice (some ⟨bo,off,none⟩) xs.length cap)∧w'.cell? ⟨bo,off+k*4,none⟩=some (.int .u8 x.p.id.author.toNat)∧w'.cell? ⟨bo,off+k*4+1,none⟩=some (.int .u16 x.p.id.seq.toNat)∧w'.rangeAt (w.heap.size+1+1) 0 (vecL f)∧Be wr w')):=fun w' hb=>⟨(hb.cell (p:=⟨w.heap.size,0,none⟩) sg).trans g0,(hb.cell (p:=⟨bo,off+k*4,none⟩) sx).trans x0,(hb.cell (p:=⟨bo,off+k*4+1,none⟩) sx).trans x1,(HF.o.over hb).range,hb⟩;go_upto_region 5 with fail;go_cut [5] (fun s5 wx=>∃ g5,s5=.pointer (some ⟨g5,0,none⟩)∧Hid (Arr wx g5 (vecL f'))∧Hid (Be wr wx)∧wr.heap.size≤g5)
 case first =>
  go_region_held3 (fun w'=>w'.cell? ⟨w.heap.size,0,none⟩=some (.slice (some ⟨bo,off,none⟩) xs.length cap)∧w'.cell? ⟨bo,off+k*4,none⟩=some (.int .u8 x.p.id.author.toNat)∧w'.cell? ⟨bo,off+k*4+1,none⟩=some (.int .u16 x.p.id.seq.toNat)∧w'.rangeAt (w.heap.size+1+1) 0 (vecL f)∧Be wr w') ((refine HKS.o _ ?_;(with_reducible (first|exact(Below.refl _ _).drew|exact HBk.o|exact HBk.o.alloc HBk.o.size _|exact((Below.refl wr.heap.size wr).alloc (Nat.le_refl _) _).drew|exact below_setCells _ _ (HBk.o.alloc HBk.o.size _) HBk.o.size|exact below_setCells _ _ HBk.o (Nat.le_refl _)))))
   (first|(go_at_call 112;refine(HPut.o _).mono ?_;rintro e w7 ⟨rfl,hb⟩;have HBk:Hid (Be wr w7):=(by show Be wr w7;with_reducible (first|exact bov (Below.refl wr.heap.size wr).drew (Nat.le_refl _) hb|exact bov (((Below.refl wr.heap.size wr).alloc (Nat.le_refl _) _).drew) (Below.size (((Below.refl wr.heap.size wr).alloc (Nat.le_refl _) _).drew)) hb));have HBb:=Lh hb;(have hT1:(w7.alloc (.cells (List.replicate 64 (.int .u16 0)).toArray 54)).there w7.heap.size 0 (vecL f').length:=(by rw [HLen.o];exact(anw w7 _ _).there));(try(have hT2:w7.there wr.heap.size 0 (vecL f').length:=(by rw [HLen.o];exact(((anw wr _ _).drew.over hb)).there)));clear hb))
  ·
   rename_i J K hJ hK hHeld;clear hHeld;refine hK _ _ (Met.intro (hJ _ _ ?_))
   (repeat apply Exists.intro)
   refine⟨?_,rfl⟩;exact⟨_,rfl,Lh (arr_put0 (anw w7 _ _) (by rw [HLen.o];rfl)),Lh (below_setCells _ _ (HBk.o.alloc HBk.o.size _) HBk.o.size),HBk.o.size⟩
  rename_i J K hJ hK hHeld;clear hHeld;refine hK _ _ (Met.intro (hJ _ _ ?_))
  (repeat apply Exists.intro)
  refine⟨?_,rfl⟩;exact⟨_,rfl,Lh (arr_put0 ((anw wr _ _).drew.over HBb.o) (by rw [HLen.o];rfl)),Lh (below_setCells _ _ HBk.o (Nat.le_refl _)),Nat.le_refl _⟩
 obtain⟨g5,rfl,HA8,HBx,hg5⟩:=hcut;rename World=>w8;have HV8:=Lh (HF.o.over HBx.o);have HR8:=Lh (HR1.o.over HBx.o);have HG8:=Lh (HA1.o.over HBx.o);have HB8:=Lh (bvo HBr.o HBx.o);clear x0 x1 sx g0 sg HKS hu hi1 hi2 ho2 HPut;go_wp2_with (first|(refine wpList_load_arr rowVec rfl _ rfl _ _ HA8.o rfl (vecL_len _) ?_)|(refine wpList_put_arr rowVec rfl _ _ rfl _ _ _ HV8.o rfl rfl (vecL_len _) (vecL_len _) (vecL_one _) ?_;intro w9 HV9 ho9 hb9 hs9;clear hs9));go_roundw
 case rel=>exact⟨k+1,hlt,by go_num,(by show Arr _ _ _;rw [← HS1.o];exact HV9),Lh (ho9 _ _ (by omega) HR8.o),Lh (ho9 _ _ (by omega) HG8.o),Lh (hb9 _ _ (by show w.heap.size≤w.heap.size+1+1;omega) HB8.o)⟩
 simp [intOf];omega
end Go.Proofs.YtjccmcgglfncdaaGreatDoor
namespace Go.Proofs.YtjccmcgglfncdaaGreatDoor
open Go Go.RowKit
variable{L:List PatchM}{cs xs:List Value}{B k n sz:Nat}{o:OpM}{p:PatchM}{e:TypeId}{v v1:Value}{x:VertM}{w:World}
section
variable {P : Program} {t e : TypeId} {size bytes : Nat} {w : World} {o : Oper} {a : Act} {K : Act → World → Prop} {Q : Exit → Act → World → Prop}
theorem wp_append_rowAt(T:SlT P t e size bytes)(s x:Operand)
  (ho:o.op=.call {callee:=.builtin .append,args:=#[s,x],argTypes:=#[t,t]})
  (base:Nat) (v:Value) (n:Nat) (xs:List Value) (hown:w.ownsRow base e size v n xs) (hs:a.eval s=v)
  (vx:Value) (m:Nat) (news:List Value) (hrow:Row w vx m size news) (hx:a.eval x=vx) (h1:∀ u∈news,u.oneCell'=true)
  (hN:n+m≤1099511627776) (hby:bytes≤128) (hbase:base≤w.heap.size)
  (h:∀ v' w',w'.ownsRow base e size v' (n+m) (xs++news)→w.grownBy w' v.ownBlock→(v'.ownBlock=v.ownBlock∨v'.ownBlock=some w.heap.size)→K (a.put o.dst v') w'):o.wp P a w K Q:=by obtain⟨v',w',hr,h2,h3,h4⟩:=run_append_rowAt T o.type base v n xs hown vx m news hrow h1 hN hby hbase;unfold Oper.wp execOp;simp only [ho,resolve,invoke,builtin,Sem.run_bind,Sem.run_pure,Result.andThen_ok,List.map_toArray,List.map_cons,List.map_nil,hs,hx,hr];exact h v' w' h2 h3 h4
end
theorem keep1{w1:World}{b:Nat}(hv:v.ownBlock=some b)(hg:w.grownBy w1 v.ownBlock)(hb:v1.ownBlock=v.ownBlock∨v1.ownBlock=some w.heap.size) :
  ∀ k,k<w.heap.size→k≠b→w1.heap[k]? = w.heap[k]? ∧ v1.ownBlock≠some k:=fun k hk hne=>by
 rw [hv] at hg hb;refine⟨hg.block k hk (fun e=>hne (Option.some.inj e)),fun e => ?_⟩;rcases hb with hb|hb
 · rw [hb] at e;exact hne (Option.some.inj e).symm
 · rw [hb] at e;have:=Option.some.inj e;omega
theorem keep_arr{w1:World}{b:Nat}(h:∀ k,k<w.heap.size→k≠b→w1.heap[k]? = w.heap[k]? ∧ v1.ownBlock≠some k)(hA:Arr w k cs)(hne:k≠b):Arr w1 k cs∧v1.ownBlock≠some k:=by have h1:=h k hA.lt hne;obtain⟨e,he⟩:=hA;exact⟨⟨e,h1.1.trans he⟩,h1.2⟩
theorem keep_arr2{w2:World}{v2:Value}(hg:w.grownBy w2 v1.ownBlock)(hb:v2.ownBlock=v1.ownBlock∨v2.ownBlock=some w.heap.size)(hA:Arr w k cs)(hn:v1.ownBlock≠some k):Arr w2 k cs∧v2.ownBlock≠some k:=by
 have hk:=hA.lt;obtain⟨e,he⟩:=hA;refine⟨⟨e,(hg.block k hk (fun q=>hn q.symm)).trans he⟩,fun q => ?_⟩;rcases hb with hb|hb
 · rw [hb] at q;exact hn q
 rw [hb] at q;have:=Option.some.inj q;omega
theorem own_lt_size(h:w.ownsRow B e sz v n xs)(hk:v.ownBlock=some k):k<w.heap.size:=by
 rcases h.2 with⟨rfl,_⟩|⟨g,cap,cur,rfl,_,hg,_⟩
 · cases hk
 cases hk;exact(Array.getElem?_eq_some_iff.1 hg).1
theorem own_ne(h:w.ownsRow B e sz v n xs)(hk:w.heap.size≤k):v.ownBlock≠some k:=fun q=>by have:=own_lt_size h q;omega
theorem own_lit0(w:World)(e:TypeId)(sz B:Nat)(hB:B≤w.heap.size):(w.alloc (.cells #[] e)).ownsRow B e sz (.slice (some ⟨w.heap.size,0,none⟩) 0 0) 0 []:=
 World.ownsRow_lit w #[] 0 hB (Nat.zero_le _) (by simp)
theorem row_arr(h:Arr w k cs)(hl:cs.length=sz):Row w (.slice (some ⟨k,0,none⟩) 1 1) 1 sz cs:=by obtain⟨e,he⟩:=h;exact own_row (base:=0) (e:=e) ⟨by omega,.inr ⟨k,1,cs.toArray,rfl,Nat.zero_le _,he,Nat.le_refl _,by decide,by simp;omega,by rw [Nat.one_mul,← hl,List.take_of_length_le (Nat.le_refl _)]⟩⟩
theorem own_set(h:w.ownsRow B e sz v n xs)(hk:v.ownBlock≠some k)(u:Value)(j:Nat):(w.setCell ⟨k,j,none⟩ u).ownsRow B e sz v n xs:=by
 obtain⟨h1,h2⟩:=h;refine⟨h1,?_⟩;rcases h2 with h2|⟨g,cap,cur,rfl,h3,hg,h4⟩
 · exact .inl h2
 refine .inr ⟨g,cap,cur,rfl,h3,?_,h4⟩;have hne:k≠g:=fun q=>hk (by rw [q];rfl);rw [← hg];unfold World.setCell;split <;> simp [Array.getElem?_modify,hne]
theorem refMet_1(h:o.kind.toNat=1):refMet L o=true:=by have:o.kind=1:=(u8_nat o.kind 1 (by omega)).2 h;unfold refMet;rw [if_pos this]
theorem isKind_none{v:VidM}(k:UInt8)(h:vertM L v=none):isKind L v k=false:=by unfold isKind;rw [h]
theorem isKind_some{v:VidM}(k:UInt8)(h:vertM L v=some x):isKind L v k=(x.kind == k):=by unfold isKind;rw [h]
theorem refMet_none(h:¬ o.kind.toNat=1)(hA:vertM L o.at'=none):refMet L o=false:=by
 have h1:¬ o.kind=1:=fun e=>h (by rw [e];rfl);unfold refMet;rw [if_neg h1];split
 · exact isKind_none 1 hA
 split
 · rw [isKind_none 3 hA];rfl
 rw [hA];rfl
theorem refMet_23(h:o.kind.toNat=2∨o.kind.toNat=3)(hA:vertM L o.at'=some x):refMet L o=decide (x.kind.toNat=1):=by
 have h1:¬ o.kind=1:=fun e=>by have:o.kind.toNat=1:=(by rw [e];rfl);omega
 have h2:o.kind=2∨o.kind=3:=h.imp (fun h=>(u8_nat o.kind 2 (by omega)).2 h) (fun h=>(u8_nat o.kind 3 (by omega)).2 h);unfold refMet;rw [if_neg h1,if_pos h2,isKind_some 1 hA,Bool.eq_iff_iff,decide_eq_true_iff,beq_iff_eq];exact u8_nat x.kind 1 (by omega)
theorem refMet_4(h:o.kind.toNat=4):refMet L o=(isKind L o.at' 3 && (isKind L o.to 3 && decide ((optV (vertM L o.at')).file=(optV (vertM L o.to)).file))):=by
 have h4:o.kind=4:=(u8_nat o.kind 4 (by omega)).2 h;have h1:¬ o.kind=1:=fun e=>by rw [h4] at e;exact absurd e (by decide)
 have h2:¬ (o.kind=2∨o.kind=3):=fun e=>by rw [h4] at e;exact absurd e (by decide)
 unfold refMet;rw [if_neg h1,if_neg h2,if_pos h4];cases hA:vertM L o.at' with
 | none=>rw [isKind_none 3 hA];rfl
 | some x =>
  cases hB:vertM L o.to with
  | none=>rw [isKind_none 3 hB];simp
  | some y =>simp only [Option.map_some,Option.some.injEq];rfl
theorem refMet_else(h2:¬ o.kind.toNat=2)(h3:¬ o.kind.toNat=3)(h4:¬ o.kind.toNat=4)(hA:vertM L o.at'=some x):refMet L o=true:=by
 by_cases h:o.kind.toNat=1
 · exact refMet_1 h
 unfold refMet;rw [if_neg (fun e=>h (by rw [e];rfl)),if_neg (fun e=>by rcases e with e|e <;> rw [e] at h2 h3 <;> first|exact h2 rfl|exact h3 rfl),if_neg (fun e=>h4 (by rw [e];rfl)),hA];rfl
theorem check_1(h:goodP p=false):checkM L p=1:=by unfold checkM;rw [if_pos h]
theorem check_7(h:goodP p=true)(h2:hasM L p.id=true):checkM L p=7:=by unfold checkM;rw [if_neg (by simp [h]),if_pos h2]
theorem check_9(h:goodP p=true)(h2:hasM L p.id=false)(h3:¬ nextM L p.id.author=p.id):checkM L p=9:=by unfold checkM;rw [if_neg (by simp [h]),if_neg (by simp [h2]),if_pos h3]
theorem check_9d(h:goodP p=true)(h2:hasM L p.id=false)(h3:nextM L p.id.author=p.id){d:PidM}(hd:d∈p.deps)(h4:hasM L d=false):checkM L p=9:=by unfold checkM;rw [if_neg (by simp [h]),if_neg (by simp [h2]),if_neg (by simp [h3]),if_pos];rw [← Bool.not_eq_true,List.all_eq_true];exact fun q=>by rw [q d hd] at h4;cases h4
theorem check_10(h:goodP p=true)(h2:hasM L p.id=false)(h3:nextM L p.id.author=p.id)(h4:(p.deps.all fun d=>hasM L d)=true)(ho:o∈p.ops)(h5:refMet (L++[p]) o=false):checkM L p=10:=by unfold checkM;rw [if_neg (by simp [h]),if_neg (by simp [h2]),if_neg (by simp [h3]),if_neg (by simp only [h4];decide),if_pos];rw [← Bool.not_eq_true,List.all_eq_true];exact fun q=>by rw [q o ho] at h5;cases h5
theorem check_0(h:goodP p=true)(h2:hasM L p.id=false)(h3:nextM L p.id.author=p.id)(h4:(p.deps.all fun d=>hasM L d)=true)(h5:(p.ops.all fun o=>refMet (L++[p]) o)=true):checkM L p=0:=by unfold checkM;rw [if_neg (by simp [h]),if_neg (by simp [h2]),if_neg (by simp [h3]),if_neg (by simp only [h4];decide),if_neg (by simp only [h5];decide)]
theorem all_step{α:Type}{f:α→Bool}{l:List α}{x:α}(h:(l.take k).all f=true)(hx:l[k]? = some x)(hf:f x=true):(l.take (k+1)).all f=true:=by rw [take_succ' hx,List.all_append,h];simp [hf]
theorem own_d1(w:World)(e:TypeId)(sz:Nat):(w.alloc (.cells #[] e)).drew.ownsRow w.heap.size e sz (.slice (some ⟨w.heap.size,0,none⟩) 0 0) 0 []:=own_lit0 w e sz w.heap.size (Nat.le_refl _)
theorem own_d1a(w:World)(e:TypeId)(sz:Nat)(o:Obj):((w.alloc (.cells #[] e)).alloc o).drew.ownsRow w.heap.size e sz (.slice (some ⟨w.heap.size,0,none⟩) 0 0) 0 []:=(own_lit0 w e sz w.heap.size (Nat.le_refl _)).alloc o
theorem own_d1b(w:World)(e:TypeId)(sz:Nat)(o o':Obj):(((w.alloc (.cells #[] e)).alloc o).alloc o').drew.ownsRow w.heap.size e sz (.slice (some ⟨w.heap.size,0,none⟩) 0 0) 0 []:=((own_lit0 w e sz w.heap.size (Nat.le_refl _)).alloc o).alloc o'
theorem own_d2(w:World)(o:Obj)(e:TypeId)(sz:Nat):((w.alloc o).alloc (.cells #[] e)).drew.ownsRow w.heap.size e sz (.slice (some ⟨w.heap.size+1,0,none⟩) 0 0) 0 []:=by
 have:=own_lit0 (w.alloc o) e sz w.heap.size (by simp);have h2:((w.alloc o).alloc (.cells #[] e)).ownsRow w.heap.size e sz (.slice (some ⟨w.heap.size+1,0,none⟩) 0 0) 0 []:=by simpa using this
 exact h2
theorem own_d2a(w:World)(o:Obj)(e:TypeId)(sz:Nat)(o':Obj):(((w.alloc o).alloc (.cells #[] e)).alloc o').drew.ownsRow w.heap.size e sz (.slice (some ⟨w.heap.size+1,0,none⟩) 0 0) 0 []:=World.ownsRow.alloc (w:=((w.alloc o).alloc (.cells #[] e)).drew) (own_d2 w o e sz) o'
theorem own_d3(w:World)(o o':Obj)(e:TypeId)(sz:Nat):(((w.alloc o).alloc o').alloc (.cells #[] e)).drew.ownsRow w.heap.size e sz (.slice (some ⟨w.heap.size+1+1,0,none⟩) 0 0) 0 []:=by
 have:=own_lit0 ((w.alloc o).alloc o') e sz w.heap.size (by simp;omega);have h2:(((w.alloc o).alloc o').alloc (.cells #[] e)).ownsRow w.heap.size e sz (.slice (some ⟨w.heap.size+1+1,0,none⟩) 0 0) 0 []:=by simpa using this
 exact h2
theorem below_d1(w:World)(o:Obj):Be w (w.alloc o).drew:=((Below.refl _ w).alloc (Nat.le_refl _) o).drew
theorem below_d2(w:World)(o o':Obj):Be w ((w.alloc o).alloc o').drew:=(((Below.refl _ w).alloc (Nat.le_refl _) o).alloc (by simp) o').drew
theorem below_d3(w:World)(o o' o'':Obj):Be w (((w.alloc o).alloc o').alloc o'').drew:=((((Below.refl _ w).alloc (Nat.le_refl _) o).alloc (by simp) o').alloc (by simp;omega) o'').drew
theorem below_set{w0:World}(h:Below B w0 w)(hB:B≤k)(v:Value):Below B w0 (w.setCell ⟨k,0,none⟩ v):=h.setCell (p:=⟨k,0,none⟩) hB v
theorem pat_row{xs:List LaidP}{x:LaidP}(h:w.ownsRow B e 4 v (0+xs.length+1) ([]++xs.flatMap encPat++cs))(hx:encPat x=cs):GRow encPat 4 w v (xs++[x]):=by subst hx;rw [Nat.zero_add,List.nil_append] at h;exact(GOwn.snoc h).row
theorem onePat{x:LaidP}(h:PatOk w x):∀ u∈encPat x,u.oneCell'=true:=by obtain⟨a,c,h1,_⟩:=h.1.at encPid_len;obtain⟨a',c',h2,_⟩:=h.2.at encOp_len;intro u hu;unfold encPat at hu;rw [h1,h2] at hu;simp only [List.mem_cons,List.not_mem_nil,or_false] at hu;rcases hu with rfl|rfl|rfl|rfl <;> rfl
theorem onePats{xs:List LaidP}(h:∀ x∈xs,PatOk w x):∀ u∈xs.flatMap encPat,u.oneCell'=true:=by intro u hu;obtain⟨x,hx,hu⟩:=List.mem_flatMap.1 hu;exact onePat (h x hx) u hu
end Go.Proofs.YtjccmcgglfncdaaGreatDoor
