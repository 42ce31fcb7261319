/- What is proved: PlanSays, for every input; of the listed tables the walk needs the powers of ten. -/
import Derived.Test.YtjccmcgglfncdaaGreatDoorPGRow
import Derived.Shelf.SlSortCmp.NoneTotal
set_option linter.unusedVariables false
set_option linter.unusedSimpArgs false
set_option maxRecDepth 100000
set_option maxHeartbeats 40000000
set_option maxRecDepth 100000
set_option maxHeartbeats 40000000
namespace Go.Proofs.YtjccmcgglfncdaaGreatDoor
open Go Go.RowKit
variable{α:Type}
section
variable {α : Type} {key : α → Nat}
def restS(key:α→Nat)(x:α)(t:Bool)(r:List α):List α:=if t=true then r else putS key x r
theorem restS_t(x:α)(r:List α):restS key x true r=r:=rfl
theorem restS_f(x:α)(r:List α):restS key x false r=putS key x r:=rfl
theorem putS_lt{x y:α}{r:List α}(h:key x<key y):putS key x (y :: r)=x :: y :: r:=by rw [putS,if_pos h]
theorem putS_eq{x y:α}{r:List α}(h:key x=key y):putS key x (y :: r)=y :: r:=by rw [putS,if_neg (by omega),if_pos h]
theorem putS_gt{x y:α}{r:List α}(h:key y<key x):putS key x (y :: r)=y :: putS key x r:=by rw [putS,if_neg (by omega),if_neg (by omega)]
theorem putS_nil(x:α):putS key x []=[x]:=rfl
theorem foldl_take{l:List α}{i:Nat}{x:α}(h:l[i]? = some x):(l.take (i+1)).foldl (fun out x=>putS key x out) []=putS key x ((l.take i).foldl (fun out x=>putS key x out) []):=by rw [tsg h,List.foldl_append];rfl
theorem drop_at{xs:List α}{k:Nat}{y:α}(h:xs[k]? = some y):xs.drop k=y :: xs.drop (k+1):=by obtain⟨hk,rfl⟩:=List.getElem?_eq_some_iff.1 h;exact List.drop_eq_getElem_cons hk
theorem putS_len(x:α):∀ r:List α,(putS key x r).length≤r.length+1
 | []=>by simp [putS]
 | y :: r=>by
  rw [putS];split
  · simp
  split
  · simp
  have:=putS_len x r;simp;omega
theorem foldl_len:∀(l out:List α),(l.foldl (fun out x=>putS key x out) out).length≤out.length+l.length
 | [],out=>by simp
 | x :: l,out=>by have h1:=foldl_len l (putS key x out);have h2:=putS_len (key:=key) x out;simp at h1 ⊢;omega
theorem restS_start(key:α→Nat)(x:α)(out:List α):putS key x out=[]++restS key x false (out.drop 0):=by simp [restS]
theorem restS_a{key:α→Nat}{x y:α}{r M Z:List α}{c:Int}(h:Z=M++restS key x false (y :: r))(hk:cmpN (key x) (key y)=c)(hc:c<0):Z=(M++[x])++restS key x true (y :: r):=by
 subst hk;have h1:key x<key y:=by
  rcases Nat.lt_trichotomy (key x) (key y) with h1|h1|h1
  · exact h1
  · rw [cmpN_eq h1] at hc;omega
  rw [cmpN_gt h1] at hc;omega
 rw [h,restS_f,restS_t,putS_lt h1];simp
theorem restS_b{key:α→Nat}{x y:α}{r M Z:List α}{t:Bool}{c:Int}(h:Z=M++restS key x t (y :: r))(hk:cmpN (key x) (key y)=c)(hc:t=false→¬ c<0):Z=(M++[y])++restS key x (t || (c == 0)) r:=by
 subst hk;cases t with
 | true=>rw [h,Bool.true_or,restS_t,restS_t];simp
 | false =>
  have hc:=hc rfl;rcases Nat.lt_trichotomy (key x) (key y) with h1|h1|h1
  · exact absurd (by rw [cmpN_lt h1];decide) hc
  · rw [h,cmpN_eq h1,restS_f,putS_eq h1];simp [restS_t]
  · rw [h,cmpN_gt h1,restS_f,putS_gt h1];simp [restS_f]
end
def SetRes(enc:α→List Value)(sz:Nat)(w:World)(xs:List α)(e:Ending)(w':World):Prop:=∃ u,e=.returned u∧GRow enc sz w' u xs∧Be w w'
def SetResO(enc:α→List Value)(sz:Nat)(ty:TypeId)(w:World)(xs:List α)(e:Ending)(w':World):Prop:=∃ u,e=.returned u∧GOwn enc sz ty w' w.heap.size u xs∧Be w w'
theorem SetResO.res{enc:α→List Value}{sz:Nat}{ty:TypeId}{w w':World}{xs:List α}{e:Ending}(h:SetResO enc sz ty w xs e w'):SetRes enc sz w xs e w':=by obtain⟨u,h1,h2,h3⟩:=h;exact⟨u,h1,h2.row,h3⟩
theorem gown_baseS{enc:α→List Value}{sz:Nat}{E:TypeId}{w:World}{B B':Nat}{v:Value}{xs:List α}(h:GOwn enc sz E w B v xs)(hB:B'≤B):GOwn enc sz E w B' v xs:=by obtain⟨h1,h2⟩:=h;refine⟨h1,h2.imp id ?_⟩;rintro⟨g,cap,cur,h3,h4,h5⟩;exact⟨g,cap,cur,h3,Nat.le_trans hB h4,h5⟩
theorem cPid{W:World}{b o:Nat}{x:PidM}(h:b<W.heap.size∧∀ j u,(encPid x)[j]? = some u→W.cell? ⟨b,o+j,none⟩=some u):W.cell? ⟨b,o,none⟩=some (.int .u8 x.author.toNat)∧W.cell? ⟨b,o+1,none⟩=some (.int .u16 x.seq.toNat)∧b<W.heap.size:=⟨h.2 0 _ rfl,h.2 1 _ rfl,h.1⟩
theorem cVid{W:World}{b o:Nat}{x:VidM}(h:b<W.heap.size∧∀ j u,(encVid x)[j]? = some u→W.cell? ⟨b,o+j,none⟩=some u):W.cell? ⟨b,o,none⟩=some (.int .u8 x.pid.author.toNat)∧W.cell? ⟨b,o+1,none⟩=some (.int .u16 x.pid.seq.toNat)∧W.cell? ⟨b,o+2,none⟩=some (.int .u8 x.n.toNat)∧b<W.heap.size:=⟨h.2 0 _ rfl,h.2 1 _ rfl,h.2 2 _ rfl,h.1⟩
def SetOut(enc:α→List Value)(sz:Nat)(key:α→Nat)(ty:TypeId)(w:World)(l:List α)(v3 v4:Value)(wr:World):Prop:=
 ∃ i:Nat,i≤l.length∧v4=.int .i64 i∧Hid (GOwn enc sz ty wr w.heap.size v3 ((l.take i).foldl (fun out x=>putS key x out) []))∧Be w wr
def SetIn(enc:α→List Value)(sz:Nat)(key:α→Nat)(ty:TypeId)(wo:World)(x:α)(out:List α)(v5 v6 v7:Value)(wr:World):Prop:=
 ∃(k:Nat) (M:List α) (t:Bool),k≤out.length∧v7=.int .i64 k∧v6=.bool t∧M.length≤k+t.toNat∧Hid (GOwn enc sz ty wr wo.heap.size v5 M)∧Hid (putS key x out=M++restS key x t (out.drop k))∧Be wo wr
def SetCut(enc:α→List Value)(sz:Nat)(key:α→Nat)(ty:TypeId)(wo:World)(x y:α)(Z r:List α)(k:Nat)(c:Int)(v5 v6:Value)(wr:World):Prop:=
 ∃(M:List α) (t:Bool),v6=.bool t∧M.length≤k+t.toNat∧Hid (GOwn enc sz ty wr wo.heap.size v5 M)∧Hid (Z=M++restS key x t (y :: r))∧Hid (t=false→¬ c<0)∧Hid (Be wo wr)
attribute [local irreducible] packPid packVid cmpN putS restS
theorem rset_both:(∀(v:Value) (l:List PidM) (w:World),GRow encPid 2 w v l→l.length≤100000→Calls Tryz.prog 183 #[v] w (SetResO encPid 2 25 w (setS packPid l))) ∧
  (∀(v:Value) (l:List VidM) (w:World),GRow encVid 3 w v l→l.length≤100000→Calls Tryz.prog 281 #[v] w (SetResO encVid 3 74 w (setS packVid l))):=by
 refine⟨?_,?_⟩ <;> intro v l w hv hl;all_goals
  first|(obtain⟨a,cap,rfl,h1,h2,hc⟩:=hv.at encPid_len)|(obtain⟨a,cap,rfl,h1,h2,hc⟩:=hv.at encVid_len)
  unfold maxLen at h2
  have HC:=Lh hc
  clear hv hc
  first|(go_enter Tryz.func183,Tryz.ntmps183)|(go_enter Tryz.func281,Tryz.ntmps281)
  go_wp2_with fail
  first|(go_loopw [3,4] (fun v3 v4 wr=>SetOut encPid 2 packPid 25 w l v3 v4 wr) (fun _ v4 _=>l.length - (intOf v4).toNat))|(go_loopw [3,4] (fun v3 v4 wr=>SetOut encVid 3 packVid 74 w l v3 v4 wr) (fun _ v4 _=>l.length - (intOf v4).toNat))
  case atStart=>exact⟨0,by omega,rfl,gown_nil _ _,Below.refl _ _⟩
  case round =>
   rename World=>wo
   obtain⟨i,hi,rfl,HO,hbl⟩:=hrel
   by_cases hlt:i<l.length
   ·
    obtain⟨bl,ol,rfl,sl,hcl⟩:=HC.o.resolve_left (by omega)
    obtain⟨x,hx⟩:=gol hlt
    first|(have HF:=Lh (foldl_take (key:=packPid) hx))|(have HF:=Lh (foldl_take (key:=packVid) hx))
    first|(have hlen:=foldl_len (key:=packPid) (l.take i) [])|(have hlen:=foldl_len (key:=packVid) (l.take i) [])
    have HXa:=Lh fun W (hW:Be wo W)=>hcl i x hx W (bvo hbl hW)
    first|(generalize hout:(l.take i).foldl (fun out x=>putS packPid x out) []=out at *)|(generalize hout:(l.take i).foldl (fun out x=>putS packVid x out) []=out at *)
    have hol:out.length≤i:=by rw [List.length_take] at hlen;simp at hlen;omega
    first|(obtain⟨ao,co,rfl,o1,o2,hco⟩:=HO.o.row.at encPid_len)|(obtain⟨ao,co,rfl,o1,o2,hco⟩:=HO.o.row.at encVid_len)
    unfold maxLen at o2
    have HCo:=Lh hco
    have HBl:=Lh hbl
    clear hx hcl hlen hco hbl hout
    go_wp2
    go_hide hQ
    first|(go_loopw [5,6,7] (fun v5 v6 v7 wi=>SetIn encPid 2 packPid 25 wo x out v5 v6 v7 wi) (fun _ _ v7 _=>out.length - (intOf v7).toNat))|(go_loopw [5,6,7] (fun v5 v6 v7 wi=>SetIn encVid 3 packVid 74 wo x out v5 v6 v7 wi) (fun _ _ v7 _=>out.length - (intOf v7).toNat))
    case atStart=>exact⟨0,[],false,by omega,rfl,rfl,by simp,gown_nil _ _,restS_start _ _ _,Below.refl _ _⟩
    case round =>
     obtain⟨k,M,t,hk,rfl,rfl,hM,HM,HR,hbi⟩:=hrel
     have htn:=Bool.toNat_le t
     have hN:M.length+1≤1099511627776:=by omega
     by_cases hk2:k<out.length
     ·
      obtain⟨bo,oo,rfl,so,hcw⟩:=HCo.o.resolve_left (by omega)
      obtain⟨y,hy⟩:=gol hk2
      have HYa:=Lh fun W (hW:Be wo W)=>hcw k y hy W hW
      first|(have HR1:Hid (putS packPid x out=M++restS packPid x t (y :: out.drop (k+1))):=by show _=_;rw [← drop_at hy];exact HR.o)|(have HR1:Hid (putS packVid x out=M++restS packVid x t (y :: out.drop (k+1))):=by show _=_;rw [← drop_at hy];exact HR.o)
      have HBi:=Lh hbi
      clear hy hcw hbi HR
      first|(have hc:∃ c,cmpPid x y=c:=⟨_,rfl⟩)|(have hc:∃ c,cmpVid x y=c:=⟨_,rfl⟩)
      obtain⟨c,hc⟩:=hc
      have HK:=Lh hc
      first|(have hR:∃ R:Value→Value→World→Prop,R=SetCut encPid 2 packPid 25 wo x y (putS packPid x out) (out.drop (k+1)) k c:=⟨_,rfl⟩)|(have hR:∃ R:Value→Value→World→Prop,R=SetCut encVid 3 packVid 74 wo x y (putS packVid x out) (out.drop (k+1)) k c:=⟨_,rfl⟩)
      obtain⟨R,hR⟩:=hR
      have HRR:=Lh hR
      clear hc hR
      go_upto_region 10 with fail
      go_cut [33] (fun s wx=>s=.bool (!t && decide (c<0))∧Hid (Be wr wx))
      case first =>
       first|(obtain⟨x0,x1,sX⟩:=cPid (HXa.o wr HBi.o))|(obtain⟨x0,x1,x2,sX⟩:=cVid (HXa.o wr HBi.o))
       first|(obtain⟨y0,y1,sY⟩:=cPid (HYa.o wr HBi.o))|(obtain⟨y0,y1,y2,sY⟩:=cVid (HYa.o wr HBi.o))
       cases t
       all_goals
        refine wlo 14 fun hcur=>?_
        repeat(first|refine lxq ?_|(refine lxl rfl ?_;go_wp2_with (first|((first|(go_at_call 232;(with_reducible refine(rcmpPid_any _ _ _).mono ?_))|(go_at_call 169;(with_reducible refine(rcmpVid_any _ _ _).mono ?_)));rintro e w5 ⟨rfl,hb⟩;rw [HK.o];have hcur:=bvo hcur hb));refine⟨iov hcur,?_⟩))
        refine lxe ?_
        go_wp2
        go_meet
        exact⟨rfl,Lh hcur⟩
      case rest =>
       obtain⟨rfl,HB1⟩:=hcut
       rename World=>w1
       have HB1i:=Lh (bvo HBi.o HB1.o)
       have HM1:=Lh (HM.o.over HB1.o)
       obtain⟨b,hb⟩:∃ b,(!t && decide (c<0))=b:=⟨_,rfl⟩
       rw [hb]
       have Hb:=Lh hb
       have hB1:=HB1i.o.size
       clear hb
       go_upto_if 33 with fail
       go_cut [5,6] (fun v5 v6 wx=>R v5 v6 wx)
       case first =>
        obtain rfl:=HRR.o
        cases b with
        | true =>
         obtain⟨rfl,hc⟩:t=false∧c<0:=by simpa using Hb.o
         have HN:=Lh (restS_a HR1.o HK.o hc)
         clear hc
         first|(obtain⟨x0,x1,sX⟩:=cPid (HXa.o w1 HB1i.o))|(obtain⟨x0,x1,x2,sX⟩:=cVid (HXa.o w1 HB1i.o))
         go_wp2_with (at_builtin;(first|refine apD slPid rfl _ _ rfl wo.heap.size _ _ (drf _) 1 _ _ _ HM1.o rfl rfl rfl rfl hN (by decide) hB1 ?_|refine apD slVid rfl _ _ rfl wo.heap.size _ _ (drf _) 1 _ _ _ HM1.o rfl rfl rfl rfl hN (by decide) hB1 ?_);intro v2 w2 ho2 hg2)
         go_meet
         exact⟨M++[x],true,rfl,by simp at hM ⊢;omega,Lh (GOwn.snoc ho2),HN,Lh nofun,Lh (bgr HB1i.o hB1 HM1.o hg2)⟩
        | false =>
         go_wp2
         go_meet
         exact⟨M,t,rfl,hM,HM1,HR1,Lh fun h=>by have h2:=Hb.o;rw [h] at h2;simpa using h2,HB1i⟩
       case rest =>
        obtain rfl:=HRR.o
        obtain⟨M1,t1,rfl,hM1,HO1,HR2,HN,HB2⟩:=hcut
        rename World=>w2
        have hN1:M1.length+1≤1099511627776:=by have:=Bool.toNat_le t1;omega
        have HR3:=Lh (restS_b HR2.o HK.o HN.o)
        clear hM HM1 HB1 HB1i HM
        go_upto_region 13 with fail
        go_cut [6] (fun s wx=>s=.bool (t1 || (c == 0))∧Hid (Be w2 wx))
        case first =>
         first|(obtain⟨x0,x1,sX⟩:=cPid (HXa.o w2 HB2.o))|(obtain⟨x0,x1,x2,sX⟩:=cVid (HXa.o w2 HB2.o))
         first|(obtain⟨y0,y1,sY⟩:=cPid (HYa.o w2 HB2.o))|(obtain⟨y0,y1,y2,sY⟩:=cVid (HYa.o w2 HB2.o))
         cases t1
         all_goals
          refine wlo 14 fun hcur=>?_
          repeat(first|refine lxq ?_|(refine lxl rfl ?_;go_wp2_with (first|((first|(go_at_call 232;(with_reducible refine(rcmpPid_any _ _ _).mono ?_))|(go_at_call 169;(with_reducible refine(rcmpVid_any _ _ _).mono ?_)));rintro e w5 ⟨rfl,hb⟩;rw [HK.o];have hcur:=bvo hcur hb));refine⟨iov hcur,?_⟩))
          refine lxe ?_
          go_wp2
          go_meet
          exact⟨rfl,Lh hcur⟩
        case rest =>
         obtain⟨rfl,HB3⟩:=hcut
         rename World=>w3
         have hT:M1.length+1≤k+1+(t1 || (c == 0)).toNat:=by cases t1 <;> simp at hM1 ⊢ <;> omega
         have HB4:=Lh (bvo HB2.o HB3.o)
         have HO3:=Lh (HO1.o.over HB3.o)
         have hB4:=HB4.o.size
         first|(obtain⟨y0,y1,sY⟩:=cPid (HYa.o w3 HB4.o))|(obtain⟨y0,y1,y2,sY⟩:=cVid (HYa.o w3 HB4.o))
         go_wp2_with (at_builtin;(first|refine apD slPid rfl _ _ rfl wo.heap.size _ _ (drf _) 1 _ _ _ HO3.o rfl rfl rfl rfl hN1 (by decide) hB4 ?_|refine apD slVid rfl _ _ rfl wo.heap.size _ _ (drf _) 1 _ _ _ HO3.o rfl rfl rfl rfl hN1 (by decide) hB4 ?_);intro v4 w4 ho4 hg4)
         go_roundw
         case rel=>exact⟨k+1,M1++[y],_,hk2,by go_num,rfl,by simpa using hT,GOwn.snoc ho4,HR3,bgr HB4.o hB4 HO3.o hg4⟩
         case measure=>simp [intOf];omega
     ·
      obtain rfl:k=out.length:=by omega
      rw [List.drop_length] at HR
      have HBi:=Lh hbi
      have hbw:=bvo HBl.o hbi
      cases t with
      | true =>
       first|(have HE:Hid (putS packPid x out=M):=by show _=_;rw [HR.o,restS_t];simp)|(have HE:Hid (putS packVid x out=M):=by show _=_;rw [HR.o,restS_t];simp)
       go_wp2
       subst hQ
       go_wp2
       go_roundw
       case rel=>exact⟨i+1,hlt,by go_num,(by show GOwn _ _ _ _ _ _ _;rw [HF.o,HE.o];exact gown_baseS HM.o HBl.o.size),hbw⟩
       case measure=>simp [intOf];omega
      | false =>
       first|(have HE:Hid (putS packPid x out=M++[x]):=by show _=_;rw [HR.o,restS_f,putS_nil])|(have HE:Hid (putS packVid x out=M++[x]):=by show _=_;rw [HR.o,restS_f,putS_nil])
       first|(obtain⟨x0,x1,sX⟩:=cPid (HXa.o wr HBi.o))|(obtain⟨x0,x1,x2,sX⟩:=cVid (HXa.o wr HBi.o))
       have hB:=HBi.o.size
       go_wp2
       subst hQ
       go_wp2_with (at_builtin;(first|refine apD slPid rfl _ _ rfl wo.heap.size _ _ (drf _) 1 _ _ _ HM.o rfl rfl rfl rfl hN (by decide) hB ?_|refine apD slVid rfl _ _ rfl wo.heap.size _ _ (drf _) 1 _ _ _ HM.o rfl rfl rfl rfl hN (by decide) hB ?_);intro v2 w2 ho2 hg2)
       go_roundw
       case rel=>exact⟨i+1,hlt,by go_num,(by show GOwn _ _ _ _ _ _ _;rw [HF.o,HE.o];exact gown_baseS (GOwn.snoc ho2) HBl.o.size),bvo HBl.o (bgr HBi.o hB HM.o hg2)⟩
       case measure=>simp [intOf];omega
   ·
    obtain rfl:i=l.length:=by omega
    have HE:=HO.o
    rw [List.take_length] at HE
    go_wp2
    go_ret
    exact⟨_,rfl,HE,hbl⟩
theorem rsetVid_any(v:Value)(l:List VidM)(w:World)(hv:GRow encVid 3 w v l)(hl:l.length≤100000):Calls Tryz.prog 281 #[v] w (SetRes encVid 3 w (setS packVid l)):=(rset_both.2 v l w hv hl).mono fun _ _ h=>h.res
end Go.Proofs.YtjccmcgglfncdaaGreatDoor
namespace Go.Proofs.YtjccmcgglfncdaaGreatDoor
open Go Go.RowKit
theorem take_all{α:Type}{l m:List α}(hl:l.length=m.length)(h:l.take l.length=m.take l.length):l=m:=by rw [List.take_length,hl,List.take_length] at h;exact h
theorem take_ne{α:Type}{l m:List α}{k:Nat}{x y:α}(hx:l[k]? = some x)(hy:m[k]? = some y)(h:¬ x=y):¬ l=m:=by rintro rfl;rw [hx] at hy;exact h (Option.some.inj hy)
theorem rsamePid_any(v u:Value)(l m:List PidM)(w:World)(hv:GRow encPid 2 w v l)(hu:GRow encPid 2 w u m) :
  Calls Tryz.prog 53 #[v,u] w fun e w'=>e=.returned (.bool (decide (l=m)))∧Be w w':=by
 obtain⟨a,cap,rfl,h1,h2,hc⟩:=hv.at encPid_len;obtain⟨a',cap',rfl,h1',h2',hc'⟩:=hu.at encPid_len;unfold maxLen at h2 h2';have HC:=Lh hc;have HC':=Lh hc';clear hv hu hc hc';have gd:=fun p q xs ys w=>guard_pid .neq p q xs ys w
 by_cases hlen:l.length=m.length
 rotate_left
 ·
  have HN:Hid (decide (l=m)=false):=decide_eq_false (fun h=>hlen (by rw [h]));have hq:((l.length:Int) != (m.length:Int))=true:=by simp;omega
  clear hlen;go_enter Tryz.func53,Tryz.ntmps53;go_wp2;go_ret;exact⟨rvb HN.o,Below.refl _ _⟩
 have HL:=Lh hlen;have hq:((l.length:Int) != (m.length:Int))=false:=by simp [hlen]
 clear hlen;go_enter Tryz.func53,Tryz.ntmps53;go_wp2;go_loopw [5] (fun i wr=>∃ k:Nat,k≤l.length∧i=.int .i64 k∧Hid (l.take k=m.take k)∧Be w wr) (fun i _=>l.length - (intOf i).toNat)
 case atStart=>exact⟨0,by omega,rfl,rfl,Below.refl _ _⟩
 obtain⟨k,hk,rfl,HK,hbl⟩:=hrel
 by_cases hlt:k<l.length
 rotate_left
 ·
  obtain rfl:k=l.length:=by omega
  have HN:Hid (decide (l=m)=true):=decide_eq_true (take_all HL.o HK.o);go_wp2;go_ret;exact⟨rvb HN.o,hbl⟩
 obtain⟨bl,ol,rfl,sl,hcl⟩:=HC.o.resolve_left (by omega);obtain⟨bm,om,rfl,sm,hcm⟩:=HC'.out.resolve_left (by have:=HL.o;omega);obtain⟨x,hx⟩:=gol hlt;obtain⟨y,hy⟩:=gol (xs:=m) (i:=k) (by have:=HL.o;omega);have hkm:k<m.length:=by have:=HL.o;omega
 have x0:wr.cell? ⟨bl,ol+k*2,none⟩=some (.int .u8 x.author.toNat):=((hcl k x hx wr hbl)).2 0 _ rfl;have x1:wr.cell? ⟨bl,ol+k*2+1,none⟩=some (.int .u16 x.seq.toNat):=((hcl k x hx wr hbl)).2 1 _ rfl;have y0:wr.cell? ⟨bm,om+k*2,none⟩=some (.int .u8 y.author.toNat):=((hcm k y hy wr hbl)).2 0 _ rfl;have y1:wr.cell? ⟨bm,om+k*2+1,none⟩=some (.int .u16 y.seq.toNat):=((hcm k y hy wr hbl)).2 1 _ rfl;have sX:=(hcl k x hx wr hbl).1;have sY:=(hcm k y hy wr hbl).1;have HX:=Lh hx;have HY:=Lh hy;clear hcl hcm hx hy
 by_cases hxy:x=y
 ·
  have hne:=neq_pid x y false (by simp [hxy]);unfold pidV at hne;have HK2:Hid (l.take (k+1)=m.take (k+1)):=by show _=_;rw [tsg HX.o,tsg HY.o,HK.o,hxy]
  clear hxy;go_wp2_with fail;refine wlo 9 fun hcur=>?_;repeat refine lxq ?_
  refine lxe ?_;go_wp2;go_roundw
  case rel=>exact⟨k+1,hlt,by go_num,HK2,hbl.drew⟩
  simp [intOf];omega
 have hne:=neq_pid x y true (by simp [hxy]);unfold pidV at hne;have HN:Hid (decide (l=m)=false):=decide_eq_false (take_ne HX.o HY.o hxy);clear hxy;go_wp2_with fail;refine wlo 9 fun hcur=>?_;repeat refine lxq ?_
 refine lxe ?_;go_wp2;go_ret;exact⟨rvb HN.o,hbl.drew⟩
variable{vs:List VidM}{id:PidM}{w:World}
def farPids(id:PidM)(vs:List VidM):List PidM:=(vs.filter fun v=>v.pid≠id).map (·.pid)
theorem farPids_yes{k:Nat}{v:VidM}(h:vs[k]? = some v)(hv:¬ v.pid=id):farPids id (vs.take (k+1))=farPids id (vs.take k)++[v.pid]:=by unfold farPids;rw [tsg h,List.filter_append,List.map_append];simp [hv]
theorem farPids_no{k:Nat}{v:VidM}(h:vs[k]? = some v)(hv:v.pid=id):farPids id (vs.take (k+1))=farPids id (vs.take k):=by unfold farPids;rw [tsg h,List.filter_append,List.map_append];simp [hv]
theorem farPids_len(id:PidM)(vs:List VidM):(farPids id vs).length≤vs.length:=by unfold farPids;rw [List.length_map];exact List.length_filter_le _ _
def preDep(id:PidM):List PidM:=if 1<id.seq.toNat then [⟨id.author,id.seq - 1⟩] else []
def depsTo(id:PidM)(ops:List OpM):List PidM:=preDep id++ops.flatMap fun o=>farPids id (refsM o)
theorem depsTo_all(id:PidM)(ops:List OpM):setS packPid (depsTo id ops)=depsM id ops:=rfl
theorem depsTo_succ{ops:List OpM}{i:Nat}{o:OpM}(h:ops[i]? = some o):depsTo id (ops.take (i+1))=depsTo id (ops.take i)++farPids id (refsM o):=by unfold depsTo;rw [tsg h,List.flatMap_append];simp
theorem preDep_len(id:PidM):(preDep id).length≤1:=by unfold preDep;split <;> simp
theorem far_len(id:PidM):∀ ops:List OpM,(ops.flatMap fun o=>farPids id (refsM o)).length≤2*ops.length
 | []=>by simp
 | o :: ops=>by have h2:=farPids_len id (refsM o);have h3:=refs_len o;have h4:=far_len id ops;rw [List.flatMap_cons,List.length_append,List.length_cons];omega
theorem depsTo_len(id:PidM):∀ ops:List OpM,(depsTo id ops).length≤1+2*ops.length:=by intro ops;have h1:=preDep_len id;have h2:=far_len id ops;unfold depsTo;rw [List.length_append];omega
theorem sub_seq{s:UInt16}(h:1<s.toNat):((s - 1).toNat:Int)=(s.toNat:Int) - 1:=by
 have:(s - 1).toNat=s.toNat - 1:=by
  rw [UInt16.toNat_sub_of_le]
  · rfl
  rw [UInt16.le_iff_toNat_le];show 1≤_;omega
 rw [this];omega
theorem refs_at{a:Option Addr}{n c:Nat}(h:RefsAt w (.slice a n c) vs)(hp:0<vs.length):∃ g,a=some ⟨g,0,none⟩∧ArrT w g 74 (vs.flatMap encVid):=by
 rcases h with⟨rfl,_⟩|⟨_,_,g,e,hA⟩
 · simp at hp
 cases e;exact⟨g,rfl,hA⟩
theorem RefsAt.over{w':World}{v:Value}(h:RefsAt w v vs)(hb:Be w w'):RefsAt w' v vs:=by
 rcases h with h|⟨h1,h2,g,e,hA⟩
 · exact .inl h
 exact .inr ⟨h1,h2,g,e,hA.over hb⟩
theorem RefsAt.grown{w':World}{B sz n:Nat}{e:TypeId}{v u:Value}{xs:List Value}(h:RefsAt w v vs)(ho:w.ownsRow B e sz u n xs)(hn:e≠74)(hg:w.grownBy w' u.ownBlock):RefsAt w' v vs:=by
 rcases h with h|⟨h1,h2,g,e,hA⟩
 · exact .inl h
 exact .inr ⟨h1,h2,g,e,hA.grown ho hn hg⟩
def DpOut(w0:World)(id:PidM)(ops:List OpM)(v5 v6:Value)(wr:World):Prop:=
 ∃ i:Nat,i≤ops.length∧v6=.int .i64 i∧Hid (GOwn encPid 2 25 wr w0.heap.size v5 (depsTo id (ops.take i)))∧Be w0 wr
def DpIn(w0:World)(id:PidM)(A:List PidM)(vs:List VidM)(vr:Value)(v5 v8:Value)(wr:World):Prop:=
 ∃ k:Nat,k≤vs.length∧v8=.int .i64 k∧Hid (GOwn encPid 2 25 wr w0.heap.size v5 (A++farPids id (vs.take k)))∧Hid (RefsAt wr vr vs)∧Be w0 wr
theorem preDep_yes(h:1<id.seq.toNat):preDep id=[⟨id.author,id.seq - 1⟩]:=by unfold preDep;rw [if_pos h]
theorem preDep_no(h:¬ 1<id.seq.toNat):preDep id=[]:=by unfold preDep;rw [if_neg h]
theorem depsTo_nil(id:PidM):depsTo id []=preDep id:=by unfold depsTo;simp
theorem farPids_nil(id:PidM):farPids id []=[]:=rfl
attribute [local irreducible] refsM farPids preDep depsTo depsM
theorem rdepsO_any(id:PidM)(v:Value)(ops:List OpM)(w:World)(hv:GRow encOp 8 w v ops)(hl:ops.length≤40000) :
  Calls Tryz.prog 113 #[pidV id,v] w (SetResO encPid 2 25 w (depsM id ops)):=by
 have HA:=Lh (anw w (cP id) 25);have HB:=Lh (bnew (w:=w) (.cells (cP id) 25));obtain⟨a,cap,rfl,h1,h2,hc⟩:=(hv.over HB.o).at encOp_len;unfold maxLen at h2;have HC:=Lh hc;have hdl:=depsTo_len id ops;have hpl:=preDep_len id;have hsl:=id.seq.toNat_lt;have hal:=id.author.toNat_lt;have gd:=fun p q xs ys w=>guard_pid .neq p q xs ys w;clear hv hc;unfold pidV;go_enter Tryz.func113,Tryz.ntmps113;go_upto_if 11 with fail;generalize w.alloc (.cells (cP id) 25)=w0 at *;go_cut [5] (fun s5 wx=>Hid (GOwn encPid 2 25 wx w0.heap.size s5 (preDep id))∧Be w0 wx)
 case first =>
  by_cases g1:1<id.seq.toNat
  · have d1:decide ((1:Int)<(id.seq.toNat:Int))=true:=(by simp;omega);have HP:Hid (preDep id=[⟨id.author,id.seq - 1⟩]):=preDep_yes g1;have HS:=Lh (sub_seq g1);obtain⟨i0,i1,si⟩:=HA.o.c2;have hN:0+1≤1099511627776:=(by decide);have hB0:w0.heap.size≤w0.heap.size:=Nat.le_refl _;go_wp2_with (at_builtin;(first|refine apD slPid rfl _ _ rfl w0.heap.size _ _ (dad _ _ _) 1 _ _ _ (World.ownsRow_nil w0 w0.heap.size 25 2) rfl rfl rfl rfl hN (by decide) hB0 ?_|refine apD slPid rfl _ _ rfl w0.heap.size _ _ (drf _) 1 _ _ _ (World.ownsRow_nil w0 w0.heap.size 25 2) rfl rfl rfl rfl hN (by decide) hB0 ?_);intro v2 w2 ho2 hg2);go_meet;refine⟨?_,grown_over' hg2 (fun g hg=>by simp [Value.ownBlock] at hg)⟩;show GOwn _ _ _ _ _ _ _;rw [HP.o];exact GOwn.snoc (enc:=encPid) (xs:=[]) (x:=(⟨id.author,id.seq - 1⟩:PidM)) (by unfold encPid;rw [HS.o];exact ho2)
  have d1:decide ((1:Int)<(id.seq.toNat:Int))=false:=by simp;omega
  have HP:Hid (preDep id=[]):=preDep_no g1;go_wp2;go_meet;exact⟨(by show GOwn _ _ _ _ _ _ _;rw [HP.o];exact gown_nil _ _),Below.refl _ _⟩
 obtain⟨HO,hbc⟩:=hcut;go_wp2;go_loopw [5,6] (fun v5 v6 wr=>DpOut w0 id ops v5 v6 wr) (fun _ v6 _=>ops.length - (intOf v6).toNat)
 case atStart=>exact⟨0,by omega,rfl,(by show GOwn _ _ _ _ _ _ _;rw [List.take_zero,depsTo_nil];exact HO.o),hbc⟩
 rename World=>wo;obtain⟨i,hi,rfl,HM,hbl⟩:=hrel
 by_cases hlt:i<ops.length
 rotate_left
 ·
  obtain rfl:i=ops.length:=by omega
  have HE:=HM.o;rw [List.take_length] at HE;have HE2:=Lh HE.row;clear HE;go_wp2_with fail;refine(rset_both.1 _ _ _ HE2.o (by omega)).mono ?_;rintro e w2 ⟨u,rfl,hu,hb2⟩;have HU:Hid (GOwn encPid 2 25 w2 w.heap.size u (depsM id ops)):=by rw [← depsTo_all];exact gown_baseS hu (Nat.le_trans HB.o.size hbl.size)
  clear hu;go_wp2;go_ret;exact⟨_,rfl,HU.o,bov (bvo HB.o hbl) (by have:=HB.o.size;have:=hbl.size;omega) hb2⟩
 obtain⟨b,off,rfl,sb,hcb⟩:=HC.o.resolve_left (by omega);obtain⟨o,ho⟩:=gol hlt;have HOp:=Lh (hcb i o ho wo hbl);have HSu:=Lh (depsTo_succ (id:=id) ho);have hdt:=depsTo_len id (ops.take i);rw [List.length_take] at hdt;obtain⟨o0,o1,o2,o3,o4,o5,o6,o7,so⟩:=rc8 HOp.o;clear hcb ho;go_wp2_with fail;refine(rrefs_any o _).mono ?_;rintro e w1 ⟨vr,rfl,hvr,hb1⟩;obtain⟨a2,cap2,e2,q1,q2,_⟩:=(RefsAt.vrow hvr).form;subst e2;unfold maxLen at q2;have HVr:=Lh hvr;have HB1:=Lh (bvo hbl hb1);have HM1:=Lh (HM.o.over hb1);have hrl:=refs_len o;clear hvr hb1 o0 o1 o2 o3 o4 o5 o6 o7 so;go_wp2;go_hide hQ;go_loopw [5,8] (fun v5 v8 wi=>DpIn w0 id (depsTo id (ops.take i)) (refsM o) (.slice a2 (refsM o).length cap2) v5 v8 wi) (fun _ v8 _=>(refsM o).length - (intOf v8).toNat)
 case atStart=>exact⟨0,by omega,rfl,(by show GOwn _ _ _ _ _ _ _;rw [List.take_zero,farPids_nil,List.append_nil];exact HM1.o),HVr,HB1.o⟩
 rename World=>wr;obtain⟨k,hk,rfl,HM2,HR2,hbi⟩:=hrel;have hfl:=farPids_len id ((refsM o).take k);rw [List.length_take] at hfl;have hN:(depsTo id (ops.take i)++farPids id ((refsM o).take k)).length+1≤1099511627776:=by rw [List.length_append];omega
 by_cases hk2:k<(refsM o).length
 rotate_left
 ·
  obtain rfl:k=(refsM o).length:=by omega
  rw [List.take_length] at HM2;go_wp2;subst hQ;go_wp2;go_roundw
  case rel=>exact⟨i+1,hlt,by go_num,(by show GOwn _ _ _ _ _ _ _;rw [HSu.o];exact HM2.o),hbi⟩
  simp [intOf];omega
 obtain⟨g,rfl,hAr⟩:=refs_at HR2.o (by omega);obtain⟨u,hu⟩:=gol hk2;have HU:=Lh hu;have HAv:=Lh hAr;have HAi:=Lh (HA.o.over hbi);obtain⟨i0,i1,si⟩:=HAi.o.c2;have u0:wr.cell? ⟨g,k*3,none⟩=some (.int .u8 u.pid.author.toNat):=hAr.arr.cell ((flat_get encVid_len _ k 0 u hu (by decide)).trans rfl);have u1:wr.cell? ⟨g,k*3+1,none⟩=some (.int .u16 u.pid.seq.toNat):=hAr.arr.cell ((flat_get encVid_len _ k 1 u hu (by decide)).trans rfl);have u2:wr.cell? ⟨g,k*3+2,none⟩=some (.int .u8 u.n.toNat):=hAr.arr.cell ((flat_get encVid_len _ k 2 u hu (by decide)).trans rfl);have su:=hAr.arr.lt;have hB2:=hbi.size;clear hu hAr
 by_cases hp:u.pid=id
 ·
  have e1:=neq_pid u.pid id false (by simp [hp]);unfold pidV at e1;have HN:=Lh (farPids_no HU.o hp);clear hp;go_wp2_with fail;refine wlo 7 fun hcur=>?_;repeat refine lxq ?_
  refine lxe ?_;have HM3:=Lh (HM2.o.over hcur);have HR3:=Lh (HR2.o.over hcur);have HB3:=Lh (bov hbi hB2 hcur);clear hcur;go_wp2;go_roundw
  case rel=>exact⟨k+1,hk2,by go_num,(by show GOwn _ _ _ _ _ _ _;rw [HN.o];exact HM3.o),HR3,HB3.o⟩
  simp [intOf];omega
 have e1:=neq_pid u.pid id true (by simp [hp]);unfold pidV at e1;have HN:=Lh (farPids_yes HU.o hp);clear hp;go_wp2_with fail;refine wlo 7 fun hcur=>?_;repeat refine lxq ?_
 refine lxe ?_;clear hcur;go_wp2_with (at_builtin;(first|refine apD slPid rfl _ _ rfl w0.heap.size _ _ (dad _ _ _) 1 _ _ _ HM2.o rfl rfl rfl rfl hN (by decide) hB2 ?_|refine apD slPid rfl _ _ rfl w0.heap.size _ _ (drf _) 1 _ _ _ HM2.o rfl rfl rfl rfl hN (by decide) hB2 ?_);intro v2 w2 ho2 hg2);go_roundw
 case rel=>exact⟨k+1,hk2,by go_num,(by show GOwn _ _ _ _ _ _ _;rw [HN.o,← List.append_assoc];exact GOwn.snoc ho2),HR2.o.grown HM2.o (by decide) hg2,bgr hbi hB2 HM2.o hg2⟩
 simp [intOf];omega
theorem rdeps_any(id:PidM)(v:Value)(ops:List OpM)(w:World)(hv:GRow encOp 8 w v ops)(hl:ops.length≤40000) :
  Calls Tryz.prog 113 #[pidV id,v] w (SetRes encPid 2 w (depsM id ops)):=(rdepsO_any id v ops w hv hl).mono fun _ _ h=>h.res
end Go.Proofs.YtjccmcgglfncdaaGreatDoor
namespace Go.Proofs.YtjccmcgglfncdaaGreatDoor
open Go Go.RowKit
variable{B cap g:Nat}{P:Program}{e:TypeId}{w w1:World}
def Grew(w w':World):Prop:=∃ q os,w'=Go.Sort.grow (w.drewN q) os
theorem Grew.refl(w:World):Grew w w:=⟨0,#[],by simp [drewN_zero]⟩
theorem Grew.trans{w2:World}(h:Grew w w1)(h':Grew w1 w2):Grew w w2:=by
 obtain⟨q,os,rfl⟩:=h;obtain⟨q',os',rfl⟩:=h';refine⟨q+q',os++os',?_⟩;have:(Go.Sort.grow (w.drewN q) os).drewN q'=Go.Sort.grow (w.drewN (q+q')) os:=by simp [Go.Sort.grow,World.drewN,Nat.add_assoc]
 rw [this,Go.Sort.grow_grow]
theorem Grew.alloc(h:Grew w w1)(o:Obj):Grew w (w1.alloc o):=h.trans ⟨0,#[o],by rw [drewN_zero,Go.Sort.alloc_eq_grow]⟩
theorem Grew.drew(h:Grew w w1):Grew w w1.drew:=h.trans ⟨1,#[],by rw [Go.Sort.grow_empty];rfl⟩
theorem Grew.below(h:Grew w w1):Be w w1:=by obtain⟨q,os,rfl⟩:=h;exact⟨rfl,rfl,rfl,by simp,fun k hk=>by rw [Go.Sort.heap_grow_old _ _ (by simpa using hk)];rfl⟩
def GrewT(w:World):Type:={w':World // Grew w w'}
instance (w:World):Nonempty (GrewT w):=⟨⟨w,Grew.refl _⟩⟩
def IsGrew(w:World):World→Prop:=fun w'=>∃ x:GrewT w,w'=x.1
theorem isGrew_of{w':World}(h:Grew w w'):IsGrew w w':=⟨⟨w',h⟩,rfl⟩
@[go_sem] theorem isGrew_all  {p:World→Prop}:(∀ w',IsGrew w w'→p w')↔∀ x:GrewT w,p x.1:=⟨fun h x=>h _ ⟨x,rfl⟩,fun h w' ⟨x,hx⟩=>hx▸h x⟩
@[simp,go_sem] theorem grew_cell  (x:GrewT w) {a:Addr} (h:a.block<w.heap.size):World.cell? x.1 a=w.cell? a:=x.2.below.cell h
@[simp,go_sem] theorem grew_frozen  (x:GrewT w) {a:Addr} (h:a.block<w.heap.size):World.frozen? x.1 a=w.frozen? a:=x.2.below.frozen h
section
variable {α : Type} [Inhabited α] {enc : α → List Value} {k : Nat}
theorem flatK_list(hk:∀ x,(enc x).length=k)(xs:List α):(Go.Sort.flatK enc k xs.toArray).toList=xs.flatMap enc:=by
 apply List.ext_getElem?;intro t;rw [Array.getElem?_toList]
 by_cases ht:t<xs.length*k
 ·
  have k0:0<k:=by
    rcases Nat.eq_zero_or_pos k with h|h;· subst h;simp at ht
    exact h
  have hq:t / k<xs.length:=(Nat.div_lt_iff_lt_mul k0).2 ht;have hr:t % k<k:=Nat.mod_lt _ k0;have h1:=flat_get hk xs (t / k) (t % k) xs[t / k] (List.getElem?_eq_getElem hq) hr;rw [show t / k*k+t % k=t by rw [Nat.mul_comm];exact Nat.div_add_mod t k] at h1;rw [h1];have h2:=Go.Sort.get_flatK enc k xs.toArray t (by simpa using ht);rw [Array.getElem?_eq_getElem (by simpa using ht)];rw [getElem!_pos _ t (by simpa using ht)] at h2;rw [h2];have h3:xs.toArray[t / k]! = xs[t / k]:=by rw [getElem!_pos _ _ (by simpa using hq)];simp
  rw [h3,getElem!_pos _ _ (by rw [hk];exact hr),List.getElem?_eq_getElem (by rw [hk];exact hr)]
 rw [Array.getElem?_eq_none (by simpa using ht),List.getElem?_eq_none (by rw [flat_len hk];omega)]
theorem flatK_toArray(hk:∀ x,(enc x).length=k)(d:Array α):Go.Sort.flatK enc k d=(d.toList.flatMap enc).toArray:=by rw [← flatK_list hk d.toList]
theorem putCells_row(xs ys junk:List Value)(h:xs.length=ys.length):Go.Sort.putCells id 0 ys.toArray (xs++junk).toArray=(ys++junk).toArray:=by
 apply Array.ext_getElem?;intro t;unfold Go.Sort.putCells;rw [Array.getElem?_mapIdx]
 by_cases h1:t<ys.length
 · rw [List.getElem?_toArray,List.getElem?_append_left (by omega),List.getElem?_toArray,List.getElem?_append_left h1,List.getElem?_eq_getElem (by omega),List.getElem?_eq_getElem h1];simp [h1]
 rw [List.getElem?_toArray,List.getElem?_append_right (by omega),List.getElem?_toArray,List.getElem?_append_right (by omega),h];simp [h1]
theorem OwnAt.holdsK(hk:∀ x,(enc x).length=k){xs:List α}(h:OwnAt w B e k g xs.length cap (xs.flatMap enc)):Go.Sort.HoldsK enc k w g 0 xs.toArray:=by
 intro j hj;rw [Nat.zero_add];refine⟨?_,h.free j⟩;rw [flatK_toArray hk] at hj ⊢;refine h.cell ?_;have hj':j<(xs.flatMap enc).length:=by simpa using hj
 rw [List.getElem?_eq_getElem hj'];congr 1;have:=getElem!_pos (List.flatMap enc xs.toArray.toList).toArray j hj;rw [id,this];simp
theorem OwnAt.sorted(hk:∀ x,(enc x).length=k){xs:List α}(h:OwnAt w B e k g xs.length cap (xs.flatMap enc))(n:Nat)(d':Array α)(hd:d'.size=xs.length)(os:Array Obj) :
  OwnAt (Go.Proofs.sortWorldK enc k w g 0 n d' os) B e k g xs.length cap (d'.toList.flatMap enc)∧w.grownBy (Go.Proofs.sortWorldK enc k w g 0 n d' os) (some g):=by
 have hlt:=h.lt;obtain⟨junk,h1,h2⟩:=h.at';have hl:(xs.flatMap enc).length=(d'.toList.flatMap enc).length:=by rw [flat_len hk,flat_len hk];simp [hd]
 have hheap:(Go.Sort.putRowK enc k (Go.Sort.ahead w n) g 0 d').heap[g]? = some (.cells (d'.toList.flatMap enc++junk).toArray e (0,0)):=by unfold Go.Sort.putRowK Go.Sort.putRow Go.Sort.mapBlock;rw [flatK_toArray hk];simp only [Array.getElem?_modify,if_pos];have:(Go.Sort.ahead w n).heap=w.heap:=rfl;rw [this,h1];simp only [Option.map_some,Go.Sort.onCells];rw [putCells_row _ _ _ hl]
 refine⟨⟨⟨junk,?_,?_⟩,by rw [← hl];exact h.len,h.base,h.nc,h.cm⟩,?_⟩
 · unfold Go.Proofs.sortWorldK;rw [Go.Sort.heap_grow_old _ _ (by simp [Go.Sort.putRowK,Go.Sort.putRow,Go.Sort.mapBlock];exact hlt)];exact hheap
 · rw [List.length_append,← hl,← List.length_append];exact h2
 refine⟨rfl,rfl,rfl,by simp [Go.Proofs.sortWorldK,Go.Sort.putRowK,Go.Sort.putRow,Go.Sort.mapBlock,Go.Sort.ahead],fun i hi hne => ?_⟩;unfold Go.Proofs.sortWorldK;rw [Go.Sort.heap_grow_old _ _ (by simp [Go.Sort.putRowK,Go.Sort.putRow,Go.Sort.mapBlock];exact hi)];unfold Go.Sort.putRowK Go.Sort.putRow Go.Sort.mapBlock;simp only [Array.getElem?_modify];rw [if_neg (fun e=>hne (by rw [e]))];rfl
def SortRes(cf:α→α→Int)(enc:α→List Value)(k:Nat)(e:TypeId)(w:World)(B g cap:Nat)(xs:List α)(r:Ending)(w':World):Prop:=
 r=.returned (.tuple #[])∧∃ ys:List α,ys.Perm xs∧(ys.Pairwise fun a b=>¬ cf b a<0)∧OwnAt w' B e k g xs.length cap (ys.flatMap enc)∧w.grownBy w' (some g)
theorem sortRes_of(hk:∀ x,(enc x).length=k){cf:α→α→Int}{xs:List α}(h:OwnAt w B e k g xs.length cap (xs.flatMap enc)){f:Nat}{args:Array Value}
  (hc:Calls P f args w fun r w'=>r=.returned (.tuple #[])∧∃ d' n os,Go.Sort.PermIn 0 xs.toArray.size xs.toArray d'∧Go.Sort.SortedIn (Go.Proofs.ltOf cf) 0 xs.toArray.size d'∧w'=Go.Proofs.sortWorldK enc k w g 0 n d' os):Calls P f args w (SortRes cf enc k e w B g cap xs):=by
 rw [List.size_toArray] at hc;refine hc.mono fun r w' ⟨he,d',n,os,hp,hs,hw⟩=>⟨he,d'.toList,?_,?_,?_⟩
 ·
  obtain⟨p1,_,p3⟩:=hp;have hsz:d'.size=xs.length:=by simpa using p1
  have e1:(xs.toArray.extract 0 xs.toArray.size).toList=xs:=by simp
  have e2:(d'.extract 0 xs.toArray.size).toList=d'.toList:=by simp [← hsz]
  simp only [List.size_toArray] at p3 e1 e2;rw [e1,e2] at p3;exact p3
 ·
  rw [List.pairwise_iff_getElem];intro i j hi hj hij;have hsz:d'.size=xs.length:=by simpa using hp.1
  have:=hs i j (Nat.zero_le _) hij (by simp at hj;omega);unfold Go.Proofs.ltOf at this;rw [getElem!_pos d' j (by simpa using hj),getElem!_pos d' i (by simpa using hi)] at this;simpa using this
 obtain⟨a,b⟩:=h.sorted hk n d' (by simpa using hp.1) os;rw [hw];exact⟨a,b⟩
theorem sortF_any{ρ:Go.Shelf.Ren}(L:Go.Proofs.SlLaysF0.n6 P ρ)(aE:∀ w,(isAgg (ρ.t 24)).run P w=.ok true w)(zE:∀ w,(Go.sizeOf (ρ.t 24)).run P w=.ok k w)(hk:∀ x,(enc x).length=k)(h1:∀ x,∀ v∈enc x,v.oneCell'=true)
  (cf:α→α→Int) (hO:Go.Sort.SWO (Go.Proofs.ltOf cf)) (fn:Nat) (eg:∀ args w,(callFunc fn args).run P w=.ok (.enter fn args) w)
  (hcmp:∀ x y W,Calls P fn #[.agg (enc x).toArray,.agg (enc y).toArray] W fun e w'=>e=.returned (.int .i64 (cf x y))∧Grew W w')
     {xs:List α} (h:OwnAt w B e k g xs.length cap (xs.flatMap enc)) (hn:xs.length<4611686018427387904) :
  Calls P (ρ.f 6) #[.slice (some ⟨g,0,none⟩) xs.length cap,.func (.func fn) #[] #[]] w (SortRes cf enc k e w B g cap xs):=by have hc:=AnyQ.slices_SortFunc L k aE zE enc hk h1 cf hO fn #[] g 0 cap xs.toArray w eg (fun m os dk _ x y=>(hcmp x y _).mono fun _ _ ⟨he,q,os',hw⟩=>⟨he,q,os',hw⟩) (h.holdsK hk) h.lt (by simpa using hn);exact sortRes_of hk h hc
theorem sortF_none{ρ:Go.Shelf.Ren}(L:Go.Proofs.SlLaysF0.n6 P ρ)(p:Option Addr)(cap:Nat)(fv:Value)(w:World):Calls P (ρ.f 6) #[.slice p 0 cap,fv] w fun e w'=>e=.returned (.tuple #[])∧w'=w:=
 AnyF.slices_SortFunc_none L p cap fv w
theorem swo_key{α:Type}(key:α→Nat)(cf:α→α→Int)(h:∀ x y,(cf x y<0)=(key x<key y)):Go.Sort.SWO (Go.Proofs.ltOf cf) where
 irrefl x:=by unfold Go.Proofs.ltOf;simp [h]
 trans x y z h1 h2:=by unfold Go.Proofs.ltOf at *;simp [h] at *;omega
 ntrans x y z h1 h2:=by unfold Go.Proofs.ltOf at *;simp [h] at *;omega
end
end Go.Proofs.YtjccmcgglfncdaaGreatDoor
