/- What is proved: PlanSays, for every input; of the listed tables the walk needs the powers of ten. -/
import Derived.Test.YtjccmcgglfncdaaGreatDoorPNsC
import Derived.Test.YtjccmcgglfncdaaGreatDoorPRefR
set_option linter.unusedVariables false
set_option linter.unusedSimpArgs false
set_option maxRecDepth 100000
set_option maxHeartbeats 40000000
namespace Go.Proofs.YtjccmcgglfncdaaGreatDoor
open Go Go.RowKit
variable{s:ByteArray}{m n:Nat}
def chD(x:Int):ByteArray:=⟨#[UInt8.ofNat x.toNat]⟩
theorem conv_newD(W:World)(x:Int)(_:0≤x∧x<256):(convert 84 9 (.slice (some ⟨W.heap.size,0,none⟩) 1 1)).run Tryz.prog (W.alloc (.cells #[.int .u8 x] 5))=.ok (.string (chD x)) (W.alloc (.cells #[.int .u8 x] 5)):=by
 have:=run_convert_bytes_arg (P:=Tryz.prog) (W.alloc (.cells #[.int .u8 x] 5)) 84 5 Tryz.underlying84 Tryz.underlying5 W.heap.size 0 1 1 [x] rfl (fun i hi=>by
  obtain rfl:i=0:=by simp at hi;omega
  simp) 9 Tryz.underlying9
 rw [this];unfold chD;simp [strOfNums]
theorem chD_size(x:Int):(chD x).size=1:=rfl
def DgInv(n m:Nat)(s:ByteArray):Prop:=Lib.decDigits n=(if m<10 then [] else Lib.decDigits (m / 10))++s.data.toList
theorem chD_list(m:Nat):(chD (48+(m:Int) % 10)).data.toList=[UInt8.ofNat (48+m % 10)]:=by
 have:(48+(m:Int) % 10).toNat=48+m % 10:=by omega
 unfold chD;rw [this]
theorem dec_split(m:Nat):Lib.decDigits m=(if m<10 then [] else Lib.decDigits (m / 10))++[UInt8.ofNat (48+m % 10)]:=by
 rw [Lib.decDigits];split
 · rename_i h;rw [Nat.mod_eq_of_lt h];rfl
 rfl
theorem dgInv_start(n:Nat):DgInv n n (chD (48+(n:Int) % 10)):=by unfold DgInv;rw [chD_list];exact dec_split n
theorem dgInv_step(h:DgInv n m s)(hm:10≤m):DgInv n (m / 10) (chD (48+((m:Int) / 10) % 10)++s):=by
 unfold DgInv at *;have e:(m:Int) / 10=((m / 10:Nat):Int):=by omega
 rw [h,if_neg (by omega),e,ba_apl,chD_list,← List.append_assoc]
 conv=>lhs;rw [dec_split (m / 10)]
theorem dgInv_end(h:DgInv n m s)(hm:m<10):decB n=s:=by unfold DgInv at h;rw [if_pos hm,List.nil_append] at h;apply ByteArray.ext;apply Array.ext';exact h
theorem dgInv_size(hn:n<100000)(h:DgInv n m s):s.size≤6:=by have h1:=dec_len 5 n (show n<10 ^ 5 from hn);unfold DgInv at h;rw [h,List.length_append] at h1;have:s.size=s.data.toList.length:=rfl;omega
attribute [local irreducible] chD decB pidB textB DgInv
def DgRel(w:World)(n:Nat)(v0 v3:Value)(wr:World):Prop:=∃(m:Nat) (s:ByteArray),m≤n∧v0=.int .i64 m∧v3=.string s∧s.size≤6∧Hid (DgInv n m s)∧Be w wr
theorem rdigits_any(n:Nat)(w:World)(h:n<100000):Calls Tryz.prog 166 #[.int .i64 n] w fun e w'=>e=.returned (.string (decB n))∧Be w w':=by
 have hcv:=conv_newD w (48+(n:Int) % 10) (by omega);have HS:=Lh (dgInv_start n);have hz0:=dgInv_size h HS.o;go_enter Tryz.func166,Tryz.ntmps166;go_wp2_with fail;clear hcv;go_loopw [0,3] (fun v0 v3 wr=>DgRel w n v0 v3 wr) (fun v0 _ _=>(intOf v0).toNat)
 case atStart=>exact⟨n,_,Nat.le_refl _,rfl,rfl,hz0,HS,(Below.refl _ _).alloc (Nat.le_refl _) _⟩
 obtain⟨m,s,hm,rfl,rfl,hz,HI,hbl⟩:=hrel;clear hz0 HS
 by_cases hlt:m<10
 ·
  have HD:=Lh (dgInv_end HI.o hlt);have hd:decide ((10:Int)≤(m:Int))=false:=by simp;omega
  go_wp2;go_ret;exact⟨rvl (congrArg Value.string HD.o.symm),hbl⟩
 have HN:=Lh (dgInv_step HI.o (by omega));have hd:decide ((10:Int)≤(m:Int))=true:=by simp;omega
 have hcv:=conv_newD ‹World› (48+((m:Int) / 10) % 10) (by omega);have hz1:=chD_size (48+((m:Int) / 10) % 10);have hz2:=dgInv_size h HN.o;go_wp2;go_roundw
 case rel=>exact⟨m / 10,_,by omega,by rw [Int.natCast_ediv];rfl,rfl,hz2,HN,hbl.alloc hbl.size _⟩
 simp [intOf];omega
theorem rptext_any(p:PidM)(w:World):Calls Tryz.prog 165 #[pidV p] w fun e w'=>e=.returned (.string (pidB p))∧Be w w':=by
 have HA:=Lh (anw w (cP p) 25);have HB:=Lh (bnew (w:=w) (.cells (cP p) 25));have h1:=p.author.toNat_lt;have h2:=p.seq.toNat_lt;have z1:=decB_size (u:=p.author.toNat) (by omega);have z2:=decB_size (u:=p.seq.toNat) (by omega);have HE:Hid (decB p.author.toNat++⟨#[46]⟩++decB p.seq.toNat=pidB p):=by show _=_;unfold pidB;rfl
 unfold pidV;go_enter Tryz.func165,Tryz.ntmps165;go_upto_region 1 with fail;generalize w.alloc (.cells (cP p) 25)=w0 at *;obtain⟨c0,c1,sc⟩:=HA.o.c2;have HC1:Hid (∀ w',Be w0 w'→Calls Tryz.prog 166 #[.int .i64 p.author.toNat] w' fun e w''=>e=.returned (.string (decB p.author.toNat))∧Below w'.heap.size w' w''):=fun w' hb=>rdigits_any _ w' (by omega);have HC2:Hid (∀ w',Be w0 w'→Calls Tryz.prog 166 #[.int .i64 p.seq.toNat] w' fun e w''=>e=.returned (.string (decB p.seq.toNat))∧Below w'.heap.size w' w''):=fun w' hb=>rdigits_any _ w' (by omega);generalize decB p.author.toNat=A at *;generalize decB p.seq.toNat=B at *;refine wlo 11 fun hcur=>?_;repeat(first|refine lxq ?_|(refine lxl rfl ?_;go_wp2_with (first|(go_at_call 166;(with_reducible refine(HC1.o _ hcur).mono ?_);rintro e w' ⟨rfl,hb⟩;have hcur:=bvo hcur hb)|(go_at_call 166;(with_reducible refine(HC2.o _ hcur).mono ?_);rintro e w' ⟨rfl,hb⟩;have hcur:=bvo hcur hb));refine⟨iov hcur,?_⟩))
 refine lxe ?_;go_wp2;go_ret;exact⟨rvl (congrArg Value.string HE.o),bvo HB.o hcur⟩
theorem rvtext_any(v:VidM)(w:World):Calls Tryz.prog 97 #[vidV v] w fun e w'=>e=.returned (.string (textB v))∧Be w w':=by
 have HA:=Lh (anw w (cV v) 74);have HB:=Lh (bnew (w:=w) (.cells (cV v) 74));have h1:=v.n.toNat_lt;have z1:=pidB_size v.pid;have z2:=decB_size (u:=v.n.toNat) (by omega);have HE:=Lh (textB_eq v);unfold vidV;go_enter Tryz.func97,Tryz.ntmps97;go_upto_region 1 with fail;generalize w.alloc (.cells (cV v) 74)=w0 at *;obtain⟨c0,c1,c2,sc⟩:=HA.o.c3;have HC1:Hid (∀ w',Be w0 w'→Calls Tryz.prog 165 #[.agg (cP v.pid)] w' fun e w''=>e=.returned (.string (pidB v.pid))∧Below w'.heap.size w' w''):=fun w' hb=>rptext_any v.pid w';have HC2:Hid (∀ w',Be w0 w'→Calls Tryz.prog 166 #[.int .i64 v.n.toNat] w' fun e w''=>e=.returned (.string (decB v.n.toNat))∧Below w'.heap.size w' w''):=fun w' hb=>rdigits_any _ w' (by omega);generalize pidB v.pid=A at *;generalize decB v.n.toNat=B at *;refine wlo 10 fun hcur=>?_;repeat(first|refine lxq ?_|(refine lxl rfl ?_;go_wp2_with (first|(go_at_call 165;(with_reducible refine(HC1.o _ hcur).mono ?_);rintro e w' ⟨rfl,hb⟩;have hcur:=bvo hcur hb)|(go_at_call 166;(with_reducible refine(HC2.o _ hcur).mono ?_);rintro e w' ⟨rfl,hb⟩;have hcur:=bvo hcur hb));refine⟨iov hcur,?_⟩))
 refine lxe ?_;go_wp2;go_ret;exact⟨rvl (congrArg Value.string HE.o),bvo HB.o hcur⟩
end Go.Proofs.YtjccmcgglfncdaaGreatDoor
set_option maxRecDepth 100000
set_option maxHeartbeats 40000000
namespace Go.Proofs.YtjccmcgglfncdaaGreatDoor
open Go Go.RowKit
variable{b q:Bool}{L:List PatchM}{B:Nat}{α:Type}{v:Value}{f:VidM}{w:World}
theorem slName24:SlT Tryz.prog 95 97 6 72:=slT_of Tryz.underlying95 (by kernel_rfl) (by decide)
def RNames(w:World)(B:Nat)(v:Value)(ns:List NameM):Prop:=∃ xs:List LaidN,xs.map (·.n)=ns∧GOwn encN 6 97 w B v xs∧∀ x∈xs,NameAt w B x
theorem RNames.over{w':World}{ns:List NameM}(h:RNames w B v ns)(hb:Be w w'):RNames w' B v ns:=by obtain⟨xs,h1,h2,h3⟩:=h;exact⟨xs,h1,h2.over hb,fun x hx=>⟨(h3 x hx).1.over hb,(h3 x hx).2.over hb⟩⟩
theorem rnames_nil(w:World)(B:Nat):RNames w B (.slice none 0 0) []:=⟨[],rfl,gown_nil _ _,fun _ hx=>absurd hx (List.not_mem_nil)⟩
theorem rnames_snoc{w':World}{v':Value}{xs:List LaidN}{ns:List NameM}(h1:xs.map (·.n)=ns)(hO:GOwn encN 6 97 w B v xs)(hN:∀ x∈xs,NameAt w B x){y:LaidN}(hy:NameAt w B y)(hg:w.grownBy w' v.ownBlock)
  (ho:w'.ownsRow B 97 6 v' (xs.length+1) (xs.flatMap encN++encN y)):RNames w' B v' (ns++[y.n]):=by
 have hk:∀ x,NameAt w B x→NameAt w' B x:=fun x ⟨a,b⟩=>⟨own_grown a hg (own_apart a hO (by decide)),own_grown b hg (own_apart b hO (by decide))⟩;refine⟨xs++[y],by rw [List.map_append,h1];rfl,GOwn.snoc ho,fun x hx => ?_⟩;rcases List.mem_append.1 hx with hx|hx
 · exact hk x (hN x hx)
 rw [List.mem_singleton.1 hx];exact hk y hy
def NBox(w7 wi:World)(g:Nat)(f:VidM)(nm:ByteArray)(al:List TextL)(fl:List UInt8)(pa:Option Addr)(ca:Nat)(pf:Option Addr)(cf:Nat):Prop:=
 ArrT wi g 97 [.int .u8 f.pid.author.toNat,.int .u16 f.pid.seq.toNat,.int .u8 f.n.toNat,.string nm,.slice pa al.length ca,.slice pf fl.length cf]∧GOwn encT 1 9 wi w7.heap.size (.slice pa al.length ca) al ∧
 GOwn encU8 1 5 wi w7.heap.size (.slice pf fl.length cf) fl∧Be w7 wi∧w7.heap.size≤g
theorem nbox_new(w:World)(f:VidM):NBox w (w.alloc (.cells #[.int .u8 f.pid.author.toNat,.int .u16 f.pid.seq.toNat,.int .u8 f.n.toNat,.string ⟨#[]⟩,.slice none 0 0,.slice none 0 0] 97)) w.heap.size f ⟨#[]⟩ [] [] none 0 none 0:=
 ⟨arrT_new w [.int .u8 f.pid.author.toNat,.int .u16 f.pid.seq.toNat,.int .u8 f.n.toNat,.string ⟨#[]⟩,.slice none 0 0,.slice none 0 0] 97,gown_nil _ _,gown_nil _ _,bnew _,Nat.le_refl _⟩
theorem alloc_set{g:Nat}(h:g<w.heap.size)(j:Nat)(u:Value)(o:Obj):(w.alloc o).setCell ⟨g,j,none⟩ u=(w.setCell ⟨g,j,none⟩ u).alloc o:=by
 unfold World.setCell World.alloc;congr 1;apply Array.ext_getElem?;intro i;simp only [Array.getElem?_modify,Array.getElem?_push,Array.size_modify]
 by_cases hi:i=w.heap.size
 · subst hi;rw [if_neg (by omega),if_pos rfl,if_pos rfl]
 rw [if_neg hi,if_neg hi]
theorem gown_cast{enc:α→List Value}{sz:Nat}{e:TypeId}{xs ys:List α}(h:xs=ys)(g:GOwn enc sz e w B v xs):GOwn enc sz e w B v ys:=h▸g
section
variable {w7 wi wj : World} {g : Nat} {f : VidM} {nm : ByteArray} {al : List TextL} {fl : List UInt8} {pa : Option Addr} {ca : Nat} {pf : Option Addr} {cf : Nat}
theorem NBox.over(h:NBox w7 wi g f nm al fl pa ca pf cf)(hb:Be wi wj):NBox w7 wj g f nm al fl pa ca pf cf:=
 ⟨h.1.over hb,h.2.1.over hb,h.2.2.1.over hb,bvo h.2.2.2.1 hb,h.2.2.2.2⟩
theorem NBox.neA(h:NBox w7 wi g f nm al fl pa ca pf cf):(Value.slice pa al.length ca).ownBlock≠some g:=fun q=>(h.1.ne (show World.ownsRow _ _ _ _ _ _ _ from h.2.1) (by decide)) q.symm
theorem NBox.neF(h:NBox w7 wi g f nm al fl pa ca pf cf):(Value.slice pf fl.length cf).ownBlock≠some g:=fun q=>(h.1.ne (show World.ownsRow _ _ _ _ _ _ _ from h.2.2.1) (by decide)) q.symm
theorem NBox.name(h:NBox w7 wi g f nm al fl pa ca pf cf)(nm':ByteArray):NBox w7 (wi.setCell ⟨g,3,none⟩ (.string nm')) g f nm' al fl pa ca pf cf:=
 ⟨h.1.set 3 _,own_set h.2.1 h.neA _ _,own_set h.2.2.1 h.neF _ _,h.2.2.2.1.setCell (p:=⟨g,3,none⟩) h.2.2.2.2 _,h.2.2.2.2⟩
theorem NBox.also(h:NBox w7 wi g f nm al fl pa ca pf cf){al':List TextL}{pa':Option Addr}{ca':Nat}(ho:GOwn encT 1 9 wi w7.heap.size (.slice pa' al'.length ca') al'):NBox w7 (wi.setCell ⟨g,4,none⟩ (.slice pa' al'.length ca')) g f nm al' fl pa' ca' pf cf:=
 ⟨h.1.set 4 _,own_set ho (fun q=>(h.1.ne (show World.ownsRow _ _ _ _ _ _ _ from ho) (by decide)) q.symm) _ _,own_set h.2.2.1 h.neF _ _,h.2.2.2.1.setCell (p:=⟨g,4,none⟩) h.2.2.2.2 _,h.2.2.2.2⟩
theorem NBox.grown(h:NBox w7 wi g f nm al fl pa ca pf cf)(hg:wi.grownBy wj (Value.slice pf fl.length cf).ownBlock):ArrT wj g 97 [.int .u8 f.pid.author.toNat,.int .u16 f.pid.seq.toNat,.int .u8 f.n.toNat,.string nm,.slice pa al.length ca,.slice pf fl.length cf]∧GOwn encT 1 9 wj w7.heap.size (.slice pa al.length ca) al∧Be w7 wj:=
 ⟨h.1.grown (show World.ownsRow _ _ _ _ _ _ _ from h.2.2.1) (by decide) hg,own_grown h.2.1 hg (own_apart h.2.1 h.2.2.1 (by decide)),bgr h.2.2.2.1 h.2.2.2.1.size (show World.ownsRow _ _ _ _ _ _ _ from h.2.2.1) hg⟩
theorem NBox.flaw(h:NBox w7 wi g f nm al fl pa ca pf cf)(hg:wi.grownBy wj (Value.slice pf fl.length cf).ownBlock){fl':List UInt8}{pf':Option Addr}{cf':Nat}(ho:GOwn encU8 1 5 wj w7.heap.size (.slice pf' fl'.length cf') fl'):NBox w7 (wj.setCell ⟨g,5,none⟩ (.slice pf' fl'.length cf')) g f nm al fl' pa ca pf' cf':=by obtain⟨h1,h2,h3⟩:=h.grown hg;exact⟨h1.set 5 _,own_set h2 h.neA _ _,own_set ho (fun q=>(h1.ne (show World.ownsRow _ _ _ _ _ _ _ from ho) (by decide)) q.symm) _ _,h3.setCell (p:=⟨g,5,none⟩) h.2.2.2.2 _,h.2.2.2.2⟩
theorem NBox.at(h:NBox w7 wi g f nm al fl pa ca pf cf)(hB:B≤w7.heap.size):NameAt wi B ⟨⟨f,nm,al,fl⟩,pa,ca,pf,cf⟩:=⟨h.2.1.base hB,h.2.2.1.base hB⟩
end
theorem names_len24(L:List PatchM)(f:VidM)(hl:∀ p∈L,p.ops.length≤200):(namesM L f).length≤(idsM L).length:=by
 unfold namesM;rw [List.length_map];refine nodup_len ?_ fun v hv => ?_
 · exact(rises_setS revK_inj _).imp fun {a b} h e=>by rw [e] at h;omega
 rw [mem_setS revK_inj] at hv;obtain⟨y,hy,rfl⟩:=List.mem_map.1 hv;rw [mem_idsM hl,(aliveM_at hl hy).1];rfl
def nmQ(x:VertM)(f:VidM)(q:Bool):ByteArray:=if q=true then x.text++(tilde++textB f) else x.text
def flQ(c:Bool)(q:Bool):List UInt8:=(if c=true then [2] else [])++(if q=true then [4] else [])
theorem nmR_nil{pre:List VidM}(h:namesM L f=[]):nmR L pre f=⟨f,tilde++textB f,[],[3]⟩:=by unfold nmR;rw [h]
theorem nmR_cons{pre:List VidM}{x:VertM}{l:List VertM}{al:List TextL}{c:Bool}(h:namesM L f=x :: l)(ha:alsoTo (x :: l) x.text (x :: l).length=al)(hc:decide (0<al.length)=c)(hq:pre.any (firstIs L x.text)=q):nmR L pre f=⟨f,nmQ x f q,al,flQ c q⟩:=by
 unfold nmR;rw [h];rw [alsoTo_all] at ha;simp only [ha,hq];unfold nmQ flQ;cases c with
 | true=>have:=of_decide_eq_true hc;rw [if_neg (show ¬ al.length=0 by omega)];rfl
 | false=>have:=of_decide_eq_false hc;rw [if_pos (show al.length=0 by omega)];rfl
theorem first_nil{t:ByteArray}(h:namesM L f=[]):firstIs L t f=false:=by unfold firstIs;rw [h]
theorem first_cons{t:ByteArray}{y:VertM}{l:List VertM}(h:namesM L f=y :: l)(hb:decide (y.text=t)=b):firstIs L t f=b:=by unfold firstIs;rw [h];exact hb
theorem any_next{l:List α}{p:α→Bool}{j:Nat}{y:α}(h:(l.take j).any p=q)(hy:l[j]? = some y)(hb:p y=b):(l.take (j+1)).any p=(q || b):=by rw [take_succ' hy,List.any_append,h];simp [hb]
theorem nmQ_ne(x:VertM)(f:VidM):¬ nmQ x f true=x.text:=fun e=>by have h1:=congrArg ByteArray.size e;unfold nmQ tilde at h1;rw [if_pos rfl,ByteArray.size_append,ByteArray.size_append] at h1;have:(⟨#[126]⟩:ByteArray).size=1:=rfl;omega
theorem nmQ_f(x:VertM)(f:VidM):nmQ x f false=x.text:=rfl
theorem nmQ_t(x:VertM)(f:VidM){T:ByteArray}(h:textB f=T):nmQ x f true=x.text++(⟨#[126]⟩:ByteArray)++T:=by rw [ByteArray.append_assoc,← h];rfl
theorem flQ_tf:flQ true false=[2]:=rfl
theorem flQ_ff:flQ false false=[]:=rfl
theorem flQ_t(c:Bool){fl:List UInt8}(h:flQ c false=fl):flQ c true=fl++[4]:=by subst h;cases c <;> rfl
theorem flQ_len(c q:Bool):(flQ c q).length≤2:=by cases c <;> cases q <;> decide
theorem any_or{l:List α}{p:α→Bool}{j:Nat}{y:α}{r:Bool}(h:(l.take j).any p=q)(hy:l[j]? = some y)(hb:p y=b)(hr:(q || b)=r):(l.take (j+1)).any p=r:=by rw [any_next h hy hb,hr]
theorem allR_one(L:List PatchM){fs:List VidM}{k:Nat}(h:fs[k]? = some f):allR L [] (fs.take (k+1))=allR L [] (fs.take k)++[nmR L (fs.take k) f]:=by rw [take_succ' h,allR_snoc,List.nil_append]
theorem allR_len(L:List PatchM):∀(l pre:List VidM),(allR L pre l).length=l.length
 | [],pre=>rfl
 | f :: l,pre=>by rw [allR,List.length_cons,allR_len L l,List.length_cons]
def RAllIn(w2:World)(L:List PatchM)(fs:List VidM)(v3 v5:Value)(wr:World):Prop:=∃ k:Nat,k≤fs.length∧v5=.int .i64 k∧Hid (RNames wr w2.heap.size v3 (allR L [] (fs.take k)))∧Hid (Be w2 wr)
def RAlIn(w7:World)(g:Nat)(f:VidM)(x:VertM)(l:List VertM)(v9:Value)(wi:World):Prop:=∃(j:Nat) (pa:Option Addr) (ca:Nat),1≤j∧j≤(x :: l).length∧v9=.int .i64 j∧Hid (NBox w7 wi g f ⟨#[]⟩ (alsoTo (x :: l) x.text j) [] pa ca none 0)
def RNmIn(w7:World)(L:List PatchM)(fs:List VidM)(k g:Nat)(f:VidM)(x:VertM)(al:List TextL)(c:Bool)(pa:Option Addr)(ca:Nat)(v10:Value)(wi:World):Prop:=∃(j:Nat) (q:Bool) (pf:Option Addr) (cf:Nat),j≤k∧v10=.int .i64 j∧Hid ((fs.take j).any (firstIs L x.text)=q)∧Hid (NBox w7 wi g f (nmQ x f q) al (flQ c q) pa ca pf cf)
def RAllRes(w:World)(ns:List NameM)(e:Ending)(w':World):Prop:=∃ v,e=.returned v∧RNames w' w.heap.size v ns∧Be w w'
attribute [local irreducible] namesM idsM allR nmR textB alsoTo firstIs nmQ flQ putT aliveTo filesM vertsM
theorem rall24_any(gv:Value)(xs:List LaidP)(w:World)(hv:Pats w gv xs)(hn:xs.length≤300)(hw:WfG (patsOf xs))(hil:(idsM (patsOf xs)).length≤100000) :
  Calls Tryz.prog 43 #[rgV gv] w (RAllRes w (allM (patsOf xs))):=by
 rw [allM_ref];have HV:=Lh hv;have HWf:=Lh hw;have hl:∀ x∈xs,x.p.ops.length≤200:=fun x hx=>wf_len hw x.p (List.mem_map.2 ⟨x,hx,rfl⟩);have HL:=Lh hl;have hvl:(vertsM (patsOf xs)).length≤100000:=by unfold vertsM;rw [List.length_map];exact hil
 have hfl:(aliveTo (patsOf xs) (filesM (patsOf xs)).length).length≤100000:=Nat.le_trans (aliveTo_len _ _) (Nat.le_trans (filesM_len _) hil);have HNO:Hid (∀ f x,x∈namesM (patsOf xs) f→nameOk x.text=true):=Lh fun f x hx=>name_ok hw hx;have HNL:Hid (∀ f,(namesM (patsOf xs) f).length≤100000):=Lh fun f=>Nat.le_trans (names_len24 _ f (wf_len hw)) hil;obtain⟨a,cap,rfl,h1,h2,hc⟩:=hv.1.at encPat_len;unfold maxLen at h2;have HG:=Lh (anw w #[.slice a xs.length cap] 34);have HB:=Lh (bnew (w:=w) (.cells #[.slice a xs.length cap] 34));clear hv hw hl hc;unfold rgV;go_enter Tryz.func43,Tryz.ntmps43;go_upto_region 2 with fail;generalize w.alloc (.cells #[.slice a xs.length cap] 34)=w0 at *;obtain⟨g0,sg⟩:=HG.o.c1;have HCall:Hid (Calls Tryz.prog 96 #[.agg #[.slice a xs.length cap]] w0 (SetRes encVid 3 w0 (aliveTo (patsOf xs) (filesM (patsOf xs)).length))):=Lh (ralive24_any _ xs w0 (HV.o.over HB.o) hn (fun x hx=>Nat.le_trans (HL.o x hx) (by omega)) hil hvl);generalize aliveTo (patsOf xs) (filesM (patsOf xs)).length=fs at *;go_upto_region 3 with(first|(go_at_call 96;(with_reducible refine HCall.o.mono ?_);rintro e w2 ⟨u4,rfl,hu4,hb2⟩))
 have HB2:=Lh (bvo HB.o hb2);have HG2:=Lh (HG.o.over hb2);have HV2:=Lh (HV.o.over HB2.o);obtain⟨a4,c4,rfl,t1,t2,hc4⟩:=hu4.at encVid_len;unfold maxLen at t2;have HC4:=Lh hc4;generalize hL:patsOf xs=LL at *;have HLL:=Lh hL;clear hu4 hc4 hb2 HCall g0 sg HG hL;go_wp2;go_loopw [3,5] (fun v3 v5 wr=>RAllIn w2 LL fs v3 v5 wr) (fun _ v5 _=>fs.length - (intOf v5).toNat)
 case atStart=>exact⟨0,Nat.zero_le _,rfl,(by show RNames _ _ _ _;unfold allR;exact rnames_nil _ _),Lh (Below.refl _ _)⟩
 rename World=>wr;obtain⟨k,hk,rfl,HN,HBl⟩:=hrel
 by_cases hlt:k<fs.length
 rotate_left
 ·
  obtain rfl:k=fs.length:=by omega
  have HE:=HN.o;rw [List.take_length] at HE;obtain⟨ys,h5,h6,h7⟩:=HE;have HE2:Hid (RNames wr w.heap.size _ (allR LL [] fs)):=Lh ⟨ys,h5,h6.base HB2.o.size,fun x hx=>⟨(h7 x hx).1.base HB2.o.size,(h7 x hx).2.base HB2.o.size⟩⟩;clear h5 h6 h7 HN;go_wp2;go_ret;exact⟨_,rfl,HE2.o,bvo HB2.o HBl.o⟩
 obtain⟨b4,o4,rfl,s4,hcb⟩:=HC4.o.resolve_left (by omega);have HFc:=Lh hcb;obtain⟨fv,hfv⟩:=gol hlt;have HK_fv:=Lh hfv;have HSu:=Lh (allR_one LL hfv);have HG6:=Lh (HG2.o.over HBl.o);have HV6:=Lh (HV2.o.over HBl.o);have HOf:Hid (∀(f:VidM) (W:World),Be w2 W→Calls Tryz.prog 45 #[.agg #[.slice a xs.length cap],.agg (cV f)] W fun e w'=>∃ a6 n6 c6,e=.returned (.slice a6 n6 c6)∧(namesM LL f).length=n6∧GRow encVert 9 w' (.slice a6 n6 c6) (namesM LL f)∧Be W w'):=Lh fun f W hb=>by have:=rnof_any _ xs f W (HV2.o.over hb) hn HL.o (by rw [HLL.o];exact hil);rw [HLL.o] at this;refine this.mono ?_;rintro e w' ⟨v6,rfl,hr6,hb6⟩;obtain⟨a6,c6,rfl,_,_,_⟩:=hr6.at encVert_len;exact⟨a6,_,c6,rfl,rfl,hr6,hb6⟩
 clear hcb hfv;obtain⟨g0,sg⟩:=HG6.o.c1;have HP_p:=Lh (HFc.o k fv HK_fv.o wr HBl.o);obtain⟨p0,p1,p2,sp⟩:=rc3 HP_p.o;obtain⟨nl,hnl⟩:∃ nl,namesM LL fv=nl:=⟨_,rfl⟩;have HOf1:Hid (∀ W,Be wr W→Calls Tryz.prog 45 #[.agg #[.slice a xs.length cap],.agg (cV fv)] W fun e w'=>∃ a6 n6 c6,e=.returned (.slice a6 n6 c6)∧nl.length=n6∧GRow encVert 9 w' (.slice a6 n6 c6) nl∧Be W w'):=Lh fun W hb=>by rw [← hnl];exact HOf.o fv W (bvo HBl.o hb)
 have hnll:=HNL.o fv;rw [hnl] at hnll;have HNl:=Lh hnl;clear hnl;go_upto_region 6 with fail;refine wlo 7 fun hcur=>?_;repeat(first|refine lxq ?_|(refine lxl rfl ?_;go_wp2_with (first|(go_at_call 45;(with_reducible refine(HOf1.o _ hcur).mono ?_);rintro e w' ⟨a6,n6,c6,rfl,hn6,hr6,hb⟩;have HR6:=Lh hr6;have HN6:=Lh hn6;clear hn6;replace hcur:=bvo hcur hb;clear hb hr6));refine⟨iov hcur,?_⟩))
 refine lxe ?_;rename World=>w7;have hn6:=HN6.o;clear HN6;have HB7:=Lh hcur;have HBl7:=Lh (bvo HBl.o hcur);clear hcur g0 sg p0 p1 p2 sp HOf1;have HP_p:=Lh (HFc.o k fv HK_fv.o w7 HBl7.o);obtain⟨p0,p1,p2,sp⟩:=rc3 HP_p.o;obtain⟨a6',c6',he6,n61,n62,hc6⟩:=HR6.o.at encVert_len;obtain⟨he6a,he6b,he6c⟩:=Value.slice.inj he6;subst he6a;subst he6c;clear he6 he6b;unfold maxLen at n62;have HC6:=Lh hc6;have hs7:=HBl7.o.size;clear hc6;go_upto_region 8 with fail;have HN8:=Lh (nbox_new w7 fv);generalize w7.alloc (.cells #[.int .u8 fv.pid.author.toNat,.int .u16 fv.pid.seq.toNat,.int .u8 fv.n.toNat,.string ⟨#[]⟩,.slice none 0 0,.slice none 0 0] 97)=w8 at *;generalize hg7:w7.heap.size=g at HN8 ⊢;clear p0 p1 p2 sp;have HG7:=Lh hg7;clear hg7;cases nl with
 | nil =>
  obtain rfl:n6=0:=hn6.symm;have HE:=Lh (nmR_nil (pre:=fs.take k) HNl.o);have HTx:Hid (∀ W,Calls Tryz.prog 97 #[.agg (cV fv)] W fun e w'=>e=.returned (.string (textB fv))∧Be W w'):=Lh fun W=>rvtext_any fv W;have zt:=textB_size fv;generalize hT:textB fv=T at *;have HT:=Lh hT;clear hT;have HP_p:=Lh (HFc.o k fv HK_fv.o w8 (bov HBl7.o (by have:=HG7.o;omega) HN8.o.2.2.2.1));obtain⟨p0,p1,p2,sp⟩:=rc3 HP_p.o;go_upto_region 10 with(first|(go_at_call 97;(with_reducible refine(HTx.o _).mono ?_);rintro e w9 ⟨rfl,hb9⟩;have HN9:=Lh (HN8.o.over hb9);have c0:=HN9.o.1.arr.k 0 rfl;have c1:=HN9.o.1.arr.k 1 rfl;have c2:=HN9.o.1.arr.k 2 rfl;have c3:=HN9.o.1.arr.k 3 rfl;have c4:=HN9.o.1.arr.k 4 rfl;have c5:=HN9.o.1.arr.k 5 rfl;have sc:=HN9.o.1.arr.lt;have cf3:=HN9.o.1.arr.free 3;clear hb9))
  have HN10:=Lh (HN9.o.name ((⟨#[126]⟩:ByteArray)++T));generalize w9.setCell ⟨g,3,none⟩ (.string ((⟨#[126]⟩:ByteArray)++T))=w10 at *;clear c0 c1 c2 c3 c4 c5 sc cf3 p0 p1 p2 sp HN9 HTx;obtain⟨c0,c1,c2,c3,c4,c5,sc⟩:=HN10.o.1.arr.c6;have cf5:=HN10.o.1.arr.free 5;go_upto_region 11 with fail;have HN11:Hid (NBox w7 ((w10.alloc (.cells #[.int .u8 3] 5)).setCell ⟨g,5,none⟩ (.slice (some ⟨w10.heap.size,0,none⟩) 1 1)) g fv ((⟨#[126]⟩:ByteArray)++T) [] [3] none 0 (some ⟨w10.heap.size,0,none⟩) 1):=Lh ((HN10.o.over (bnew (.cells #[.int .u8 3] 5))).flaw (fl':=[3]) (World.grownBy.refl _ _) (own_lit (enc:=encU8) (sz:=1) w10 5 [3] w7.heap.size rfl (by decide) (by have:=HN10.o.2.2.2.1.size;exact this)));rw [alloc_set sc] at HN11;generalize (w10.setCell ⟨g,5,none⟩ (.slice (some ⟨w10.heap.size,0,none⟩) 1 1)).alloc (.cells #[.int .u8 3] 5)=w11 at *;clear c0 c1 c2 c3 c4 c5 sc cf5 HN10;have HE2:Hid (nmR LL (fs.take k) fv=⟨fv,(⟨#[126]⟩:ByteArray)++T,[],[3]⟩):=by show _=_;rw [HE.o];rfl
  have HBe:=Lh (bov HBl7.o (by have:=HG7.o;omega) HN11.o.2.2.2.1);obtain⟨ys,hys,hO,hNa⟩:=HN.o.over (bvo HB7.o (by have:=HN11.o.2.2.2.1;exact this));have HYs:=Lh hys;have HOx:=Lh hO;have HNa:=Lh hNa;have hyl:ys.length=k:=by have h9:=allR_len LL (fs.take k) [];rw [← hys,List.length_map,List.length_take] at h9;omega
  have hNx:ys.length+1≤1099511627776:=by omega
  have hBx:w2.heap.size≤w11.heap.size:=HBe.o.size;have HAt:=Lh (HN11.o.at (B:=w2.heap.size) (by have:=HG7.o;omega));clear hys hO hNa;obtain⟨d0,d1,d2,d3,d4,d5,sd⟩:=HN11.o.1.arr.c6;go_wp2_with (at_builtin;refine apD slName24 rfl _ _ rfl w2.heap.size _ _ (drf _) 1 _ _ _ HOx.o rfl rfl rfl rfl hNx (by decide) hBx ?_;intro v19 w19 ho19 hg19);have HNs:=Lh (rnames_snoc (y:=⟨⟨fv,(⟨#[126]⟩:ByteArray)++T,[],[3]⟩,none,0,(some ⟨w10.heap.size,0,none⟩),1⟩) HYs.o HOx.o HNa.o HAt.o hg19 ho19);have HB19:=Lh (bgr HBe.o hBx HOx.o hg19);clear ho19 hg19;go_roundw
  case rel=>exact⟨k+1,hlt,by go_num,(by show RNames _ _ _ _;rw [HSu.o,HE2.o];exact HNs.o),HB19⟩
  simp [intOf];omega
 | cons x l =>
  obtain⟨b6,o6,rfl,s6,hcx⟩:=HC6.o.resolve_left (by simp);have HX6:Hid (∀(i:Nat) (u:VertM),(x :: l)[i]? = some u→∀ W:World,Be w7 W→b6<W.heap.size∧W.cell? ⟨b6,o6+i*9+7,none⟩=some (.string u.text)):=Lh fun i u hu W hb=>⟨(hcx i u hu W hb).1,(hcx i u hu W hb).2 7 _ rfl⟩;have hno:=HNO.o fv x (by rw [HNl.o];exact List.mem_cons_self ..);have zx:x.text.size≤16:=by unfold nameOk at hno;simp only [Bool.and_eq_true,decide_eq_true_eq] at hno;exact hno.2.2
  have hl6:(x :: l).length=n6:=hn6;have hn0:0<n6:=by rw [← hn6];simp
  clear hcx hno hn6;have e8:((n6:Int) == 0)=false:=by simp;omega
  have y7:=(HX6.o 0 x rfl w8 HN8.o.2.2.2.1).2;rw [Nat.zero_mul,Nat.add_zero] at y7;have sy:=(HX6.o 0 x rfl w8 HN8.o.2.2.2.1).1;have hd0:decide ((0:Int)<(n6:Int))=true:=decide_eq_true (by omega);go_wp2_with fail;clear y7 sy;go_hide hQ;go_loopw [9] (fun v9 wi=>RAlIn w7 g fv x l v9 wi) (fun v9 _=>n6 - (intOf v9).toNat)
  case atStart=>exact⟨1,none,0,Nat.le_refl _,by omega,rfl,(by show NBox _ _ _ _ _ _ _ _ _ _ _;rw [alsoTo_one];exact HN8.o)⟩
  rename World=>wi;obtain⟨j,pa,ca,hj1,hj2,rfl,HNj⟩:=hrel;have HLa:=alsoTo_len (x :: l) x.text j;have HBj:=Lh HNj.o.2.2.2.1;obtain⟨al,hal⟩:∃ al,alsoTo (x :: l) x.text j=al:=⟨_,rfl⟩;rw [hal] at HNj HLa;have HAl:=Lh hal;clear hal
  by_cases hlj:j<n6
  ·
   obtain⟨u,hu⟩:=gol (xs:=x :: l) (by rw [hl6];exact hlj);have HU:=Lh hu;have u7:=(HX6.o j u hu wi HBj.o).2;have su:=(HX6.o j u hu wi HBj.o).1;clear hu
   by_cases hux:u.text=x.text
   ·
    have e16:=seq_t hux;have HA1:Hid (alsoTo (x :: l) x.text (j+1)=al):=(by show _=_;rw [alsoTo_no HU.o hux,HAl.o]);clear hux;go_wp2;go_roundw
    case rel=>exact⟨j+1,pa,ca,by omega,by omega,by go_num,(by show NBox _ _ _ _ _ _ _ _ _ _ _;rw [HA1.o];exact HNj.o)⟩
    simp [intOf];omega
   have e16:=seq_f hux;obtain⟨al2,hal2⟩:∃ al2,putT u.text.data.toList al=al2:=⟨_,rfl⟩;have HA1:Hid (alsoTo (x :: l) x.text (j+1)=al2):=(by show _=_;rw [alsoTo_yes HU.o hux,HAl.o,hal2]);have HPut:Hid (∀ W,Be wi W→Calls Tryz.prog 98 #[.slice pa al.length ca,.string u.text] W (SetOwnT W al2)):=Lh fun W hb=>by rw [← hal2];exact rput24_any _ al u.text W (HNj.o.2.1.row.over hb) (by omega)
   clear hux hal2;obtain⟨c0,c1,c2,c3,c4,c5,sc⟩:=HNj.o.1.arr.c6;have cf4:=HNj.o.1.arr.free 4;have hbg:¬ b6=g:=(by have:=HG7.o;omega);go_upto_region 17 with fail;have hcur:World.grownBy wi wi.drew (some g):=⟨rfl,rfl,rfl,Nat.le_refl _,fun _ _ _=>rfl⟩;refine wlex (C:=IsKept wi (some g)) 10 [1] (by kernel_rfl) (by kernel_rfl) (isKept_of hcur) ?_;simp only [Tsc,Tz,Dsc,Dz];(repeat(first|refine lxq ?_|(refine lxl rfl ?_;go_wp2_with (first|(go_at_call 98;(with_reducible refine(HPut.o _ (Below.refl _ _).drew).mono ?_);rintro e w9 ⟨va,rfl,hoa,hb⟩;obtain⟨pa2,ca2,hva⟩:=own_sl hoa;subst hva;have HBk:Hid (Be wi w9):=Lh (bov (Below.refl _ _).drew (Nat.le_refl _) hb);have HN9:=Lh (HNj.o.over HBk.o);have HOa:=Lh hoa;replace hcur:=gtr hcur (grown_of_below hb);clear hb hoa;have d0:=HN9.o.1.arr.k 0 rfl;have d1:=HN9.o.1.arr.k 1 rfl;have d2:=HN9.o.1.arr.k 2 rfl;have d3:=HN9.o.1.arr.k 3 rfl;have d4:=HN9.o.1.arr.k 4 rfl;have d5:=HN9.o.1.arr.k 5 rfl;have sd:=HN9.o.1.arr.lt;have df4:=HN9.o.1.arr.free 4));refine⟨isKept_of (by first|exact hcur|exact only_alloc hcur _|exact gtr hcur (gsc _ _ _)|exact gtr (gtr hcur (gsc _ _ _)) (gsc _ _ _)),?_⟩)));refine lxe ?_;have HN17:=Lh (HN9.o.also (HOa.o.base (by have:=HBj.o.size;exact this)));clear hcur;go_wp2;go_roundw
   case rel=>exact⟨j+1,pa2,ca2,by omega,by omega,by go_num,(by show NBox _ _ _ _ _ _ _ _ _ _ _;rw [HA1.o];exact HN17.o)⟩
   simp [intOf];omega
  obtain rfl:j=n6:=by omega
  have HAe:Hid (alsoTo (x :: l) x.text (x :: l).length=al):=Lh (by rw [hl6];exact HAl.o);obtain⟨c,hc⟩:∃ c,decide (0<al.length)=c:=⟨_,rfl⟩;have HC:=Lh hc;subst hQ;obtain⟨c0,c1,c2,c3,c4,c5,sc⟩:=HNj.o.1.arr.c6;have cf5:=HNj.o.1.arr.free 5;go_upto_if 76 with fail;go_cut [] (fun wx=>∃ pf cf,Hid (NBox w7 wx g fv ⟨#[]⟩ al (flQ c false) pa ca pf cf))
  case first =>
   cases c with
   | true =>have d18:decide ((0:Int)<(al.length:Int))=true:=decide_eq_true (by have:=of_decide_eq_true hc;omega);have hN1:([]:List UInt8).length+1≤1099511627776:=(by decide);have hB1:=HBj.o.size;clear hc;go_wp2_with ((at_builtin;refine apD slByte rfl _ _ rfl w7.heap.size _ _ (drf _) 1 _ _ _ HNj.o.2.2.1 rfl rfl rfl rfl hN1 (by decide) hB1 ?_;intro v13 w13 ho13 hg13);(obtain⟨pf,cf,hpf⟩:=own_sl (show GOwn encU8 1 5 w13 w7.heap.size v13 [2] from GOwn.snoc (xs:=[]) (x:=2) ho13);subst hpf;have HOf:=Lh (show GOwn encU8 1 5 w13 w7.heap.size (.slice pf 1 cf) [2] from GOwn.snoc (xs:=[]) (x:=2) ho13);have HGr:=Lh (HNj.o.grown hg13);have HGg:=Lh hg13;have q5:=HGr.o.1.arr.k 5 rfl;have q5f:=HGr.o.1.arr.free 5;have q5s:=HGr.o.1.arr.lt;clear ho13 hg13));go_meet;exact⟨pf,cf,Lh (by show NBox _ _ _ _ _ _ _ _ _ _ _;rw [flQ_tf];exact HNj.o.flaw (fl':=[2]) HGg.o HOf.o)⟩
   | false =>have d18:decide ((0:Int)<(al.length:Int))=false:=decide_eq_false (by have:=of_decide_eq_false hc;omega);clear hc;go_wp2;go_meet;exact⟨none,0,Lh (by show NBox _ _ _ _ _ _ _ _ _ _ _;rw [flQ_ff];exact HNj.o)⟩
  obtain⟨pf,cf,HNc⟩:=hcut;rename World=>wc;clear c0 c1 c2 c3 c4 c5 cf5 sc hc;obtain⟨c0,c1,c2,c3,c4,c5,sc⟩:=HNc.o.1.arr.c6;have cf3:=HNc.o.1.arr.free 3;go_upto_region 21 with fail;have HN20:=Lh (HNc.o.name x.text);generalize wc.setCell ⟨g,3,none⟩ (.string x.text)=wd at *;clear c0 c1 c2 c3 c4 c5 cf3 sc HNc;go_wp2;go_hide hQ2;go_loopw [10] (fun v10 wi=>RNmIn w7 LL fs k g fv x al c pa ca v10 wi) (fun v10 _=>k - (intOf v10).toNat)
  case atStart=>exact⟨0,false,pf,cf,Nat.zero_le _,rfl,(by show _=_;simp),(by show NBox _ _ _ _ _ _ _ _ _ _ _;rw [nmQ_f];exact HN20.o)⟩
  rename World=>wq;obtain⟨j,q,pf2,cf2,hj,rfl,HQ,HNq⟩:=hrel;have HBq:=Lh (bov HBl7.o (by have:=HG7.o;omega) HNq.o.2.2.2.1)
  by_cases hjk:j<k
  rotate_left
  ·
   obtain rfl:j=k:=(by omega);have HE2:=Lh (nmR_cons HNl.o HAe.o HC.o HQ.o);obtain⟨fl,hfl⟩:∃ fl,flQ c q=fl:=⟨_,rfl⟩;obtain⟨nm,hnm⟩:∃ nm,nmQ x fv q=nm:=⟨_,rfl⟩;rw [hfl,hnm] at HNq HE2;clear hfl hnm;subst hQ2;have HBe:=Lh (bov HBl7.o (by have:=HG7.o;omega) HNq.o.2.2.2.1);obtain⟨ys,hys,hO,hNa⟩:=HN.o.over (bvo HB7.o (by have:=HNq.o.2.2.2.1;exact this));have HYs:=Lh hys;have HOx:=Lh hO;have HNa:=Lh hNa;have hyl:ys.length=j:=(by have h9:=allR_len LL (fs.take j) [];rw [← hys,List.length_map,List.length_take] at h9;omega);have hNx:ys.length+1≤1099511627776:=(by omega);have hBx:w2.heap.size≤wq.heap.size:=HBe.o.size;have HAt:=Lh (HNq.o.at (B:=w2.heap.size) (by have:=HG7.o;omega));clear hys hO hNa;obtain⟨d0,d1,d2,d3,d4,d5,sd⟩:=HNq.o.1.arr.c6;go_wp2_with (at_builtin;refine apD slName24 rfl _ _ rfl w2.heap.size _ _ (drf _) 1 _ _ _ HOx.o rfl rfl rfl rfl hNx (by decide) hBx ?_;intro v19 w19 ho19 hg19);have HNs:=Lh (rnames_snoc (y:=⟨⟨fv,nm,al,fl⟩,pa,ca,pf2,cf2⟩) HYs.o HOx.o HNa.o HAt.o hg19 ho19);have HB19:=Lh (bgr HBe.o hBx HOx.o hg19);clear ho19 hg19;go_roundw
   case rel=>exact⟨j+1,hlt,by go_num,(by show RNames _ _ _ _;rw [HSu.o,HE2.o];exact HNs.o),HB19⟩
   simp [intOf];omega
  obtain⟨f2,hf2⟩:=gol (xs:=fs) (i:=j) (by omega);have HK_f2:=Lh hf2;have hjf:j<fs.length:=by omega
  have HGq:=Lh (HG2.o.over HBq.o);obtain⟨nl2,hnl2⟩:∃ nl,namesM LL f2=nl:=⟨_,rfl⟩;have HOf2:Hid (∀ W,Be wq W→Calls Tryz.prog 45 #[.agg #[.slice a xs.length cap],.agg (cV f2)] W fun e w'=>∃ a6 n6 c6,e=.returned (.slice a6 n6 c6)∧nl2.length=n6∧GRow encVert 9 w' (.slice a6 n6 c6) nl2∧Be W w'):=Lh fun W hb=>by rw [← hnl2];exact HOf.o f2 W (bvo HBq.o hb)
  have hnll2:=HNL.o f2;rw [hnl2] at hnll2;have HNl2:=Lh hnl2;clear hnl2 hf2;obtain⟨g0,sg⟩:=HGq.o.c1;have HP_q:=Lh (HFc.o j f2 HK_f2.o wq HBq.o);obtain⟨q0,q1,q2,sq⟩:=rc3 HP_q.o;go_upto_region 24 with fail;refine wlo 7 fun hcur=>?_;repeat(first|refine lxq ?_|(refine lxl rfl ?_;go_wp2_with (first|(go_at_call 45;(with_reducible refine(HOf2.o _ hcur).mono ?_);rintro e w' ⟨a11,n11,c11,rfl,hn11,hr,hb⟩;have HR11:=Lh hr;have HN11:=Lh hn11;clear hn11;replace hcur:=bvo hcur hb;clear hb hr));refine⟨iov hcur,?_⟩))
  refine lxe ?_;rename World=>wr2;have hn11:=HN11.o;clear HN11;have HNr:=Lh (HNq.o.over hcur);have HBr2:=Lh (bvo HBq.o hcur);clear hcur g0 sg q0 q1 q2 sq HOf2;obtain⟨a11',c11',he11,n111,n112,hc11⟩:=HR11.o.at encVert_len;obtain⟨he11a,he11b,he11c⟩:=Value.slice.inj he11;subst he11a;subst he11c;clear he11 he11b;unfold maxLen at n112;cases nl2 with
  | nil =>
   obtain rfl:n11=0:=hn11.symm;have HA:=Lh (any_or HQ.o HK_f2.o (first_nil HNl2.o) (Bool.or_false q));clear hc11;go_wp2;go_roundw
   case rel=>exact⟨j+1,q,pf2,cf2,by omega,by go_num,HA,HNr⟩
   simp [intOf];omega
  | cons y l2 =>
   have hn0:0<n11:=(by rw [← hn11];simp);obtain⟨b11,o11,rfl,s11,hcy⟩:=hc11.resolve_left (by rw [List.length_cons];omega);have d25:decide ((0:Int)<(n11:Int))=true:=(by simp;omega);have y7:=(hcy 0 y rfl wr2 (Below.refl _ _)).2 7 _ rfl;rw [Nat.zero_mul,Nat.add_zero] at y7;clear hcy hn11
   by_cases hy:y.text=x.text
   rotate_left
   ·
    have e25:(y.text.toList == x.text.toList)=false:=seq_f hy;have HA:=Lh (any_or HQ.o HK_f2.o (first_cons HNl2.o (decide_eq_false hy)) (Bool.or_false q));clear hy;go_wp2;go_roundw
    case rel=>exact⟨j+1,q,pf2,cf2,by omega,by go_num,HA,HNr⟩
    simp [intOf];omega
   have e25:(y.text.toList == x.text.toList)=true:=seq_t hy;have HF:=Lh (first_cons HNl2.o (decide_eq_true hy));clear hy;cases q with
   | true =>
    have e26:((nmQ x fv true).toList == x.text.toList)=false:=seq_f (nmQ_ne x fv);have HA:=Lh (any_or HQ.o HK_f2.o HF.o (Bool.true_or _));obtain⟨c0,c1,c2,c3,c4,c5,sc⟩:=HNr.o.1.arr.c6;go_wp2;go_roundw
    case rel=>exact⟨j+1,true,pf2,cf2,by omega,by go_num,HA,HNr⟩
    simp [intOf];omega
   | false =>
    have HA:=Lh (any_or HQ.o HK_f2.o HF.o rfl);obtain⟨fl,hfl⟩:∃ fl,flQ c false=fl:=⟨_,rfl⟩;have hfll:=flQ_len c false;rw [hfl] at HNr hfll;rw [nmQ_f] at HNr;obtain⟨fl3,hfl3⟩:∃ fl3,fl++[4]=fl3:=⟨_,rfl⟩;have HFt:Hid (flQ c true=fl3):=Lh ((flQ_t c hfl).trans hfl3);have e26:(x.text.toList == x.text.toList)=true:=seq_t rfl;have HTx:Hid (∀ W,Calls Tryz.prog 97 #[.agg (cV fv)] W fun e w'=>e=.returned (.string (textB fv))∧Be W w'):=Lh fun W=>rvtext_any fv W;have zt:=textB_size fv;obtain⟨T,hT⟩:∃ T,textB fv=T:=⟨_,rfl⟩;have HNt:Hid (nmQ x fv true=x.text++(⟨#[126]⟩:ByteArray)++T):=Lh (nmQ_t x fv hT);rw [hT] at HTx zt;clear hT hfl;obtain⟨c0,c1,c2,c3,c4,c5,sc⟩:=HNr.o.1.arr.c6;have HP_p:=Lh (HFc.o k fv HK_fv.o wr2 HBr2.o);obtain⟨p0,p1,p2,sp⟩:=rc3 HP_p.o;go_upto_region 27 with(first|(go_at_call 97;(with_reducible refine(HTx.o _).mono ?_);rintro e w9 ⟨rfl,hb9⟩;have HN9:=Lh (HNr.o.over hb9);have c0:=HN9.o.1.arr.k 0 rfl;have c1:=HN9.o.1.arr.k 1 rfl;have c2:=HN9.o.1.arr.k 2 rfl;have c3:=HN9.o.1.arr.k 3 rfl;have c4:=HN9.o.1.arr.k 4 rfl;have c5:=HN9.o.1.arr.k 5 rfl;have sc:=HN9.o.1.arr.lt;have cf3:=HN9.o.1.arr.free 3;clear hb9))
    have HN26:=Lh (HN9.o.name (x.text++(⟨#[126]⟩:ByteArray)++T));generalize w9.setCell ⟨g,3,none⟩ (.string (x.text++(⟨#[126]⟩:ByteArray)++T))=w26 at *;clear c0 c1 c2 c3 c4 c5 sc cf3 p0 p1 p2 sp HN9 HTx y7;obtain⟨c0,c1,c2,c3,c4,c5,sc⟩:=HN26.o.1.arr.c6;have cf5:=HN26.o.1.arr.free 5;have hN1:fl.length+1≤1099511627776:=(by omega);have hB1:w7.heap.size≤w26.heap.size:=HN26.o.2.2.2.1.size;go_wp2_with ((at_builtin;refine apD slByte rfl _ _ rfl w7.heap.size _ _ (drf _) 1 _ _ _ HN26.o.2.2.1 rfl rfl rfl rfl hN1 (by decide) hB1 ?_;intro v13 w13 ho13 hg13);(obtain⟨pf3,cf3,hpf⟩:=own_sl (show GOwn encU8 1 5 w13 w7.heap.size v13 fl3 from gown_cast hfl3 (GOwn.snoc (xs:=fl) (x:=4) ho13));subst hpf;have HOf:=Lh (show GOwn encU8 1 5 w13 w7.heap.size (.slice pf3 fl3.length cf3) fl3 from gown_cast hfl3 (GOwn.snoc (xs:=fl) (x:=4) ho13));have HGr:=Lh (HN26.o.grown hg13);have HGg:=Lh hg13;have q5:=HGr.o.1.arr.k 5 rfl;have q5f:=HGr.o.1.arr.free 5;have q5s:=HGr.o.1.arr.lt;clear ho13 hg13));have HN27:=Lh (HN26.o.flaw (fl':=fl3) HGg.o HOf.o);go_roundw
    case rel=>exact⟨j+1,true,pf3,cf3,by omega,by go_num,HA,(by show NBox _ _ _ _ _ _ _ _ _ _ _;rw [HNt.o,HFt.o];exact HN27.o)⟩
    simp [intOf];omega
end Go.Proofs.YtjccmcgglfncdaaGreatDoor
