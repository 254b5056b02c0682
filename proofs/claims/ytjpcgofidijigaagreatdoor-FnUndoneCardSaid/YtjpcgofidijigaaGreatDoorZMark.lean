/- The laws' marks on strings; comparing and marking of []string. -/
import Derived.Test.YtjpcgofidijigaaGreatDoorZStr
import Derived.Test.YtjpcgofidijigaaGreatDoorZIsName
import Derived.Test.YtjpcgofidijigaaGreatDoorZRatI
set_option maxHeartbeats 8000000
set_option maxRecDepth 100000
namespace Go.Proofs.YtjpcgofidijigaaGreatDoor
open Go.RowKit
open Lib (hid)
open Go.Value renaming int->Yv
open Go.IntKind renaming i64->Yi
variable {D L l p:List Dfn} {F G S T:Nat->Prop} {P:List (List Dfn)} {a a1 am b:Option Addr} {c cap cm g j k n sz:Nat} {cs:Array Value} {d:Dfn} {e:TypeId} {ss:List Value} {v:Value} {w w' w0 w2:World} {xss:List (List Int)}
def ZsI:Nat->Nat->ByteArray->ByteArray
 |0,_,acc=>acc
 |f+1,k,acc=>if k=0 then acc else ZsI f (k/10) (strOfNums [48+(k:Int)%10]++acc)
def ZkU (k:Nat):ByteArray:=⟨#[109]⟩++ZsI k k ⟨#[]⟩
def Zsy (l:List ByteArray) (k:Nat):List ByteArray:=(List.range l.length).map fun i=>ZkU (k+i)
@[simp] theorem Zs3 (l:List ByteArray) (k:Nat):(Zsy l k).length=l.length:=by simp[Zsy]
def ZsX (d:Dfn) (k:Nat):Dfn:=⟨ZkU k,(k:Int)+1,ZkU (k+2),ZkU (k+3),⟨(k:Int)+1+1+1+1,(k:Int)+1+1+1+1+1,ZkZ d.value.cells.length (k+6)⟩⟩
def Znz (d:Dfn):Nat:=6+d.value.cells.length
def ZqZ:List Dfn->Nat->List Dfn
 |[],_=>[]
 |d::r,k=>ZsX d k::ZqZ r (k+Znz d)
def Zk0 (l:List Dfn):Nat:=(l.map Znz).sum
@[simp] theorem Zp8: ∀ (l:List Dfn) (k:Nat),(ZqZ l k).length=l.length
 |[],_=>rfl
 |d::r,k=>by simp[ZqZ,Zp8 r]
@[simp] theorem ZsS:Zk0 []=0:=rfl
@[simp] theorem ZsP (d:Dfn) (l:List Dfn):Zk0 (d::l)=Znz d+Zk0 l:=by simp[Zk0]
theorem Own.has {p:Addr} {cs:List Value} (h:Own w e sz (some p) n cap cs) (hj:j<cs.length): ∃ c,w.cell? ⟨p.block,j,none⟩=some c:=⟨_,h.cell (List.getElem?_eq_getElem hj)⟩
theorem ZpG (l:List Dfn) (j:Nat) (d:Dfn):Zay (l.set j d)=(Zay l).set j d.value.cells:=by unfold Zay;rw[List.map_set]
def ZN (l:List Dfn) (d:Dfn):List Dfn:=if 0<=ZD l d.name then l.set (ZD l d.name).toNat d else l++[d]
def ZbB (l:List Dfn) (d:Dfn):List Dfn×Bool:=if ZV l&&ZV (ZN l d) then (ZN l d,true) else ([],false)
theorem Zie {x:Dfn} (h:x∈ZN l d):x∈l\/x=d:=by
 unfold ZN at h;split at h
 ·exact List.mem_or_eq_of_mem_set h
 ·simpa using h
theorem Zih {s:ByteArray}:ZD l s<l.length:=(Zd8 _ l).2
theorem ZmF (l:List Dfn) (d:Dfn):(ZN l d).length<=l.length+1:=by
 unfold ZN;split<;>simp
theorem Zbo (h:(ZV l&&ZV (ZN l d))=false):ZbB l d=([],false):=by unfold ZbB;rw[h];rfl
theorem ZcA (h1:ZV l=true) (h2:ZV (ZN l d)=true):ZbB l d=(ZN l d,true):=by unfold ZbB;rw[h1,h2];rfl
theorem Row.builtAt (n:Nat) (hg:g=w.heap.size) (hn:n<=maxLen) (hs:cs.size=n*sz) (hS: ∀ b,S b):Row (w.alloc (.cells cs e)) S sz (some ⟨g,0,none⟩) n n cs.toList:=by
 subst hg;exact Row.built n hn hs (hS _)
theorem Inner.repl {g:Option Nat} {vs:List Value} (h:Inner w F g vs xss) {xs:List Int} (ho:Own w 3 1 b xs.length c (ints xs)) (hr: ∀ x∈xs,I64 x)
  (hb: ∀ q,blk b=some q->F q/\g≠some q) (hnew: ∀ q,blk b=some q-> ∀ v∈vs,v.ownBlock≠some q):Inner w F g (vs.set j (.slice b xs.length c)) (xss.set j xs):=by
 refine ⟨by simp[h.len],fun i zs hi=> ?_, ?_⟩
 ·by_cases hij:j=i
  ·subst hij;obtain ⟨hj,_⟩:=List.getElem?_eq_some_iff.1 hi;simp only[List.length_set] at hj;rw[List.getElem?_set_self hj] at hi;obtain rfl:=Option.some.inj hi;exact ⟨b,c,by rw[List.getElem?_set_self (by rw[h.len];exact hj)],ho,hr,hb⟩
  ·rw[List.getElem?_set_ne hij] at hi;obtain ⟨b',c',h1,h2⟩:=h.each i zs hi;exact ⟨b',c',by rw[List.getElem?_set_ne hij];exact h1,h2⟩
 ·rw[List.pairwise_iff_getElem];intro p q hp hq hpq u hu;simp only[List.length_set] at hp hq;rw[List.getElem_set] at hu ⊢;split at hu
  ·rename_i e;rw[if_neg (by omega)];rw[Zao] at hu;exact hnew u hu _ (List.getElem_mem hq)
  ·split
   ·rw[Zao];intro e;exact hnew u e _ (List.getElem_mem hp) hu
   ·exact List.pairwise_iff_getElem.1 h.apart p q hp hq hpq u hu
def Fresh (w0:World) (a1 am:Option Addr) (ss:List Value):Prop:= ∀ q,blk am=some q->w0.heap.size<=q/\blk a1≠some q/\ ∀ v∈ss,v.ownBlock≠some q
theorem Fresh.mk' {wr:World} (hI:Inner wr G (blk a1) ss xss) (hlo: ∀ g,blk a1=some g->g<wr.heap.size) (h0:w0.heap.size<=wr.heap.size) (hf: ∀ q,blk am=some q->wr.heap.size<=q):Fresh w0 a1 am ss:=
 fun q hq=>⟨by have:=hf q hq;omega,fun e=>by have:=hlo q e;have:=hf q hq;omega,fun v hv e=>by have:=(hI.lt hv e).1;have:=hf q hq;omega⟩
theorem SepD.app {w3:World} {a3:Option Addr} {c3:Nat} (hI:Inner w2 (New w0 w2) (blk a1) ss (Zay L)) (hl:L.length=k) (hok: ∀ x∈L,DOk x) (hlo: ∀ g,blk a1=some g->New w0 w2 g)
  (om:Own w2 3 1 am d.value.cells.length cm (ints d.value.cells)) (hr: ∀ x∈d.value.cells,I64 x) (hd:DOk d) (hfresh:Fresh w0 a1 am ss) (h0:w0.heap.size<=w2.heap.size)
  (hA:Apped w2 w3 36 7 a1 a3 (k+1) c3 (Zat L ss++Zaa d (.slice am d.value.cells.length cm))):SepD w3 (New w0 w3) a3 (k+1) c3 (L++[d]):=by
 have hss:ss.length=L.length:=by have:=hI.len;simpa using this
 have hs3:=hA.keep.size;have hl3:=hA.lo (B:=w0.heap.size) (by omega) (fun g hg=>(hlo g hg).1);refine ⟨⟨ss++[.slice am d.value.cells.length cm], ?_, ?_⟩,by simp[hl],fun x hx=> ?_,fun g hg=>⟨hl3 g hg,hA.own.lt hg⟩⟩
 ·rw[Zfv hss,Zma];exact hA.own
 ·have h1:=hI.snoc om hr (fun q hq=>⟨⟨(hfresh q hq).1,om.lt hq⟩,(hfresh q hq).2.1⟩) (fun q hq v hv hvq=>(hfresh q hq).2.2 v hv hvq);rw[Zg5];refine h1.move (G:=New w0 w3) (g':=blk a3) hA.keep fun b hb hF hne=>⟨hne,⟨hF.1,by omega⟩,fun e=> ?_⟩;rcases hA.new with e2|⟨g',e2,hg'⟩
  ·rw[e2] at e;exact hne e
  ·rw[e2] at e;obtain rfl:=Option.some.inj e;omega
 ·rcases List.mem_append.1 hx with hx|hx
  ·exact hok x hx
  ·rw[List.mem_singleton] at hx;subst hx;exact hd
theorem SepD.put {c1:Nat} (hO:Own w2 36 7 (some ⟨g,0,none⟩) n c1 (Zat L ss)) (hI:Inner w2 (New w0 w2) (some g) ss (Zay L)) (hl:L.length=n) (hok: ∀ x∈L,DOk x) (hlo:New w0 w2 g)
  (om:Own w2 3 1 am d.value.cells.length cm (ints d.value.cells)) (hr: ∀ x∈d.value.cells,I64 x) (hd:DOk d) (hfresh:Fresh w0 (some ⟨g,0,none⟩) am ss) (hk:k<L.length):
  SepD (((((((w2.setCell ⟨g,k*7,none⟩ (.string d.name)).setCell ⟨g,k*7+1,none⟩ (Yv Yi d.op)).setCell ⟨g,k*7+2,none⟩ (.string d.a)).setCell ⟨g,k*7+3,none⟩ (.string d.b)).setCell ⟨g,k*7+4,none⟩ (Yv Yi d.value.rows)).setCell ⟨g,k*7+5,none⟩ (Yv Yi d.value.cols)).setCell ⟨g,k*7+6,none⟩ (.slice am d.value.cells.length cm)) (New w0 w2) (some ⟨g,0,none⟩) n c1 (L.set k d)/\
  Keep (fun q=>q≠g) w2 (((((((w2.setCell ⟨g,k*7,none⟩ (.string d.name)).setCell ⟨g,k*7+1,none⟩ (Yv Yi d.op)).setCell ⟨g,k*7+2,none⟩ (.string d.a)).setCell ⟨g,k*7+3,none⟩ (.string d.b)).setCell ⟨g,k*7+4,none⟩ (Yv Yi d.value.rows)).setCell ⟨g,k*7+5,none⟩ (Yv Yi d.value.cols)).setCell ⟨g,k*7+6,none⟩ (.slice am d.value.cells.length cm)):=by
 have hss:ss.length=L.length:=by have:=hI.len;simpa using this
 have hK:Keep (fun q=>q≠g) w2 (((((((w2.setCell ⟨g,k*7,none⟩ (.string d.name)).setCell ⟨g,k*7+1,none⟩ (Yv Yi d.op)).setCell ⟨g,k*7+2,none⟩ (.string d.a)).setCell ⟨g,k*7+3,none⟩ (.string d.b)).setCell ⟨g,k*7+4,none⟩ (Yv Yi d.value.rows)).setCell ⟨g,k*7+5,none⟩ (Yv Yi d.value.cols)).setCell ⟨g,k*7+6,none⟩ (.slice am d.value.cells.length cm)):=
  (((((((Keep.refl _ w2).setCell (fun _ e=>e rfl) _).setCell (fun _ e=>e rfl) _).setCell (fun _ e=>e rfl) _).setCell (fun _ e=>e rfl) _).setCell (fun _ e=>e rfl) _).setCell (fun _ e=>e rfl) _).setCell (fun _ e=>e rfl) _
 refine ⟨⟨⟨ss.set k (.slice am d.value.cells.length cm),hO.dset hss hk, ?_⟩,by simp[hl],fun x hx=> ?_,fun q hq=>by simp at hq;subst hq;exact hlo⟩,hK⟩
 ·rw[ZpG];have h1:=hI.repl (j:=k) om hr (fun q hq=>⟨⟨(hfresh q hq).1,om.lt hq⟩,by simpa using (hfresh q hq).2.1⟩) (fun q hq v hv hvq=>(hfresh q hq).2.2 v hv hvq);exact h1.keep hK fun b _ _ hne e=>hne (by rw[e])
 ·rcases List.mem_or_eq_of_mem_set hx with hx|rfl
  ·exact hok x hx
  ·exact hd
theorem SepD.nilAt (hg:g=w.heap.size) (hc:cs= #[]) (hF:F g):SepD (w.alloc (.cells cs 36)) F (some ⟨g,0,none⟩) 0 0 []:=by
 subst hc;exact ⟨⟨[],Own.freshAt hg (by unfold maxLen;omega) rfl,Inner.nilw⟩,rfl,(fun _ h=>by cases h),fun q hq=>by simp at hq;subst hq;exact hF⟩
theorem ZeH (a:Option Addr) (n cap:Nat) (l:List Dfn) (w:World) (h:RdD w S a n cap l) (hb:Zae l<=1048576):
  Calls Tryz.prog 17 #[.slice a n cap] w fun e w'=> ∃ a' c',e= .returned (.slice a' n c')/\SepD w' (New w w') a' n c' l/\Grow w w':=by
 have Hl:=hid h.len;unfold Zae at hb;have hn:n<=1048576:=by rw[←Hl.out];omega
 go_enter Tryz.func17,Tryz.ntmps17;go_wp2;go_loopw [3,9] (fun v i wr=>Grow w wr/\ ∃ (k c1:Nat) (a1:Option Addr),k<=n/\i=Yv Yi k/\v= .slice a1 k c1/\SepD wr (New w wr) a1 k c1 (l.take k)) (fun _ i _=>n-(intOf i).toNat);case atStart=>
  refine ⟨(Grow.refl w).alloc _ _,0,0,_,Nat.zero_le _,rfl,rfl,⟨⟨[], ?_,Inner.nilw⟩,rfl,(fun _ h=>by cases h),fun g hg=> ?_⟩⟩
  ·exact Own.fresh (by unfold maxLen;omega) rfl
  ·simp at hg;subst hg;exact ⟨Nat.le_refl _,by simp⟩
 case round=>
  obtain ⟨hG,k,c1,a1,hk,rfl,rfl,hS⟩:=hrel;by_cases hlt:k<n
  ·obtain ⟨b,off,d,av,cv,rfl,hx,_,hbw,⟨e0,e1,e2,e3,e4,e5,e6⟩,r1,ho⟩:=(h.grow hG).at hlt;have htot:=(ZhR hx).2;have hcd:d.value.cells.length<=1048576:=(by unfold bdD at htot;omega);have Hx:=hid hx;clear hx htot;obtain ⟨wb,hwb,hGb,hBb,hsb⟩:=al1 wr #[.string d.name,Yv Yi d.op, .string d.a, .string d.b,Yv Yi d.value.rows,Yv Yi d.value.cols, .slice av d.value.cells.length cv] 36;have Hwb:=hid hwb;clear hwb;obtain ⟨⟨z0,z1,z2,z3,z4,z5,z6⟩, -⟩:=hBb.seven;have hvm:VM wb S (.agg #[Yv Yi d.value.rows,Yv Yi d.value.cols, .slice av d.value.cells.length cv]) d.value:=⟨av,_,cv,rfl,r1.grow hGb,ho.2.2.2.2.1,ho.2.2.2.2.2⟩;go_wp2_with fail;rw[←Hwb.out];refine (ZaT hvm hcd).mono ?_;rintro e w1 ⟨v',rfl,⟨am,nm,cm,rfl,om,xm,fm,hmr,hmc⟩,hG1⟩;have hnm:d.value.cells.length=nm:=(by simpa using om.len);subst hnm;have hB1:=hBb.grow hG1;obtain ⟨⟨y0,y1,y2,y3,y4,y5,y6⟩, -⟩:=hB1.seven;have f4:=hB1.free 4;have f5:=hB1.free 5;have f6:=hB1.free 6;have hK:Keep (fun q=>q≠wr.heap.size) w1 (((w1.setCell ⟨wr.heap.size,4,none⟩ (Yv Yi d.value.rows)).setCell ⟨wr.heap.size,5,none⟩ (Yv Yi d.value.cols)).setCell ⟨wr.heap.size,6,none⟩ (.slice am d.value.cells.length cm)):=
    (((Keep.refl _ w1).setCell (fun _ e=>e rfl) _).setCell (fun _ e=>e rfl) _).setCell (fun _ e=>e rfl) _
   have hGk:Grow wr (((w1.setCell ⟨wr.heap.size,4,none⟩ (Yv Yi d.value.rows)).setCell ⟨wr.heap.size,5,none⟩ (Yv Yi d.value.cols)).setCell ⟨wr.heap.size,6,none⟩ (.slice am d.value.cells.length cm)):=(hGb.trans hG1).keep hK fun q hq=>(by omega);have omk:=om.keep hK (fun g hg _ e=>by have:=(fm g hg).1;omega);have hfr: ∀ q,blk am=some q->wr.heap.size<=q:=fun q hq=>(by have:=(fm q hq).1;omega);have hsw:=hG.size;clear hG1 hGb hK om fm hB1;obtain ⟨⟨ss,hO,hI⟩,hlS,hokS,hloS⟩:=hS;have hOk:=hO.grow hGk;go_wp2_with (at_builtin;refine Zx rfl (.tmp 17) (.tmp 19) _ rfl T_defs rfl (hOk.grow ((Grow.refl _).alloc _ _)) rfl (Row.builtAt (S:=fun _=>True) 1 (by simp) (by unfold maxLen;omega) rfl fun _=>trivial) (by simp[Value.oneCell']) (by omega) (by unfold maxLen;omega) ?_;intro a3 c3 w3 hA3);have hGz:=hGk.alloc #[.string d.name,Yv Yi d.op, .string d.a, .string d.b,Yv Yi d.value.rows,Yv Yi d.value.cols, .slice am d.value.cells.length cm] 36;have hS3:=SepD.app ((hI.grow hGz).weak fun b hb hF hne=>⟨⟨hF.1,hb⟩,hne⟩) hlS hokS (fun g hg=>⟨(hloS g hg).1,Nat.lt_of_lt_of_le (hloS g hg).2 hGz.size⟩) (omk.grow ((Grow.refl _).alloc _ _)) r1.rng ho (Fresh.mk' hI (fun g hg=>(hloS g hg).2) hsw hfr) (by have:=hGz.size;omega) hA3;have hG3:Grow w w3:=hA3.grow (hG.trans (hGk.alloc _ _)) (fun g hg=>(hloS g hg).1);rw[←ZH Hx.out] at hS3;clear hA3;go_wp2;go_roundw;case rel=>exact ⟨hG3,k+1,c3,a3,by omega,by go_num,rfl,hS3⟩
   case measure=>simp[intOf];omega
  ·go_wp2;go_ret;have:k=n:=(by omega);subst this;rw[Z7 Hl.out] at hS;exact ⟨_,_,rfl,hS,hG⟩
def DepOk (l:List Dfn) (out:List ByteArray):Prop:=out.Nodup/\ ∀ s∈out,s∈l.map (·.name)
theorem DepOk.len {out:List ByteArray} (h:DepOk l out):out.length<=l.length:=by
 have:=ZlV h.1 h.2;simpa using this
theorem ZhD (h:ZV l=true):l.length<=12:=by
 unfold ZV at h;rw[Bool.and_eq_true,decide_eq_true_eq] at h;exact h.2
theorem Zl5 (a:Option Addr) (n cap:Nat) (l:List Dfn) (dv:Value) (d:Dfn) (w:World) (h:RdD w S a n cap l) (hd:VD w T dv d) (hb:Zae l<=1048576) (hbd:bdD d<=1048576):
  Calls Tryz.prog 16 #[.slice a n cap,dv] w fun e w'=> ∃ r,e= .returned (.tuple #[r, .bool (ZbB l d).2])/\ODD w' (New w w') r (ZbB l d).1/\Grow w w':=by
 have Hl:=hid h.len;have hcl:=ZiX hb;have hn:n<=1048576:=by unfold Zae at hb;rw[←Hl.out];omega
 obtain ⟨av,nv,cv,rfl,hv,hok⟩:=hd;have hnv:d.value.cells.length=nv:=hv.len;subst hnv;have hcd:d.value.cells.length<=1048576:=by unfold bdD at hbd;omega
 obtain ⟨w0,hw0,hG0,hB0,hs0⟩:=al1 w #[.string d.name,Yv Yi d.op, .string d.a, .string d.b,Yv Yi d.value.rows,Yv Yi d.value.cols, .slice av d.value.cells.length cv] 36;have Hw0:=hid hw0;clear hw0;cases hs:ZV l with
 |false=>
  have HN:=hid (Zbo (l:=l) (d:=d) (by rw[hs];rfl));have HS:=hid hs;clear hs;go_enter Tryz.func16,Tryz.ntmps16;go_wp2_with fail;rw[←Hw0.out];refine (ZbY _ _ _ l _ (h.grow hG0) hn hcl).mono ?_;rintro e w1 ⟨rfl,hG1⟩;rw[HS.out];have hsz:=(hG0.trans hG1).size;go_wp2
  go_ret2
  exact ⟨_,by rw[HN.out];rfl,⟨_,_,_,rfl,by rw[HN.out];exact SepD.nilAt rfl rfl ⟨hsz,by simp⟩⟩,(hG0.trans hG1).alloc _ _⟩
 |true=>
  have HS:=hid hs;have hl12:=ZhD hs;clear hs;generalize hfn:ZD l d.name=fn at *;have hset:ZN l d=if 0<=fn then l.set fn.toNat d else l++[d]:=by unfold ZN;rw[hfn]
  have hfl:fn<l.length:=by rw[←hfn];exact Zih
  have Hfn:=hid hfn;clear hfn;go_enter Tryz.func16,Tryz.ntmps16;go_wp2_with fail;rw[←Hw0.out];refine (ZbY _ _ _ l _ (h.grow hG0) hn hcl).mono ?_;rintro e w1 ⟨rfl,hG1⟩;rw[HS.out];go_wp2_with fail;refine (ZeH _ _ _ l _ (h.grow (hG0.trans hG1)) hb).mono ?_;rintro e w2 ⟨a1,c1,rfl,hS2,hG2⟩;have hGa:=(hG0.trans hG1).trans hG2;have hs1:=hG1.size;have hs2:=hG2.size;have hB2:=(hB0.grow hG1).grow hG2;obtain ⟨⟨z0,z1,z2,z3,z4,z5,z6⟩, -⟩:=hB2.seven;have hvm:VM w2 T (.agg #[Yv Yi d.value.rows,Yv Yi d.value.cols, .slice av d.value.cells.length cv]) d.value:=⟨av,_,cv,rfl,hv.grow hGa,hok.2.2.2.2.1,hok.2.2.2.2.2⟩;go_wp2_with fail;refine (ZaT hvm hcd).mono ?_;rintro e w3 ⟨v',rfl,⟨am,nm,cm,rfl,om,xm,fm,hmr,hmc⟩,hG3⟩;have hnm:d.value.cells.length=nm:=by simpa using om.len
  subst hnm;have hs3:=hG3.size;have hB3:=hB2.grow hG3;obtain ⟨⟨y0,y1,y2,y3,y4,y5,y6⟩, -⟩:=hB3.seven;have f4:=hB3.free 4;have f5:=hB3.free 5;have f6:=hB3.free 6;have hK:Keep (fun q=>q≠w.heap.size) w3 (((w3.setCell ⟨w.heap.size,4,none⟩ (Yv Yi d.value.rows)).setCell ⟨w.heap.size,5,none⟩ (Yv Yi d.value.cols)).setCell ⟨w.heap.size,6,none⟩ (.slice am d.value.cells.length cm)):=
   (((Keep.refl _ w3).setCell (fun _ e=>e rfl) _).setCell (fun _ e=>e rfl) _).setCell (fun _ e=>e rfl) _
  have hGk:=(hGa.trans hG3).keep hK fun q hq=>by omega
  have omk:=om.keep hK (fun g hg _ e=>by have:=(fm g hg).1;omega);have hfr: ∀ q,blk am=some q->w2.heap.size<=q:=fun q hq=>(fm q hq).1;have hBk:=((hB3.set 4 (Yv Yi d.value.rows)).set 5 (Yv Yi d.value.cols)).set 6 (.slice am d.value.cells.length cm);simp only[List.setIfInBounds_toArray,List.set_cons_succ,List.set_cons_zero] at hBk;go_wp2_with fail;refine (Zc2 _ _ _ l d.name _ (h.grow hGk) (by omega)).mono ?_;rintro e w4 ⟨rfl,hG4⟩;rw[Hfn.out];have hKa:Keep (fun q=>q≠w.heap.size) w2 w4:=(hG3.mono fun _ _ _=>trivial).trans (hK.trans (hG4.mono fun _ _ _=>trivial));have hs4:=hKa.size;obtain ⟨⟨ss,hO,hI⟩,hlS,hokS,hloS⟩:=hS2;have hFr:Fresh w a1 am ss:=Fresh.mk' hI (fun g hg=>(hloS g hg).2) (by omega) hfr;have hO4:=hO.keep hKa (fun g hg _ e=>by have:=(hloS g hg).1;omega);have hI4:Inner w4 (New w w4) (blk a1) ss (Zay l):=(hI.keep hKa (fun b hb hF _ e=>by have:=hF.1;omega)).weak fun b hb hF hne=>⟨⟨by have:=hF.1;omega,hb⟩,hne⟩;have hlo4: ∀ g,blk a1=some g->New w w4 g:=fun g hg=>⟨by have:=(hloS g hg).1;omega,by have:=(hloS g hg).2;omega⟩;have om4:=omk.grow hG4;have hG04:=hGk.trans hG4;have hclS: ∀ x∈ZN l d,x.value.cells.length<=2097152:=fun x hx=>by
   rcases Zie hx with hx|rfl
   ·exact hcl x hx
   ·omega
  have hB4:=hBk.grow hG4;have hlb:=Hl.out;obtain ⟨⟨y0,y1,y2,y3,y4,y5,y6⟩, -⟩:=hB4.seven;clear hO hI hloS om hB3 hB2 f4 f5 f6 z0 z1 z2 z3 z4 z5 z6 hvm hK hKa omk hfr hBk hGk hG3 hG4 fm;by_cases hq:0<=fn
  ·obtain ⟨k,rfl⟩: ∃ k:Nat,fn=k:=⟨fn.toNat,by omega⟩;rw[if_pos hq] at hset;simp only[Int.toNat_natCast] at hset;have hkl:k<l.length:=(by omega);cases a1 with
   |none=>have:=hO4.nil rfl;have:=hO4.le;omega
   |some p=>
    have hp:=(hO4.block p rfl).1;obtain ⟨pb,po,ps⟩:=p;simp only[Addr.mk.injEq,true_and] at hp;obtain ⟨rfl,rfl⟩:=hp;have hlen:(Zat l ss).length=l.length*7:=Ziq (by have:=hI4.len;simpa using this);obtain ⟨c0,e0⟩:=hO4.has (j:=k*7) (by omega);obtain ⟨c1',e1⟩:=hO4.has (j:=k*7+1) (by omega);obtain ⟨c2,e2⟩:=hO4.has (j:=k*7+2) (by omega);obtain ⟨c3,e3⟩:=hO4.has (j:=k*7+3) (by omega);obtain ⟨c4,e4⟩:=hO4.has (j:=k*7+4) (by omega);obtain ⟨c5,e5⟩:=hO4.has (j:=k*7+5) (by omega);obtain ⟨c6,e6⟩:=hO4.has (j:=k*7+6) (by omega);have f0:=hO4.free (k*7);have f1:=hO4.free (k*7+1);have f2:=hO4.free (k*7+2);have f3:=hO4.free (k*7+3);have f4:=hO4.free (k*7+4);have f5:=hO4.free (k*7+5);have f6:=hO4.free (k*7+6);simp only at e0 e1 e2 e3 e4 e5 e6 f0 f1 f2 f3 f4 f5 f6;obtain ⟨hS5,hK5⟩:=SepD.put hO4 hI4 hlS hokS (hlo4 pb rfl) om4 hv.rng hok hFr hkl;rw[←hset] at hS5;have hGW:=hG04.keep hK5 fun q hq e=>(by have:=(hlo4 pb rfl).1;omega);have hW5:=hK5.size;clear hO4 hI4 hset;go_wp2_with fail;refine (ZbY _ _ _ (ZN l d) _ (hS5.rdD (S:=fun _=>True) fun _ _=>trivial) (by omega) hclS).mono ?_;rintro e w6 ⟨rfl,hG6⟩;have hsz:=(hGW.trans hG6).size;cases hs5:ZV (ZN l d) with
    |false=>
     have HN:=hid (Zbo (l:=l) (d:=d) (by rw[hs5];simp));have H5:=hid hs5;clear hs5;go_wp2
     go_ret2
     exact ⟨_,by rw[HN.out];rfl,⟨_,_,_,rfl,by rw[HN.out];exact SepD.nilAt rfl rfl ⟨hsz,by simp⟩⟩,(hGW.trans hG6).alloc _ _⟩
    |true=>
     have HY:=hid (ZcA HS.out hs5);have H5:=hid hs5;clear hs5;go_wp2
     go_ret2
     exact ⟨_,by rw[HY.out];rfl,⟨_,_,_,rfl,by rw[HY.out];exact (hS5.grow hG6).weak fun b hb hF=>⟨hF.1,hb⟩⟩,hGW.trans hG6⟩
  ·rw[if_neg hq] at hset;go_wp2_with (at_builtin;refine Zx rfl (.tmp 28) (.tmp 30) _ rfl T_defs rfl (hO4.grow ((Grow.refl _).alloc _ _)) rfl (Row.builtAt (S:=fun _=>True) 1 (by simp) (by unfold maxLen;omega) rfl fun _=>trivial) (by simp[Value.oneCell']) (by omega) (by unfold maxLen;omega) ?_;intro a3 c3 w5 hA3);have hGz:=(Grow.refl w4).alloc #[.string d.name,Yv Yi d.op, .string d.a, .string d.b,Yv Yi d.value.rows,Yv Yi d.value.cols, .slice am d.value.cells.length cm] 36;have hS5:=SepD.app ((hI4.grow hGz).weak fun b hb hF hne=>⟨⟨hF.1,hb⟩,hne⟩) hlS hokS (fun g hg=>⟨(hlo4 g hg).1,Nat.lt_of_lt_of_le (hlo4 g hg).2 hGz.size⟩) (om4.grow hGz) hv.rng hok hFr (by have:=hGz.size;omega) hA3;rw[←hset] at hS5;have hGW:Grow w w5:=hA3.grow (hG04.alloc _ _) (fun g hg=>(hlo4 g hg).1);clear hO4 hI4 hset hA3;go_wp2_with fail;refine (ZbY _ _ _ (ZN l d) _ (hS5.rdD (S:=fun _=>True) fun _ _=>trivial) (by omega) hclS).mono ?_;rintro e w6 ⟨rfl,hG6⟩;have hsz:=(hGW.trans hG6).size;cases hs5:ZV (ZN l d) with
   |false=>
    have HN:=hid (Zbo (l:=l) (d:=d) (by rw[hs5];simp));have H5:=hid hs5;clear hs5;go_wp2
    go_ret2
    exact ⟨_,by rw[HN.out];rfl,⟨_,_,_,rfl,by rw[HN.out];exact SepD.nilAt rfl rfl ⟨hsz,by simp⟩⟩,(hGW.trans hG6).alloc _ _⟩
   |true=>
    have HY:=hid (ZcA HS.out hs5);have H5:=hid hs5;clear hs5;go_wp2
    go_ret2
    exact ⟨_,by rw[HY.out];rfl,⟨_,_,_,rfl,by rw[HY.out];exact (hS5.grow hG6).weak fun b hb hF=>⟨hF.1,hb⟩⟩,hGW.trans hG6⟩
theorem Z4:StT Tryz.prog 27 2:=⟨_,Tryz.underlying27,by kernel_rfl⟩
theorem Znd:SlT Tryz.prog 25 24 (.slice none 0 0) 1 24:=SlT.mk' Tryz.underlying25 (by kernel_rfl) rfl
theorem Zgg:CellT Tryz.prog 25:=CellT.slice Tryz.underlying25
theorem Zcq:CellT Tryz.prog 24:=CellT.slice Tryz.underlying24
def SesC (w:World) (S:Nat->Prop) (ss:List Value) (P:List (List Dfn)):Prop:= ∀ (i:Nat) (p:List Dfn),P[i]? =some p-> ∃ b k c,ss[i]? =some (.slice b k c)/\RdD w S b k c p
theorem SesC.keep (h:SesC w S ss P) (hk:Keep T w w') (hST: ∀ b,b<w.heap.size->S b->T b):SesC w' S ss P:=fun i p hi=>by
 obtain ⟨b,k,c,h1,h2⟩:=h i p hi;exact ⟨b,k,c,h1,h2.keep hk hST⟩
theorem SesC.weak (h:SesC w S ss P) (hST: ∀ b,b<w.heap.size->S b->T b):SesC w T ss P:=fun i p hi=>by
 obtain ⟨b,k,c,h1,h2⟩:=h i p hi;exact ⟨b,k,c,h1,h2.weak hST⟩
theorem SesC.snoc (h:SesC w S ss P) (hl:ss.length=P.length) (hp:RdD w S b k c p):SesC w S (ss++[.slice b k c]) (P++[p]):=fun i q hi=>by
 by_cases hlt:i<P.length
 ·rw[List.getElem?_append_left hlt] at hi;obtain ⟨b',k',c',h1,h2⟩:=h i q hi;exact ⟨b',k',c',by rw[List.getElem?_append_left (by omega)];exact h1,h2⟩
 ·rw[List.getElem?_append_right (by omega)] at hi;have h0:i-P.length=0:=by have:=(List.getElem?_eq_some_iff.1 hi).1;simp at this;omega
  rw[h0] at hi;obtain rfl:p=q:=by simpa using hi
  exact ⟨b,k,c,by rw[List.getElem?_append_right (by omega),hl,h0];rfl,hp⟩
theorem SesC.nil:SesC w S [] []:=fun i p h=>by simp at h
theorem SesC.take (h:SesC w S ss P) (k:Nat):SesC w S (ss.take k) (P.take k):=fun i p hi=>by
 have hlt:i<k:=by have:=(List.getElem?_eq_some_iff.1 hi).1;rw[List.length_take] at this;omega
 rw[List.getElem?_take_of_lt hlt] at hi;obtain ⟨b,j,c,h1,h2⟩:=h i p hi;exact ⟨b,j,c,by rw[List.getElem?_take_of_lt hlt];exact h1,h2⟩
structure RdP (w:World) (S:Nat->Prop) (a:Option Addr) (n cap:Nat) (P:List (List Dfn)):Prop where
 row: ∃ ss:List Value,Row w S 1 a n cap ss/\SesC w S ss P
 len:P.length=n
theorem RdP.keep (h:RdP w S a n cap P) (hk:Keep T w w') (hST: ∀ b,b<w.heap.size->S b->T b):RdP w' S a n cap P:=by
 obtain ⟨⟨ss,h1,h2⟩,hl⟩:=h;exact ⟨⟨ss,h1.keep hk hST,h2.keep hk hST⟩,hl⟩
theorem RdP.grow (h:RdP w S a n cap P) (hk:Grow w w'):RdP w' S a n cap P:=h.keep hk fun _ _ _=>trivial
theorem RdP.weak (h:RdP w S a n cap P) (hST: ∀ b,b<w.heap.size->S b->T b):RdP w T a n cap P:=by
 obtain ⟨⟨ss,h1,h2⟩,hl⟩:=h;exact ⟨⟨ss,h1.weak hST,h2.weak hST⟩,hl⟩
theorem RdP.at (h:RdP w S a n cap P) (hk:k<n):
  ∃ b off p pb pn pc,a=some ⟨b,off,none⟩/\P[k]? =some p/\S b/\b<w.heap.size/\w.cell? ⟨b,off+k,none⟩=some (.slice pb pn pc)/\RdD w S pb pn pc p:=by
 obtain ⟨⟨ss,h1,h2⟩,hl⟩:=h;have hlt:k<P.length:=by omega
 obtain ⟨pb,pn,pc,h3,h4⟩:=h2 k _ (List.getElem?_eq_getElem hlt);obtain ⟨b,off,ha,hS,hc⟩:=h1.addr (by intro e;subst e;simp at h3);have h5:=hc k _ h3;exact ⟨b,off,_,pb,pn,pc,ha,List.getElem?_eq_getElem hlt,hS,World.block_lt_of_cell? w _ h5,h5,h4⟩
theorem RdP.pre (h:RdP w S a n cap P) (hk:k<=n):RdP w S a k cap (P.take k):=by
 obtain ⟨⟨ss,h1,h2⟩,hl⟩:=h;refine ⟨⟨ss.take (k*1),h1.pre hk, ?_⟩,by simp;omega⟩;rw[Nat.mul_one];exact h2.take k
structure OwP (w:World) (F:Nat->Prop) (a:Option Addr) (n cap:Nat) (P:List (List Dfn)):Prop where
 own: ∃ ss:List Value,ss.length=P.length/\Own w 24 1 a n cap ss/\SesC w (fun q=>F q/\blk a≠some q) ss P
 len:P.length=n
 low: ∀ g,blk a=some g->F g
theorem OwP.keep (h:OwP w F a n cap P) (hk:Keep T w w') (hT: ∀ b,b<w.heap.size->F b->T b):OwP w' F a n cap P:=by
 obtain ⟨⟨ss,h0,h1,h2⟩,hl,hF⟩:=h;exact ⟨⟨ss,h0,h1.keep hk (fun g hg hlt=>hT g hlt (hF g hg)),h2.keep hk fun b hb hh=>hT b hb hh.1⟩,hl,hF⟩
theorem OwP.grow (h:OwP w F a n cap P) (hk:Grow w w'):OwP w' F a n cap P:=h.keep hk fun _ _ _=>trivial
theorem OwP.weak (h:OwP w F a n cap P) (hG: ∀ b,b<w.heap.size->F b->G b):OwP w G a n cap P:=by
 obtain ⟨⟨ss,h0,h1,h2⟩,hl,hF⟩:=h;exact ⟨⟨ss,h0,h1,h2.weak fun b hb hh=>⟨hG b hb hh.1,hh.2⟩⟩,hl,fun g hg=>hG g (h1.lt hg) (hF g hg)⟩
theorem OwP.rd (h:OwP w F a n cap P) (hS: ∀ b,F b->S b):RdP w S a n cap P:=by
 obtain ⟨⟨ss,h0,h1,h2⟩,hl,hF⟩:=h;exact ⟨⟨ss,h1.row fun q hq=>hS q (hF q hq),h2.weak fun b _ hh=>hS b hh.1⟩,hl⟩
theorem OwP.nilw:OwP w F none 0 0 []:=⟨⟨[],rfl,Own.nilw,SesC.nil⟩,rfl,fun g hg=>by simp at hg⟩
theorem OwP.app {wa w9:World} {B c9:Nat} {a9:Option Addr} (h0:ss.length=P.length) (hC:SesC wa (fun q=>F q/\blk a≠some q) ss P) (hlow: ∀ g,blk a=some g->F g) (hp:RdD wa (fun q=>F q/\blk a≠some q) b k c p) (hl:P.length=n) (hF: ∀ q,B<=q->F q) (hB:B<=wa.heap.size)
  (hA:Apped wa w9 24 1 a a9 (n+1) c9 (ss++[.slice b k c])):OwP w9 F a9 (n+1) c9 (P++[p]):=by
 have hne: ∀ q,q<wa.heap.size->blk a≠some q->blk a9≠some q:=fun q hlt hq e=>by
  rcases hA.new with e'|⟨g',e',hg'⟩
  ·rw[e'] at e;exact hq e
  ·rw[e'] at e;have:=Option.some.inj e;omega
 refine ⟨⟨ss++[.slice b k c],by simp[h0],hA.own, ?_⟩,by simp[hl],fun g hg=> ?_⟩
 ·have h1:=(hC.snoc h0 hp);have h2:=(h1.weak (T:=fun q=>(F q/\blk a9≠some q)/\blk a≠some q) fun q hlt hq=>⟨⟨hq.1,hne q hlt hq.2⟩,hq.2⟩).keep hA.keep fun q _ hq=>hq.2;exact h2.weak fun q _ hq=>hq.1
 ·rcases hA.new with e'|⟨g',e',hg'⟩
  ·exact hlow g (by rw[←e'];exact hg)
  ·rw[e'] at hg;have:=Option.some.inj hg;exact hF g (by omega)
def VSes (w:World) (S:Nat->Prop) (v:Value) (D:List Dfn) (P:List (List Dfn)):Prop:= ∃ da dn dc pa pn pc,v= .agg #[.slice da dn dc, .slice pa pn pc]/\RdD w S da dn dc D/\RdP w S pa pn pc P
theorem VSes.keep (h:VSes w S v D P) (hk:Keep T w w') (hST: ∀ b,b<w.heap.size->S b->T b):VSes w' S v D P:=by
 obtain ⟨da,dn,dc,pa,pn,pc,e,h1,h2⟩:=h;exact ⟨da,dn,dc,pa,pn,pc,e,h1.keep hk hST,h2.keep hk hST⟩
theorem VSes.grow (h:VSes w S v D P) (hk:Grow w w'):VSes w' S v D P:=h.keep hk fun _ _ _=>trivial
theorem ZkR (h:VSes w S v D P) (hb:Zae D<=1048576) (hbP: ∀ p∈P,Zae p<=1048576) (hn:P.length<=1048576):
  Calls Tryz.prog 12 #[v] w fun e w'=> ∃ da dn dc pa pn pc,e= .returned (.agg #[.slice da dn dc, .slice pa pn pc])/\RdD w' (fun q=>w.heap.size<=q) da dn dc D/\OwP w' (fun q=>w.heap.size<=q) pa pn pc P/\Grow w w':=by
 obtain ⟨xa,xn,xc,pa,n,pc,rfl,hD,hP⟩:=h;have hPl:=hP.len;obtain ⟨w1,hw1,hG1,bX,bZ, -⟩:=al2 w #[.slice xa xn xc, .slice pa n pc] 27 #[.slice none 0 0, .slice none 0 0] 27;obtain ⟨⟨x0,x1⟩, -⟩:=bX.two;have hlX:=bX.lt;rw[hw1] at x0 x1 hlX;have Hw1:=hid hw1;have HbP:=hid hbP;clear hw1 hbP;go_enter Tryz.func12,Tryz.ntmps12;go_wp2_with fail;rw[←Hw1.out];refine (ZeH xa xn xc D _ (hD.grow hG1) hb).mono ?_;rintro e w2 ⟨ya,yc,rfl,hY,hG2⟩;clear x0 x1 hlX;have bX2:=bX.grow hG2;have bZ2:=bZ.grow hG2;have hs1:=bZ.lt;have hG02:=hG1.trans hG2;have hY2:=hY.rdD (S:=fun q=>w1.heap.size<=q/\q<w2.heap.size) fun q hq=>hq;obtain ⟨w3,hw3,hG3,bO, -⟩:=al1 w2 #[.slice ya xn yc, .slice none 0 0] 27;obtain ⟨⟨x0,x1⟩, -⟩:=(bX2.grow hG3).two;have hlX:=(bX2.grow hG3).lt;rw[hw3] at x0 x1 hlX;have Hw3:=hid hw3;have hY3:=hY2.grow hG3;have bX3:=bX2.grow hG3;have bZ3:=bZ2.grow hG3;have hG03:=hG02.trans hG3;have hs2:=hG2.size;have hs3:=bO.lt;clear hw3 hY hY2 bX bX2 bZ bZ2 hD hG1 hG2 hG3 hG02;go_wp2;rw[←Hw3.out];clear x0 x1 hlX;go_loopw [5,13] (fun _ i wr=>Grow w wr/\w3.heap.size<=wr.heap.size/\ ∃ (k c1:Nat) (a1:Option Addr),k<=n/\i=Yv Yi k/\Blk wr w2.heap.size #[.slice ya xn yc, .slice a1 k c1] 27/\OwP wr (fun q=>w2.heap.size<q) a1 k c1 (P.take k)/\Blk wr (w.heap.size+1) #[.slice none 0 0, .slice none 0 0] 27/\RdD wr (fun q=>w1.heap.size<=q/\q<w2.heap.size) ya xn yc D) (fun _ i _=>n-(intOf i).toNat);case atStart=>exact ⟨hG03,Nat.le_refl _,0,0,none,Nat.zero_le _,rfl,bO,OwP.nilw,bZ3,hY3⟩
 case round=>
  obtain ⟨hG,hsz,k,c1,a1,hk,rfl,bO',hO,bZ',hY'⟩:=hrel;clear bO bZ3 hY3;by_cases hlt:k<n
  ·obtain ⟨b,off,p,pb,m,pc',rfl,hp,_,hbw,e0,hpd⟩:=(hP.grow hG).at hlt;have hpb:=HbP.out p (List.mem_of_getElem? hp);obtain ⟨⟨ss,hss,hOw,hC⟩,hlP,hlow⟩:=hO;have nO:blk a1≠some w2.heap.size:=fun e=>(by have:=hlow _ e;omega);have nZ:blk a1≠some (w.heap.size+1):=fun e=>(by have:=hlow _ e;omega);obtain ⟨⟨o0,o1⟩, -⟩:=bO'.two;have hltO:=bO'.lt;have Hp:=hid hp;have hml:=hpd.len;have hm:m<=1048576:=(by unfold Zae at hpb;omega);clear hp hml;go_wp2;refine Zaq (S:=(Keep (fun q=>blk a1≠some q) wr)) (last:=7) [([0,1,2],some 3),([],some 4),([],some 5),([6],some 7)] Zm (by kernel_rfl) (fun _ _ _ _ _ h=>h) (Keep.refl _ _).drew ?_;show wpQuiet _ _ _ _ [_,_,_] _;(repeat (first |(go_big_quiet_want;refine Za Zgg rfl rfl (fun w' hG=>hG.cell nO o1) ?_;go_big_quiet_on;simp only[putP])|go_big_quiet_step (exact fun _=>rfl)));refine wpQuiet_nil ?_;obtain ⟨wd,hwd⟩: ∃ wd,wd=wr.drew:=⟨_,rfl⟩;rw[←hwd];have hGd:Grow wr wd:=(by rw[hwd];exact (Grow.refl _).drew);clear hwd;refine ZT rfl (fun K hK=> ?_);go_wp2_with fail;refine (ZeH pb m pc' p _ (hpd.grow hGd) hpb).mono ?_;rintro e w5 ⟨qa,qc,rfl,hQ,hG5⟩;have hGa:=hGd.trans hG5;go_wp2_with fail;refine hK _ _ ((fun _=>hGa.any)) ?_;clear hK K;refine wpQuiet_nil ?_;refine ZT rfl (fun K hK=> ?_);go_wp2_with fail;have hGb:Grow wr (w5.alloc (.cells #[.slice qa m qc] 24)):=hGa.alloc _ _;refine hK _ _ ((fun _=>hGb.any)) ?_;clear hK K;refine wpQuiet_nil ?_;refine ZT rfl (fun K hK=> ?_);have hOb:=hOw.grow hGb;have hs4:=hGd.size;have hQd:=(hQ.rdD (S:=fun q=>w2.heap.size<q/\blk a1≠some q) fun q hq=>⟨by have:=hq.1;omega,fun e=>by have:=hOw.lt e;have:=hq.1;omega⟩).grow ((Grow.refl w5).alloc #[.slice qa m qc] 24);refine Zlp rfl Znd rfl hOb rfl (Row.built (S:=fun _=>True) 1 (by unfold maxLen;omega) rfl trivial) (by simp[Value.oneCell']) (by omega) (by unfold maxLen;omega) ?_;intro a9 c9 w9 hA9;have hK9:Keep (fun q=>blk a1≠some q) wr w9:=hGb.any.trans hA9.keep;have hsb:=hGb.size;have O9:=OwP.app (B:=wr.heap.size) (F:=fun q=>w2.heap.size<q) hss (hC.keep hGb fun _ _ _=>trivial) hlow hQd hlP (fun q hq=>by omega) hsb hA9;rw[←ZH Hp.out] at O9;refine hK _ _ (fun _=>hK9) ?_;clear hK K;show wpQuiet _ _ _ _ [_] _;(try (conv=>arg 6;simp only[putP]));(repeat (first |(go_big_quiet_want;refine Za Zgg rfl rfl (fun w' hG=>hG.cell nO o1) ?_;go_big_quiet_on;simp only[putP])|go_big_quiet_step (exact fun _=>rfl)));refine wpQuiet_nil ?_;refine ZT rfl (fun K hK=> ?_);have bO9:=bO'.keep hK9 nO;have bZ9:=bZ'.keep hK9 nZ;have hY9:=hY'.keep hK9 fun q _ hq e=>(by have:=hlow q e;omega);have hG9:=hG.keep hK9 fun q hq e=>(by have:=hlow q e;omega);have hs9:=hK9.size;obtain ⟨⟨-,f1⟩, -,ff1⟩:=bO9.two;have hltO9:=bO9.lt;obtain ⟨w10,hw10⟩: ∃ z,z=w9.setCell ⟨w2.heap.size,1,none⟩ (.slice a9 (k+1) c9):=⟨_,rfl⟩;have hK10:Keep (fun q=>q≠w2.heap.size) w9 w10:=(by rw[hw10];exact (Keep.refl _ w9).setCell (fun _ e=>e rfl) _);have bO10:Blk w10 w2.heap.size #[.slice ya xn yc, .slice a9 (k+1) c9] 27:=(by rw[hw10];exact bO9.set 1 _);have bZ10:=bZ9.keep hK10 (by omega);have hY10:=hY9.keep hK10 fun q _ hq=>(by omega);have O10:=O9.keep hK10 fun q _ hq=>(by omega);have hG10:=hG9.keep hK10 fun q hq=>(by omega);have hs10:=hK10.size;have Hw10:=hid hw10;clear hw10 hK9 hK10 bO9 bZ9 hY9 O9 hG9 hOb hQd hQ hA9 hC hOw hGb hGa hG5 hGd bO' bZ' hY' hG e0 hpd o0 o1 hltO hP;go_wp2_with fail;refine hK _ _ ((fun h=>(h rfl).elim)) ?_;clear hK K;refine Zbb ?_;rw[←Hw10.out];clear f1 ff1 hltO9;go_wp2;go_roundw;case rel=>exact ⟨hG10,by omega,k+1,c9,a9,by omega,by go_num,bO10,O10,bZ10,hY10⟩
   case measure=>simp[intOf];omega
  ·obtain rfl:k=n:=(by omega);rw[Z7 hPl] at hO;obtain ⟨⟨o0,o1⟩, -⟩:=bO'.two;obtain ⟨⟨z0,z1⟩,zf0,zf1⟩:=bZ'.two;have hltO:=bO'.lt;have hltZ:=bZ'.lt;have hle:w.heap.size<=w.heap.size+1:=(by omega);have hK:Keep (fun q=>q≠w.heap.size+1) wr ((wr.setCell ⟨w.heap.size+1,0,none⟩ (.slice ya xn yc)).setCell ⟨w.heap.size+1,1,none⟩ (.slice a1 k c1)):=((Keep.refl _ wr).setCell (fun _ e=>e rfl) _).setCell (fun _ e=>e rfl) _;have hYk:=(hY'.keep hK fun q _ hq=>by omega).weak (T:=fun q=>w.heap.size<=q) fun q _ hq=>(by omega);have hOk:=(hO.keep hK fun q _ hq=>by omega).weak (G:=fun q=>w.heap.size<=q) fun q _ hq=>(by omega);clear hY' hO hK hP;go_wp2;exact ZF Z4 rfl rfl rfl ((bZ'.set 0 _).set 1 _) ⟨ya,xn,yc,a1,k,c1,rfl,hYk,hOk,(hG.setCell hle _).setCell hle _⟩

end Go.Proofs.YtjpcgofidijigaaGreatDoor
