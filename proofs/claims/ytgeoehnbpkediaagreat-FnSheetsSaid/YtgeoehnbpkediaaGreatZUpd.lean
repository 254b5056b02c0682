/- UpdateSheet: plain part: what depends on a name is made anew, all else keeps its result. -/
import Derived.Test.YtgeoehnbpkediaaGreatZEvR
import Derived.Test.YtgeoehnbpkediaaGreatZResK
import Derived.Test.YtgeoehnbpkediaaGreatZSetDefI
import Derived.Test.YtgeoehnbpkediaaGreatZSetDefS
import Derived.Test.YtgeoehnbpkediaaGreatZDepsS
set_option maxHeartbeats 8000000
set_option maxRecDepth 100000
namespace Go.Proofs.YtgeoehnbpkediaaGreat
open Go.RowKit
open Lib (hid)
open Go.Value renaming int->Yv
open Go.IntKind renaming i64->Yi
variable {D S T U:Nat->Prop} {L l:List Dfn} {N:List ByteArray} {a da ra sa:Option Addr} {cap dc g i k n rc rn sc z:Nat} {d x:Dfn} {dv:Value} {res:Nat->Rs} {rs:List Rs} {s:ByteArray} {sv:Nat->Value} {w w1 wr:World}
def ZaA (L:List Dfn) (names:List ByteArray) (j:Nat):Bool:=match L[j]? with
 |some x=>Za7 names x.name
 |none=>false
def ndU (L:List Dfn) (N:List ByteArray) (j:Nat):List (Option Nat):=if ZaA L N j=true then ndL L j else []
def opU (L:List Dfn) (N:List ByteArray) (rs:List Rs) (j:Nat) (xs:List Rs):Rs:=if ZaA L N j=true then opL opF L j xs else rs.getD j rs0
def evU (L:List Dfn) (N:List ByteArray) (rs:List Rs) (j:Nat):Option Rs:=ev (ndU L N) (opU L N rs) L.length j
def stU (L:List Dfn) (N:List ByteArray) (j:Nat):Nat:=if j<L.length/\ZaA L N j=false then 2 else 0
def knU (L:List Dfn) (N:List ByteArray) (j:Nat):Bool:=decide (j<L.length)&& !ZaA L N j
def fdU (L:List Dfn) (N:List ByteArray) (rs:List Rs) (j:Nat):Nat:=if (evU L N rs j).isSome=true then 2 else 0
def Zgo (L:List Dfn) (N:List ByteArray) (rs:List Rs):Nat:=two (fdU L N rs) L.length-two (stU L N) L.length
def Zf7 (L:List Dfn) (N:List ByteArray) (rs:List Rs) (j:Nat):Rs:=(evU L N rs j).getD rs0
def Zcg (l:List Dfn) (rs:List Rs) (d:Dfn):List Dfn×List Rs×Nat×Bool:=
 if (Zy l d).2=true/\rs.length=l.length then ((Zy l d).1,rsL (Zf7 (Zy l d).1 (ZW (Zy l d).1 d.name) rs) (Zy l d).1.length,Zgo (Zy l d).1 (ZW (Zy l d).1 d.name) rs,true) else ([],[],0,false)
theorem Zgk {st st':Nat->Nat}: ∀ {n:Nat},(∀ j,j<n->(st j=2↔st' j=2))->two st n=two st' n
 |0,_=>rfl
 |n+1,h=>by
  simp only[two];rw[Zgk fun j hj=>h j (by omega)];congr 1;have:=h n (by omega);by_cases e:st n=2
  ·rw[if_pos e,if_pos (this.1 e)]
  ·rw[if_neg e,if_neg fun e'=>e (this.2 e')]
section
variable {L:List Dfn} {N:List ByteArray} {rs:List Rs}
theorem ZkV: ∀ i,i<L.length-> ∀ k,some k∈ndU L N i->k<L.length:=fun i hi k hk=>by
 unfold ndU at hk;split at hk
 ·exact ZeN i hi k hk
 ·cases hk
theorem Zl5 {j:Nat} (hj:j<L.length) (h:ZaA L N j=false):evU L N rs j=some (rs.getD j rs0):=by
 have h1:=Zih (nd:=ndU L N) (op:=opU L N rs) ZkV hj (xs:=[]) (by unfold ndU;rw[if_neg (by rw[h];simp)];rfl);unfold evU;rw[h1];unfold opU;rw[if_neg (by rw[h];simp)]
theorem ZqB:Zfo (ndU L N) (opU L N rs) L.length (stU L N) (fun j=>rs.getD j rs0):=by
 refine ⟨fun j hj h=> ?_,fun j _ h=> ?_⟩
 ·unfold stU at h;split at h
  ·rename_i hc;exact Zl5 hj hc.2
  ·cases h
 ·unfold stU at h;split at h<;>cases h
theorem ZiH {j:Nat} (h:ZaA L N j=true):ndU L N j=ndL L j/\ ∀ xs,opU L N rs j xs=opL opF L j xs:=by
 refine ⟨by unfold ndU;rw[if_pos h],fun xs=>by unfold opU;rw[if_pos h]⟩
theorem ZqJ {res:Nat->Rs} (h: ∀ j,j<L.length->ZaA L N j=false->res j=rs.getD j rs0):Rnd (ndU L N) (opU L N rs) L.length 0 0 (knU L N) res:=by
 refine ⟨fun j hj hk=> ?_,fun j x _ hx=>(by cases hx),fun j x hj=>by omega⟩;unfold knU at hk;simp only[Bool.and_eq_true,Bool.not_eq_true'] at hk;rw[h j hj hk.2];exact Zl5 hj hk.2
theorem ZqF {st:Nat->Nat} {res:Nat->Rs} {fd:Nat} (h:Zfo (ndU L N) (opU L N rs) L.length st res) (h1: ∀ j,j<L.length->st j=2\/st j=3) (h3: ∀ j,j<L.length->st j=3->res j=rs0) (hc:fd+two (stU L N) L.length=two st L.length):
  rsL (Zf7 L N rs) L.length=rsL res L.length/\Zgo L N rs=fd:=by
 have key: ∀ j,j<L.length->(st j=2↔(evU L N rs j).isSome=true):=fun j hj=>by
  rcases h1 j hj with e|e
  ·have:=h.two j hj e;unfold evU;rw[this];simp[e]
  ·have:=h.three j hj e;unfold evU;rw[this];simp[e]
 refine ⟨List.map_congr_left fun j hj=> ?_, ?_⟩
 ·have hj':=List.mem_range.1 hj;unfold Zf7 evU;rcases h1 j hj' with e|e
  ·rw[h.two j hj' e];rfl
  ·rw[h.three j hj' e,h3 j hj' e];rfl
 ·unfold Zgo;rw[Zgk (st:=fdU L N rs) (st':=st) fun j hj=>by
   rw[key j hj];unfold fdU;split<;>simp[*]]
  omega
theorem ZqK {kn:Nat->Bool} {res:Nat->Rs} {cnt:Nat} (h:Rnd (ndU L N) (opU L N rs) L.length L.length 0 kn res) (h3: ∀ j,j<L.length->kn j=false->res j=rs0) (hc:cnt+two (stK (knU L N)) L.length=two (stK kn) L.length):
  rsL (Zf7 L N rs) L.length=rsL res L.length/\Zgo L N rs=cnt:=by
 have hd:=h.done;refine ⟨List.map_congr_left fun j hj=> ?_, ?_⟩
 ·have hj':=List.mem_range.1 hj;unfold Zf7 evU;rw[hd j hj'];cases e:kn j with
  |true=>rfl
  |false=>rw[h3 j hj' e];rfl
 ·unfold Zgo;rw[Zgk (st:=fdU L N rs) (st':=stK kn) fun j hj=>by
   unfold fdU evU stK;rw[hd j hj];cases kn j<;>simp,Zgk (st:=stU L N) (st':=stK (knU L N)) fun j hj=>by
   unfold stU stK knU;cases ZaA L N j<;>simp[hj]]
  omega
end
theorem Zi1: ∀ {l:List Rs} {ss:List Value} {r:Rs} {s:Value},ss.length=l.length->ZbJ (l++[r]) (ss++[s])=ZbJ l ss++ZcF r s
 |[],[],r,s,_=>by simp[ZbJ]
 |[],_::_,_,_,h=>by simp at h
 |_::_,[],_,_,h=>by simp at h
 |d::l,t::ss,r,s,h=>by simp only[List.cons_append,ZbJ,Zi1 (l:=l) (ss:=ss) (by simpa using h),List.append_assoc]
theorem SepR.app {w2 w3:World} {c3 cm:Nat} {a1 a3 am:Option Addr} {L:List Rs} {ss:List Value} {r:Rs} (hl:L.length=k) (hI:Inner w2 (fun q=>z<=q) (blk a1) ss (ZaQ L)) (hok: ∀ x∈L,ROk x) (hlo: ∀ g,blk a1=some g->z<=g) (hz:z<=w2.heap.size)
  (om:Own w2 3 1 am (rsM r).cells.length cm (ints (rsM r).cells)) (hr: ∀ x∈(rsM r).cells,I64 x) (hro:ROk r) (hf: ∀ q,blk am=some q->z<=q/\blk a1≠some q/\ ∀ v∈ss,v.ownBlock≠some q)
  (hA:Apped w2 w3 39 4 a1 a3 (k+1) c3 (ZbJ L ss++ZcF r (.slice am (rsM r).cells.length cm))):SepR w3 (fun q=>z<=q) a3 (k+1) c3 (L++[r]):=by
 subst hl;have hss:ss.length=L.length:=by have:=hI.len;simpa using this
 have hl3:=hA.lo hz hlo;refine ⟨⟨ss++[.slice am (rsM r).cells.length cm], ?_, ?_⟩,by simp,fun x hx=> ?_,fun g hg=>hl3 g hg⟩
 ·rw[Zi1 hss];exact hA.own
 ·have h1:=hI.snoc om hr (fun q hq=>⟨(hf q hq).1,(hf q hq).2.1⟩) (fun q hq v hv hvq=>(hf q hq).2.2 v hv hvq);rw[ZkC];refine h1.move (G:=fun q=>z<=q) (g':=blk a3) hA.keep fun b hb hF hne=>⟨hne,hF,fun e=> ?_⟩;rcases hA.new with e2|⟨g',e2,hg'⟩
  ·rw[e2] at e;exact hne e
  ·rw[e2] at e;obtain rfl:=Option.some.inj e;omega
 ·rcases List.mem_append.1 hx with hx|hx
  ·exact hok x hx
  ·rw[List.mem_singleton] at hx;subst hx;exact hro
def EvLq (w:World) (z:Nat) (D:Nat->Prop) (g:Nat) (da:Option Addr) (dc:Nat) (ra:Option Addr) (rc:Nat) (sa:Option Addr) (sc:Nat) (l:List Dfn) (nd:Nat->List (Option Nat)) (op:Nat->List Rs->Rs) (c0 k:Nat) (wr:World):Prop:=
 ∃ st res sv fd,FPre wr D (fun q=>z<=q/\blk ra≠some q) g da dc ra rc sa sc l nd op st res sv fd/\Keep (fun q=>q<z/\q≠g/\blk sa≠some q) w wr/\z<=wr.heap.size/\(∀ j,j<l.length->st j≠1)/\(∀ j,j<l.length->j<k->st j≠0)/\fd+c0=two st l.length
theorem EvLq.next {w':World} {c0:Nat} {nd:Nat->List (Option Nat)} {op:Nat->List Rs->Rs} {st:Nat->Nat} {fd:Nat} {e:Ending} (h:FPre wr D (fun q=>z<=q/\blk ra≠some q) g da dc ra rc sa sc l nd op st res sv fd) (hG:Keep (fun q=>q<z/\q≠g/\blk sa≠some q) w wr) (hz:z<=wr.heap.size) (h1: ∀ j,j<l.length->st j≠1) (h0: ∀ j,j<l.length->j<k->st j≠0) (hc:fd+c0=two st l.length) (hra: ∀ q,blk ra=some q->z<=q)
  (hP:FPost D (fun q=>z<=q/\blk ra≠some q) g da dc ra rc sa sc l nd op st res fd k wr e w'):(∃ b,e= .returned (.bool b))/\EvLq w z D g da dc ra rc sa sc l nd op c0 (k+1) w':=by
 have hlr:=h.lts.2.1;obtain ⟨st',res',sv',fd',he,hF,hE,hk,h2, -,hK⟩:=hP;refine ⟨⟨_,he⟩,st',res',sv',fd',hF.weak (fun q _ hq=> ?_) (fun q hq=>h.sep q hq),hG.trans (hK.mono fun q _ hq=>⟨hq.2.1,fun e=>by have:=hra q e;omega,hq.2.2⟩),Nat.le_trans hz hK.size,fun j hj e1=> ?_,fun j hj hjk e0=> ?_,by omega⟩
 ·rcases hq with hq|hq
  ·exact hq
  ·exact ⟨by omega,fun e=>by have:=hlr q e;omega⟩
 ·by_cases hj0:st j=0
  ·rcases hE.news j hj hj0 with h2|h2|h2<;>omega
  ·have:=(hE.keep j hj hj0).1;have:=h1 j hj;omega
 ·by_cases hjk':j=k
  ·exact hk (hjk'▸e0)
  ·have:=h0 j hj (by omega);have:=(hE.keep j hj this).1;omega
theorem ZmX {l:List Value} (h:l.length=n):svL (fun j=>l.getD j (.slice none 0 0)) n=l:=by
 unfold svL;apply List.ext_getElem?;intro j;by_cases hj:j<n
 ·rw[Z9 _ hj];simp[hj,h]
 ·rw[List.getElem?_eq_none (by simp;omega),List.getElem?_eq_none (by omega)]
theorem RdR.weak' {c:Nat} {l:List Rs} (h:RdR w S a n c l) (hST: ∀ b,b<w.heap.size->S b->T b):RdR w T a n c l:=by
 obtain ⟨⟨ss,h0,h1,h2⟩,h3,h4⟩:=h;exact ⟨⟨ss,h0,h1.weak hST,h2.weak hST⟩,h3,h4⟩
theorem Zix (h:Zp L=true) (s:ByteArray):(ZW L s).length<=12:=by
 have h2:=(Zb8 h).2;unfold ZW;split
 ·rename_i hc;simp only[Bool.and_eq_true,decide_eq_true_eq] at hc;have:=(Zed hc.2 L.length).len;omega
 ·simp
theorem Zpb (f:Nat->Rs) (k:Nat):rsL f (k+1)=rsL f k++[f k]:=by unfold rsL;rw[List.range_succ,List.map_append];rfl
theorem Zcr {fn:Func} {t u v x:Tmp} (h:fn.results= #[.tmp t, .tmp u, .tmp v, .tmp x]) (tmps:Array Value) (P:Program) (w:World):
  (results fn tmps).run P w= .ok (.tuple #[tmps.getD t undef,tmps.getD u undef,tmps.getD v undef,tmps.getD x undef]) w:=by
 simp[results,h]
theorem Zc2 (h:(Zy l d).2=true):Zp (Zy l d).1=true/\l.length<=(Zy l d).1.length/\(Zy l d).1.length<=12:=by
 cases hs:Zp l&&Zp (Zn l d) with
 |false=>rw[Zba hs] at h;cases h
 |true=>
  rw[Bool.and_eq_true] at hs;rw[ZbI hs.1 hs.2];refine ⟨hs.2, ?_,(Zb8 hs.2).2⟩;show l.length<=(Zn l d).length;unfold Zn;split
  ·simp
  ·simp
theorem ZkW (h:(Zy l d).2=true) (h2:rs.length=l.length):Zcg l rs d=((Zy l d).1,rsL (Zf7 (Zy l d).1 (ZW (Zy l d).1 d.name) rs) (Zy l d).1.length,Zgo (Zy l d).1 (ZW (Zy l d).1 d.name) rs,true):=by
 unfold Zcg;rw[if_pos ⟨h,h2⟩]
def ZdL (L:List Dfn) (N:List ByteArray) (k:Nat) (j:Nat):Nat:=if j<k then stU L N j else 0
theorem Znl (L:List Dfn) (N:List ByteArray) (n:Nat):stL (ZdL L N 0) n=stL (fun _=>0) n:=by
 unfold stL;refine List.map_congr_left fun j _=> ?_;unfold ZdL;rw[if_neg (by omega)]
theorem ZoV (L:List Dfn) (N:List ByteArray) (n:Nat):stL (ZdL L N n) n=stL (stU L N) n:=by
 unfold stL;refine List.map_congr_left fun j hj=> ?_;have:=List.mem_range.1 hj;unfold ZdL;rw[if_pos this]
theorem Zp0 (hx:L[k]? =some x) (h:Za7 N x.name=true):stL (ZdL L N (k+1)) n=stL (ZdL L N k) n:=by
 unfold stL;refine List.map_congr_left fun j _=> ?_;unfold ZdL;by_cases e:j=k
 ·subst e;rw[if_pos (by omega),if_neg (by omega)];unfold stU ZaA;rw[hx];simp[h]
 ·by_cases e2:j<k
  ·rw[if_pos (by omega),if_pos e2]
  ·rw[if_neg (by omega),if_neg e2]
theorem Zo6 (hx:L[k]? =some x) (h:Za7 N x.name=false):(stL (ZdL L N k) n).set k ((2:Nat):Int)=stL (ZdL L N (k+1)) n:=by
 rw[ZlX];unfold stL;refine List.map_congr_left fun j _=> ?_;unfold ZdL ZL;have hk:=(List.getElem?_eq_some_iff.1 hx).1;by_cases e:j=k
 ·subst e;rw[if_pos rfl,if_pos (by omega)];unfold stU ZaA;rw[hx];simp[h,hk]
 ·rw[if_neg e];show (((if j<k then stU L N j else 0):Nat):Int)=_;by_cases e2:j<k
  ·rw[if_pos e2,if_pos (by omega)]
  ·rw[if_neg e2,if_neg (by omega)]
theorem Zmb (st:Nat->Nat): ∀ n,zer st n<=n
 |0=>Nat.le_refl _
 |n+1=>by have:=Zmb st n;simp only[zer];split<;>omega
theorem ZpK {m:Nat} (hs:Zp L=true) (hm:L.length=m) (hd:RdD w D da m dc L) (hD: ∀ q,D q->q<z/\q≠g/\blk sa≠some q) (hg:g<z) (hsa: ∀ q,blk sa=some q->q<z)
  (bE:Blk w g #[.slice da m dc, .slice ra m rc, .slice sa m sc,Yv Yi 0] 69) (oS:Own w 3 1 sa m sc (ints (stL (ZdL L N m) m))) (hR:SepR w (fun q=>z<=q) ra m rc (rsL (fun j=>rs.getD j rs0) m)) (hbr: ∀ r∈rs,(rsM r).cells.length<=1048576):
  ∃ sv,FPre w D (fun q=>z<=q/\blk ra≠some q) g da dc ra rc sa sc L (ndU L N) (opU L N rs) (stU L N) (fun j=>rs.getD j rs0) sv 0:=by
 obtain ⟨⟨ss,hO,hI⟩, -,hok,hlo⟩:=hR;subst hm;have hss:ss.length=L.length:=by have:=hI.len;simpa [rsL] using this
 have h12:=(Zb8 hs).2;refine ⟨fun j=>ss.getD j (.slice none 0 0),⟨bE, ?_, ?_, ?_,fun j hj=>⟨hok _ (List.mem_map.2 ⟨j,List.mem_range.2 hj,rfl⟩), ?_⟩⟩,fun q hq=>⟨by omega,hq.2,fun e=>by have:=hsa q e;omega⟩,hd,fun q hq=>⟨(hD q hq).2.1,fun e=>by have:=hlo q e;have:=(hD q hq).1;omega,(hD q hq).2.2⟩,ZqB,fun j hj h0=>ZiH ?_,ZkV,fun j _=> ?_, ?_,Zdp hs,by omega,fun j _ h3=> ?_⟩
 ·rw[ZmX hss];exact hO
 ·rw[←ZoV];exact oS
 ·rw[ZmX hss];exact hI.weak fun q _ hq hne=>⟨⟨hq,hne⟩,by simp⟩
 ·show (rsM (rs.getD j rs0)).cells.length<=1048576;by_cases e:j<rs.length
  ·rw[List.getD_eq_getElem?_getD,List.getElem?_eq_getElem e];exact hbr _ (List.getElem_mem e)
  ·rw[List.getD_eq_getElem?_getD,List.getElem?_eq_none (by omega)];simp[rsM,rs0,rsZ]
 ·cases e:ZaA L N j with
  |true=>rfl
  |false=>unfold stU at h0;rw[if_pos ⟨hj,e⟩] at h0;cases h0
 ·unfold stU;split<;>omega
 ·have:=Zmb (stU L N) L.length;omega
 ·unfold stU at h3;split at h3<;>cases h3
theorem EvLq.fin (hra: ∀ q,blk ra=some q->z<=q) (h:EvLq w z D g da dc ra rc sa sc L (ndU L N) (opU L N rs) (two (stU L N) L.length) L.length wr):
  Blk wr g #[.slice da L.length dc, .slice ra L.length rc, .slice sa L.length sc,Yv Yi (Zgo L N rs:Int)] 69/\ORR wr (fun q=>z<=q) (.slice ra L.length rc) (rsL (Zf7 L N rs) L.length)/\Keep (fun q=>q<z/\q≠g/\blk sa≠some q) w wr/\z<=wr.heap.size:=by
 obtain ⟨st,res,sv,fd,hF,hG,hz,h1,h0,hc⟩:=h;obtain ⟨e1,e2⟩:=ZqF (rs:=rs) hF.inv (fun j hj=>by have:=hF.le3 j hj;have:=h1 j hj;have:=h0 j hj hj;omega) hF.none3 hc;rw[e1,e2];refine ⟨hF.ev.bg,⟨_,_,_,rfl,⟨svL sv L.length,hF.ev.oR,hF.ev.inn.weak fun q _ hq _=>⟨hq.1,hq.2⟩⟩,by simp[rsL],fun r hr=> ?_,hra⟩,hG,hz⟩;obtain ⟨j,hj,rfl⟩:=List.mem_map.1 hr;exact (hF.ev.ok j (List.mem_range.1 hj)).1
def UpPost (w:World) (l:List Dfn) (rs:List Rs) (d:Dfn) (e:Ending) (w':World):Prop:=
 ∃ v1 v2 z,e= .returned (.tuple #[v1,v2,Yv Yi ((Zcg l rs d).2.2.1:Int), .bool (Zcg l rs d).2.2.2])/\ODD w' (fun q=>w.heap.size<=q/\q<z) v1 (Zcg l rs d).1/\ORR w' (fun q=>z<=q) v2 (Zcg l rs d).2.1/\Grow w w'/\w.heap.size<=z/\z<=w'.heap.size
theorem ZfY (h:(Zy l d).2=false\/rs.length≠l.length):Zcg l rs d=([],[],0,false):=by
 unfold Zcg;rw[if_neg];rintro ⟨h1,h2⟩;rcases h with h|h
 ·rw[h1] at h;cases h
 ·exact h h2
theorem UpPost.no (hG:Grow w w1) (h:Zcg l rs d=([],[],0,false)):
  UpPost w l rs d (.returned (.tuple #[.slice (some ⟨w1.heap.size,0,none⟩) 0 0, .slice (some ⟨w1.heap.size+1,0,none⟩) 0 0,Yv Yi 0, .bool false])) ((w1.alloc (.cells #[] 30)).alloc (.cells #[] 39)):=by
 have hs:=hG.size;refine ⟨_,_,w1.heap.size+1,by rw[h];rfl, ?_, ?_,(hG.alloc _ _).alloc _ _,by omega,by simp⟩
 ·rw[h];exact ⟨_,_,_,rfl,(SepD.nilAt rfl rfl ⟨hs,Nat.lt_succ_self _⟩).grow ((Grow.refl _).alloc _ _)⟩
 ·rw[h];exact ⟨_,_,_,rfl,⟨⟨[],Own.freshAt (by simp) (by unfold maxLen;omega) rfl,Inner.nilw⟩,rfl,(fun _ h=>by cases h),fun q hq=>by simp at hq;omega⟩⟩
def Zcz (rs:List Rs) (k j:Nat):Rs:=if j<k then rs.getD j rs0 else rs0
def kn1 (k j:Nat):Bool:=decide (j<k)
def kn2 (n:Nat) (L:List Dfn) (N:List ByteArray) (i j:Nat):Bool:=decide (j<n)&& !ZaA L (N.take i) j
def Zc3 (rs:List Rs) (L:List Dfn) (N:List ByteArray) (i j:Nat):Rs:=if ZaA L (N.take i) j=true then rs0 else rs.getD j rs0
theorem Zo1 (rs:List Rs) (k:Nat):Zaa (Zcz rs k) k (rs.getD k rs0)=Zcz rs (k+1):=by
 funext j;unfold Zaa Zcz;by_cases e:j=k
 ·subst e;rw[if_pos rfl,if_pos (by omega)]
 ·rw[if_neg e];by_cases e2:j<k
  ·rw[if_pos e2,if_pos (by omega)]
  ·rw[if_neg e2,if_neg (by omega)]
theorem ZpB (k:Nat):Zd6 (kn1 k) k true=kn1 (k+1):=by
 funext j;unfold Zd6 kn1;by_cases e:j=k
 ·subst e;rw[if_pos rfl];simp
 ·rw[if_neg e];congr 1;simp;omega
theorem Zko (L:List Dfn) (j:Nat):ZaA L [] j=false:=by unfold ZaA;cases L[j]? <;>rfl
theorem ZoM (n:Nat) (L:List Dfn) (N:List ByteArray):kn2 n L N 0=kn1 n:=by
 funext j;unfold kn2 kn1;rw[List.take_zero,Zko];simp
theorem Zm6 (h:rs.length=n) (L:List Dfn) (N:List ByteArray):Zc3 rs L N 0=Zcz rs n:=by
 funext j;unfold Zc3 Zcz;rw[List.take_zero,Zko,if_neg (by simp)];by_cases e:j<n
 ·rw[if_pos e]
 ·rw[if_neg e,List.getD_eq_getElem?_getD,List.getElem?_eq_none (by omega)];rfl
theorem ZnZ (N:List ByteArray) (s x:ByteArray):Za7 (N++[s]) x=(Za7 N x||decide (s=x)):=by simp[Za7]
theorem ZiV (hs:Zp L=true) (hi:N[i]? =some s) (hk:Zj L s=(k:Int)) (j:Nat):ZaA L (N.take (i+1)) j=(ZaA L (N.take i) j||decide (j=k)):=by
 obtain ⟨d,hd,hn⟩:=(Ze6 (Zcx hs)).1 (ZdW hk);have hds:d.name=s:=of_decide_eq_true (by rw[←Zev,hn];simp);rw[Z8 hi];unfold ZaA;cases hj:L[j]? with
 |none=>
  have:j≠k:=fun e=>by rw[e,hd] at hj;cases hj
  simp[this]
 |some x=>
  simp only;rw[ZnZ];congr 1;by_cases e:j=k
  ·subst e;obtain rfl:x=d:=Option.some.inj (hj.symm.trans hd);simp[hds]
  ·have: ¬ s=x.name:=fun e2=>e (Zcx hs j k x d hj hd (by rw[←e2, ←hds]));simp[e,this]
theorem Zpn (hs:Zp L=true) (hi:N[i]? =some s) (hk:Zj L s=(k:Int)):Zd6 (kn2 n L N i) k false=kn2 n L N (i+1):=by
 funext j;unfold Zd6 kn2;rw[ZiV hs hi hk];by_cases e:j=k
 ·rw[if_pos e];simp[e]
 ·rw[if_neg e];simp[e]
theorem Zon (hs:Zp L=true) (hi:N[i]? =some s) (hk:Zj L s=(k:Int)):Zaa (Zc3 rs L N i) k rs0=Zc3 rs L N (i+1):=by
 funext j;unfold Zaa Zc3;rw[ZiV hs hi hk];by_cases e:j=k
 ·rw[if_pos e,if_pos (by simp[e])]
 ·rw[if_neg e];simp[e]
theorem ZeM (L:List Dfn) (s:ByteArray): ∀ i,s∈Z4 L s i
 |0=>by simp[Z4]
 |i+1=>by
  show s∈ZbR L (Z4 L s i) i;unfold ZbR;split
  ·rename_i x _;obtain ⟨q,hq⟩:=Zez (x:=x) L (Z4 L s i);rw[hq];exact List.mem_append_left _ (ZeM L s i)
  ·exact ZeM L s i
theorem Zoi (h:(Zy l d).2=true) {j:Nat} (h1:l.length<=j) (h2:j<(Zy l d).1.length):ZaA (Zy l d).1 (ZW (Zy l d).1 d.name) j=true:=by
 cases hs:Zp l&&Zp (Zn l d) with
 |false=>rw[Zba hs] at h;cases h
 |true=>
  rw[Bool.and_eq_true] at hs;rw[ZbI hs.1 hs.2] at h2 ⊢;simp only at h2 ⊢;by_cases hf:0<=Zj l d.name
  ·unfold Zn at h2;rw[if_pos hf,List.length_set] at h2;omega
  ·have e:Zn l d=l++[d]:=(by unfold Zn;rw[if_neg hf]);have hj:(Zn l d)[j]? =some d:=(by rw[e] at h2 ⊢;simp at h2;obtain rfl:j=l.length:=(by omega);simp);have h0:0<=Zj (Zn l d) d.name:=(by refine (ZaT (fun x:Dfn=>x.name.toList==d.name.toList) _).2 ?_;rw[List.any_eq_true];exact ⟨d,List.mem_of_getElem? hj,by simp⟩);unfold ZaA;rw[hj];show Za7 _ d.name=true;rw[Zdt];unfold ZW;rw[hs.2,decide_eq_true h0];exact ZeM _ _ _
theorem ZpP (h:(Zy l d).2=true):kn2 l.length (Zy l d).1 (ZW (Zy l d).1 d.name) (ZW (Zy l d).1 d.name).length=knU (Zy l d).1 (ZW (Zy l d).1 d.name):=by
 have hle:=(Zc2 h).2.1;funext j;unfold kn2 knU;rw[List.take_length];by_cases e:j<l.length
 ·rw[decide_eq_true e,decide_eq_true (show j<(Zy l d).1.length by omega)]
 ·rw[decide_eq_false e];by_cases e2:j<(Zy l d).1.length
  ·rw[Zoi h (by omega) e2];simp
  ·rw[decide_eq_false e2]
theorem Zlg {t:ByteArray} (ht:t∈ZW L s): ∃ k:Nat,Zj L t=(k:Int)/\k<L.length:=by
 unfold ZW at ht;split at ht
 ·rename_i hc;simp only[Bool.and_eq_true,decide_eq_true_eq] at hc;obtain ⟨d,hd,rfl⟩:=List.mem_map.1 ((Zed hc.2 L.length).2 t ht);have h0:0<=Zj L d.name:=by refine (ZaT (fun x:Dfn=>x.name.toList==d.name.toList) _).2 ?_;rw[List.any_eq_true];exact ⟨d,hd,by simp⟩
  have h1:Zj L d.name<L.length:=Zeu;exact ⟨(Zj L d.name).toNat,by omega,by omega⟩
 ·cases ht
theorem Znf (h:RdD w S a n cap l) (hr:RdR w T ra rn rc rs) (hd:VD w U dv d) (hb:ZbQ l<=1048576) (hbd:bdD d<=1048576) (hbr: ∀ r∈rs,(rsM r).cells.length<=1048576):
  Calls Tryz.prog 8 #[.slice a n cap, .slice ra rn rc,dv] w (UpPost w l rs d):=by
 have hl:=h.len;have hrl:=hr.len;obtain ⟨da,dn,dc,rfl,rD,oD⟩:=hd;obtain ⟨w0,hw0,hG0,bD,hs0⟩:=al1 w #[.string d.name,Yv Yi d.op, .string d.a, .string d.b,Yv Yi d.value.rows,Yv Yi d.value.cols, .slice da dn dc] 30;have Hw0:=hid hw0;clear hw0;go_enter Tryz.func8,Tryz.ntmps8;go_wp2_with fail;rw[←Hw0.out];refine (ZjT (S:=S) (T:=U) a n cap l _ d w0 (h.grow hG0) ⟨da,dn,dc,rfl,rD.grow hG0,oD⟩ hb hbd).mono ?_;rintro e w1 ⟨r,rfl,⟨La,m,Lc,rfl,hL⟩,hG1⟩;have hG01:=hG0.trans hG1;have bD1:=bD.grow hG1;cases hok:(Zy l d).2 with
 |false=>
  have HU:=hid (ZfY (rs:=rs) (.inl hok));clear hok hL;go_wp2
  (try simp only[Exit.inBlock,Exit.then])
  refine bodyPost_ret (Zcr rfl _ _ _) rfl ?_;exact UpPost.no hG01 HU.out
 |true=>
  by_cases hrn:rn=n
  ·subst hrn;have q0:((rn:Int)!=(rn:Int))=false:=(by simp);have HU:=hid (ZkW (rs:=rs) hok (hrl.trans hl.symm));obtain ⟨hsh,hm0,hm12⟩:=Zc2 hok;obtain ⟨L,hLe⟩: ∃ L,L=(Zy l d).1:=⟨_,rfl⟩;rw[←hLe] at HU hL hsh hm0 hm12;clear hLe hok;have hm:=hL.len;have hlm:l.length=rn:=hl;obtain ⟨N,hNe⟩: ∃ N,N=ZW L d.name:=⟨_,rfl⟩;have hmk:=T_ints.make (n:=m) (by omega) (by unfold maxLen;omega);obtain ⟨w2,hw2,hG2, -, -,hs2⟩:=al2 w1 (madeCells #[Yv Yi 0] m) 3 #[.slice La m Lc, .slice none 0 0, .slice (some ⟨w1.heap.size,0,none⟩) m m,Yv Yi 0] 69;have oS2:Own w2 3 1 (some ⟨w1.heap.size,0,none⟩) m m (ints (stL (ZdL L N 0) m)):=(by have:=Own.freshAt (w:=w1) (e:=3) (sz:=1) (cs:=madeCells #[Yv Yi 0] (m*1)) (n:=m) rfl (by unfold maxLen;omega) (by simp[madeCells]);rw[ZfV, ←ZkP, ←Znl L N,Nat.mul_one] at this;rw[hw2];exact this.grow ((Grow.refl _).alloc _ _));have bE2:Blk w2 (w1.heap.size+1) #[.slice La m Lc, .slice none 0 0, .slice (some ⟨w1.heap.size,0,none⟩) m m,Yv Yi 0] 69:=(by rw[hw2];exact Blk.newAt _ _ _ (by simp));have bD2:=bD1.grow hG2;have n0:=bD2.cell 0;have hltD:=bD2.lt;simp at n0;have hs01:=hG01.size;have Hw2:=hid hw2;rw[Hw2.out] at n0 hltD;have HN:=hid hNe;clear hw2 hNe;go_wp2_with fail;rw[←Hw2.out];refine (Zex (S:=fun _=>True) La m Lc L d.name w2 ((hL.rdD fun _ _=>trivial).grow hG2) (by omega) (fun x hx=>by have:=Zdp hsh x hx;omega)).mono ?_;rw[←HN.out];rintro e w3 ⟨vn,rfl,⟨na,nn,nc,rfl,oN,fN⟩,hG3⟩;have hG13:=hG2.trans hG3;have hs3:=hG3.size;have L3:=(hL.grow hG13).weak (G:=fun q=>w.heap.size<=q/\q<w1.heap.size) fun q _ hq=>⟨by have:=hG0.size;have:=hq.1;omega,hq.2⟩;have bE3:=bE2.grow hG3;have oS3:=oS2.grow hG3;have hr3:=(hr.weak' (T:=fun q=>q<w.heap.size) fun q hlt _=>hlt).grow (hG01.trans hG13);have hnn:N.length=nn:=(by simpa using oN.len);have hN12:nn<=12:=(by have:=Zix hsh d.name;rw[←HN.out] at this;omega);have hGw3:Grow w w3:=hG01.trans hG13;obtain ⟨sb,hsb⟩: ∃ z,z=w1.heap.size:=⟨_,rfl⟩;rw[←hsb] at bE3 oS3 ⊢;have hsb3:sb+1<w3.heap.size:=(by omega);have hsb1:w1.heap.size<=sb:=(by omega);have hsb2:sb+2<=w2.heap.size:=(by omega);have Hsb:=hid hsb;have HG:=hid (And.intro hG0 (And.intro hG1 hG2));clear bD bD1 bD2 n0 hltD bE2 oS2 hL hmk h hr rD oD hsb;go_wp2;go_loopw [14,15,16,47] (fun _ _ _ iv wr=>Keep (fun q=>q<w3.heap.size/\q≠sb+1/\q≠sb) w3 wr/\ ∃ (k:Nat) (qa:Option Addr) (qc:Nat),k<=m/\iv=Yv Yi k/\Blk wr (sb+1) #[.slice La m Lc, .slice qa k qc, .slice (some ⟨sb,0,none⟩) m m,Yv Yi 0] 69/\Own wr 3 1 (some ⟨sb,0,none⟩) m m (ints (stL (ZdL L N k) m))/\SepR wr (fun q=>w3.heap.size<=q) qa k qc (rsL (fun j=>rs.getD j rs0) k)) (fun _ _ _ iv _=>m-(intOf iv).toNat);case atStart=>refine ⟨Keep.refl _ _,0,none,0,Nat.zero_le _,rfl,bE3,oS3,⟨⟨[],Own.nilw,Inner.nilw⟩,rfl,(fun _ h=>by cases h),fun q hq=>by simp at hq⟩⟩
   case round=>
    obtain ⟨hK,k,qa,qc,hk,rfl,bE,oS,hR⟩:=hrel;clear bE3 oS3;have hltz:=bE.lt;have hsK:=hK.size;by_cases hlt:k<m
    ·have Lr:=L3.keep hK (T:=fun q=>q<w3.heap.size/\q≠sb+1/\q≠sb) (fun q hq hF=>⟨by omega,by omega,by omega⟩);obtain ⟨lb,lo,x,xa,xc,rfl,hx, -,hlb,hxAt, -, -⟩:=(Lr.rdD (S:=fun _=>True) fun _ _=>trivial).at hlt;obtain ⟨c0,c1,c2,c3,c4,c5,c6⟩:=hxAt;obtain ⟨wA,hwA,hGA,bX,bZ,hsA⟩:=al2 wr #[.string x.name,Yv Yi x.op, .string x.a, .string x.b,Yv Yi x.value.rows,Yv Yi x.value.cols, .slice xa x.value.cells.length xc] 30 #[Yv Yi 0,Yv Yi 0, .slice none 0 0, .bool false] 39;have bE0:=bE;have oS0:=oS;have hR0:=hR;have HwA:=hid hwA;have Hx:=hid hx;have hRl: ∀ q,blk qa=some q->w3.heap.size<=q/\q<wr.heap.size:=fun q hq=>⟨hR.low q hq,by obtain ⟨⟨ss,hO, -⟩, -⟩:=hR;exact hO.lt hq⟩;have hrA:=(hr3.keep hK (T:=fun q=>q<w3.heap.size/\q≠sb+1/\q≠sb) (fun q hq hF=>⟨by omega,by omega,by omega⟩)).grow hGA;have HK:=hid hK;clear hwA hK hx Lr bE oS hR;by_cases hkr:k<rn
     case' pos=>obtain ⟨rb,ro,r,r1a,r1c,rfl,hrx, -,hrb,⟨r0,r1,r2,r3⟩,rdv,rok⟩:=hrA.at hkr;have hrm:=hbr r (List.mem_of_getElem? hrx);have Hrk:=hid (show rs.getD k rs0=r by rw[List.getD_eq_getElem?_getD,hrx];rfl);clear hrx hrA;go_wp2;rw[←HwA.out];refine ZF (S:=(Grow wA)) (last:=12) [([0,1,2,3,4,6,7,8,9,10],some 5),([],some 11),([],some 12)] Zm (by kernel_rfl) (fun _ _ _ _ _ h=>h) (Grow.refl _).drew ?_;show wpQuiet _ _ _ _ [_,_,_,_,_,_,_,_,_,_] _;(repeat (first |(go_big_quiet_want;(first |refine Ze Zb rfl rfl (fun w' hG=>⟨hG.cell r0,hG.cell r1,hG.cell r2⟩) ?_|refine Za ZaR rfl rfl (fun w' hG=>hG.cell r3) ?_);go_big_quiet_on;simp only[putP])|go_big_quiet_step (exact fun _=>rfl)));refine wpQuiet_nil ?_;refine Zx rfl (fun K hK=> ?_);go_wp2_with fail;refine (Zbs (S:=fun _=>True) (m:=rsM r) ⟨r1a,_,r1c,rfl,(rdv.weak fun _ _ _=>trivial).grow (Grow.refl wA).drew,rok.1,rok.2⟩ hrm).mono ?_;rintro e wB ⟨rv,rfl,⟨ca,cn,cc,rfl,oC,rC,fC, -, -⟩,hGB⟩;have hGaB:=(Grow.refl wA).drew.trans hGB;obtain rfl:(rsM r).cells.length=cn:=(by have:=oC.len;simp[ints] at this;exact this);go_wp2_with fail;refine hK _ _ ((fun _=>hGaB)) ?_;clear hK K;refine wpQuiet_nil ?_;refine Zx rfl (fun K hK=> ?_);go_wp2_with fail;refine hK _ _ ((fun _=>hGaB)) ?_;clear hK K;refine wpQuiet_nil ?_;refine Zx rfl (fun K hK=> ?_);have bZB:=bZ.grow hGaB;obtain ⟨⟨z0,z1,z2,z3⟩,zf3⟩:=bZB.four';have zf0:=bZB.free 0;have zf1:=bZB.free 1;have zf2:=bZB.free 2;have hltZ:=bZB.lt;obtain ⟨w5,hw5⟩: ∃ z,z=(((wB.setCell ⟨wr.heap.size+1,0,none⟩ (Yv Yi (rsM r).rows)).setCell ⟨wr.heap.size+1,1,none⟩ (Yv Yi (rsM r).cols)).setCell ⟨wr.heap.size+1,2,none⟩ (.slice ca (rsM r).cells.length cc)).setCell ⟨wr.heap.size+1,3,none⟩ (.bool r.isSome):=⟨_,rfl⟩;have hK5:Keep (fun q=>q≠wr.heap.size+1) wB w5:=(by rw[hw5];exact ((((Keep.refl _ wB).setCell (fun _ e=>e rfl) _).setCell (fun _ e=>e rfl) _).setCell (fun _ e=>e rfl) _).setCell (fun _ e=>e rfl) _);have bR5:Blk w5 (wr.heap.size+1) #[Yv Yi (rsM r).rows,Yv Yi (rsM r).cols, .slice ca (rsM r).cells.length cc, .bool r.isSome] 39:=(by rw[hw5];exact (((bZB.set 0 _).set 1 _).set 2 _).set 3 _);have hfC: ∀ q,blk ca=some q->wr.heap.size+1<q:=fun q hq=>(by have:=(fC q hq).1;simp at this;omega);have hGr5:Grow wr w5:=(hGA.trans hGaB).keep hK5 fun q hq=>(by omega);have om5:=oC.keep hK5 fun q hq _=>(by have:=hfC q hq;omega);have bX5:=(bX.grow hGaB).keep hK5 (by omega);have Hw5:=hid hw5;clear hw5 oC fC hK5 bZ bZB r0 r1 r2 r3 rdv hGaB hGB;go_wp2_with fail;refine hK _ _ ((fun h=>(h rfl).elim)) ?_;clear hK K;refine Z7 ?_;rw[←Hw5.out];clear z0 z1 z2 z3 zf0 zf1 zf2 zf3 hltZ
     case' neg=>obtain ⟨r,hr0⟩: ∃ z,z=rs0:=⟨_,rfl⟩;obtain ⟨ca,hca⟩: ∃ z:Option Addr,z=none:=⟨_,rfl⟩;obtain ⟨cc,hcc⟩: ∃ z:Nat,z=0:=⟨_,rfl⟩;have Hrk:=hid (show rs.getD k rs0=r by rw[hr0,List.getD_eq_getElem?_getD,List.getElem?_eq_none (by omega)];rfl);obtain ⟨w5,hw5⟩: ∃ z,z=wA:=⟨_,rfl⟩;have bR5:Blk w5 (wr.heap.size+1) #[Yv Yi (rsM r).rows,Yv Yi (rsM r).cols, .slice ca (rsM r).cells.length cc, .bool r.isSome] 39:=(by rw[hw5,hr0,hca,hcc];exact bZ);have hfC: ∀ q,blk ca=some q->wr.heap.size+1<q:=fun q hq=>(by rw[hca] at hq;simp at hq);have hGr5:Grow wr w5:=(by rw[hw5];exact hGA);have om5:Own w5 3 1 ca (rsM r).cells.length cc (ints (rsM r).cells):=(by rw[hr0,hca,hcc];exact Own.nilw);have rC: ∀ y∈(rsM r).cells,I64 y:=(by rw[hr0];exact fun y hy=>(by cases hy));have rok:ROk r:=(by rw[hr0];unfold ROk rsM rs0 rsZ I64;simp);have bX5:=bX;rw[←hw5] at bX5;go_wp2;rw[←HwA.out, ←hw5];clear hr0 hca hcc hw5 bZ hrA
     all_goals
      have bE5:=bE0.grow hGr5;obtain ⟨⟨ss,hOr0,hIr0⟩, -,hokr,hlor⟩:=hR0;have hOr:=hOr0.grow hGr5;have hIr:=hIr0.grow hGr5;have hI0: ∀ v∈ss, ∀ q,v.ownBlock=some q->q<wr.heap.size:=fun v hv q e=>(hIr0.lt hv e).1;have oS5:=oS0.grow hGr5;obtain ⟨⟨e0,e1,e2,e3⟩,ef⟩:=bE5.four';have ef1:=bE5.free 1;have hltE:=bE5.lt;have nE:blk qa≠some (sb+1):=fun e=>(by have:=(hRl _ e).1;omega);have nZ:blk qa≠some (wr.heap.size+1):=fun e=>(by have:=(hRl _ e).2;omega);have nX:blk qa≠some wr.heap.size:=fun e=>(by have:=(hRl _ e).2;omega);have hs5:=hGr5.size;clear bE0 hOr0 hIr0 oS0 c0 c1 c2 c3 c4 c5 c6;go_wp2;refine ZF (S:=(Keep (fun q=>blk qa≠some q) w5)) (last:=10) [([0,1,2,3,4,5],some 6),([],some 7),([8,9],some 10)] Zm (by kernel_rfl) (fun _ _ _ _ _ h=>h) (Keep.refl _ _).drew ?_;show wpQuiet _ _ _ _ [_,_,_,_,_,_] _;(repeat (first |(go_big_quiet_want;(first |refine Za Zea rfl rfl (fun w' hG=>hG.cell nE e1) ?_|refine ZC (cs:= #[Yv Yi (rsM r).rows,Yv Yi (rsM r).cols, .slice ca (rsM r).cells.length cc, .bool r.isSome]) ZbA rfl rfl (fun w' hG=>bR5.keep hG nZ) ?_);go_big_quiet_on;simp only[putP])|go_big_quiet_step (exact fun _=>rfl)));refine wpQuiet_nil ?_;obtain ⟨wd,hwd⟩: ∃ wd,wd=w5.drew:=⟨_,rfl⟩;rw[←hwd];have hGd:Grow w5 wd:=(by rw[hwd];exact (Grow.refl _).drew);clear hwd;refine Zx rfl (fun K hK=> ?_);go_wp2_with fail;have hGb:Grow w5 (wd.alloc (.cells #[Yv Yi (rsM r).rows,Yv Yi (rsM r).cols, .slice ca (rsM r).cells.length cc, .bool r.isSome] 39)):=hGd.alloc _ _;refine hK _ _ ((fun _=>hGb.any)) ?_;clear hK K;refine wpQuiet_nil ?_;refine Zx rfl (fun K hK=> ?_);have hOb:=hOr.grow hGb;refine ZkR rfl T_ress rfl hOb rfl (Row.built (S:=fun _=>True) 1 (by unfold maxLen;omega) rfl trivial) (by simp[Value.oneCell']) (by omega) (by unfold maxLen;omega) ?_;intro a9 c9 w9 hA9;have hK9:Keep (fun q=>blk qa≠some q) w5 w9:=hGb.any.trans hA9.keep;have SR:=SepR.app (k:=k) (r:=r) (by simp[rsL]) (hIr.grow hGb) hokr hlor (by have:=hGb.size;omega) (om5.grow hGb) rC rok (fun q hq=>⟨by have:=hfC q hq;omega,fun e=>by have:=hfC q hq;have:=(hRl _ e).2;omega,fun v hv e=>by have:=hfC q hq;have:=(hI0 v hv q e);omega⟩) hA9;refine hK _ _ (fun _=>hK9) ?_;clear hK K;show wpQuiet _ _ _ _ [_,_] _;(try (conv=>arg 6;simp only[putP]));(repeat (first |(go_big_quiet_want;(first |refine Za Zea rfl rfl (fun w' hG=>hG.cell nE e1) ?_|refine ZC (cs:= #[Yv Yi (rsM r).rows,Yv Yi (rsM r).cols, .slice ca (rsM r).cells.length cc, .bool r.isSome]) ZbA rfl rfl (fun w' hG=>bR5.keep hG nZ) ?_);go_big_quiet_on;simp only[putP])|go_big_quiet_step (exact fun _=>rfl)));refine wpQuiet_nil ?_;refine Zx rfl (fun K hK=> ?_);have bE9:=bE5.keep hK9 nE;have bX9:=bX5.keep hK9 nX;have oS9:=oS5.keep hK9 fun q hq _ e=>(by simp at hq;have:=(hRl _ e).1;omega);obtain ⟨⟨-,f1, -, -⟩, -⟩:=bE9.four';have ff1:=bE9.free 1;have hltE9:=bE9.lt;obtain ⟨w10,hw10⟩: ∃ z,z=w9.setCell ⟨sb+1,1,none⟩ (.slice a9 (k+1) c9):=⟨_,rfl⟩;have hK10:Keep (fun q=>q≠sb+1) w9 w10:=(by rw[hw10];exact (Keep.refl _ w9).setCell (fun _ e=>e rfl) _);have bE10:Blk w10 (sb+1) #[.slice (some ⟨lb,lo,none⟩) m Lc, .slice a9 (k+1) c9, .slice (some ⟨sb,0,none⟩) m m,Yv Yi 0] 69:=(by rw[hw10];exact bE9.set 1 _);have bX10:=bX9.keep hK10 (by omega);have oS10:=oS9.keep hK10 fun q hq _=>(by simp at hq;omega);have hRs:rsL (fun j=>rs.getD j rs0) k++[r]=rsL (fun j=>rs.getD j rs0) (k+1):=(by rw[Zpb,Hrk.out]);rw[hRs] at SR;have SR10:=SR.keep hK10 fun q _ hq=>(by omega);have hKt:Keep (fun q=>q<w3.heap.size/\q≠sb+1/\q≠sb) w3 w10:=((HK.out.trans (hGr5.any.mono fun _ _ _=>trivial)).trans (hK9.mono fun q _ hq e=>by have:=(hRl _ e).1;omega)).trans (hK10.mono fun q _ hq=>hq.2.1);have oN10:=oN.keep hKt fun q hq _=>(by have:=fN q hq;simp only[New] at this;omega);have Hw10:=hid hw10;clear SR hw10 hK9 hK10 bX9 oS9 bE9 bX5 bE5 oS5 hOr hIr hA9 hOb bR5 om5 hRs e0 e1 e2 e3 ef ef1 hltE;go_wp2_with fail;refine hK _ _ ((fun h=>(h rfl).elim)) ?_;clear hK K;refine Z7 ?_;rw[←Hw10.out];clear f1 ff1 hltE9;have x0:w10.cell? ⟨wr.heap.size,0,none⟩=some (.string x.name):=bX10.cell 0;have hltX:=bX10.lt;go_wp2_with fail;refine (ZcG (S:=fun _=>True) na nn nc N x.name w10 (oN10.rdS fun _ _=>trivial) (by omega)).mono ?_;rintro e _ ⟨rfl,rfl⟩;cases hin:Za7 N x.name with
      |true=>
       have HS:=hid (Zp0 (n:=m) Hx.out hin);clear hin;go_wp2;go_roundw;case rel=>exact ⟨hKt,k+1,a9,c9,by omega,by go_num,bE10,by rw[HS.out];exact oS10,SR10⟩
       case measure=>simp[intOf];omega
      |false=>
       have HS:=hid (Zo6 (n:=m) Hx.out hin);clear hin;obtain ⟨⟨g0,g1,g2,g3⟩, -⟩:=bE10.four';have hltE:=bE10.lt;have hltS:=oS10.lt (g:=sb) rfl;have s0:=oS10.cell (j:=k) (c:=Yv Yi ((ZdL L N k k:Nat):Int)) (by unfold stL;simp[hlt]);have sf:=oS10.free k;simp only at s0 sf;go_wp2;go_roundw;case rel=>have hKs:Keep (fun q=>q≠sb) w10 (w10.setCell ⟨sb,k,none⟩ (Yv Yi 2)):=(Keep.refl _ w10).setCell (fun _ e=>e rfl) _;have oSf:=oS10.set k (Yv Yi ((2:Nat):Int));rw[←ints_set,HS.out] at oSf;exact ⟨hKt.trans (hKs.mono fun q _ hq=>hq.2.2),k+1,a9,c9,by omega,by go_num,bE10.keep hKs (by omega),oSf,SR10.keep hKs fun q _ hq=>by omega⟩
       case measure=>simp[intOf];omega
    ·obtain rfl:k=m:=(by omega);have hRq: ∀ q,blk qa=some q->w3.heap.size<=q:=hR.low;have Lr:=(L3.keep hK (T:=fun q=>q<w3.heap.size/\q≠sb+1/\q≠sb) (fun q hq hF=>⟨by omega,by omega,by omega⟩)).rdD (S:=fun q=>w.heap.size<=q/\q<w1.heap.size) fun _ hq=>hq;obtain ⟨sv0,hP0⟩:=ZpK (z:=w3.heap.size) (N:=N) (rs:=rs) hsh hm Lr (fun q hq=>⟨by omega,by omega,fun e=>by simp at e;omega⟩) hsb3 (fun q hq=>by simp at hq;omega) bE oS hR hbr;have HP:=hid hP0;have HK:=hid (show Keep (fun q=>q<w3.heap.size/\q≠sb+1/\blk (some (⟨sb,0,none⟩:Addr))≠some q) w3 wr from hK.mono fun q _ hq=>⟨hq.1,hq.2.1,fun e=>hq.2.2 (by rw[e];rfl)⟩);have Hm:=hid hm;have hk12:k<=12:=(by omega);clear hP0 hK Lr bE oS hR hm hr3;go_wp2;go_loopw [17,93] (fun _ iv wq=> ∃ k':Nat,k'<=k/\iv=Yv Yi k'/\EvLq w3 w3.heap.size (fun q=>w.heap.size<=q/\q<w1.heap.size) (sb+1) La Lc qa qc (some ⟨sb,0,none⟩) k L (ndU L N) (opU L N rs) (two (stU L N) L.length) k' wq) (fun _ iv _=>k-(intOf iv).toNat);case atStart=>exact ⟨0,Nat.zero_le _,rfl,_,_,_,_,HP.out,HK.out,hsK,fun j _=>by unfold stU;split<;>omega,fun _ _ h=>by omega,by omega⟩
     case round=>
      obtain ⟨k',hk',rfl,hL⟩:=hrel;by_cases hlt':k'<k
      ·obtain ⟨st,res,sv,fd,hF,hGr,hzr,hq1,hq0,hqc⟩:=hL;have HF:=hid (And.intro hF (And.intro hGr (And.intro hzr (And.intro hq1 (And.intro hq0 hqc)))));clear hF hGr hzr hq1 hq0 hqc HP;go_wp2_with fail;refine (ZiB (zer st L.length+1) k' _ st res sv fd ?_ ?_ ?_ HF.out.1).mono ?_
       ·exact Nat.lt_succ_self _
       ·rw[Hm.out];exact hlt'
       ·intro j hj e1;exact absurd e1 (HF.out.2.2.2.1 j hj)
       rintro e w4 hPo;obtain ⟨⟨bb,rfl⟩,hL⟩:=EvLq.next HF.out.1 HF.out.2.1 HF.out.2.2.1 HF.out.2.2.2.1 HF.out.2.2.2.2.1 HF.out.2.2.2.2.2 hRq hPo;go_wp2_with fail;go_roundw;case rel=>exact ⟨k'+1,by omega,by go_num,hL⟩
       case measure=>simp[intOf];omega
      ·obtain rfl:k'=k:=(by omega);obtain ⟨bF,hO,hKf,hzf⟩:=EvLq.fin hRq (by rw[Hm.out] at hL ⊢;exact hL);rw[Hm.out] at bF hO;obtain ⟨⟨x0,x1,x2,x3⟩, -⟩:=bF.four';have hltF:=bF.lt;have HO:=hid hO;have HKf:=hid hKf;clear hL hO HP hKf;have HL:=hid (L3.keep HKf.out (fun q hq hF=>⟨by omega,by omega,fun e=>by simp at e;omega⟩));clear L3;go_wp2;refine Zd (S:=Grow wr) [([0,1,2,3,4,5,6,7,8,9,10,11,12],none)] Zm (by kernel_rfl) (fun _ _ _ _ _ h=>h) (Grow.refl _).drew ?_;show wpQuiet _ _ _ _ [_,_,_,_,_,_,_,_,_,_,_,_,_] _;(repeat (first |(go_big_quiet_want;(first |refine Za Zea rfl rfl (fun w' hG=>hG.cell x1) ?_|refine Za ZM rfl rfl (fun w' hG=>hG.cell x3) ?_);go_big_quiet_on;simp only[putP])|go_big_quiet_step (exact fun _=>rfl)));refine wpQuiet_nil ?_;refine Zi ?_;have hD:Grow wr wr.drew:=(Grow.refl wr).drew;have hGf:Grow w wr:=hGw3.keep HKf.out fun q hq=>⟨by omega,by omega,fun e=>by simp at e;omega⟩;go_wp2
       (try simp only[Exit.inBlock,Exit.then])
       refine bodyPost_ret (Zcr rfl _ _ _) rfl ?_;refine ⟨_,_,w3.heap.size,by rw[HU.out, ←HN.out];rfl, ?_, ?_,hGf.trans hD,by omega,by simpa using hzf⟩
       ·rw[HU.out];exact ⟨_,_,_,rfl,(HL.out.weak fun q _ hq=>⟨hq.1,by omega⟩).grow hD⟩
       ·rw[HU.out, ←HN.out,Hm.out];exact HO.out.grow hD
  ·have q0:((rn:Int)!=(n:Int))=true:=(by simp;omega);have HU:=hid (ZfY (d:=d) (.inr (show rs.length≠l.length by omega)));clear hok hL;go_wp2
   (try simp only[Exit.inBlock,Exit.then])
   refine bodyPost_ret (Zcr rfl _ _ _) rfl ?_;exact UpPost.no hG01 HU.out
def UqPost (w:World) (l:List Dfn) (rs:List Rs) (d:Dfn) (e:Ending) (w':World):Prop:=
 ∃ v1 v2,e= .returned (.tuple #[v1,v2,Yv Yi ((Zcg l rs d).2.2.1:Int), .bool (Zcg l rs d).2.2.2])/\VDD w' (fun _=>True) v1 (Zcg l rs d).1/\VRR w' (fun _=>True) v2 (Zcg l rs d).2.1/\Grow w w'
theorem UqPost.no (hG:Grow w w1) (h:Zcg l rs d=([],[],0,false)):
  UqPost w l rs d (.returned (.tuple #[.slice (some ⟨w1.heap.size,0,none⟩) 0 0, .slice (some ⟨w1.heap.size+1,0,none⟩) 0 0,Yv Yi 0, .bool false])) ((w1.alloc (.cells #[] 30)).alloc (.cells #[] 39)):=by
 obtain ⟨v1,v2,z,e,h1,h2,hG, -⟩:=UpPost.no hG h;exact ⟨v1,v2,e,h1.rd fun _ _=>trivial,h2.rd fun _ _=>trivial,hG⟩
theorem FlW.rdR {kc:Nat} {ka:Option Addr} {kn:Nat->Bool} (h:FlW w T ra rc ka kc n res sv kn) (hr: ∀ q,blk ra=some q->S q) (hT: ∀ q,T q->S q):RdR w S ra n rc (rsL res n):=
 ⟨⟨svL sv n, by simp [svL, rsL], h.oR.row hr, h.val.weak fun q _ hq => hT q hq⟩, by simp [rsL], fun r hr => by
  obtain ⟨j,hj,rfl⟩:=List.mem_map.1 hr;exact (h.ok j (List.mem_range.1 hj)).1⟩
theorem Zno (h:RdD w S a n cap l) (hr:RdR w T ra rn rc rs) (hd:VD w U dv d) (hb:ZbQ l<=1048576) (hbd:bdD d<=1048576) (hbr: ∀ r∈rs,(rsM r).cells.length<=1048576):
  Calls Tryz.prog 9 #[.slice a n cap, .slice ra rn rc,dv] w (UqPost w l rs d):=by
 have hl:=h.len;have hrl:=hr.len;obtain ⟨da,dn,dc,rfl,rD,oD⟩:=hd;obtain ⟨w0,hw0,hG0,bD, -⟩:=al1 w #[.string d.name,Yv Yi d.op, .string d.a, .string d.b,Yv Yi d.value.rows,Yv Yi d.value.cols, .slice da dn dc] 30;have Hw0:=hid hw0;clear hw0;go_enter Tryz.func9,Tryz.ntmps9;go_wp2_with fail;rw[←Hw0.out];refine (Zg8 (S:=S) (T:=U) a n cap l _ d w0 (h.grow hG0) ⟨da,dn,dc,rfl,rD.grow hG0,oD⟩ hb hbd).mono ?_;rintro e w1 ⟨r,rfl,⟨La,m,Lc,rfl,hL⟩,hG1⟩;have hG01:=hG0.trans hG1;have bD1:=bD.grow hG1;cases hok:(Zy l d).2 with
 |false=>
  have HU:=hid (ZfY (rs:=rs) (.inl hok));clear hok hL;go_wp2
  (try simp only[Exit.inBlock,Exit.then])
  refine bodyPost_ret (Zcr rfl _ _ _) rfl ?_;exact UqPost.no hG01 HU.out
 |true=>
  by_cases hrn:rn=n
  ·subst hrn;have q0:((rn:Int)!=(rn:Int))=false:=(by simp);have HU:=hid (ZkW (rs:=rs) hok (hrl.trans hl.symm));have Hend:=hid (ZpP hok);obtain ⟨hsh,hm0,hm12⟩:=Zc2 hok;obtain ⟨L,hLe⟩: ∃ L,L=(Zy l d).1:=⟨_,rfl⟩;rw[←hLe] at HU Hend hL hsh hm0 hm12;clear hLe hok;have hm:=hL.len;have hlm:l.length=rn:=hl;obtain ⟨N,hNe⟩: ∃ N,N=ZW L d.name:=⟨_,rfl⟩;have hmk:=T_ress.make (n:=m) (by omega) (by unfold maxLen;omega);have hmk2:=T_boolss.make (n:=m) (by omega) (by unfold maxLen;omega);obtain ⟨w2,hw2,hG2, -, -,hs2⟩:=al2 w1 (madeCells #[Yv Yi 0,Yv Yi 0, .slice none 0 0, .bool false] (m*4)) 39 (madeCells #[.bool false] m) 4;have oR:Own w2 39 4 (some ⟨w1.heap.size,0,none⟩) m m (ZbJ (rsL (Zcz rs 0) m) (svL (fun _=> .slice none 0 0) m)):=(by have:=Own.freshAt (w:=w1) (e:=39) (sz:=4) (cs:=madeCells #[Yv Yi 0,Yv Yi 0, .slice none 0 0, .bool false] (m*4)) (n:=m) rfl (by unfold maxLen;omega) (by simp[madeCells]);rw[ZeH] at this;rw[hw2,show Zcz rs 0=fun _=>rs0 from funext fun j=>by unfold Zcz;rw[if_neg (by omega)]];exact this.grow ((Grow.refl _).alloc _ _));have oK:Own w2 4 1 (some ⟨w1.heap.size+1,0,none⟩) m m (bls (kn1 0) m):=(by have:=Own.freshAt (w:=w1.alloc (.cells (madeCells #[Yv Yi 0,Yv Yi 0, .slice none 0 0, .bool false] (m*4)) 39)) (e:=4) (sz:=1) (cs:=madeCells #[.bool false] m) (n:=m) (g:=w1.heap.size+1) (by simp) (by unfold maxLen;omega) (by simp[madeCells]);rw[ZgF] at this;rw[hw2,show kn1 0=fun _=>false from funext fun j=>by unfold kn1;simp];exact this);have hz0: ∀ j,ROk (Zcz rs 0 j)/\(rsM (Zcz rs 0 j)).cells.length<=1048576:=fun j=>(by unfold Zcz;rw[if_neg (by omega)];exact ⟨by unfold ROk rsM rs0 rsZ I64;simp,by simp[rsM,rs0,rsZ]⟩);have hval:RdCells w2 (fun q=>w2.heap.size<=q) (svL (fun _=> .slice none 0 0) m) (ZaQ (rsL (Zcz rs 0) m)):=fun i xs hi=>(by have hk:i<m:=(by have h2:=(List.getElem?_eq_some_iff.1 hi).1;simpa [ZaQ,rsL] using h2);have h3:(rsL (Zcz rs 0) m)[i]? =some (Zcz rs 0 i):=Z9 _ hk;rw[Zci h3] at hi;obtain rfl:=Option.some.inj hi;unfold Zcz;rw[if_neg (by omega)];exact ⟨none,0,Z9 (fun _=>Value.slice none 0 0) hk,RdI.nilw _⟩);have hF0:FlW w2 (fun q=>w2.heap.size<=q) (some ⟨w1.heap.size,0,none⟩) m (some ⟨w1.heap.size+1,0,none⟩) m m (Zcz rs 0) (fun _=> .slice none 0 0) (kn1 0):=⟨oR,oK,hval,fun j _=>hz0 j⟩;have hs01:w.heap.size<w1.heap.size:=bD1.lt;have L2:=(hL.grow hG2).weak (G:=fun q=>q<w1.heap.size) fun q _ hq=>hq.2;have hr2:=(hr.weak' (T:=fun q=>q<w.heap.size) fun q hlt _=>hlt).grow (hG01.trans hG2);have bD2:=bD1.grow hG2;have hGw2:Grow w w2:=hG01.trans hG2;obtain ⟨rA,hrA⟩: ∃ z,z=w1.heap.size:=⟨_,rfl⟩;have Hw2:=hid hw2;have HN:=hid hNe;have Hm:=hid hm;have hnm:rn<=m:=(by omega);have hmb:m<=12:=(by omega);have hr1:w1.heap.size<=rA:=(by omega);have hr3:rA+2<=w2.heap.size:=(by omega);have hr4:rA<=w1.heap.size:=(by omega);clear hw2 hNe oR oK hval hz0 hL h hr rD oD bD bD1 hm;go_wp2;rw[←Hw2.out];rw[←hrA] at hF0 ⊢;clear hrA hmk hmk2;go_loopw [14] (fun iv wr=>Keep (fun q=>q≠rA/\q≠rA+1) w2 wr/\ ∃ (k:Nat) (sv:Nat->Value),k<=rn/\iv=Yv Yi k/\FlW wr (fun q=>w2.heap.size<=q) (some ⟨rA,0,none⟩) m (some ⟨rA+1,0,none⟩) m m (Zcz rs k) sv (kn1 k)) (fun iv _=>rn-(intOf iv).toNat);case atStart=>exact ⟨Keep.refl _ _,0,_,Nat.zero_le _,rfl,hF0⟩
   case round=>
    obtain ⟨hK,k,sv,hk,rfl,hF⟩:=hrel;have hsK:=hK.size;by_cases hlt:k<rn
    ·have hkm:k<m:=(by omega);obtain ⟨rb,ro,r,r1a,r1c,rfl,hrx, -,hrb,⟨r0,r1,r2,r3⟩,rdv,rok⟩:=(hr2.keep hK (T:=fun q=>q≠rA/\q≠rA+1) (fun q _ hq=>⟨by omega,by omega⟩)).at hlt;have hrm:=hbr r (List.mem_of_getElem? hrx);have Hrk:=hid (show rs.getD k rs0=r by rw[List.getD_eq_getElem?_getD,hrx];rfl);have HK:=hid hK;have HF:=hid hF;clear hrx hK hF hF0;go_wp2;refine ZF (S:=(Grow wr)) (last:=15) [([0,1,2,3,4,5,6,8,9,10,11,12],some 7),([],some 13),([14],some 15)] Zm (by kernel_rfl) (fun _ _ _ _ _ h=>h) (Grow.refl _).drew ?_;show wpQuiet _ _ _ _ [_,_,_,_,_,_,_,_,_,_,_,_] _;(repeat (first |(go_big_quiet_want;(first |refine Ze Zb rfl rfl (fun w' hG=>⟨hG.cell r0,hG.cell r1,hG.cell r2⟩) ?_|refine Za ZaR rfl rfl (fun w' hG=>hG.cell r3) ?_);go_big_quiet_on;simp only[putP])|go_big_quiet_step (exact fun _=>rfl)));refine wpQuiet_nil ?_;refine Zx rfl (fun K hK=> ?_);go_wp2_with fail;refine (Zdy (S:=fun _=>True) (m:=rsM r) ⟨r1a,_,r1c,rfl,(rdv.weak fun _ _ _=>trivial).grow (Grow.refl wr).drew,rok.1,rok.2⟩ hrm).mono ?_;rintro e w3 ⟨rv,rfl,⟨ca,cn,cc,rfl,oC,rC,fC, -, -⟩,hG3⟩;have hGa:=(Grow.refl wr).drew.trans hG3;obtain rfl:(rsM r).cells.length=cn:=(by have:=oC.len;simp[ints] at this;exact this);go_wp2_with fail;refine hK _ _ ((fun _=>hGa)) ?_;clear hK K;refine wpQuiet_nil ?_;refine Zx rfl (fun K hK=> ?_);go_wp2_with fail;refine hK _ _ ((fun _=>hGa)) ?_;clear hK K;show wpQuiet _ _ _ _ [_] _;(try (conv=>arg 6;simp only[putP]));(repeat (first |(go_big_quiet_want;(first |refine Ze Zb rfl rfl (fun w' hG=>⟨hG.cell r0,hG.cell r1,hG.cell r2⟩) ?_|refine Za ZaR rfl rfl (fun w' hG=>hG.cell r3) ?_);go_big_quiet_on;simp only[putP])|go_big_quiet_step (exact fun _=>rfl)));refine wpQuiet_nil ?_;refine Zx rfl (fun K hK=> ?_);have hF3:=HF.out.grow hGa;have E4:=hF3.setRes (fun q hq e=>by omega) hkm (r:=r) (a:=ca) (c:=cc) (oC.rdI (fun q hq=>by have:=(fC q hq).1;simp at this;omega) rC) ⟨rok,hrm⟩;have rg0:=hF3.oR.free (k*4);have rg1:=hF3.oR.free (k*4+1);have rg2:=hF3.oR.free (k*4+2);have rg3:=hF3.oR.free (k*4+3);simp only at rg0 rg1 rg2 rg3;obtain ⟨s1,s2,⟨rq0,rq1,rq2,rq3⟩, -⟩:=hF3.resC hkm;have hlrb:=hF3.oR.lt (g:=rA) rfl;have hKs:Keep (fun q=>q≠rA/\q≠rA+1) w3 ((((w3.setCell ⟨rA,k*4,none⟩ (Yv Yi (rsM r).rows)).setCell ⟨rA,k*4+1,none⟩ (Yv Yi (rsM r).cols)).setCell ⟨rA,k*4+2,none⟩ (.slice ca (rsM r).cells.length cc)).setCell ⟨rA,k*4+3,none⟩ (.bool r.isSome)):=((((Keep.refl _ w3).setCell (fun _ e=>e.1 rfl) _).setCell (fun _ e=>e.1 rfl) _).setCell (fun _ e=>e.1 rfl) _).setCell (fun _ e=>e.1 rfl) _;have hKt:=(HK.out.trans (hGa.any.mono fun _ _ _=>trivial)).trans hKs;rw[show Zaa (Zcz rs k) k r=Zcz rs (k+1) by rw[←Hrk.out,Zo1]] at E4;have HE:=hid (And.intro E4 hKt);clear E4 hKt hKs;go_wp2_with fail;refine hK _ _ ((fun h=>(h rfl).elim)) ?_;clear hK K;refine Z7 ?_;have HE2:=HE.out;clear HE;generalize ((((w3.setCell ⟨rA,k*4,none⟩ (Yv Yi (rsM r).rows)).setCell ⟨rA,k*4+1,none⟩ (Yv Yi (rsM r).cols)).setCell ⟨rA,k*4+2,none⟩ (.slice ca (rsM r).cells.length cc)).setCell ⟨rA,k*4+3,none⟩ (.bool r.isSome))=w4 at *;obtain ⟨E4,hKt⟩:=HE2;have kq:=E4.knC hkm;have kf:=E4.oK.free k;have hlk:=E4.oK.lt (g:=rA+1) rfl;simp only at kf;have E5:=E4.setKn (fun q hq e=>by omega) k true;rw[ZpB] at E5;have hKu:=hKt.setCell (p:=⟨rA+1,k,none⟩) (fun _ e=>e.2 rfl) (.bool true);have HE5:=hid (And.intro E5 hKu);clear E4 E5 hKt hKu rg0 rg1 rg2 rg3 rq0 rq1 rq2 rq3 hF3 oC fC rC rdv r0 r1 r2 r3;go_wp2;go_roundw;case rel=>exact ⟨HE5.out.2,k+1,_,by omega,by go_num,HE5.out.1⟩
     case measure=>simp[intOf];omega
    ·obtain rfl:k=rn:=(by omega);have bDk:=bD2.keep hK (by omega);have n0:=bDk.cell 0;have hltD:=bDk.lt;simp at n0;have Lk:=L2.keep hK (T:=fun q=>q≠rA/\q≠rA+1) (fun q _ hq=>⟨by omega,by omega⟩);have HK:=hid hK;have HF:=hid hF;clear hK hF hF0 hr2 bD2;go_wp2_with fail;refine (Zg2 (S:=fun _=>True) La m Lc L d.name wr (Lk.rdD fun _ _=>trivial) (by omega) (fun x hx=>by have:=Zdp hsh x hx;omega)).mono ?_;rw[←HN.out];rintro e w3 ⟨vn,rfl,⟨na,nn,nc,rfl,oN,fN⟩,hG3⟩;have hs3:=hG3.size;have L3:=Lk.grow hG3;have hF3:=HF.out.grow hG3;rw[←Zm6 hrl L N, ←ZoM k L N] at hF3;have hnn:N.length=nn:=(by simpa using oN.len);have hN12:nn<=12:=(by have:=Zix hsh d.name;rw[←HN.out] at this;omega);have hK3:=HK.out.trans (hG3.any.mono (T:=fun q=>q≠rA/\q≠rA+1) fun _ _ _=>trivial);have HK3:=hid hK3;have Hnn:=hid hnn;clear n0 hltD Lk bDk hK3 hnn;go_wp2;go_loopw [16,17] (fun iv _ wq=>Keep (fun q=>q≠rA/\q≠rA+1) w3 wq/\ ∃ (i:Nat) (sv:Nat->Value),i<=nn/\iv=Yv Yi i/\FlW wq (fun q=>w2.heap.size<=q) (some ⟨rA,0,none⟩) m (some ⟨rA+1,0,none⟩) m m (Zc3 rs L N i) sv (kn2 k L N i)) (fun iv _ _=>nn-(intOf iv).toNat);case atStart=>exact ⟨Keep.refl _ _,0,_,Nat.zero_le _,rfl,hF3⟩
     case round=>
      clear hF3;obtain ⟨hKq,i,sv',hi,rfl,hFq⟩:=hrel;have hsq:=hKq.size;have Lq:=L3.keep hKq (T:=fun q=>q≠rA/\q≠rA+1) (fun q _ hq=>⟨by omega,by omega⟩);by_cases hlti:i<nn
      ·obtain ⟨s,hs⟩: ∃ s,N[i]? =some s:=⟨_,List.getElem?_eq_getElem (by rw[Hnn.out];exact hlti)⟩;obtain ⟨nb,rfl⟩: ∃ b,na=some ⟨b,0,none⟩:=by
        cases na with
        |none=>have:=oN.nil rfl;have:=oN.le;omega
        |some q=>exact ⟨q.block,by rw[←(oN.block q rfl).1]⟩
       have oNq:=oN.keep hKq fun q hq _=>(by have:=fN q hq;simp only[New] at this;omega);have cn:=oNq.cell (Zhs hs);have hltn:=oNq.lt (g:=nb) rfl;obtain ⟨kk,hfk,hkl⟩:=Zlg (L:=L) (s:=d.name) (t:=s) (by rw[←HN.out];exact List.mem_of_getElem? hs);have hkm:kk<m:=(by rw[←Hm.out];exact hkl);have HE:=hid (show FlW _ _ _ _ _ _ _ _ _ _ from (hFq.setRes (fun q hq e=>by omega) hkm (r:=rs0) (a:=none) (c:=0) (RdI.nilw _) ⟨by unfold ROk rsM rs0 rsZ I64;simp,by simp[rsM,rs0,rsZ]⟩).setKn (fun q hq e=>by omega) kk false);have Hr:=hid (Zon (rs:=rs) hsh hs hfk);have Hk:=hid (Zpn (n:=k) hsh hs hfk);obtain ⟨s1,s2,⟨rq0,rq1,rq2,rq3⟩, -⟩:=hFq.resC hkm;have rg0:=hFq.oR.free (kk*4);have rg1:=hFq.oR.free (kk*4+1);have rg2:=hFq.oR.free (kk*4+2);have rg3:=hFq.oR.free (kk*4+3);have kf:=hFq.oK.free kk;have kq:=hFq.knC hkm;have hlrb:=hFq.oR.lt (g:=rA) rfl;have hlk:=hFq.oK.lt (g:=rA+1) rfl;simp only at rg0 rg1 rg2 rg3 kf;have HKq:=hid hKq;clear hFq hs hKq;go_wp2_with fail;refine (Zbb (S:=fun _=>True) La m Lc L s wr (Lq.rdD fun _ _=>trivial) (by omega)).mono ?_;rintro e _ ⟨rfl,rfl⟩;rw[hfk];clear hfk;go_wp2;go_roundw;case rel=>have h1:=HE.out;rw[Hr.out,Hk.out] at h1;exact ⟨((((HKq.out.setCell (fun _ e=>e.1 rfl) _).setCell (fun _ e=>e.1 rfl) _).setCell (fun _ e=>e.1 rfl) _).setCell (fun _ e=>e.1 rfl) _).setCell (fun _ e=>e.2 rfl) _,i+1,_,by omega,by go_num,h1⟩
       case measure=>simp[intOf];omega
      ·obtain rfl:i=nn:=(by omega);have hkU:kn2 k L N i=knU L N:=(by have:=Hend.out;rw[←HN.out,Hnn.out,hlm] at this;exact this);rw[hkU] at hFq;have HF:=hid hFq;have HKq:=hid hKq;clear hFq hKq hkU oN;go_wp2_with fail;refine (ZlH (D:=fun q=>q<w1.heap.size) La Lc L _ _ m m m _ _ _ (ndU L N) (opU L N rs) wr (Lq.rdD fun _ hq=>hq) hsh HF.out (fun q hq=>⟨fun e=>by simp at e;omega,fun e=>by simp at e;omega⟩) (fun q hq=>⟨fun e=>by simp at e;omega,fun e=>by simp at e;omega⟩) (fun q hq=>by omega) ?_ ?_ ?_ (Zdp hsh)).mono ?_
       ·rw[←Hm.out];exact ZkV
       ·intro j hj hkn;refine ZiH ?_;unfold knU at hkn;rw[Hm.out,decide_eq_true hj] at hkn;simpa using hkn
       ·rw[←Hm.out];refine ZqJ fun j hj hdj=> ?_;unfold Zc3;rw[←Hnn.out,List.take_length,if_neg (by rw[hdj];simp)]
       rintro e w4 ⟨cnt,rfl,res,sv4,kn,hF4,hR4,hc4,hk1,hk2,hK4⟩;have hE:=ZqK (L:=L) (N:=N) (rs:=rs) (kn:=kn) (res:=res) (cnt:=cnt) (by rw[Hm.out];exact hR4) (fun j hj hkn=> ?_) (by rw[Hm.out];exact hc4)
       ·have hrd:=FlW.rdR hF4 (S:=fun _=>True) (fun _ _=>trivial) (fun _ _=>trivial);have hGf:Grow w w4:=((hGw2.keep HK3.out fun q hq=>⟨by omega,by omega⟩).keep HKq.out fun q hq=>⟨by omega,by omega⟩).keep hK4 fun q hq=>⟨fun e=>by simp at e;omega,fun e=>by simp at e;omega⟩;have Lf:=(L3.keep HKq.out (T:=fun q=>q≠rA/\q≠rA+1) (fun q _ hq=>⟨by omega,by omega⟩)).keep hK4 fun q _ hq=>⟨fun e=>by simp at e;omega,fun e=>by simp at e;omega⟩;rw[Hm.out] at hE;have HE:=hid (And.intro hE (And.intro hrd (And.intro hGf Lf)));clear hE hrd hGf Lf hF4 hR4 hc4 hk1 hk2 hK4 Lq L3;go_wp2
        (try simp only[Exit.inBlock,Exit.then])
        refine bodyPost_ret (Zcr rfl _ _ _) rfl ?_;refine ⟨_,_,by rw[HU.out, ←HN.out,Hm.out,HE.out.1.2];rfl, ?_, ?_,HE.out.2.2.1⟩
        ·rw[HU.out];exact ⟨_,_,_,rfl,HE.out.2.2.2.rdD fun _ _=>trivial⟩
        ·rw[HU.out, ←HN.out,Hm.out,HE.out.1.1];exact ⟨_,_,_,rfl,HE.out.2.1⟩
       ·rw[Hm.out] at hj;have h0:=hk2 j hj hkn;rw[h0];have hk0:knU L N j=false:=by
         cases e:knU L N j with
         |false=>rfl
         |true=>rw[(hk1 j hj e).1] at hkn;cases hkn
        unfold knU at hk0;rw[Hm.out,decide_eq_true hj] at hk0;unfold Zc3;rw[←Hnn.out,List.take_length,if_pos (by simpa using hk0)]
  ·have q0:((rn:Int)!=(n:Int))=true:=(by simp;omega);have HU:=hid (ZfY (d:=d) (.inr (show rs.length≠l.length by omega)));clear hok hL;go_wp2
   (try simp only[Exit.inBlock,Exit.then])
   refine bodyPost_ret (Zcr rfl _ _ _) rfl ?_;exact UqPost.no hG01 HU.out

end Go.Proofs.YtgeoehnbpkediaaGreat
