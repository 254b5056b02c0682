/- An evaluation in memory: definitions, results, states and a count. -/
import Derived.Test.YtjpcgofidijigaaGreatDoorZEvP
import Derived.Test.YtjpcgofidijigaaGreatDoorZStr
set_option maxHeartbeats 8000000
set_option maxRecDepth 100000
namespace Go.Proofs.YtjpcgofidijigaaGreatDoor
open Go.RowKit
open Go.Value renaming int->Yv
open Go.IntKind renaming i64->Yi
variable {B c dc fd g i n q rc sc:Nat} {D S T X:Nat->Prop} {a da ra sa:Option Addr} {b:Bool} {l:List Dfn} {m:Mat} {ms:List Mat} {nd:Nat->List (Option Nat)} {op:Nat->List Rs->Rs} {r:Rs} {res:Nat->Rs} {st:Nat->Nat} {sv:Nat->Value} {t:TypeId} {u v:Value} {w w':World} {α:Type}
theorem Zg2 (f:Nat->α) (n i:Nat) (x:α):((List.range n).map f).set i x=(List.range n).map fun j=>if j=i then x else f j:=by
 apply List.ext_getElem?;intro j;rw[List.getElem?_set];by_cases e:i=j
 ·subst e;simp;by_cases h:i<n<;>simp[h]
 ·rw[if_neg e];simp;by_cases h:j<n<;>simp[h];intro h2;exact absurd h2.symm e
theorem Zau (f:Nat->α) (h:i<n):((List.range n).map f)[i]? =some (f i):=by simp[h]
def stL (st:Nat->Nat) (n:Nat):List Int:=(List.range n).map fun j=>(st j:Int)
def rsL (res:Nat->Rs) (n:Nat):List Rs:=(List.range n).map res
def svL (sv:Nat->Value) (n:Nat):List Value:=(List.range n).map sv
def Zak {α:Type} (f:Nat->α) (i:Nat) (x:α):Nat->α:=fun j=>if j=i then x else f j
theorem Zrh (st:Nat->Nat) (n i v:Nat):(stL st n).set i (v:Int)=stL (ZJ st i v) n:=by
 unfold stL;rw[Zg2];refine List.map_congr_left fun j _=> ?_;unfold ZJ;by_cases e:j=i<;>simp[e]
theorem ZrK (res:Nat->Rs) (n i:Nat) (x:Rs):(rsL res n).set i x=rsL (Zak res i x) n:=Zg2 res n i x
theorem ZrC (sv:Nat->Value) (n i:Nat) (x:Value):(svL sv n).set i x=svL (Zak sv i x) n:=Zg2 sv n i x
theorem Zsm:SlT Tryz.prog 71 74 (.agg #[Yv Yi 0,Yv Yi 0, .slice none 0 0, .bool false]) 4 48:=SlT.mk' Tryz.underlying71 (by kernel_rfl) rfl
structure EvW (w:World) (S:Nat->Prop) (g:Nat) (da:Option Addr) (dc:Nat) (ra:Option Addr) (rc:Nat) (sa:Option Addr) (sc n:Nat) (st:Nat->Nat) (res:Nat->Rs) (sv:Nat->Value) (fd:Nat):Prop where
 bg:Blk w g #[.slice da n dc, .slice ra n rc, .slice sa n sc,Yv Yi (fd:Int)] 100
 oR:Own w 74 4 ra n rc (ZcO (rsL res n) (svL sv n))
 oS:Own w 3 1 sa n sc (ints (stL st n))
 inn:Inner w S none (svL sv n) (ZbS (rsL res n))
 ok: ∀ j,j<n->ROk (res j)/\(rsM (res j)).cells.length<=1048576
theorem EvW.val (h:EvW w S g da dc ra rc sa sc n st res sv fd):RdCells w S (svL sv n) (ZbS (rsL res n)):=h.inn.rdCells fun _ hS _=>hS
theorem EvW.low (h:EvW w S g da dc ra rc sa sc n st res sv fd) {j:Nat} (hj:j<n) (hq:(sv j).ownBlock=some q):q<w.heap.size:=
 (h.inn.lt (List.mem_of_getElem? (show (svL sv n)[j]? =some (sv j) from Zau sv hj)) hq).1
theorem Inner.putE (h:Inner w S none (svL sv n) (ZbS (rsL res n))) (ho:Own w 3 1 a (rsM r).cells.length c (ints (rsM r).cells)) (hr: ∀ x∈(rsM r).cells,I64 x) (hb: ∀ q,blk a=some q->S q) (hnew: ∀ q,blk a=some q-> ∀ j,j<n->j≠i->(sv j).ownBlock≠some q):
  Inner w S none (svL (Zak sv i (.slice a (rsM r).cells.length c)) n) (ZbS (rsL (Zak res i r) n)):=by
 refine ⟨by simp[svL,rsL],fun j xs hj=> ?_, ?_⟩
 ·have hjn:j<n:=by have:=(List.getElem?_eq_some_iff.1 hj).1;simp[rsL] at this;exact this
  have e0:(ZbS (rsL (Zak res i r) n))[j]? =some (rsM (Zak res i r j)).cells:=Zcp (Zau _ hjn);rw[e0] at hj;obtain rfl:=Option.some.inj hj;have e1:(svL (Zak sv i (.slice a (rsM r).cells.length c)) n)[j]? =some (Zak sv i (.slice a (rsM r).cells.length c) j):=Zau _ hjn;rw[e1];by_cases e:j=i
  ·unfold Zak;rw[if_pos e,if_pos e];exact ⟨a,c,rfl,ho,hr,fun q hq=>⟨hb q hq,by simp⟩⟩
  ·unfold Zak;rw[if_neg e,if_neg e];obtain ⟨b,c',h1,h2⟩:=h.each j _ (Zcp (Zau res hjn));rw[show (svL sv n)[j]? =some (sv j) from Zau sv hjn] at h1;exact ⟨b,c',h1,h2⟩
 ·have hp:=List.pairwise_iff_getElem.1 h.apart;refine List.pairwise_iff_getElem.2 fun p q hp1 hq1 hpq=> ?_;have hpn:p<n:=by simpa [svL] using hp1
  have hqn:q<n:=by simpa [svL] using hq1
  have h1:=hp p q (by simpa [svL] using hpn) (by simpa [svL] using hqn) hpq;have gp: ∀ f:Nat->Value, ∀ (k:Nat) (hk:k<(svL f n).length),(svL f n)[k]=f k:=fun f k hk=>by simp[svL]
  rw[gp,gp] at h1;rw[gp,gp];unfold Zak;intro b hb1;by_cases e1:p=i
  ·rw[if_pos e1] at hb1;rw[if_neg (by omega)];rw[Zao] at hb1;exact hnew b hb1 q hqn (by omega)
  ·rw[if_neg e1] at hb1;by_cases e2:q=i
   ·rw[if_pos e2,Zao];exact fun e3=>hnew b e3 p hpn e1 hb1
   ·rw[if_neg e2];exact h1 b hb1
theorem EvW.keep (h:EvW w S g da dc ra rc sa sc n st res sv fd) (k:Keep T w w') (hg:T g) (hr: ∀ q,blk ra=some q->T q) (hs: ∀ q,blk sa=some q->T q) (hS: ∀ q,S q->T q):EvW w' S g da dc ra rc sa sc n st res sv fd:=
 ⟨h.bg.keep k hg,h.oR.keep k (fun q hq _=>hr q hq),h.oS.keep k (fun q hq _=>hs q hq),h.inn.keep k fun q _ h _=>hS q h,h.ok⟩
theorem EvW.grow (h:EvW w S g da dc ra rc sa sc n st res sv fd) (k:Grow w w'):EvW w' S g da dc ra rc sa sc n st res sv fd:=
 h.keep k trivial (fun _ _=>trivial) (fun _ _=>trivial) fun _ _=>trivial
theorem EvW.weak (h:EvW w S g da dc ra rc sa sc n st res sv fd) (hST: ∀ q,q<w.heap.size->S q->T q):EvW w T g da dc ra rc sa sc n st res sv fd:=
 ⟨h.bg,h.oR,h.oS,h.inn.weak fun q hq hS _=>⟨hST q hq hS,by simp⟩,h.ok⟩
theorem Zhi {cs:Array Value} {e:TypeId} {sz:Nat} {ds:List Value} (hb:Blk w g cs t) (ho:Own w e sz a n c ds) (hne:t≠e):blk a≠some g:=fun h=>by
 cases a with
 |none=>simp at h
 |some p=>simp at h;obtain ⟨_,cur,k1,_⟩:=ho.block p rfl;rw[h] at k1;have:=hb.symm.trans k1;simp only[Option.some.injEq,Obj.cells.injEq] at this;exact hne this.2.1
theorem EvW.ne (h:EvW w S g da dc ra rc sa sc n st res sv fd):blk ra≠some g/\blk sa≠some g/\ ∀ q,blk ra=some q->blk sa≠some q:=
 ⟨Zhi h.bg h.oR (by decide),Zhi h.bg h.oS (by decide),Own.ne_own h.oR h.oS (by decide)⟩
theorem Blk.four' {x y z:Value} (h:Blk w g #[x,y,z,u] t):
  (w.cell? ⟨g,0,none⟩=some x/\w.cell? ⟨g,1,none⟩=some y/\w.cell? ⟨g,2,none⟩=some z/\w.cell? ⟨g,3,none⟩=some u)/\w.frozen? ⟨g,3,none⟩=false:=
 ⟨⟨h.cell 0,h.cell 1,h.cell 2,h.cell 3⟩,h.free 3⟩
theorem EvW.stAt (h:EvW w S g da dc ra rc sa sc n st res sv fd) (hi:i<n):
  ∃ b,sa=some ⟨b,0,none⟩/\b<w.heap.size/\w.cell? ⟨b,i,none⟩=some (Yv Yi (st i:Int))/\w.frozen? ⟨b,i,none⟩=false:=by
 cases sa with
 |none=>have:=h.oS.nil rfl;have:=h.oS.le;omega
 |some p=>refine ⟨p.block,by rw[←(h.oS.block p rfl).1],h.oS.lt rfl,h.oS.cell (j:=i) ?_,h.oS.free i⟩;unfold stL;simp[hi]
theorem EvW.setSt {b:Nat} (h:EvW w S g da dc ra rc (some ⟨b,0,none⟩) sc n st res sv fd) (hS: ∀ q,S q->q≠b) (i v:Nat):
  EvW (w.setCell ⟨b,i,none⟩ (Yv Yi (v:Int))) S g da dc ra rc (some ⟨b,0,none⟩) sc n (ZJ st i v) res sv fd:=by
 have hk:Keep (fun q=>q≠b) w (w.setCell ⟨b,i,none⟩ (Yv Yi (v:Int))):=(Keep.refl _ w).setCell (fun _ e=>e rfl) _;obtain ⟨n1,n2,n3⟩:=h.ne;refine ⟨h.bg.keep hk (fun e=>n2 (by rw[e];rfl)),h.oR.keep hk (fun q hq _ e=>n3 q hq (by rw[e];rfl)), ?_, ?_,h.ok⟩
 ·have h1:=h.oS.set i (Yv Yi (v:Int));rw[←ints_set,Zrh] at h1;exact h1
 ·exact h.inn.keep hk fun q _ hq _=>hS q hq
theorem EvW.resAt (h:EvW w S g da dc ra rc sa sc n st res sv fd) (hi:i<n):
  ∃ b a1 c1,ra=some ⟨b,0,none⟩/\b<w.heap.size/\sv i= .slice a1 (rsM (res i)).cells.length c1/\RAt w b (i*4) (res i) (.slice a1 (rsM (res i)).cells.length c1)/\RdI w S a1 (rsM (res i)).cells.length c1 (rsM (res i)).cells/\(w.frozen? ⟨b,i*4,none⟩=false/\w.frozen? ⟨b,i*4+1,none⟩=false/\w.frozen? ⟨b,i*4+2,none⟩=false/\w.frozen? ⟨b,i*4+3,none⟩=false):=by
 cases ra with
 |none=>have:=h.oR.nil rfl;have:=h.oR.le;omega
 |some p=>
  have hr:(rsL res n)[i]? =some (res i):=Zau res hi;have hs:(svL sv n)[i]? =some (sv i):=Zau sv hi;obtain ⟨a1,c1,h1,h2⟩:=h.val i _ (Zcp hr);have e1:sv i= .slice a1 (rsM (res i)).cells.length c1:=by rw[hs] at h1;exact Option.some.inj h1
  have key: ∀ j v,j<4->(Zce (res i) (.slice a1 (rsM (res i)).cells.length c1))[j]? =some v->w.cell? ⟨p.block,i*4+j,none⟩=some v:=fun j v hj hv=>
   h.oR.cell (by rw[ZdL hr hs hj,e1];exact hv)
  exact ⟨p.block,a1,c1,by rw[←(h.oR.block p rfl).1],h.oR.lt rfl,e1,⟨key 0 _ (by omega) rfl,key 1 _ (by omega) rfl,key 2 _ (by omega) rfl,key 3 _ (by omega) rfl⟩,h2,h.oR.free _,h.oR.free _,h.oR.free _,h.oR.free _⟩
theorem RdCells.putE (h:RdCells w S (svL sv n) (ZbS (rsL res n))) (hr:RdI w S a (rsM r).cells.length c (rsM r).cells):RdCells w S (svL (Zak sv i (.slice a (rsM r).cells.length c)) n) (ZbS (rsL (Zak res i r) n)):=fun j xs hj=>by
 have hjn:j<n:=by have:=(List.getElem?_eq_some_iff.1 hj).1;simp[rsL] at this;exact this
 have e0:(ZbS (rsL (Zak res i r) n))[j]? =some (rsM (Zak res i r j)).cells:=Zcp (Zau _ hjn);rw[e0] at hj;obtain rfl:=Option.some.inj hj;have e1:(svL (Zak sv i (.slice a (rsM r).cells.length c)) n)[j]? =some (Zak sv i (.slice a (rsM r).cells.length c) j):=Zau _ hjn;rw[e1];by_cases e:j=i
 ·unfold Zak;rw[if_pos e,if_pos e];exact ⟨a,c,rfl,hr⟩
 ·unfold Zak;rw[if_neg e,if_neg e];obtain ⟨b,c',h1,h2⟩:=h j _ (Zcp (Zau res hjn));rw[show (svL sv n)[j]? =some (sv j) from Zau sv hjn] at h1;exact ⟨b,c',h1,h2⟩
theorem EvW.setRes {b:Nat} (h:EvW w S g da dc (some ⟨b,0,none⟩) rc sa sc n st res sv fd) (hS: ∀ q,S q->q≠b) (hi:i<n) (ho:Own w 3 1 a (rsM r).cells.length c (ints (rsM r).cells)) (hr: ∀ x∈(rsM r).cells,I64 x) (hb: ∀ q,blk a=some q->S q) (hnew: ∀ q,blk a=some q-> ∀ j,j<n->j≠i->(sv j).ownBlock≠some q) (hok:ROk r/\(rsM r).cells.length<=1048576):
  EvW ((((w.setCell ⟨b,i*4,none⟩ (Yv Yi (rsM r).rows)).setCell ⟨b,i*4+1,none⟩ (Yv Yi (rsM r).cols)).setCell ⟨b,i*4+2,none⟩ (.slice a (rsM r).cells.length c)).setCell ⟨b,i*4+3,none⟩ (.bool r.isSome)) S g da dc (some ⟨b,0,none⟩) rc sa sc n st (Zak res i r) (Zak sv i (.slice a (rsM r).cells.length c)) fd:=by
 have hk:Keep (fun q=>q≠b) w ((((w.setCell ⟨b,i*4,none⟩ (Yv Yi (rsM r).rows)).setCell ⟨b,i*4+1,none⟩ (Yv Yi (rsM r).cols)).setCell ⟨b,i*4+2,none⟩ (.slice a (rsM r).cells.length c)).setCell ⟨b,i*4+3,none⟩ (.bool r.isSome)):=
  ((((Keep.refl _ w).setCell (fun _ e=>e rfl) _).setCell (fun _ e=>e rfl) _).setCell (fun _ e=>e rfl) _).setCell (fun _ e=>e rfl) _
 obtain ⟨n1,n2,n3⟩:=h.ne;refine ⟨h.bg.keep hk (fun e=>n1 (by rw[e];rfl)), ?_,h.oS.keep hk (fun q hq _ e=>n3 q (by rw[e];rfl) hq), ?_,fun j hj=> ?_⟩
 ·have h1:=(((h.oR.set (i*4) (Yv Yi (rsM r).rows)).set (i*4+1) (Yv Yi (rsM r).cols)).set (i*4+2) (.slice a (rsM r).cells.length c)).set (i*4+3) (.bool r.isSome);rw[ZlR (by simp[rsL,svL]) (by simp[rsL];exact hi),ZrK,ZrC] at h1;exact h1
 ·exact (h.inn.putE ho hr hb hnew).keep hk fun q _ hq _=>hS q hq
 ·unfold Zak;by_cases e:j=i
  ·rw[if_pos e];exact hok
  ·rw[if_neg e];exact h.ok j hj
theorem EvW.setFd (h:EvW w S g da dc ra rc sa sc n st res sv fd) (hS: ∀ q,S q->q≠g) (fd':Nat):
  EvW (w.setCell ⟨g,3,none⟩ (Yv Yi (fd':Int))) S g da dc ra rc sa sc n st res sv fd':=by
 have hk:Keep (fun q=>q≠g) w (w.setCell ⟨g,3,none⟩ (Yv Yi (fd':Int))):=(Keep.refl _ w).setCell (fun _ e=>e rfl) _;obtain ⟨n1,n2,n3⟩:=h.ne;exact ⟨h.bg.set 3 _,h.oR.keep hk (fun q hq _ e=>n1 (e▸hq)),h.oS.keep hk (fun q hq _ e=>n2 (e▸hq)),h.inn.keep hk fun q _ hq _=>hS q hq,h.ok⟩
theorem ZqR {d:Dfn} (h:VD w S v d):
  Calls Tryz.prog 100 #[v] w fun e w'=> ∃ a c,e= .returned (.slice a (ZcW d).length c)/\Own w' 9 1 a (ZcW d).length c (strs (ZcW d))/\(∀ q,blk a=some q->w.heap.size<=q)/\Grow w w':=by
 obtain ⟨da,dn,dc,rfl, -⟩:=h;obtain ⟨w1,hw1,hG,bD, -⟩:=al1 w #[.string d.name,Yv Yi d.op, .string d.a, .string d.b,Yv Yi d.value.rows,Yv Yi d.value.cols, .slice da dn dc] 36;have hz:=hG.size;have hsz:w.heap.size+1=w1.heap.size:=by rw[hw1];simp
 have Hsz:=Lib.hid hsz;have Hw1:=Lib.hid hw1;clear hsz;have HN:=Lib.hid (show ZcW d=if d.op=0 then [] else if d.op=1\/d.op=2 then [d.a,d.b] else [d.a] from rfl);obtain ⟨op,hop⟩: ∃ x,x=d.op:=⟨_,rfl⟩;rw[←hop] at bD hw1 Hw1 HN ⊢;clear hop hw1;obtain ⟨⟨e0,e1,e2,e3,e4,e5,e6⟩, -⟩:=bD.seven;have hlt:=bD.lt;rw[Hw1.out] at e0 e1 e2 e3 e4 e5 e6 hlt;obtain ⟨nd,hnd⟩: ∃ x,x=ZcW d:=⟨_,rfl⟩;rw[←hnd] at HN ⊢;clear hnd;by_cases h0:op=0
 ·subst h0;obtain rfl:nd=[]:=by rw[HN.out,if_pos rfl]
  go_enter Tryz.func100,Tryz.ntmps100;go_wp2;rw[←Hw1.out];go_ret;exact ⟨none,0,rfl,Own.nilw,(fun q hq=>by cases hq),hG⟩
 ·by_cases h12:op=1\/op=2
  ·obtain rfl:nd=[d.a,d.b]:=(by rw[HN.out,if_neg h0,if_pos h12]);rcases h12 with h1|h1
   ·subst h1;go_enter Tryz.func100,Tryz.ntmps100;go_wp2;rw[←Hw1.out];go_ret;exact ⟨_,2,rfl,Own.freshAt (cs:= #[.string d.a, .string d.b]) (sz:=1) (n:=2) (e:=9) (g:=w.heap.size+1) Hsz.out (by unfold maxLen;omega) rfl,(fun g hg=>by have:=Option.some.inj hg;simp only at this;omega),hG.alloc _ _⟩
   ·subst h1;go_enter Tryz.func100,Tryz.ntmps100;go_wp2;rw[←Hw1.out];go_ret;exact ⟨_,2,rfl,Own.freshAt (cs:= #[.string d.a, .string d.b]) (sz:=1) (n:=2) (e:=9) (g:=w.heap.size+1) Hsz.out (by unfold maxLen;omega) rfl,(fun g hg=>by have:=Option.some.inj hg;simp only at this;omega),hG.alloc _ _⟩
  ·obtain rfl:nd=[d.a]:=(by rw[HN.out,if_neg h0,if_neg h12]);have q0:(op==0)=false:=(by simp[h0]);have q1:(op==1)=false:=(by simp;omega);have q2:(op==2)=false:=(by simp;omega);go_enter Tryz.func100,Tryz.ntmps100;go_wp2;rw[←Hw1.out];go_ret;exact ⟨_,1,rfl,Own.freshAt (cs:= #[.string d.a]) (sz:=1) (n:=1) (e:=9) (g:=w.heap.size+1) Hsz.out (by unfold maxLen;omega) rfl,(fun g hg=>by have:=Option.some.inj hg;simp only at this;omega),hG.alloc _ _⟩
theorem ZoF:SlT Tryz.prog 136 34 (.agg #[Yv Yi 0,Yv Yi 0, .slice none 0 0]) 3 40:=SlT.mk' Tryz.underlying136 (by kernel_rfl) rfl
def Zfj (m:Mat) (s:Value):List Value:=[Yv Yi m.rows,Yv Yi m.cols,s]
def Zfu:List Mat->List Value->List Value
 |m::l,s::ss=>Zfj m s++Zfu l ss
 |_,_=>[]
theorem Zm8: ∀ {l:List Mat} {ss:List Value} {k j:Nat} {m:Mat} {s:Value},l[k]? =some m->ss[k]? =some s->j<3->(Zfu l ss)[k*3+j]? =(Zfj m s)[j]?
 |[],_,k,j,d,s,h,_,_=>by simp at h
 |_::_,[],k,j,d,s,_,h,_=>by simp at h
 |d'::l,s'::ss,0,j,d,s,h,h',hj=>by simp at h h';subst h;subst h';simp only[Zfu];rw[List.getElem?_append_left (by simp[Zfj];omega)];simp
 |d'::l,s'::ss,k+1,j,d,s,h,h',hj=>by simp only[Zfu];rw[List.getElem?_append_right (by simp[Zfj];omega),show (k+1)*3+j-(Zfj d' s').length=k*3+j from by simp[Zfj];omega];exact Zm8 (by simpa using h) (by simpa using h') hj
theorem Zkl: ∀ {l:List Mat} {ss:List Value} {m:Mat} {s:Value},ss.length=l.length->Zfu (l++[m]) (ss++[s])=Zfu l ss++Zfj m s
 |[],[],m,s,_=>by simp[Zfu]
 |[],_::_,_,_,h=>by simp at h
 |_::_,[],_,_,h=>by simp at h
 |d::l,t::ss,m,s,h=>by simp only[List.cons_append,Zfu,Zkl (l:=l) (ss:=ss) (by simpa using h),List.append_assoc]
structure LM (w:World) (B:Nat) (X:Nat->Prop) (a:Option Addr) (c:Nat) (ms:List Mat):Prop where
 own: ∃ ss:List Value,ss.length=ms.length/\Own w 34 3 a ms.length c (Zfu ms ss)/\RdCells w (fun q=>X q/\blk a≠some q) ss (ms.map (·.cells))
 low: ∀ q,blk a=some q->B<=q
theorem LM.keep (h:LM w B X a c ms) (k:Keep T w w') (ha: ∀ q,blk a=some q->T q) (hX: ∀ q,X q->T q):LM w' B X a c ms:=by
 obtain ⟨⟨ss,h1,h2,h3⟩,h5⟩:=h;exact ⟨⟨ss,h1,h2.keep k (fun q hq _=>ha q hq),h3.keep k fun q _ hq=>hX q hq.1⟩,h5⟩
theorem LM.grow (h:LM w B X a c ms) (k:Grow w w'):LM w' B X a c ms:=h.keep k (fun _ _=>trivial) fun _ _=>trivial
theorem LM.lt (h:LM w B X a c ms) (hq:blk a=some q):q<w.heap.size:=by
 obtain ⟨⟨ss,h1,h2,h3⟩,h5⟩:=h;exact h2.lt hq
theorem LM.at (h:LM w B X a c ms) {k:Nat} (hk:ms[k]? =some m):
  ∃ b a1 c1,a=some ⟨b,0,none⟩/\b<w.heap.size/\(w.cell? ⟨b,k*3,none⟩=some (Yv Yi m.rows)/\w.cell? ⟨b,k*3+1,none⟩=some (Yv Yi m.cols)/\w.cell? ⟨b,k*3+2,none⟩=some (.slice a1 m.cells.length c1))/\RdI w X a1 m.cells.length c1 m.cells:=by
 obtain ⟨⟨ss,h1,h2,h3⟩,h5⟩:=h;have hkl:=(List.getElem?_eq_some_iff.1 hk).1;cases a with
 |none=>have:=h2.nil rfl;have:=h2.le;omega
 |some p=>obtain ⟨a1,c1,e1,e2⟩:=h3 k m.cells (by simp[hk]);have key: ∀ j v,j<3->(Zfj m (.slice a1 m.cells.length c1))[j]? =some v->w.cell? ⟨p.block,k*3+j,none⟩=some v:=fun j v hj hv=>h2.cell (by rw[Zm8 hk e1 hj];exact hv);exact ⟨p.block,a1,c1,by rw[←(h2.block p rfl).1],h2.lt rfl,⟨key 0 _ (by omega) rfl,key 1 _ (by omega) rfl,key 2 _ (by omega) rfl⟩,e2.weak fun _ _ h=>h.1⟩
theorem LM.nilAt (hg:g=w.heap.size) (hB:B<=g):LM (w.alloc (.cells #[] 34)) B X (some ⟨g,0,none⟩) 0 []:=
 ⟨⟨[],rfl,Own.freshAt (n:=0) hg (by unfold maxLen;omega) rfl,RdCells.nilw⟩,fun q hq=>by have:=Option.some.inj hq;simp only at this;omega⟩
theorem LM.app {a':Option Addr} {c':Nat} {ss:List Value} (h1:ss.length=ms.length) (h3:RdCells w (fun q=>X q/\blk a≠some q) ss (ms.map (·.cells))) (h5: ∀ q,blk a=some q->B<=q) (hB:B<=w.heap.size) {ma:Option Addr} {mc:Nat}
  (hA:Apped w w' 34 3 a a' (ms.length+1) c' (Zfu ms ss++[Yv Yi m.rows,Yv Yi m.cols, .slice ma m.cells.length mc])) (hm:RdI w (fun q=>X q/\blk a≠some q) ma m.cells.length mc m.cells):LM w' B X a' c' (ms++[m]):=by
 have hne: ∀ q,q<w.heap.size->X q/\blk a≠some q->X q/\blk a≠some q/\blk a'≠some q:=fun q hlt hq=>⟨hq.1,hq.2,fun e=>by
  rcases hA.new with e'|⟨g,e',hg⟩
  ·rw[e'] at e;exact hq.2 e
  ·rw[e'] at e;have:=Option.some.inj e;omega⟩
 refine ⟨⟨ss++[.slice ma m.cells.length mc],by simp[h1], ?_, ?_⟩,hA.lo hB h5⟩
 ·rw[Zkl h1,List.length_append,List.length_singleton];exact hA.own
 ·rw[List.map_append];have k1:=((h3.weak hne).keep hA.keep fun q _ h=>h.2.1).weak (T:=fun q=>X q/\blk a'≠some q) fun q _ h=>⟨h.1,h.2.2⟩;have k2:=((hm.weak hne).keep hA.keep fun q _ h=>h.2.1).weak (T:=fun q=>X q/\blk a'≠some q) fun q _ h=>⟨h.1,h.2.2⟩;refine RdCells.append k1 (fun i xs hi=> ?_) (by simp[h1]);cases i with
  |zero=>obtain rfl:=Option.some.inj (show some m.cells=some xs from hi);exact ⟨ma,mc,rfl,k2⟩
  |succ i=>simp at hi
structure FPre (w:World) (D S:Nat->Prop) (g:Nat) (da:Option Addr) (dc:Nat) (ra:Option Addr) (rc:Nat) (sa:Option Addr) (sc:Nat) (l:List Dfn) (nd:Nat->List (Option Nat)) (op:Nat->List Rs->Rs) (st:Nat->Nat) (res:Nat->Rs) (sv:Nat->Value) (fd:Nat):Prop where
 ev:EvW w S g da dc ra rc sa sc l.length st res sv fd
 sep: ∀ q,S q->q≠g/\blk ra≠some q/\blk sa≠some q
 df:RdD w D da l.length dc l
 dsep: ∀ q,D q->q≠g/\blk ra≠some q/\blk sa≠some q
 inv:ZhQ nd op l.length st res
 ndq: ∀ j,j<l.length->st j=0->nd j=ndL l j/\ ∀ xs,op j xs=opL opF l j xs
 lt: ∀ i,i<l.length-> ∀ k,some k∈nd i->k<l.length
 le3: ∀ j,j<l.length->st j<=3
 few:fd+zer st l.length<=100
 dbd: ∀ d∈l,d.value.cells.length<=1048576
 len:l.length<=100
 none3: ∀ j,j<l.length->st j=3->res j=rs0
def FPost (D S:Nat->Prop) (g:Nat) (da:Option Addr) (dc:Nat) (ra:Option Addr) (rc:Nat) (sa:Option Addr) (sc:Nat) (l:List Dfn) (nd:Nat->List (Option Nat)) (op:Nat->List Rs->Rs) (st:Nat->Nat) (res:Nat->Rs) (fd i:Nat) (w:World) (e:Ending) (w':World):Prop:=
 ∃ st' res' sv' fd',e= .returned (.bool (decide (st' i=2)))/\FPre w' D (fun q=>S q\/(w.heap.size<=q)) g da dc ra rc sa sc l nd op st' res' sv' fd'/\FndE nd op l.length st res st' res'/\st' i≠0/\
  fd'+two st l.length=fd+two st' l.length/\fd'+zer st' l.length<=fd+zer st l.length/\Keep (fun q=>q≠g/\blk ra≠some q/\blk sa≠some q) w w'
theorem FPre.lts (h:FPre w D S g da dc ra rc sa sc l nd op st res sv fd):g<w.heap.size/\(∀ q,blk ra=some q->q<w.heap.size)/\ ∀ q,blk sa=some q->q<w.heap.size:=
 ⟨h.ev.bg.lt,fun _ hq=>h.ev.oR.lt hq,fun _ hq=>h.ev.oS.lt hq⟩
theorem FPre.grow (h:FPre w D S g da dc ra rc sa sc l nd op st res sv fd) (k:Grow w w'):FPre w' D S g da dc ra rc sa sc l nd op st res sv fd:=
 ⟨h.ev.grow k,h.sep,h.df.grow k,h.dsep,h.inv,h.ndq,h.lt,h.le3,h.few,h.dbd,h.len,h.none3⟩
theorem FPost.stay (h:FPre w D S g da dc ra rc sa sc l nd op st res sv fd) (k:Grow w w') (hi:st i≠0) (hb:b=decide (st i=2)):
  FPost D S g da dc ra rc sa sc l nd op st res fd i w (.returned (.bool b)) w':=
 ⟨st, res, sv, fd, by rw [hb], ⟨(h.ev.grow k).weak fun _ _ h => .inl h, fun q hq => by
  obtain ⟨h1,h2,h3⟩:=h.lts;rcases hq with hq|hq
  ·exact h.sep q hq
  ·exact ⟨by omega,fun e=>by have:=h2 q e;omega,fun e=>by have:=h3 q e;omega⟩,h.df.grow k,h.dsep,h.inv,h.ndq,h.lt,h.le3,h.few,h.dbd,h.len,h.none3⟩,FndE.refl h.inv,hi,rfl,Nat.le_refl _,k.any⟩
theorem FPre.weak (h:FPre w D S g da dc ra rc sa sc l nd op st res sv fd) (hST: ∀ q,q<w.heap.size->S q->T q) (hs: ∀ q,T q->q≠g/\blk ra≠some q/\blk sa≠some q):FPre w D T g da dc ra rc sa sc l nd op st res sv fd:=
 ⟨h.ev.weak hST,hs,h.df,h.dsep,h.inv,h.ndq,h.lt,h.le3,h.few,h.dbd,h.len,h.none3⟩
theorem FPre.keep (h:FPre w D S g da dc ra rc sa sc l nd op st res sv fd) (k:Keep T w w') (hg:T g) (hr: ∀ q,blk ra=some q->T q) (hs: ∀ q,blk sa=some q->T q) (hS: ∀ q,S q->T q) (hD: ∀ q,q<w.heap.size->D q->T q):FPre w' D S g da dc ra rc sa sc l nd op st res sv fd:=
 ⟨h.ev.keep k hg hr hs hS,h.sep,h.df.keep k hD,h.dsep,h.inv,h.ndq,h.lt,h.le3,h.few,h.dbd,h.len,h.none3⟩
theorem FPre.one {sb:Nat} (h:FPre w D S g da dc ra rc (some ⟨sb,0,none⟩) sc l nd op st res sv fd):
  FPre (w.setCell ⟨sb,i,none⟩ (Yv Yi (1:Int))) D S g da dc ra rc (some ⟨sb,0,none⟩) sc l nd op (ZJ st i 1) res sv fd:=by
 have hK1:Keep (fun q=>q≠sb) w (w.setCell ⟨sb,i,none⟩ (Yv Yi (1:Int))):=(Keep.refl _ w).setCell (fun _ e=>e rfl) _;refine ⟨h.ev.setSt (fun q hq e=>(h.sep q hq).2.2 (by rw[e];rfl)) i 1,h.sep,h.df.keep hK1 fun q _ hq e=>(h.dsep q hq).2.2 (by rw[e];rfl),h.dsep,ZpT h.inv,fun j hj h0=> ?_,h.lt,fun j hj=> ?_, ?_,h.dbd,h.len,fun j hj h3=> ?_⟩
 ·refine h.ndq j hj ?_;unfold ZJ at h0;by_cases e:j=i
  ·rw[if_pos e] at h0;omega
  ·rw[if_neg e] at h0;exact h0
 ·unfold ZJ;by_cases e:j=i
  ·rw[if_pos e];omega
  ·rw[if_neg e];exact h.le3 j hj
 ·have:=ZhG (st:=st) (i:=i) (v:=1) (by decide) (n:=l.length);have:=h.few;omega
 ·unfold ZJ at h3;by_cases e:j=i
  ·rw[if_pos e] at h3;omega
  ·rw[if_neg e] at h3;exact h.none3 j hj h3
theorem FPre.dlow (h:FPre w D S g da dc ra rc sa sc l nd op st res sv fd):FPre w (fun q=>D q/\q<w.heap.size) S g da dc ra rc sa sc l nd op st res sv fd:=
 ⟨h.ev,h.sep,h.df.weak fun _ hq h=>⟨h,hq⟩,fun q hq=>h.dsep q hq.1,h.inv,h.ndq,h.lt,h.le3,h.few,h.dbd,h.len,h.none3⟩
theorem Zeh {we:World} {De Se:Nat->Prop} {fe fd' v:Nat} {ste:Nat->Nat} {rese:Nat->Rs} {sve sv':Nat->Value} {x:Rs} (hi:i<l.length) (h0:st i=0)
  (h:FPre w D S g da dc ra rc sa sc l nd op st res sv fd) (he:FPre we De Se g da dc ra rc sa sc l nd op ste rese sve fe) (hF:FndE nd op l.length (ZJ st i 1) res ste rese) (h2:fe+two st l.length=fd+two ste l.length) (hz:fe+zer ste l.length<=fd+zer (ZJ st i 1) l.length)
  (hE:EvW w' (fun q=>S q\/w.heap.size<=q) g da dc ra rc sa sc l.length (ZJ ste i v) (Zak rese i x) sv' fd') (hv:(v=2/\ev nd op l.length i=some x/\fd'=fe+1)\/(v=3/\ev nd op l.length i=none/\fd'=fe/\x=rs0)) (hK:Keep (fun q=>q≠g/\blk ra≠some q/\blk sa≠some q) w w') (hb:b=decide (v=2)):
  FPost D S g da dc ra rc sa sc l nd op st res fd i w (.returned (.bool b)) w':=by
 obtain ⟨k1,k2,k3⟩:=h.lts;have hfin:=FndE.fin (x:=x) (v:=v) hi h0 hF (by rcases hv with ⟨e1,e2, -⟩|⟨e1,e2, -⟩;exact .inl ⟨e1,e2⟩;exact .inr ⟨e1,e2⟩);have hste:ste i=1:=by have:=(hF.keep i hi (by unfold ZJ;rw[if_pos rfl];decide)).1;rw[this];unfold ZJ;rw[if_pos rfl]
 have hv0:v≠0:=by rcases hv with ⟨e1, -⟩|⟨e1, -⟩<;>omega
 have e1:=ZhG (st:=st) (i:=i) (v:=1) (by decide) (n:=l.length);have e2:=ZhG (st:=ste) (i:=i) hv0 (n:=l.length);have e3:=Zjs (st:=ste) (i:=i) (v:=v) (n:=l.length);rw[if_pos ⟨hi,h0⟩] at e1;rw[if_neg (by omega)] at e2;rw[if_neg (by omega)] at e3;refine ⟨ZJ ste i v,Zak rese i x,sv',fd',by rw[hb];unfold ZJ;rw[if_pos rfl],⟨hE,fun q hq=> ?_,h.df.keep hK fun q _ hq=>h.dsep q hq,h.dsep,hfin.inv,fun j hj hj0=> ?_,h.lt,fun j hj=> ?_, ?_,h.dbd,h.len,fun j hj h3=> ?_⟩,hfin,by unfold ZJ;rw[if_pos rfl];exact hv0, ?_, ?_,hK⟩
 ·rcases hq with hq|hq
  ·exact h.sep q hq
  ·exact ⟨by omega,fun e=>by have:=k2 q e;omega,fun e=>by have:=k3 q e;omega⟩
 ·refine he.ndq j hj ?_;unfold ZJ at hj0;by_cases e:j=i
  ·rw[if_pos e] at hj0;exact (hv0 hj0).elim
  ·rw[if_neg e] at hj0;exact hj0
 ·unfold ZJ;by_cases e:j=i
  ·rw[if_pos e];rcases hv with ⟨e1, -⟩|⟨e1, -⟩<;>omega
  ·rw[if_neg e];exact he.le3 j hj
 ·have:=he.few;have:=h.few;rcases hv with ⟨q1, -,q3⟩|⟨q1, -,q3, -⟩<;>omega
 ·unfold ZJ at h3;unfold Zak;by_cases e:j=i
  ·rw[if_pos e] at h3 ⊢;rcases hv with ⟨q1, -⟩|⟨-, -, -,q4⟩
   ·omega
   ·exact q4
  ·rw[if_neg e] at h3 ⊢;exact he.none3 j hj h3
 ·rcases hv with ⟨q1, -,q3⟩|⟨q1, -,q3, -⟩
  ·rw[if_pos ⟨hi,q1⟩] at e3;omega
  ·rw[if_neg (by omega)] at e3;omega
 ·rcases hv with ⟨q1, -,q3⟩|⟨q1, -,q3, -⟩<;>omega
theorem FPre.stay (h:FPre w D S g da dc ra rc sa sc l nd op st res sv fd) (k:Grow w w') (hi:st i≠0) (hb:b=decide (st i=2)):
  FPost D S g da dc ra rc sa sc l nd op st res fd i w (.returned (.bool b)) w':=FPost.stay h k hi hb
theorem Zmx (hi:i<l.length) (h:FPre w D S g da dc ra rc sa sc l nd op st res sv fd) (h0:st i≠0):
  Calls Tryz.prog 70 #[.pointer (some ⟨g,0,none⟩),Yv Yi (i:Int)] w (FPost D S g da dc ra rc sa sc l nd op st res fd i w):=by
 have h3:=h.le3 i hi;by_cases h1:st i=1
 ·have hsi:=h1;clear h0 h3 h1;have hst:=h.ev;obtain ⟨b,rfl,hb,hc,hf⟩:=h.ev.stAt hi;rw[hsi] at hc;obtain ⟨⟨g0,g1,g2,g3⟩, -⟩:=h.ev.bg.four';have hltg:=h.ev.bg.lt;have hlen:=h.len;go_enter Tryz.func70,Tryz.ntmps70;go_wp2;go_ret;exact h.stay (Grow.refl w) (by omega) (by rw[hsi];rfl)
 by_cases h2:st i=2
 ·have hsi:=h2;clear h0 h3 h1 h2;have hst:=h.ev;obtain ⟨b,rfl,hb,hc,hf⟩:=h.ev.stAt hi;rw[hsi] at hc;obtain ⟨⟨g0,g1,g2,g3⟩, -⟩:=h.ev.bg.four';have hltg:=h.ev.bg.lt;have hlen:=h.len;go_enter Tryz.func70,Tryz.ntmps70;go_wp2;go_ret;exact h.stay (Grow.refl w) (by omega) (by rw[hsi];rfl)
 ·have hsi:st i=3:=by omega
  clear h0 h3 h1 h2;have hst:=h.ev;obtain ⟨b,rfl,hb,hc,hf⟩:=h.ev.stAt hi;rw[hsi] at hc;obtain ⟨⟨g0,g1,g2,g3⟩, -⟩:=h.ev.bg.four';have hltg:=h.ev.bg.lt;have hlen:=h.len;go_enter Tryz.func70,Tryz.ntmps70;go_wp2;go_ret;exact h.stay (Grow.refl w) (by omega) (by rw[hsi];rfl)
theorem Zfl (f:Nat->α) (i:Nat) (x y:α):Zak (Zak f i x) i y=Zak f i y:=by
 funext j;unfold Zak;by_cases e:j=i<;>simp[e]
def FdPost (z:Nat) (r:Option Mat):Nat->Value->World->Prop
 |7,v,w=> ∃ x y a n c,v= .tuple #[.agg #[Yv Yi x,Yv Yi y, .slice a n c], .bool r.isSome]/\ ∀ m,r=some m->OM w (fun q=>z<=q) (.agg #[Yv Yi x,Yv Yi y, .slice a n c]) m
 |8,v,w=> ∃ x y a n c,v= .tuple #[.agg #[Yv Yi x,Yv Yi y, .slice a n c], .bool r.isSome]/\ ∀ m,r=some m->OM w (fun q=>z<=q) (.agg #[Yv Yi x,Yv Yi y, .slice a n c]) m
 |9,v,w=> ∃ x y a n c,v= .agg #[Yv Yi x,Yv Yi y, .slice a n c]/\ ∀ m,r=some m->OM w (fun q=>z<=q) (.agg #[Yv Yi x,Yv Yi y, .slice a n c]) m
 |10,v,_=>v= .bool r.isSome
 |11,v,w=> ∃ g,v= .pointer (some ⟨g,0,none⟩)/\z<=g/\Blk w g #[Yv Yi 0,Yv Yi 0, .slice none 0 0] 34
 |_,_,_=>True
theorem FdPost.stays {z:Nat} {r:Option Mat}: ∀ i v w w',Grow w w'->FdPost z r i v w->FdPost z r i v w':=fun i v w w' hG h=>by
 unfold FdPost at *;split at h
 ·obtain ⟨x,y,a,n,c,h1,h2⟩:=h;exact ⟨x,y,a,n,c,h1,fun m hm=>(h2 m hm).grow hG⟩
 ·obtain ⟨x,y,a,n,c,h1,h2⟩:=h;exact ⟨x,y,a,n,c,h1,fun m hm=>(h2 m hm).grow hG⟩
 ·obtain ⟨x,y,a,n,c,h1,h2⟩:=h;exact ⟨x,y,a,n,c,h1,fun m hm=>(h2 m hm).grow hG⟩
 ·exact h
 ·obtain ⟨g,h1,h2,h3⟩:=h;exact ⟨g,h1,h2,h3.grow hG⟩
 ·trivial
theorem Zsh: ∀ xs:List Rs,1<=xs.length->xs.length<=2->(xs.map rsM++[rsZ])[0]? =some (rsM (xs.getD 0 rs0))/\(xs.map rsM++[rsZ])[1]? =some (rsM (xs.getD 1 rs0))
 |[],h,_=>by simp at h
 |[_],_,_=>⟨rfl,rfl⟩
 |[_,_],_,_=>⟨rfl,rfl⟩
 |_::_::_::_,_,h=>by simp at h
theorem Zo4 {P:Program} {o:Oper} {a:Act} {K:Act->World->Prop} {Q:Exit->Act->World->Prop} {f:FuncId} {x y z:Operand} {t:Value} {ts:Array TypeId} {fn:Func} {c:Code} (ho:o.op= .call {callee:= .value (.func f),args:= #[x,y,z],argTypes:=ts}) (hf:P.funcs[f]? =some fn) (hname:(fn.name== "runtime.NumGoroutine")=false) (hb:fn.body=some c)
  (hx:a.eval x=v) (hy:a.eval y=u) (hz:a.eval z=t) (h:Calls P f #[v,u,t] w fun e w'=> ∃ r,e= .returned r/\K (a.put o.dst r) w'):o.wp P a w K Q:=
 Zim ho hf hname hb (by simpa [hx,hy,hz] using h)
theorem ZhF:CellT Tryz.prog 71:=CellT.slice Tryz.underlying71

end Go.Proofs.YtjpcgofidijigaaGreatDoor
