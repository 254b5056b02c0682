/- An evaluation in memory: definitions, results, states and a count. -/
import Derived.Test.YtgjefeiddfjjnaaGreatDoorZSum
set_option maxHeartbeats 8000000
set_option maxRecDepth 100000
namespace Go.Proofs.YtgjefeiddfjjnaaGreatDoor
open Go.RowKit
open Go.Value renaming int->Yv
open Go.IntKind renaming i64->Yi
open List renaming pairwise_iff_getElem->LZ,range->JN
open Option.some renaming inj->JJ
open Go.Proofs.Tryz renaming func157->PU,ntmps157->PV,prog->JG,underlying28->PT
variable {B c dc fd g i n q rc sc:Nat} {D S T X:Nat->Prop} {a da ra sa:Option Addr} {b:Bool} {l:List Dfn} {m:Mat} {ms:List Mat} {nd:Nat->List (Option Nat)} {op:Nat->List Rs->Rs} {r:Rs} {res:Nat->Rs} {st:Nat->Nat} {sv:Nat->Value} {t:TypeId} {u v:Value} {w w':World} {α:Type}
theorem Zgt (f:Nat->α) (n i:Nat) (x:α):((JN n).map f).set i x=(JN n).map fun j=>if j=i then x else f j:=by
 apply List.ext_getElem?;intro j;rw[List.getElem?_set];by_cases e:i=j
 ·subst e;simp;by_cases h:i<n<;>simp[h]
 ·rw[if_neg e];simp;by_cases h:j<n<;>simp[h];intro a;exact absurd a.symm e
theorem Zar (f:Nat->α) (h:i<n):((JN n).map f)[i]? =some (f i):=Ey
def stL (st:Nat->Nat) (n:Nat):List Int:=(JN n).map fun j=>(st j:Int)
def rsL (res:Nat->Rs) (n:Nat):List Rs:=(JN n).map res
def svL (sv:Nat->Value) (n:Nat):List Value:=(JN n).map sv
def Zah {α:Type} (f:Nat->α) (i:Nat) (x:α):Nat->α:=fun j=>if j=i then x else f j
theorem Zu5 (st:Nat->Nat) (n i v:Nat):(stL st n).set i (v:Int)=stL (ZQ st i v) n:=by
 unfold stL;rw[Zgt];refine List.map_congr_left fun j _=> ?_;unfold ZQ;by_cases e:j=i<;>simp[e]
theorem Zpt (res:Nat->Rs) (n i:Nat) (x:Rs):(rsL res n).set i x=rsL (Zah res i x) n:=Zgt res n i x
theorem Zps (sv:Nat->Value) (n i:Nat) (x:Value):(svL sv n).set i x=svL (Zah sv i x) n:=Zgt sv n i x
theorem T_ress:SlT JG 28 41 (.agg #[Yv Yi 0,Yv Yi 0, .slice none 0 0, .bool false]) 4 48:=SlT.mk' PT Ξ rfl
theorem Zk4:StT JG 41 4:=⟨_,Tryz.underlying41,Ξ⟩
structure EvW (w:World) (S:Nat->Prop) (g:Nat) (da:Option Addr) (dc:Nat) (ra:Option Addr) (rc:Nat) (sa:Option Addr) (sc n:Nat) (st:Nat->Nat) (res:Nat->Rs) (sv:Nat->Value) (fd:Nat):Prop where
 bg:Blk w g #[.slice da n dc, .slice ra n rc, .slice sa n sc,Yv Yi (fd:Int)] 128
 oR:Own w 41 4 ra n rc (Zdd (rsL res n) (svL sv n))
 oS:Own w 3 1 sa n sc (ints (stL st n))
 inn:Inner w S none (svL sv n) (ZbO (rsL res n))
 ok: ∀ j,j<n->ROk (res j)/\(rsM (res j)).cells.length<=1048576
theorem EvW.val (h:EvW w S g da dc ra rc sa sc n st res sv fd):RdCells w S (svL sv n) (ZbO (rsL res n)):=h.inn.rdCells fun _ a _=>a
theorem EvW.low (h:EvW w S g da dc ra rc sa sc n st res sv fd) {j:Nat} (hj:j<n) (hq:(sv j).ownBlock=some q):q<w.heap.size:=
 (h.inn.lt (List.mem_of_getElem? (show (svL sv n)[j]? =some (sv j) from Zar sv hj)) hq).1
theorem Inner.putE (h:Inner w S none (svL sv n) (ZbO (rsL res n))) (ho:Own w 3 1 a (rsM r).cells.length c (ints (rsM r).cells)) (hr: ∀ x∈(rsM r).cells,I64 x) (hb: ∀ q,blk a=some q->S q) (hnew: ∀ q,blk a=some q-> ∀ j,j<n->j≠i->(sv j).ownBlock≠some q):
  Inner w S none (svL (Zah sv i (.slice a (rsM r).cells.length c)) n) (ZbO (rsL (Zah res i r) n)):=by
 refine ⟨by simp[svL,rsL],fun j E hj=> ?_, ?_⟩
 ·have hjn:j<n:=DM
  have z:(ZbO (rsL (Zah res i r) n))[j]? =some (rsM (Zah res i r j)).cells:=Zcs (Zar _ hjn);rw[z] at hj;obtain rfl:=JJ hj;have g:(svL (Zah sv i (.slice a (rsM r).cells.length c)) n)[j]? =some (Zah sv i (.slice a (rsM r).cells.length c) j):=Zar _ hjn;rw[g];by_cases e:j=i
  ·unfold Zah;rw[if_pos e,if_pos e];exact ⟨a,c,rfl,ho,hr,fun q A=>⟨hb q A,Θ⟩⟩
  ·unfold Zah;rw[if_neg e,if_neg e];obtain ⟨b,c',h1,h2⟩:=h.each j _ (Zcs (Zar res hjn));exact Jr
 ·have B:=LZ.1 h.apart;refine LZ.2 fun p q s t v=> ?_;have l:p<n:=by simpa [svL] using s
  have m:q<n:=by simpa [svL] using t
  have h1:=B p q (by simpa [svL] using l) (by simpa [svL] using m) v;have o: ∀ f:Nat->Value, ∀ (k:Nat) (C:k<(svL f n).length),(svL f n)[k]=f k:=fun f k C=>by simp[svL]
  rw[o,o] at h1;rw[o,o];unfold Zah;intro b d;by_cases g:p=i
  ·rw[if_pos g] at d;rw[if_neg I];rw[ZaI] at d;exact hnew b d q m I
  ·rw[if_neg g] at d;by_cases y:q=i
   ·rw[if_pos y,ZaI];exact fun D=>hnew b D p l g d
   ·rw[if_neg y];exact h1 b d
theorem EvW.keep (h:EvW w S g da dc ra rc sa sc n st res sv fd) (k:Keep T w w') (hg:T g) (hr: ∀ q,blk ra=some q->T q) (hs: ∀ q,blk sa=some q->T q) (hS: ∀ q,S q->T q):EvW w' S g da dc ra rc sa sc n st res sv fd:=
 ⟨h.bg.keep k hg,h.oR.keep k (fun q a _=>hr q a),h.oS.keep k (fun q a _=>hs q a),h.inn.keep k fun q _ h _=>hS q h,h.ok⟩
theorem EvW.grow (h:EvW w S g da dc ra rc sa sc n st res sv fd) (k:Grow w w'):EvW w' S g da dc ra rc sa sc n st res sv fd:=
 h.keep k trivial (fun _ _=>trivial) (fun _ _=>trivial) fun _ _=>trivial
theorem EvW.weak (h:EvW w S g da dc ra rc sa sc n st res sv fd) (hST: ∀ q,q<w.heap.size->S q->T q):EvW w T g da dc ra rc sa sc n st res sv fd:=
 ⟨h.bg,h.oR,h.oS,h.inn.weak fun q a b _=>⟨hST q a b,Θ⟩,h.ok⟩
theorem ZiV {cs:Array Value} {e:TypeId} {sz:Nat} {ds:List Value} (hb:Blk w g cs t) (ho:Own w e sz a n c ds) (hne:t≠e):blk a≠some g:=fun h=>by
 cases a with
 |none=>simp at h
 |some p=>simp at h;obtain ⟨_,d,b,_⟩:=ho.block p rfl;rw[h] at b;have:=hb.symm.trans b;exact I5
theorem EvW.ne (h:EvW w S g da dc ra rc sa sc n st res sv fd):blk ra≠some g/\blk sa≠some g/\ ∀ q,blk ra=some q->blk sa≠some q:=
 ⟨ZiV h.bg h.oR Φ,ZiV h.bg h.oS Φ,Own.ne_own h.oR h.oS Φ⟩
theorem Blk.four' {x y z:Value} (h:Blk w g #[x,y,z,u] t):
  (w.cell? ⟨g,0,none⟩=some x/\w.cell? ⟨g,1,none⟩=some y/\w.cell? ⟨g,2,none⟩=some z/\w.cell? ⟨g,3,none⟩=some u)/\w.frozen? ⟨g,3,none⟩=false:=
 ⟨⟨h.cell 0,h.cell 1,h.cell 2,h.cell 3⟩,h.free 3⟩
theorem EvW.stAt (h:EvW w S g da dc ra rc sa sc n st res sv fd) (hi:i<n):
  ∃ b,sa=some ⟨b,0,none⟩/\b<w.heap.size/\w.cell? ⟨b,i,none⟩=some (Yv Yi (st i:Int))/\w.frozen? ⟨b,i,none⟩=false:=by
 cases sa with
 |none=>have:=h.oS.nil rfl;have:=h.oS.le;omega
 |some p=>refine ⟨p.block,by rw[←(h.oS.block p rfl).1],h.oS.lt rfl,h.oS.cell (j:=i) ?_,h.oS.free i⟩;unfold stL;simp[hi]
theorem EvW.setSt {b:Nat} (h:EvW w S g da dc ra rc (some ⟨b,0,none⟩) sc n st res sv fd) (hS: ∀ q,S q->q≠b) (i v:Nat):
  EvW (w.setCell ⟨b,i,none⟩ (Yv Yi (v:Int))) S g da dc ra rc (some ⟨b,0,none⟩) sc n (ZQ st i v) res sv fd:=by
 have a:Keep (fun q=>q≠b) w (w.setCell ⟨b,i,none⟩ (Yv Yi (v:Int))):=kS;obtain ⟨k,f,j⟩:=h.ne;refine ⟨h.bg.keep a (fun e=>f ξ),h.oR.keep a (fun q c _ e=>j q c ξ), ?_, ?_,h.ok⟩
 ·have d:=h.oS.set i (Yv Yi (v:Int));rw[←ints_set,Zu5] at d;exact d
 ·exact h.inn.keep a fun q _ c _=>hS q c
theorem EvW.resAt (h:EvW w S g da dc ra rc sa sc n st res sv fd) (hi:i<n):
  ∃ b a1 c1,ra=some ⟨b,0,none⟩/\b<w.heap.size/\sv i= .slice a1 (rsM (res i)).cells.length c1/\RAt w b (i*4) (res i) (.slice a1 (rsM (res i)).cells.length c1)/\RdI w S a1 (rsM (res i)).cells.length c1 (rsM (res i)).cells/\(w.frozen? ⟨b,i*4,none⟩=false/\w.frozen? ⟨b,i*4+1,none⟩=false/\w.frozen? ⟨b,i*4+2,none⟩=false/\w.frozen? ⟨b,i*4+3,none⟩=false):=by
 cases ra with
 |none=>have:=h.oR.nil rfl;have:=h.oR.le;omega
 |some p=>
  have c:(rsL res n)[i]? =some (res i):=Zar res hi;have d:(svL sv n)[i]? =some (sv i):=Zar sv hi;obtain ⟨a1,c1,e,k⟩:=h.val i _ (Zcs c);have f:sv i= .slice a1 (rsM (res i)).cells.length c1:=by rw[d] at e;exact JJ e
  have a: ∀ j v,j<4->(ZcX (res i) (.slice a1 (rsM (res i)).cells.length c1))[j]? =some v->w.cell? ⟨p.block,i*4+j,none⟩=some v:=fun j v l m=>
   h.oR.cell (by rw[Zel c d l,f];exact m)
  exact ⟨p.block,a1,c1,by rw[←(h.oR.block p rfl).1],h.oR.lt rfl,f,⟨a 0 _ I rfl,a 1 _ I rfl,a 2 _ I rfl,a 3 _ I rfl⟩,k,h.oR.free _,h.oR.free _,h.oR.free _,h.oR.free _⟩
theorem RdCells.putE (h:RdCells w S (svL sv n) (ZbO (rsL res n))) (hr:RdI w S a (rsM r).cells.length c (rsM r).cells):RdCells w S (svL (Zah sv i (.slice a (rsM r).cells.length c)) n) (ZbO (rsL (Zah res i r) n)):=fun j g hj=>by
 have hjn:j<n:=DM
 have d:(ZbO (rsL (Zah res i r) n))[j]? =some (rsM (Zah res i r j)).cells:=Zcs (Zar _ hjn);rw[d] at hj;obtain rfl:=JJ hj;have f:(svL (Zah sv i (.slice a (rsM r).cells.length c)) n)[j]? =some (Zah sv i (.slice a (rsM r).cells.length c) j):=Zar _ hjn;rw[f];by_cases e:j=i
 ·unfold Zah;rw[if_pos e,if_pos e];exact ⟨a,c,rfl,hr⟩
 ·unfold Zah;rw[if_neg e,if_neg e];obtain ⟨b,c',h1,h2⟩:=h j _ (Zcs (Zar res hjn));exact Jr
theorem EvW.setRes {b:Nat} (h:EvW w S g da dc (some ⟨b,0,none⟩) rc sa sc n st res sv fd) (hS: ∀ q,S q->q≠b) (hi:i<n) (ho:Own w 3 1 a (rsM r).cells.length c (ints (rsM r).cells)) (hr: ∀ x∈(rsM r).cells,I64 x) (hb: ∀ q,blk a=some q->S q) (hnew: ∀ q,blk a=some q-> ∀ j,j<n->j≠i->(sv j).ownBlock≠some q) (hok:ROk r/\(rsM r).cells.length<=1048576):
  EvW ((((w.setCell ⟨b,i*4,none⟩ (Yv Yi (rsM r).rows)).setCell ⟨b,i*4+1,none⟩ (Yv Yi (rsM r).cols)).setCell ⟨b,i*4+2,none⟩ (.slice a (rsM r).cells.length c)).setCell ⟨b,i*4+3,none⟩ (.bool r.isSome)) S g da dc (some ⟨b,0,none⟩) rc sa sc n st (Zah res i r) (Zah sv i (.slice a (rsM r).cells.length c)) fd:=by
 have d:Keep (fun q=>q≠b) w ((((w.setCell ⟨b,i*4,none⟩ (Yv Yi (rsM r).rows)).setCell ⟨b,i*4+1,none⟩ (Yv Yi (rsM r).cols)).setCell ⟨b,i*4+2,none⟩ (.slice a (rsM r).cells.length c)).setCell ⟨b,i*4+3,none⟩ (.bool r.isSome)):=
  kS
 obtain ⟨k,m,l⟩:=h.ne;refine ⟨h.bg.keep d (fun e=>k ξ), ?_,h.oS.keep d (fun q f _ e=>l q ξ f), ?_,fun j hj=> ?_⟩
 ·exact GW
 ·exact (h.inn.putE ho hr hb hnew).keep d fun q _ f _=>hS q f
 ·exact Jv
theorem EvW.setFd (h:EvW w S g da dc ra rc sa sc n st res sv fd) (hS: ∀ q,S q->q≠g) (fd':Nat):
  EvW (w.setCell ⟨g,3,none⟩ (Yv Yi (fd':Int))) S g da dc ra rc sa sc n st res sv fd':=by
 have b:Keep (fun q=>q≠g) w (w.setCell ⟨g,3,none⟩ (Yv Yi (fd':Int))):=kS;obtain ⟨c,d,f⟩:=h.ne;exact ⟨h.bg.set 3 _,h.oR.keep b (fun q a _ e=>c (e▸a)),h.oS.keep b (fun q a _ e=>d (e▸a)),h.inn.keep b fun q _ a _=>hS q a,h.ok⟩
theorem ZtD {d:Dfn} (h:VD w S v d):
  Calls JG 157 #[v] w fun e w'=> ∃ a c,e= .returned (.slice a (Za5 d).length c)/\Own w' 9 1 a (Za5 d).length c (strs (Za5 d))/\(∀ q,blk a=some q->w.heap.size<=q)/\Grow w w':=by
 obtain ⟨s,t,x,rfl, -⟩:=h;obtain ⟨y,hw1,hG,o, -⟩:=al1 w #[.string d.name,Yv Yi d.op, .string d.a, .string d.b,Yv Yi d.value.rows,Yv Yi d.value.cols, .slice s t x] 39;have H:=hG.size;have j:w.heap.size+1=y.heap.size:=DR
 have Hsz:=Lib.hid j;have Hw1:=Lib.hid hw1;clear j;have k:=Lib.hid (show Za5 d=if d.op=0 then [] else if d.op=1\/d.op=2 then [d.a,d.b] else [d.a] from rfl);obtain ⟨i,l⟩:=eX d.op;rw[←l] at o hw1 Hw1 k ⊢;clear l hw1;obtain ⟨⟨z,A,B,C,D,E,F⟩, -⟩:=o.seven;have p:=o.lt;rw[Hw1.out] at z A B C D E F p;obtain ⟨r,m⟩:=eX (Za5 d);rw[←m] at k ⊢;clear m;by_cases h0:i=0
 ·subst h0;obtain rfl:r=[]:=by rw[k.out,if_pos rfl]
  go_enter PU,PV;go_wp2;rw[←Hw1.out];go_ret;exact ⟨none,0,rfl,Own.nilw,(fun q G=>by cases G),hG⟩
 ·by_cases f:i=1\/i=2
  ·obtain rfl:r=[d.a,d.b]:=(by rw[k.out,if_neg h0,if_pos f]);rcases f with h1|h1
   ·exact GY
   ·exact GY
  ·obtain rfl:r=[d.a]:=(by rw[k.out,if_neg h0,if_neg f]);have J:(i==0)=false:=Av;have L:(i==1)=false:=Ψ;have M:(i==2)=false:=Ψ;go_enter PU,PV;go_wp2;rw[←Hw1.out];go_ret;exact ⟨_,1,rfl,Own.freshAt (cs:= #[.string d.a]) (sz:=1) (n:=1) (e:=9) (g:=w.heap.size+1) Hsz.out Γ rfl,(fun g hg=>Cy),hG.alloc _ _⟩
theorem ZrX:SlT JG 162 37 (.agg #[Yv Yi 0,Yv Yi 0, .slice none 0 0]) 3 40:=SlT.mk' Tryz.underlying162 Ξ rfl
def ZgB (m:Mat) (s:Value):List Value:=[Yv Yi m.rows,Yv Yi m.cols,s]
def Zg0:List Mat->List Value->List Value
 |m::l,s::ss=>ZgB m s++Zg0 l ss
 |_,_=>[]
theorem Zpx: ∀ {l:List Mat} {ss:List Value} {k j:Nat} {m:Mat} {s:Value},l[k]? =some m->ss[k]? =some s->j<3->(Zg0 l ss)[k*3+j]? =(ZgB m s)[j]?
 |[],_,k,j,d,s,h,_,_=>ν
 |_::_,[],k,j,d,s,_,h,_=>ν
 |d'::l,s'::ss,0,j,d,s,h,h',hj=>by simp at h h';subst h;subst h';simp only[Zg0];rw[List.getElem?_append_left (by simp[ZgB];omega)];simp
 |d'::l,s'::ss,k+1,j,d,s,h,h',hj=>by simp only[Zg0];rw[List.getElem?_append_right (by simp[ZgB];omega),show (k+1)*3+j-(ZgB d' s').length=k*3+j from by simp[ZgB];omega];exact Zpx Ai (by simpa using h') hj
theorem Zl9: ∀ {l:List Mat} {ss:List Value} {m:Mat} {s:Value},ss.length=l.length->Zg0 (l++[m]) (ss++[s])=Zg0 l ss++ZgB m s
 |[],[],m,s,_=>by simp[Zg0]
 |[],_::_,_,_,h=>ν
 |_::_,[],_,_,h=>ν
 |d::l,t::ss,m,s,h=>by simp only[List.cons_append,Zg0,Zl9 (l:=l) (ss:=ss) Ai,List.append_assoc]
structure LM (w:World) (B:Nat) (X:Nat->Prop) (a:Option Addr) (c:Nat) (ms:List Mat):Prop where
 own: ∃ ss:List Value,ss.length=ms.length/\Own w 37 3 a ms.length c (Zg0 ms ss)/\RdCells w (fun q=>X q/\blk a≠some q) ss (ms.map (·.cells))
 low: ∀ q,blk a=some q->B<=q
theorem LM.keep (h:LM w B X a c ms) (k:Keep T w w') (ha: ∀ q,blk a=some q->T q) (hX: ∀ q,X q->T q):LM w' B X a c ms:=by
 obtain ⟨⟨d,e,f,g⟩,i⟩:=h;exact ⟨⟨d,e,f.keep k (fun q b _=>ha q b),g.keep k fun q _ b=>hX q b.1⟩,i⟩
theorem LM.grow (h:LM w B X a c ms) (k:Grow w w'):LM w' B X a c ms:=h.keep k (fun _ _=>trivial) fun _ _=>trivial
theorem LM.lt (h:LM w B X a c ms) (hq:blk a=some q):q<w.heap.size:=by
 obtain ⟨⟨d,e,b,f⟩,g⟩:=h;exact b.lt hq
theorem LM.at (h:LM w B X a c ms) {k:Nat} (hk:ms[k]? =some m):
  ∃ b a1 c1,a=some ⟨b,0,none⟩/\b<w.heap.size/\(w.cell? ⟨b,k*3,none⟩=some (Yv Yi m.rows)/\w.cell? ⟨b,k*3+1,none⟩=some (Yv Yi m.cols)/\w.cell? ⟨b,k*3+2,none⟩=some (.slice a1 m.cells.length c1))/\RdI w X a1 m.cells.length c1 m.cells:=by
 obtain ⟨⟨q,r,e,f⟩,s⟩:=h;have g:=(List.getElem?_eq_some_iff.1 hk).1;cases a with
 |none=>have:=e.nil rfl;have:=e.le;omega
 |some p=>obtain ⟨a1,c1,i,l⟩:=f k m.cells (by simp[hk]);have d: ∀ j v,j<3->(ZgB m (.slice a1 m.cells.length c1))[j]? =some v->w.cell? ⟨p.block,k*3+j,none⟩=some v:=fun j v n o=>e.cell (by rw[Zpx hk i n];exact o);exact ⟨p.block,a1,c1,by rw[←(e.block p rfl).1],e.lt rfl,⟨d 0 _ I rfl,d 1 _ I rfl,d 2 _ I rfl⟩,l.weak fun _ _ h=>h.1⟩
theorem LM.nilAt (hg:g=w.heap.size) (hB:B<=g):LM (w.alloc (.cells #[] 37)) B X (some ⟨g,0,none⟩) 0 []:=
 ⟨⟨[],rfl,Own.freshAt (n:=0) hg Γ rfl,RdCells.nilw⟩,fun q hq=>Fu⟩
theorem LM.app {a':Option Addr} {c':Nat} {ss:List Value} (h1:ss.length=ms.length) (h3:RdCells w (fun q=>X q/\blk a≠some q) ss (ms.map (·.cells))) (h5: ∀ q,blk a=some q->B<=q) (hB:B<=w.heap.size) {ma:Option Addr} {mc:Nat}
  (hA:Apped w w' 37 3 a a' (ms.length+1) c' (Zg0 ms ss++[Yv Yi m.rows,Yv Yi m.cols, .slice ma m.cells.length mc])) (hm:RdI w (fun q=>X q/\blk a≠some q) ma m.cells.length mc m.cells):LM w' B X a' c' (ms++[m]):=by
 have b: ∀ q,q<w.heap.size->X q/\blk a≠some q->X q/\blk a≠some q/\blk a'≠some q:=fun q j c=>⟨c.1,c.2,fun e=>by
  rcases hA.new with d|⟨g,d,o⟩
  ·rw[d] at e;exact c.2 e
  ·rw[d] at e;have:=JJ e;omega⟩
 refine ⟨⟨ss++[.slice ma m.cells.length mc],AU, ?_, ?_⟩,hA.lo hB h5⟩
 ·rw[Zl9 h1,List.length_append,List.length_singleton];exact hA.own
 ·rw[List.map_append];have k:=((h3.weak b).keep hA.keep fun q _ h=>h.2.1).weak (T:=fun q=>X q/\blk a'≠some q) fun q _ h=>⟨h.1,h.2.2⟩;have l:=((hm.weak b).keep hA.keep fun q _ h=>h.2.1).weak (T:=fun q=>X q/\blk a'≠some q) fun q _ h=>⟨h.1,h.2.2⟩;refine RdCells.append k (fun i n f=> ?_) AU;cases i with
  |zero=>obtain rfl:=JJ (show some m.cells=some n from f);exact ⟨ma,mc,rfl,l⟩
  |succ i=>simp at f
structure FPre (w:World) (D S:Nat->Prop) (g:Nat) (da:Option Addr) (dc:Nat) (ra:Option Addr) (rc:Nat) (sa:Option Addr) (sc:Nat) (l:List Dfn) (nd:Nat->List (Option Nat)) (op:Nat->List Rs->Rs) (st:Nat->Nat) (res:Nat->Rs) (sv:Nat->Value) (fd:Nat):Prop where
 ev:EvW w S g da dc ra rc sa sc l.length st res sv fd
 sep: ∀ q,S q->q≠g/\blk ra≠some q/\blk sa≠some q
 df:RdD w D da l.length dc l
 dsep: ∀ q,D q->q≠g/\blk ra≠some q/\blk sa≠some q
 inv:Zjs nd op l.length st res
 ndq: ∀ j,j<l.length->st j=0->nd j=ndL l j/\ ∀ xs,op j xs=opL opF l j xs
 lt: ∀ i,i<l.length-> ∀ k,some k∈nd i->k<l.length
 le3: ∀ j,j<l.length->st j<=3
 few:fd+zer st l.length<=100
 dbd: ∀ d∈l,d.value.cells.length<=1048576
 len:l.length<=100
 none3: ∀ j,j<l.length->st j=3->res j=rs0
def FPost (D S:Nat->Prop) (g:Nat) (da:Option Addr) (dc:Nat) (ra:Option Addr) (rc:Nat) (sa:Option Addr) (sc:Nat) (l:List Dfn) (nd:Nat->List (Option Nat)) (op:Nat->List Rs->Rs) (st:Nat->Nat) (res:Nat->Rs) (fd i:Nat) (w:World) (e:Ending) (w':World):Prop:=
 ∃ st' res' sv' fd',e= .returned (.bool (decide (st' i=2)))/\FPre w' D (fun q=>S q\/(w.heap.size<=q)) g da dc ra rc sa sc l nd op st' res' sv' fd'/\FndE nd op l.length st res st' res'/\st' i≠0/\
  fd'+two st l.length=fd+two st' l.length/\fd'+zer st' l.length<=fd+zer st l.length/\Keep (fun q=>q≠g/\blk ra≠some q/\blk sa≠some q) w w'
theorem FPre.lts (h:FPre w D S g da dc ra rc sa sc l nd op st res sv fd):g<w.heap.size/\(∀ q,blk ra=some q->q<w.heap.size)/\ ∀ q,blk sa=some q->q<w.heap.size:=
 ⟨h.ev.bg.lt,fun _ a=>h.ev.oR.lt a,fun _ a=>h.ev.oS.lt a⟩
theorem FPre.grow (h:FPre w D S g da dc ra rc sa sc l nd op st res sv fd) (k:Grow w w'):FPre w' D S g da dc ra rc sa sc l nd op st res sv fd:=
 ⟨h.ev.grow k,h.sep,h.df.grow k,h.dsep,h.inv,h.ndq,h.lt,h.le3,h.few,h.dbd,h.len,h.none3⟩
theorem FPost.stay (h:FPre w D S g da dc ra rc sa sc l nd op st res sv fd) (k:Grow w w') (hi:st i≠0) (hb:b=decide (st i=2)):
  FPost D S g da dc ra rc sa sc l nd op st res fd i w (.returned (.bool b)) w':=
 ⟨st, res, sv, fd, by rw [hb], ⟨(h.ev.grow k).weak fun _ _ h => .inl h, fun q a => by
  obtain ⟨f,c,d⟩:=h.lts;rcases a with a|a
  ·exact h.sep q a
  ·exact ⟨I,fun e=>by have:=c q e;omega,fun e=>by have:=d q e;omega⟩,h.df.grow k,h.dsep,h.inv,h.ndq,h.lt,h.le3,h.few,h.dbd,h.len,h.none3⟩,FndE.refl h.inv,hi,rfl,Nat.le_refl _,k.any⟩
theorem FPre.weak (h:FPre w D S g da dc ra rc sa sc l nd op st res sv fd) (hST: ∀ q,q<w.heap.size->S q->T q) (hs: ∀ q,T q->q≠g/\blk ra≠some q/\blk sa≠some q):FPre w D T g da dc ra rc sa sc l nd op st res sv fd:=
 ⟨h.ev.weak hST,hs,h.df,h.dsep,h.inv,h.ndq,h.lt,h.le3,h.few,h.dbd,h.len,h.none3⟩
theorem FPre.keep (h:FPre w D S g da dc ra rc sa sc l nd op st res sv fd) (k:Keep T w w') (hg:T g) (hr: ∀ q,blk ra=some q->T q) (hs: ∀ q,blk sa=some q->T q) (hS: ∀ q,S q->T q) (hD: ∀ q,q<w.heap.size->D q->T q):FPre w' D S g da dc ra rc sa sc l nd op st res sv fd:=
 ⟨h.ev.keep k hg hr hs hS,h.sep,h.df.keep k hD,h.dsep,h.inv,h.ndq,h.lt,h.le3,h.few,h.dbd,h.len,h.none3⟩
theorem FPre.one {sb:Nat} (h:FPre w D S g da dc ra rc (some ⟨sb,0,none⟩) sc l nd op st res sv fd):
  FPre (w.setCell ⟨sb,i,none⟩ (Yv Yi (1:Int))) D S g da dc ra rc (some ⟨sb,0,none⟩) sc l nd op (ZQ st i 1) res sv fd:=by
 have d:Keep (fun q=>q≠sb) w (w.setCell ⟨sb,i,none⟩ (Yv Yi (1:Int))):=kS;refine ⟨h.ev.setSt (fun q f e=>(h.sep q f).2.2 ξ) i 1,h.sep,h.df.keep d fun q _ f e=>(h.dsep q f).2.2 ξ,h.dsep,Zs0 h.inv,fun j a b=> ?_,h.lt,fun j a=> ?_, ?_,h.dbd,h.len,fun j a c=> ?_⟩
 ·refine h.ndq j a ?_;unfold ZQ at b;by_cases e:j=i
  ·rw[if_pos e] at b;omega
  ·rw[if_neg e] at b;exact b
 ·unfold ZQ;by_cases e:j=i
  ·rw[if_pos e];omega
  ·rw[if_neg e];exact h.le3 j a
 ·have:=Zjt (st:=st) (i:=i) (v:=1) Φ (n:=l.length);have:=h.few;omega
 ·unfold ZQ at c;by_cases e:j=i
  ·rw[if_pos e] at c;omega
  ·rw[if_neg e] at c;exact h.none3 j a c
theorem FPre.dlow (h:FPre w D S g da dc ra rc sa sc l nd op st res sv fd):FPre w (fun q=>D q/\q<w.heap.size) S g da dc ra rc sa sc l nd op st res sv fd:=
 ⟨h.ev,h.sep,h.df.weak fun _ a h=>⟨h,a⟩,fun q a=>h.dsep q a.1,h.inv,h.ndq,h.lt,h.le3,h.few,h.dbd,h.len,h.none3⟩
theorem Zfx {we:World} {De Se:Nat->Prop} {fe fd' v:Nat} {ste:Nat->Nat} {rese:Nat->Rs} {sve sv':Nat->Value} {x:Rs} (hi:i<l.length) (h0:st i=0)
  (h:FPre w D S g da dc ra rc sa sc l nd op st res sv fd) (he:FPre we De Se g da dc ra rc sa sc l nd op ste rese sve fe) (hF:FndE nd op l.length (ZQ st i 1) res ste rese) (h2:fe+two st l.length=fd+two ste l.length) (hz:fe+zer ste l.length<=fd+zer (ZQ st i 1) l.length)
  (hE:EvW w' (fun q=>S q\/w.heap.size<=q) g da dc ra rc sa sc l.length (ZQ ste i v) (Zah rese i x) sv' fd') (hv:(v=2/\ev nd op l.length i=some x/\fd'=fe+1)\/(v=3/\ev nd op l.length i=none/\fd'=fe/\x=rs0)) (hK:Keep (fun q=>q≠g/\blk ra≠some q/\blk sa≠some q) w w') (hb:b=decide (v=2)):
  FPost D S g da dc ra rc sa sc l nd op st res fd i w (.returned (.bool b)) w':=by
 obtain ⟨C,z,A⟩:=h.lts;have d:=FndE.fin (x:=x) (v:=v) hi h0 hF (by rcases hv with ⟨c,o, -⟩|⟨c,o, -⟩;exact .inl ⟨c,o⟩;exact .inr ⟨c,o⟩);have y:ste i=1:=by have:=(hF.keep i hi (by unfold ZQ;rw[if_pos rfl];decide)).1;rw[this];unfold ZQ;rw[if_pos rfl]
 have f:v≠0:=by rcases hv with ⟨c, -⟩|⟨c, -⟩<;>omega
 have c:=Zjt (st:=st) (i:=i) (v:=1) Φ (n:=l.length);have o:=Zjt (st:=ste) (i:=i) f (n:=l.length);have t:=Zjo (st:=ste) (i:=i) (v:=v) (n:=l.length);rw[if_pos ⟨hi,h0⟩] at c;rw[if_neg I] at o;rw[if_neg I] at t;refine ⟨ZQ ste i v,Zah rese i x,sv',fd',by rw[hb];unfold ZQ;rw[if_pos rfl],⟨hE,fun q m=> ?_,h.df.keep hK fun q _ m=>h.dsep q m,h.dsep,d.inv,fun j p a=> ?_,h.lt,fun j p=> ?_, ?_,h.dbd,h.len,fun j p s=> ?_⟩,d,by unfold ZQ;rw[if_pos rfl];exact f, ?_, ?_,hK⟩
 ·rcases m with m|m
  ·exact h.sep q m
  ·exact ⟨I,fun e=>by have:=z q e;omega,fun e=>by have:=A q e;omega⟩
 ·refine he.ndq j p ?_;unfold ZQ at a;by_cases e:j=i
  ·rw[if_pos e] at a;exact (f a).elim
  ·rw[if_neg e] at a;exact a
 ·unfold ZQ;by_cases e:j=i
  ·rw[if_pos e];rcases hv with ⟨c, -⟩|⟨c, -⟩<;>omega
  ·rw[if_neg e];exact he.le3 j p
 ·have:=he.few;have:=h.few;rcases hv with ⟨k, -,r⟩|⟨k, -,r, -⟩<;>omega
 ·unfold ZQ at s;unfold Zah;by_cases e:j=i
  ·rw[if_pos e] at s ⊢;rcases hv with ⟨k, -⟩|⟨-, -, -,B⟩
   ·omega
   ·exact B
  ·rw[if_neg e] at s ⊢;exact he.none3 j p s
 ·rcases hv with ⟨k, -,r⟩|⟨k, -,r, -⟩
  ·rw[if_pos ⟨hi,k⟩] at t;omega
  ·rw[if_neg I] at t;omega
 ·rcases hv with ⟨k, -,r⟩|⟨k, -,r, -⟩<;>omega
theorem FPre.stay (h:FPre w D S g da dc ra rc sa sc l nd op st res sv fd) (k:Grow w w') (hi:st i≠0) (hb:b=decide (st i=2)):
  FPost D S g da dc ra rc sa sc l nd op st res fd i w (.returned (.bool b)) w':=FPost.stay h k hi hb
theorem Zo0 (hi:i<l.length) (h:FPre w D S g da dc ra rc sa sc l nd op st res sv fd) (h0:st i≠0):
  Calls JG 106 #[.pointer (some ⟨g,0,none⟩),Yv Yi (i:Int)] w (FPost D S g da dc ra rc sa sc l nd op st res fd i w):=by
 have c:=h.le3 i hi;by_cases a:st i=1
 ·have hsi:=a;clear h0 c a;exact Gq
 by_cases d:st i=2
 ·have hsi:=d;clear h0 c a d;exact Gq
 ·have hsi:st i=3:=I
  clear h0 c a d;exact Gq
theorem ZgI (f:Nat->α) (i:Nat) (x y:α):Zah (Zah f i x) i y=Zah f i y:=by
 funext j;unfold Zah;by_cases e:j=i<;>simp[e]
def FdPost (z:Nat) (r:Option Mat):Nat->Value->World->Prop
 |7,v,w=> ∃ x y a n c,v= .tuple #[.agg #[Yv Yi x,Yv Yi y, .slice a n c], .bool r.isSome]/\ ∀ m,r=some m->OM w (fun q=>z<=q) (.agg #[Yv Yi x,Yv Yi y, .slice a n c]) m
 |8,v,w=> ∃ x y a n c,v= .tuple #[.agg #[Yv Yi x,Yv Yi y, .slice a n c], .bool r.isSome]/\ ∀ m,r=some m->OM w (fun q=>z<=q) (.agg #[Yv Yi x,Yv Yi y, .slice a n c]) m
 |9,v,w=> ∃ x y a n c,v= .agg #[Yv Yi x,Yv Yi y, .slice a n c]/\ ∀ m,r=some m->OM w (fun q=>z<=q) (.agg #[Yv Yi x,Yv Yi y, .slice a n c]) m
 |10,v,_=>v= .bool r.isSome
 |11,v,w=> ∃ g,v= .pointer (some ⟨g,0,none⟩)/\z<=g/\Blk w g #[Yv Yi 0,Yv Yi 0, .slice none 0 0] 37
 |_,_,_=>True
theorem FdPost.stays {z:Nat} {r:Option Mat}: ∀ i v w w',Grow w w'->FdPost z r i v w->FdPost z r i v w':=fun i v w w' hG h=>by
 unfold FdPost at *;split at h
 ·exact Il
 ·exact Il
 ·exact Il
 ·exact h
 ·exact Gy
 ·trivial
theorem Zv2: ∀ xs:List Rs,1<=xs.length->xs.length<=2->(xs.map rsM++[rsZ])[0]? =some (rsM (xs.getD 0 rs0))/\(xs.map rsM++[rsZ])[1]? =some (rsM (xs.getD 1 rs0))
 |[],h,_=>ν
 |[_],_,_=>⟨rfl,rfl⟩
 |[_,_],_,_=>⟨rfl,rfl⟩
 |_::_::_::_,_,h=>ν
theorem Zsx {P:Program} {o:Oper} {a:Act} {K:Act->World->Prop} {Q:Exit->Act->World->Prop} {f:FuncId} {x y z:Operand} {t:Value} {ts:Array TypeId} {fn:Func} {c:Code} (ho:o.op= .call {callee:= .value (.func f),args:= #[x,y,z],argTypes:=ts}) (hf:P.funcs[f]? =some fn) (hname:(fn.name== "runtime.NumGoroutine")=false) (hb:fn.body=some c)
  (hx:a.eval x=v) (hy:a.eval y=u) (hz:a.eval z=t) (h:Calls P f #[v,u,t] w fun e w'=> ∃ r,e= .returned r/\K (a.put o.dst r) w'):o.wp P a w K Q:=
 Zkm ho hf hname hb (by simpa [hx,hy,hz] using h)
theorem Zjg:CellT JG 28:=CellT.slice PT

end Go.Proofs.YtgjefeiddfjjnaaGreatDoor
