/- The laws' mark on one definition; a changed sheet's size. -/
import Derived.Test.YtgeoehnbpkediaaGreatZResK
import Derived.Test.YtgeoehnbpkediaaGreatZDefO
set_option maxHeartbeats 8000000
set_option maxRecDepth 100000
namespace Go.Proofs.YtgeoehnbpkediaaGreat
open Go.RowKit
open Lib (hid)
open Go.Value renaming int->Yv
open Go.IntKind renaming i64->Yi
variable {L l:List Rs} {S:Nat->Prop} {cap k n:Nat} {d r:Rs} {e:TypeId} {left:Int} {p:Addr} {s v:Value} {ss:List Value} {w:World}
theorem ZlU (d:Dfn): ∀ (l:List Dfn) (k:Nat),ZcS (l.set k d)<=ZcS l+bdD d
 |[],k=>by simp
 |x::l,0=>by simp;omega
 |x::l,k+1=>by have:=ZlU d l k;simp only[List.set_cons_succ,Zhc];omega
theorem ZnI (l:List Dfn) (d:Dfn):Zat (Zy l d).1<=Zat l+bdD d+1:=by
 unfold Zy;split
 ·unfold ZW Zat;split
  ·have:=ZlU d l (Zk l d.name).toNat;simp only[List.length_set];omega
  ·simp only[List.length_append,ZfH,Zhc,ZoU,List.length_cons,List.length_nil];omega
 ·unfold Zat;simp
def mkD (d:Dfn) (k:Nat):Dfn:=⟨d.name,d.op,d.a,d.b,mkM d.value k⟩
theorem Zrr {F:Nat->Prop} {d:Dfn} (k:Nat) (h:OD w F v d) (hb:bdD d+k<=4294967296):Calls Tryz.prog 28 #[v,Yv Yi k] w fun e w'=>
  e= .returned (Yv Yi ((k+ZpI d:Nat):Int))/\OD w' F v (mkD d k)/\Keep (fun g=> ¬ F g) w w':=by
 obtain ⟨a,n,c,rfl,h1,h2,h3,ho⟩:=h;have hl:d.value.cells.length=n:=by simpa using h1.len
 subst hl;unfold bdD at hb;obtain ⟨w1,hw1,hG1,hB1, -⟩:=al1 w #[.string d.name,Yv Yi d.op, .string d.a, .string d.b,Yv Yi d.value.rows,Yv Yi d.value.cols, .slice a d.value.cells.length c] 30;obtain ⟨⟨z0,z1,z2,z3,z4,z5,z6⟩, -⟩:=hB1.seven;have Hw1:=hid hw1;clear hw1;go_enter Tryz.func28,Tryz.ntmps28;go_wp2_with fail;rw[←Hw1.out];have hom:OM w1 F (.agg #[Yv Yi d.value.rows,Yv Yi d.value.cols, .slice a d.value.cells.length c]) d.value:=⟨a,_,c,rfl,h1.grow hG1,h2,h3,ho.2.2.2.2.1,ho.2.2.2.2.2⟩;refine (Zrl k hom (by unfold bdM;omega)).mono ?_;rintro e w2 ⟨rfl,⟨a',n',c',e1,o1,x1,f1,r1,k1⟩,hK⟩;have e2:Value.slice a d.value.cells.length c=Value.slice a' n' c':=by simpa [mkM] using e1
 have hv:OD w2 F (.agg #[.string d.name,Yv Yi d.op, .string d.a, .string d.b,Yv Yi d.value.rows,Yv Yi d.value.cols, .slice a d.value.cells.length c]) (mkD d k):=⟨a',n',c',by rw[e2];rfl,o1,x1,f1,ho⟩;clear e1 e2 o1 x1 f1;go_wp2;go_ret;exact ⟨rfl,hv,(hG1.mono fun _ _ _=>trivial).trans hK⟩
def bdR (r:Rs):Nat:=(rsM r).cells.length
def Zdk (l:List Rs):Nat:=(l.map bdR).sum
def ZcR (l:List Rs):Nat:=l.length+Zdk l
@[simp] theorem ZrV:Zdk []=0:=rfl
@[simp] theorem Zov (d:Rs) (l:List Rs):Zdk (d::l)=bdR d+Zdk l:=by simp[Zdk]
theorem Zh1 (l r:List Rs):Zdk (l++r)=Zdk l+Zdk r:=by simp[Zdk]
theorem ZmX (h:l[k]? =some d):Zdk (l.take (k+1))=Zdk (l.take k)+bdR d/\Zdk (l.take k)+bdR d<=Zdk l:=by
 have h1:Zdk (l.take (k+1))=Zdk (l.take k)+bdR d:=by rw[ZC h,Zh1];simp
 refine ⟨h1, ?_⟩;rw[←h1]
 conv=>rhs;rw[←List.take_append_drop (k+1) l]
 rw[Zh1];omega
def szR (left:Int) (d:Rs):Int:=if left<bdR d then -1 else left-bdR d
def ZfM (left:Int):List Rs->Int
 |[]=>left
 |d::r=>if left<bdR d then -1 else ZfM (left-bdR d) r
def ZhA (left:Int) (l:List Rs):Int:=if left<l.length then -1 else ZfM (left-l.length) l
theorem ZqG: ∀ {left:Int},0<=ZfM left l->ZfM left l=left-Zdk l:=by
 induction l with
 |nil=>intro left _;simp[ZfM]
 |cons p r ih=>
  intro left h;unfold ZfM at h ⊢;by_cases hlt:left<bdR p
  ·rw[if_pos hlt] at h;omega
  ·rw[if_neg hlt] at h ⊢;rw[ih h];simp;omega
theorem ZpK (h:0<=ZhA left l):ZhA left l=left-ZcR l:=by
 unfold ZhA at h ⊢;unfold ZcR;by_cases hlt:left<l.length
 ·rw[if_pos hlt] at h;omega
 ·rw[if_neg hlt] at h ⊢;have:=ZqG h;omega
theorem ZjK (h:l[k]? =some d) (q:Int):ZfM q (l.drop k)=if q<bdR d then -1 else ZfM (q-bdR d) (l.drop (k+1)):=by
 obtain ⟨hk,h1⟩:=List.getElem?_eq_some_iff.1 h;rw[List.drop_eq_getElem_cons hk,h1];rfl
def OR (w:World) (F:Nat->Prop) (v:Value) (r:Rs):Prop:= ∃ a c,v= .agg #[Yv Yi (rsM r).rows,Yv Yi (rsM r).cols, .slice a (rsM r).cells.length c, .bool r.isSome]/\Own w 3 1 a (rsM r).cells.length c (ints (rsM r).cells)/\(∀ x∈(rsM r).cells,I64 x)/\(∀ g,blk a=some g->F g)/\ROk r
theorem ZrW (h:VRs w S v r) (h0:0<=left) (h1:left<=1048576):Calls Tryz.prog 50 #[v,Yv Yi left] w fun e w'=>e= .returned (Yv Yi (szR left r))/\Grow w w':=by
 obtain ⟨a,c,rfl,h,o5,o6⟩:=h;have hG:Grow w (w.alloc (.cells #[Yv Yi (rsM r).rows,Yv Yi (rsM r).cols, .slice a (rsM r).cells.length c, .bool r.isSome] 83)):=(Grow.refl w).alloc _ _;have hvm:VM (w.alloc (.cells #[Yv Yi (rsM r).rows,Yv Yi (rsM r).cols, .slice a (rsM r).cells.length c, .bool r.isSome] 83)) S (.agg #[Yv Yi (rsM r).rows,Yv Yi (rsM r).cols, .slice a (rsM r).cells.length c]) (rsM r):=⟨a,_,c,rfl,h.grow hG,o5,o6⟩;have e1:szR left r=szM left (rsM r):=rfl;rw[e1];by_cases q:left<(rsM r).cells.length
 ·have e2:szM left (rsM r)= -1:=by unfold szM szI;rw[if_pos q]
  rw[e2];go_enter Tryz.func50,Tryz.ntmps50;go_wp2_with fail;refine (ZnB hvm (by omega) (by omega)).mono ?_;rintro e w' ⟨rfl,hG2⟩;rw[e2];go_wp2;go_ret;exact ⟨rfl,hG.trans hG2⟩
 ·have e2:szM left (rsM r)=left-(rsM r).cells.length:=by unfold szM szI;rw[if_neg q]
  rw[e2];go_enter Tryz.func50,Tryz.ntmps50;go_wp2_with fail;refine (ZnB hvm (by omega) (by omega)).mono ?_;rintro e w' ⟨rfl,hG2⟩;rw[e2];go_wp2;go_ret;exact ⟨rfl,hG.trans hG2⟩
theorem ZrG (h:VRR w S v l) (h0:0<=left) (h1:left<=1048576):Calls Tryz.prog 23 #[v,Yv Yi left] w fun e w'=>e= .returned (Yv Yi (ZhA left l))/\Grow w w':=by
 obtain ⟨a,n,cap,rfl,h⟩:=h;have hl:=h.len;have hmax:n<=9223372036854775807:=by have h2:=h.cap_le;simp only[maxLen] at h2;omega
 by_cases hlt0:left<n
 ·go_enter Tryz.func23,Tryz.ntmps23;go_wp2;all_goals (go_ret;exact ⟨Zz (by unfold ZhA;rw[if_pos (by omega)]),Grow.refl _⟩)
 ·skip
  go_enter Tryz.func23,Tryz.ntmps23;go_wp2;go_loopw [1,5] (fun q i wr=>Grow w wr/\ ∃ (k:Nat) (l':Int),k<=n/\i=Yv Yi k/\q=Yv Yi l'/\0<=l'/\l'<=1048576/\ZfM l' (l.drop k)=ZhA left l) (fun _ i _=>n-(intOf i).toNat);case atStart=>exact ⟨Grow.refl _,0,left-n,Nat.zero_le _,rfl,rfl,by omega,by omega,by unfold ZhA;rw[if_neg (by omega),hl];rfl⟩
  case round=>
   obtain ⟨hG,k,q,hk,rfl,rfl,hl0,hl1,he⟩:=hrel;have He:=hid he;clear he;by_cases hlt:k<n
   ·obtain ⟨b,off,d,a1,c1,rfl,hx,_,hbw,⟨e0,e1,e2,e3⟩,r1,ho⟩:=(h.grow hG).at hlt;have Hx:=hid hx;clear hx;go_wp2_with fail;refine (ZrW (r:=d) (left:=q) ⟨_,_,rfl,r1,ho⟩ hl0 hl1).mono ?_;rintro e w1 ⟨rfl,hG1⟩;unfold szR;by_cases hlt2:q<bdR d
    ·rw[if_pos hlt2];go_wp2;go_ret;exact ⟨Zz (by rw[←He.out,ZjK Hx.out,if_pos hlt2]),hG.trans hG1⟩
    ·rw[if_neg hlt2];go_wp2;go_roundw;case rel=>exact ⟨hG.trans hG1,k+1,q-bdR d,by omega,by go_num,rfl,by omega,by omega,by rw[←He.out,ZjK Hx.out,if_neg (by omega)]⟩
     case measure=>simp[intOf];omega
   ·go_wp2;go_ret;have:k=n:=(by omega);subst this;refine ⟨Zz ?_,hG⟩;rw[←He.out, ←hl];simp[ZfM]
theorem Zr5 (h:VRs w S v r) (hb:bdR r<=1048576):Calls Tryz.prog 52 #[v] w fun e w'=> ∃ v',e= .returned v'/\OR w' (New w w') v' r/\Grow w w':=by
 obtain ⟨a,c,rfl,h,o5,o6⟩:=h;unfold bdR at hb;obtain ⟨w0,hw0,hG0, -, -, -, -⟩:=al3 w #[Yv Yi (rsM r).rows,Yv Yi (rsM r).cols, .slice a (rsM r).cells.length c, .bool r.isSome] 83 #[Yv Yi 0,Yv Yi 0, .slice none 0 0, .bool false] 39 #[Yv Yi 0,Yv Yi 0, .slice none 0 0, .bool false] 39;have hs0:w0.heap.size=w.heap.size+3:=by rw[hw0];simp
 have b1:Blk w0 w.heap.size #[Yv Yi (rsM r).rows,Yv Yi (rsM r).cols, .slice a (rsM r).cells.length c, .bool r.isSome] 83:=by rw[hw0];exact ((Blk.new _ _ _).alloc _).alloc _
 have b2:Blk w0 (w.heap.size+1) #[Yv Yi 0,Yv Yi 0, .slice none 0 0, .bool false] 39:=by rw[hw0];exact (Blk.newAt _ _ _ (by simp)).alloc _
 have b3:Blk w0 (w.heap.size+1+1) #[Yv Yi 0,Yv Yi 0, .slice none 0 0, .bool false] 39:=by rw[hw0];exact Blk.newAt _ _ _ (by simp)
 have hvm:VM w0 S (.agg #[Yv Yi (rsM r).rows,Yv Yi (rsM r).cols, .slice a (rsM r).cells.length c]) (rsM r):=⟨a,_,c,rfl,h.grow hG0,o5,o6⟩;have Hw0:=hid hw0;clear hw0;go_enter Tryz.func52,Tryz.ntmps52;go_wp2_with fail;rw[←Hw0.out];refine (Zrj hvm (by unfold bdM;omega)).mono ?_;rintro e w1 ⟨v',rfl,⟨am,nm,cm,rfl,om,xm,fm,rm,km⟩,hG1⟩;have hnm:(rsM r).cells.length=nm:=by simpa using om.len
 subst hnm;have hs1:=hG1.size;have B1:=b1.grow hG1;have B2:=b2.grow hG1;have B3:=b3.grow hG1;obtain ⟨⟨-, -, -,x3⟩, -⟩:=B1.four';have hx1:=B1.lt;obtain ⟨⟨p0,p1,p2,p3⟩,pf3⟩:=B3.four';have pf0:=B3.free 0;have pf1:=B3.free 1;have pf2:=B3.free 2;obtain ⟨⟨q0,q1,q2,q3⟩,qf3⟩:=B2.four';have qf0:=B2.free 0;have qf1:=B2.free 1;have qf2:=B2.free 2;have hl2:=B2.lt;have hl3:=B3.lt;go_wp2;have hBf:=(((((((B2.other (p:=⟨w.heap.size+1+1,0,none⟩) (by simp) (Yv Yi (rsM r).rows)).other (p:=⟨w.heap.size+1+1,1,none⟩) (by simp) (Yv Yi (rsM r).cols)).other (p:=⟨w.heap.size+1+1,2,none⟩) (by simp) (.slice am (rsM r).cells.length cm)).other (p:=⟨w.heap.size+1+1,3,none⟩) (by simp) (.bool r.isSome)).set 0 (Yv Yi (rsM r).rows)).set 1 (Yv Yi (rsM r).cols)).set 2 (.slice am (rsM r).cells.length cm)).set 3 (.bool r.isSome);have hK:Keep (fun g=>g≠w.heap.size+1+1/\g≠w.heap.size+1) w1 _:=((((((((Keep.refl _ w1).setCell (p:=⟨w.heap.size+1+1,0,none⟩) (by simp) (Yv Yi (rsM r).rows)).setCell (p:=⟨w.heap.size+1+1,1,none⟩) (by simp) (Yv Yi (rsM r).cols)).setCell (p:=⟨w.heap.size+1+1,2,none⟩) (by simp) (.slice am (rsM r).cells.length cm)).setCell (p:=⟨w.heap.size+1+1,3,none⟩) (by simp) (.bool r.isSome)).setCell (p:=⟨w.heap.size+1,0,none⟩) (by simp) (Yv Yi (rsM r).rows)).setCell (p:=⟨w.heap.size+1,1,none⟩) (by simp) (Yv Yi (rsM r).cols)).setCell (p:=⟨w.heap.size+1,2,none⟩) (by simp) (.slice am (rsM r).cells.length cm)).setCell (p:=⟨w.heap.size+1,3,none⟩) (by simp) (.bool r.isSome);have hom:=om.keep hK (fun g hg _=>by have:=fm g hg;simp only[New] at this;omega);refine ZE Za2 rfl rfl rfl hBf ⟨_,rfl,⟨am,cm,rfl,hom,xm,fun g hg=>⟨by have:=fm g hg;simp only[New] at this;omega,hom.lt hg⟩,o5,o6⟩,(hG0.trans hG1).keep hK (fun i hi=>by omega)⟩
theorem ZkV (n:Nat):(madeCells #[Value.int .i64 0,Yv Yi 0, .slice none 0 0, .bool false] (n*4)).toList=ZaQ (List.replicate n rs0) (List.replicate n (.slice none 0 0)):=by
 refine List.ext_getElem? fun i=> ?_;by_cases hi:i<n*4
 ·obtain ⟨k,j,hj,rfl⟩: ∃ k j,j<4/\i=k*4+j:=⟨i/4,i%4,Nat.mod_lt _ (by omega),by omega⟩;have hk:k<n:=by omega
  rw[Zcq (r:=rs0) (s:= .slice none 0 0) (by simp[hk]) (by simp[hk]) hj];have e:(k*4+j)%4=j:=by omega
  unfold madeCells;simp only[Array.toList_map,Array.toList_range,List.getElem?_map,List.getElem?_range hi,Option.map_some];simp only[show (#[Value.int .i64 0,Yv Yi 0, .slice none 0 0, .bool false]:Array Value).size=4 from rfl,e]
  match j,hj with
  |0,_=>rfl
  |1,_=>rfl
  |2,_=>rfl
  |3,_=>rfl
 ·rw[List.getElem?_eq_none (by simp[madeCells];omega),List.getElem?_eq_none (by rw[Ze6 (by simp)];simp;omega)]
theorem Own.rat (h:Own w e 4 (some p) n cap (ZaQ L ss)) (hd:L[k]? =some r) (hs:ss[k]? =some s):RAt w p.block (k*4) r s:=by
 have key: ∀ j v,j<4->(ZaF r s)[j]? =some v->w.cell? ⟨p.block,k*4+j,none⟩=some v:=fun j v hj hv=>h.cell (by rw[Zcq hd hs hj];exact hv);exact ⟨key 0 _ (by omega) rfl,key 1 _ (by omega) rfl,key 2 _ (by omega) rfl,key 3 _ (by omega) rfl⟩
theorem Own.rset (h:Own w e 4 (some p) n cap (ZaQ L ss)) (hl:ss.length=L.length) (hk:k<L.length):
  Own ((((w.setCell ⟨p.block,k*4,none⟩ (Yv Yi (rsM r).rows)).setCell ⟨p.block,k*4+1,none⟩ (Yv Yi (rsM r).cols)).setCell ⟨p.block,k*4+2,none⟩ s).setCell ⟨p.block,k*4+3,none⟩ (.bool r.isSome)) e 4 (some p) n cap (ZaQ (L.set k r) (ss.set k s)):=by
 rw[←Zfc hl hk];exact (((h.set _ _).set _ _).set _ _).set _ _
theorem Zkx (h:VRR w S v l) (hb:ZcR l<=1048576):Calls Tryz.prog 25 #[v] w fun e w'=> ∃ v',e= .returned v'/\ORR w' (New w w') v' l/\Grow w w':=by
 obtain ⟨a,n,cap,rfl,h⟩:=h;have hl:=h.len;unfold ZcR at hb;have hn:n<=1048576:=by omega
 have hmk:=T_ress.make (n:=n) (by omega) (by unfold maxLen;omega);have Hl:=hid hl;clear hl;go_enter Tryz.func25,Tryz.ntmps25;go_wp2;go_loopw [4] (fun i wr=> ∃ (k:Nat) (ss:List Value),k<=n/\i=Yv Yi k/\Grow w wr/\ss.length=k/\w.heap.size<wr.heap.size/\Own wr 39 4 (some ⟨w.heap.size,0,none⟩) n n (ZaQ (l.take k++List.replicate (n-k) rs0) (ss++List.replicate (n-k) (.slice none 0 0)))/\Inner wr (New w wr) (some w.heap.size) ss (ZaA (l.take k))) (fun i _=>n-(intOf i).toNat);case atStart=>refine ⟨0,[],Nat.zero_le _,rfl,(Grow.refl w).alloc _ _,rfl,by simp, ?_,Inner.nilw⟩;have:=Own.fresh (w:=w) (e:=39) (sz:=4) (cs:=madeCells #[Yv Yi 0,Yv Yi 0, .slice none 0 0, .bool false] (n*4)) (n:=n) (by unfold maxLen;omega) (by simp[madeCells]);rw[ZkV] at this;simpa using this
 case round=>
  obtain ⟨k,ss,hk,rfl,hG,hvl,hsz,hO,hI⟩:=hrel;have Hvl:=hid hvl;clear hvl;by_cases hlt:k<n
  ·obtain ⟨b,off,d,a1,c1,rfl,hx,_,hbw,⟨e0,e1,e2,e3⟩,r1,ho⟩:=(h.grow hG).at hlt;have htot:=(ZmX hx).2;have Hx:=hid hx;clear hx;go_wp2_with fail;refine (Zr5 (r:=d) ⟨_,_,rfl,r1,ho⟩ (by omega)).mono ?_;rintro e w1 ⟨v',rfl,⟨am,cm,rfl,om,xm,fm,hok⟩,hG1⟩;have hs1:=hG1.size;have hO':=hO.grow hG1;have hI':=hI.grow hG1;have hlk:(l.take k).length=k:=(by simp;have:=Hl.out;omega);have hz1:(l.take k++List.replicate (n-k) rs0)[k]? =some rs0:=ZfX hlk hlt;have hz2:=ZfX (z:=Value.slice none 0 0) Hvl.out hlt;obtain ⟨g0,g1,g2,g3⟩:=hO'.rat hz1 hz2;have f0:=hO'.free (k*4);have f1:=hO'.free (k*4+1);have f2:=hO'.free (k*4+2);have f3:=hO'.free (k*4+3);simp only at f0 f1 f2 f3 g0 g1 g2 g3;have Hlk:=hid hlk;clear hz1 hz2 hlk;go_wp2;go_roundw;case rel=>
    have hO2:=hO'.rset (k:=k) (r:=d) (s:= .slice am (rsM d).cells.length cm) (by simp[Hvl.out,Hlk.out]) (by simp[Hlk.out];omega);rw[Zfh Hlk.out hlt,Zfh Hvl.out hlt, ←ZC Hx.out] at hO2;have hw':Keep (fun q=>q≠w.heap.size) w1 _:=((((Keep.refl _ w1).setCell (p:=⟨w.heap.size,k*4,none⟩) (fun _ e=>e rfl) (Yv Yi (rsM d).rows)).setCell (p:=⟨w.heap.size,k*4+1,none⟩) (fun _ e=>e rfl) (Yv Yi (rsM d).cols)).setCell (p:=⟨w.heap.size,k*4+2,none⟩) (fun _ e=>e rfl) (.slice am (rsM d).cells.length cm)).setCell (p:=⟨w.heap.size,k*4+3,none⟩) (fun _ e=>e rfl) (.bool d.isSome)
    have h1:=(hI'.weak (G:=New w w1) (g':=some w.heap.size) fun b hb hF hne=>⟨⟨hF.1,by have:=hF.2;omega⟩,hne⟩).snoc om xm (fun q hq=>⟨⟨by have:=(fm q hq).1;omega,om.lt hq⟩,by have:=(fm q hq).1;intro e;simp at e;omega⟩)
     (fun q hq v hv hvq=>by have:=(hI.lt hv hvq).1;have:=(fm q hq).1;omega)
    refine ⟨k+1,ss++[.slice am (rsM d).cells.length cm],by omega,by go_num,(hG.trans hG1).keep hw' (fun i hi=>by omega),by simp[Hvl.out],by simp;omega,hO2, ?_⟩;rw[ZC Hx.out,Zhx];exact (h1.keep hw' (fun b _ _ hne e=>hne (by rw[e]))).weak fun b hb hF hne=>⟨⟨hF.1,by simpa using hF.2⟩,hne⟩
   case measure=>simp[intOf];omega
  ·go_wp2;go_ret;have:k=n:=(by omega);subst this;rw[ZI Hl.out,Nat.sub_self] at hO;rw[ZI Hl.out] at hI;refine ⟨_,rfl,⟨_,_,_,rfl,⟨⟨ss,by simpa using hO,hI⟩,Hl.out,h.ok,fun g hg=> ?_⟩⟩,hG⟩;simp at hg;subst hg;exact ⟨Nat.le_refl _,hsz⟩

end Go.Proofs.YtgeoehnbpkediaaGreat

namespace Go.Proofs.YtgeoehnbpkediaaGreat
set_option maxRecDepth 100000
open Go.ChangeShapes Go.WideShapes Go.ChangeAt Go.RowKit
theorem ZrK {α:Type} {cs:List α} (h:cs.length=4): ∃ c0 c1 c2 c3,cs=[c0,c1,c2,c3]:=by
 match cs,h with
 |[c0,c1,c2,c3],_=>exact ⟨c0,c1,c2,c3,rfl⟩
theorem ZrH {α:Type} {cs:List α} (h:cs.length=2): ∃ c0 c1,cs=[c0,c1]:=by
 match cs,h with
 |[c0,c1],_=>exact ⟨c0,c1,rfl⟩
section
variable {H:Type} {enc:TypeId×Value->H} {w:World}
theorem ZiE:Tryz.prog.cellsOf 83=4:=by kernel_rfl
theorem ZnA:Tryz.prog.cellsOf 4=1:=by kernel_rfl
theorem ZpX {P:Program} {t tm:TypeId} {f0 f1:Field} {fuel:Nat} {cs:List Value} {x:DataW H×List MemPlace} (hu:P.underlying t=some (.struct #[f0,f1])) (hc:P.cellsOf t=4)
  (t0:f0.type=tm) (t1:P.underlying f1.type=some .bool)
  (hm: ∀ {fuel:Nat} {cs:List Value} {x:DataW H×List MemPlace},DataW.trod enc P w 0 (fun _=>true) true fuel tm cs=some x-> ∃ r k a n c xs,cs=[.int .i64 r, .int .i64 k, .slice a n c]/\RdI w (fun _=>True) a n c xs/\I64 r/\I64 k)
  (o0:f0.offset=0) (o1:f1.offset=3) (c0:P.cellsOf f0.type=3) (c1:P.cellsOf f1.type=1)
  (h:DataW.trod enc P w 0 (fun _=>true) true fuel t cs=some x):
  ∃ d a n c,cs=ZaF d (.slice a n c)/\RdI w (fun _=>True) a n c (rsM d).cells/\ROk d:=by
 obtain ⟨xs,n,_,rfl,hl,hlen,hf⟩:=DataW.trod_struct hu h;obtain ⟨q0,q1,q2,q3,rfl⟩:=ZrK (hl.trans hc);obtain ⟨y0,y1,rfl⟩:=ZrH hlen;have h0:=hf 0 f0 rfl;have h1:=hf 1 f1 rfl;rw[o0,c0,t0] at h0;rw[o1,c1] at h1;obtain ⟨r,k,a,n,c,xs,e0,hr,w4,w5⟩:=hm h0;obtain ⟨b,e1,_⟩:=DataW.trod_bool t1 h1;simp at e0 e1;obtain ⟨rfl,rfl,rfl⟩:=e0;subst e1;exact ⟨⟨⟨r,k,xs⟩,b⟩,a,n,c,rfl,hr,w4,w5⟩
theorem Zro {fuel:Nat} {cs:List Value} {x:DataW H×List MemPlace} (h:DataW.trod enc Tryz.prog w 0 (fun _=>true) true fuel 83 cs=some x):
  ∃ d a n c,cs=ZaF d (.slice a n c)/\RdI w (fun _=>True) a n c (rsM d).cells/\ROk d:=
 ZpX Tryz.underlying83 ZiE rfl Tryz.underlying4 ZoE rfl rfl Zhj ZnA h
theorem ZqM {α β:Type} [Inhabited α] [Inhabited β] {n:Nat} {p:Nat->α->β->Prop} (h: ∀ i,i<n-> ∃ a b,p i a b): ∃ f:Nat->α×β, ∀ i,i<n->p i (f i).1 (f i).2:=Zmn h
instance:Inhabited Rs:=⟨rs0⟩
theorem ZlT (f:Nat->Value×Rs): ∀ k,(ZaQ ((List.range k).map fun i=>(f i).2) ((List.range k).map fun i=>(f i).1)).length=k*4:=fun k=>by rw[Ze6 (by simp)];simp
theorem ZqC {r:Reach} {b0:Nat} {v:Value} {d:DataW H} {ps:List MemPlace} (hval:Value.okWide Tryz.prog w r b0 50 v) (h:DataW.Trod enc Tryz.prog w 0 (fun _=>true) true 50 v d ps):
  ∃ a n cap l,v= .slice a n cap/\RdR w (fun _=>True) a n cap l:=by
 obtain ⟨fuel,hf⟩:=h;obtain ⟨a0,len,cap,rfl⟩:=okWide_slice Tryz.underlying50 hval;rcases DataW.trod_slice Tryz.underlying50 hf with ⟨hcs,_⟩|⟨a,len',cap',elems,rest,m,_,hcs,_,_,hl,hm,hlen,hel,_,_⟩
 ·simp[Value.cells] at hcs;obtain ⟨rfl,rfl,rfl⟩:=hcs;exact ⟨none,0,0,[],rfl,⟨[],rfl,⟨rfl,Nat.le_refl _,by simp[maxLen],fun _=>rfl,fun h=>(h rfl).elim⟩,RdCells.nilw⟩,rfl,fun _ h=>by cases h⟩
 ·simp[Value.cells] at hcs;obtain ⟨rfl,rfl,rfl⟩:=hcs;have each: ∀ i,i<len-> ∃ (s:Value) (d:Rs),(∀ j c,(ZaF d s)[j]? =some c->w.cell? (a.add (i*4+j))=some c)/\(∃ b cp,s= .slice b (rsM d).cells.length cp/\RdI w (fun _=>True) b (rsM d).cells.length cp (rsM d).cells)/\ROk d:=by intro i hi;have h1':=hel i hi;rw[List.getElem?_eq_getElem (by omega),ZiE] at h1';obtain ⟨cs,h2,h3⟩:=Option.bind_eq_some_iff.1 h1';obtain ⟨-,h5⟩:=ZjO h2;obtain ⟨d,b,n,cp,rfl,hr,ho⟩:=Zro h3;have e1:=hr.len;subst e1;exact ⟨.slice b (rsM d).cells.length cp,d,fun j c hj=>by rw[←Zjx];exact h5 j c hj,⟨b,cp,rfl,hr⟩,ho⟩
  obtain ⟨f,hf'⟩:=ZqM each;refine ⟨some a,len,cap,(List.range len).map fun i=>(f i).2,rfl,⟨(List.range len).map fun i=>(f i).1,by simp,⟨ZlT f len,hl,hm,(fun h=>by cases h),fun hne=> ?_⟩,fun i xs hi=> ?_⟩,by simp,fun d hd=> ?_⟩
  ·have hlen:0<len:=by
    rcases Nat.eq_zero_or_pos len with h0|h0
    ·subst h0;simp[ZaQ] at hne
    ·exact h0
   have h0:=(hf' 0 hlen).1 0 _ rfl;have hs:a.spot=none:=(by simpa [Addr.add] using World.cell?_spot h0);obtain ⟨b,off,spot⟩:=a;simp only at hs;subst hs;refine ⟨b,off,rfl,trivial,fun j c hj=> ?_⟩;have hjl:j<len*4:=(by rw[←ZlT f len];exact (List.getElem?_eq_some_iff.1 hj).1);have e2: ∀ q,(⟨b,off,none⟩:Addr).add q=⟨b,off+q,none⟩:=fun q=>(by unfold Addr.add;split<;>simp_all);obtain ⟨k,q,hq,rfl⟩: ∃ k q,q<4/\j=k*4+q:=⟨j/4,j%4,Nat.mod_lt _ (by omega),by omega⟩;have hk:k<len:=(by omega);rw[Zcq (r:=(f k).2) (s:=(f k).1) (Zcp hk) (Zcp hk) hq] at hj;rw[←e2];exact (hf' k hk).1 q c hj
  ·unfold ZaA at hi;rw[List.map_map] at hi;obtain ⟨hil,rfl⟩:=Zj4 hi;obtain ⟨b,cp,h1,h2⟩:=(hf' i hil).2.1;exact ⟨b,cp,by rw[Zcp hil,h1];rfl,h2⟩
  ·obtain ⟨i,hi,rfl⟩:=List.mem_map.1 hd;exact (hf' i (by simpa using hi)).2.2
end
end Go.Proofs.YtgeoehnbpkediaaGreat
