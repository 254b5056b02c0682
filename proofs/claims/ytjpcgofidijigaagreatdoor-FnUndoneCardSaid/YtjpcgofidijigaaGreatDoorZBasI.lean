/- Rows of a matrix: split, taken, put together. -/
import Derived.Test.YtjpcgofidijigaaGreatDoorZHermJ
set_option maxHeartbeats 8000000
set_option maxRecDepth 100000
namespace Go.Proofs.YtjpcgofidijigaaGreatDoor
open Go.RowKit
open Lib (hid)
open Go.Value renaming int->Yv
open Go.IntKind renaming i64->Yi
variable {C R c ca cu i k n na nu:Nat} {S:Nat->Prop} {a u:Option Addr} {cells m xs ys:List Int} {s:HS} {w w' w0:World}
theorem Row.bAt6 {e:TypeId} {sz g:Nat} {cs:Array Value} (n:Nat) (hg:g=w.heap.size) (hn:n<=maxLen) (hs:cs.size=n*sz) (hS: ∀ b,S b):Row (w.alloc (.cells cs e)) S sz (some ⟨g,0,none⟩) n n cs.toList:=by
 subst hg;exact Row.built n hn hs (hS _)
theorem ZdT (hl:m.length=R*C) (hi:i<R):(Z6 m C i).length=C:=by
 have:=Zci hl hi;unfold Z6;simp;omega
theorem ZhP (hl:m.length=R*C) (hi:i<R) (hk:k<C):(Z6 m C i)[k]? =some (cell m C i k):=by
 have:=Zci hl hi;unfold Z6 cell;rw[List.getElem?_take,if_pos hk,List.getElem?_drop];simp[List.getD,List.getElem?_eq_getElem (show i*C+k<m.length by omega)]
theorem ZqN (hl:m.length=R*C) (hi:i<R):ZdX (Z6 m C i)= !nzB m C i:=by
 cases h:nzB m C i with
 |true=>obtain ⟨k,hk,hne⟩:=Zdg.1 h;exact ZiG (ZhP hl hi hk) (by simpa using hne)
 |false=>
  refine Zfe fun x hx=> ?_;obtain ⟨k,hk,rfl⟩:=List.mem_iff_getElem.1 hx;have hkC:k<C:=by rw[ZdT hl hi] at hk;exact hk
  have h1:=ZhP hl hi hkC;rw[List.getElem?_eq_getElem hk] at h1;rw[Option.some.inj h1];by_cases e:cell m C i k=0
  ·simp[e]
  ·rw[Zdg.2 ⟨k,hkC,e⟩] at h;cases h
theorem Zjw (a:Option Addr) (n cp C R i:Nat) (m:List Int) (w:World) (h:RdI w S a n cp m) (hl:m.length=R*C) (hi:i<R) (hR:R<=24) (hC:C<=24):
  Calls Tryz.prog 72 #[.agg #[Yv Yi R,Yv Yi C, .slice a n cp],Yv Yi i] w fun e w'=> ∃ a1 c1,e= .returned (.slice a1 C c1)/\RdI w' S a1 C c1 (Z6 m C i)/\Grow w w':=by
 have hnl:=h.len;have hle:=h.row.le;have hri:=Zci hl hi;have u1:=ZdU (i:=i) (c:=C) (by omega) (by omega);have u3:IntKind.i64.wrap (((i:Int)+1)*C)=((i:Int)+1)*C:=by have:=ZdU (i:=i+1) (c:=C) (by omega) (by omega);simpa using this
 have r:=T_ints.atLH (a:=a) (n:=n) (cap:=cp) (l:=i*C) (k:=i*C+C) (i:=(i:Int)*C) (j:=((i:Int)+1)*C) (by simp) (by rw[Int.add_mul];simp) (by omega) (by omega);have rs:=h.sub (l:=i*C) (k:=i*C+C) (by omega) (by omega);rw[show i*C+C-i*C=C by omega] at r rs;have Hl:=hid hl;have Hnl:=hid hnl;clear hl hnl hri;have hG:=(Grow.refl w).alloc #[Yv Yi (R:Int),Yv Yi (C:Int), .slice a n cp] 34;go_enter Tryz.func72,Tryz.ntmps72;go_wp2;go_ret;exact ⟨_,_,rfl,rs.grow hG,hG⟩
theorem RdCells.one1 {a1:Option Addr} {n1 c1:Nat} {x:List Int} (h1:RdI w S a1 n1 c1 x):RdCells w S [.slice a1 n1 c1] [x]:=fun i xs hi=>by
 have e1:=h1.len;subst e1
 match i,hi with
 |0,hi=>simp at hi;subst hi;exact ⟨a1,c1,rfl,h1⟩
theorem ZnY (a:Option Addr) (n cap:Nat) (l:List (List Int)) (C:Int) (w:World) (h:RdII w S a n cap l) (hn:n<=1000) (ht:total l<=100000):
  Calls Tryz.prog 195 #[.slice a n cap,Yv Yi C] w fun e w'=> ∃ a' c',e= .returned (.agg #[Yv Yi n,Yv Yi C, .slice a' (total l) c'])/\Own w' 3 1 a' (total l) c' (ints l.flatten)/\(∀ q,blk a'=some q->w.heap.size<=q)/\Grow w w':=by
 have Hl:=hid h.len;obtain ⟨w3,hw3,hG3,bZ, -, -, -⟩:=al3 w #[Yv Yi 0,Yv Yi 0, .slice none 0 0] 34 #[] 3 #[Yv Yi (n:Int),Yv Yi C, .slice (some ⟨w.heap.size+1,0,none⟩) 0 0] 34;have oE:Own w3 3 1 (some ⟨w.heap.size+1,0,none⟩) 0 0 []:=by rw[hw3];exact (Own.freshAt (cs:= #[]) (by simp) (by unfold maxLen;omega) rfl).grow ((Grow.refl _).alloc _ _)
 have bM:Blk w3 (w.heap.size+1+1) #[Yv Yi (n:Int),Yv Yi C, .slice (some ⟨w.heap.size+1,0,none⟩) 0 0] 34:=by rw[hw3];exact Blk.newAt _ _ _ (by simp)
 have Hw3:=hid hw3;clear hw3;go_enter Tryz.func195,Tryz.ntmps195;go_wp2;rw[←Hw3.out];go_loopw [15] (fun q wr=>Grow w wr/\ ∃ (k c1:Nat) (a1:Option Addr),k<=n/\q=Yv Yi k/\Blk wr w.heap.size #[Yv Yi 0,Yv Yi 0, .slice none 0 0] 34/\Blk wr (w.heap.size+1+1) #[Yv Yi (n:Int),Yv Yi C, .slice a1 (total (l.take k)) c1] 34/\Own wr 3 1 a1 (total (l.take k)) c1 (ints (l.take k).flatten)/\(∀ q,blk a1=some q->w.heap.size<q/\q≠w.heap.size+1+1)) (fun q _=>n-(intOf q).toNat);case atStart=>exact ⟨hG3,0,0,_,Nat.zero_le _,rfl,bZ,bM,oE,fun q hq=>by simp at hq;omega⟩
 case round=>
  clear hG3 bZ bM oE Hw3;obtain ⟨hG,k,c1,a1,hk,rfl,bZ,bM,hO,hlo⟩:=hrel;have hltM:=bM.lt;by_cases hlt:k<n
  ·obtain ⟨b,off,xs,sa,sc,rfl,hx,_,hbw,hc,rd⟩:=(h.grow hG).at hlt;have htt:=Ze9 hx;have hta:=ZqL hx;have Hfl:=hid (show (l.take (k+1)).flatten=(l.take k).flatten++xs by rw[ZH hx,List.flatten_append];simp);have Hx:=hid hx;clear hx;have Htt:=hid htt;clear htt;obtain ⟨⟨m0,m1,m2⟩, -⟩:=bM.three;have nM:blk a1≠some (w.heap.size+1+1):=fun e=>(hlo _ e).2 rfl;have nZ:blk a1≠some w.heap.size:=fun e=>(by have:=(hlo _ e).1;omega);go_wp2_with (first |(at_builtin;refine Zx rfl (.tmp 20) (.tmp 21) _ rfl T_ints rfl hO rfl rd.row (Zc9 _) (by omega) (by unfold maxLen;omega) ?_;intro a3 c3 w4 hA4;obtain ⟨⟨z0,z1,z2⟩,g0,g1,g2⟩:=(bM.keep hA4.keep nM).three));have hG4:Grow w w4:=hA4.grow hG (fun q hq=>Nat.le_of_lt (hlo q hq).1);have hlo4: ∀ q,blk a3=some q->w.heap.size<q/\q≠w.heap.size+1+1:=fun q hq=>by
    rcases hA4.new with e|⟨q',e,hq'⟩
    ·rw[e] at hq;exact hlo q hq
    ·rw[e] at hq;obtain rfl:=Option.some.inj hq;have:=hG.size;omega
   have bZ4:=bZ.keep hA4.keep nZ;have bM4:=bM.keep hA4.keep nM;have hO4:=hA4.own;rw[show ints (l.take k).flatten++ints xs=ints (l.take (k+1)).flatten by rw[Hfl.out];simp[ints], ←Htt.out] at hO4;have hKs:Keep (fun q=>q≠w.heap.size+1+1) w4 (w4.setCell ⟨w.heap.size+1+1,2,none⟩ (.slice a3 (total (l.take k)+xs.length) c3)):=(Keep.refl _ w4).setCell (p:=⟨w.heap.size+1+1,2,none⟩) (fun _ e=>e rfl) _;have bM5:=bM4.set 2 (.slice a3 (total (l.take k)+xs.length) c3);have hO5:=hO4.keep hKs (fun q hq _ e=>(hlo4 q hq).2 e);have bZ5:=bZ4.keep hKs (by omega);have hG5:=hG4.keep hKs (fun q hq=>by omega);have Hb5:=hid (show Blk (w4.setCell ⟨w.heap.size+1+1,2,none⟩ (.slice a3 (total (l.take k)+xs.length) c3)) (w.heap.size+1+1) #[Yv Yi (n:Int),Yv Yi C, .slice a3 (total (l.take (k+1))) c3] 34 by rw[Htt.out];exact bM5);clear hA4 hO4 bM4 bZ4 bM5 hO m0 m1 m2;go_wp2;go_roundw;case rel=>exact ⟨hG5,k+1,c3,a3,by omega,by go_num,bZ5,Hb5.out,hO5,hlo4⟩
   case measure=>simp[intOf];omega
  ·have hkn:k=n:=(by omega);subst hkn;rw[Z7 Hl.out] at bM hO;obtain ⟨⟨m0,m1,m2⟩, -⟩:=bM.three;obtain ⟨⟨z0,z1,z2⟩,g0,g1,g2⟩:=bZ.three;have hltZ:=bZ.lt;have hKs:Keep (fun q=>q≠w.heap.size) wr (((wr.setCell ⟨w.heap.size,0,none⟩ (Yv Yi (k:Int))).setCell ⟨w.heap.size,1,none⟩ (Yv Yi C)).setCell ⟨w.heap.size,2,none⟩ (.slice a1 (total l) c1)):=
    (((Keep.refl _ wr).setCell (fun _ e=>e rfl) _).setCell (fun _ e=>e rfl) _).setCell (fun _ e=>e rfl) _
   go_wp2;exact ZF Zc rfl rfl rfl (((bZ.set 0 _).set 1 _).set 2 _) ⟨a1,c1,rfl,hO.keep hKs (fun q hq _ e=>by have:=(hlo q hq).1;omega),(fun q hq=>Nat.le_of_lt (hlo q hq).1),hG.keep hKs (fun q hq=>by omega)⟩
def ZdN (l:List Nat):List Int:=l.map Int.ofNat
structure Pair (w0 w:World) (a u:Option Addr) (na nu ca cu:Nat) (xs ys:List Int):Prop where
 oa:Own w 3 1 a na ca (ints xs)
 ou:Own w 3 1 u nu cu (ints ys)
 ne: ∀ q,blk a=some q->blk u≠some q
 la: ∀ q,blk a=some q->w0.heap.size<=q
 lu: ∀ q,blk u=some q->w0.heap.size<=q
theorem Pair.grow (h:Pair w0 w a u na nu ca cu xs ys) (hk:Grow w w'):Pair w0 w' a u na nu ca cu xs ys:=⟨h.oa.grow hk,h.ou.grow hk,h.ne,h.la,h.lu⟩
theorem Pair.app {a':Option Addr} {n' c':Nat} {zs:List Int} (h:Pair w0 w a u na nu ca cu xs ys) (hA:Apped w w' 3 1 a a' n' c' (ints xs++ints zs)) (h0:w0.heap.size<=w.heap.size):Pair w0 w' a' u n' nu c' cu (xs++zs) ys:=
 ⟨by have := hA.own; rwa [show ints xs ++ ints zs = ints (xs ++ zs) by simp [ints]] at this, h.ou.keep hA.keep (fun q hq _ e => h.ne q e hq), fun q hq e => by
  rcases hA.new with e2|⟨g,e2,hg⟩
  ·rw[e2] at hq;exact h.ne q hq e
  ·rw[e2] at hq;obtain rfl:=Option.some.inj hq;have:=h.ou.lt e;omega,hA.lo h0 h.la,h.lu⟩
theorem Pair.swap (h:Pair w0 w a u na nu ca cu xs ys):Pair w0 w u a nu na cu ca ys xs:=⟨h.ou,h.oa,fun q hq e=>h.ne q e hq,h.lu,h.la⟩
theorem ZkE {f:Nat->Bool}:ZdN ((List.range (k+1)).filter f)=ZdN ((List.range k).filter f)++(if f k=true then [(k:Int)] else []):=by
 unfold ZdN;rw[List.range_succ,List.filter_append,List.map_append];congr 1;rw[List.filter_cons];split<;>simp
theorem Zmc {l:List Nat} (h: ∀ x∈l,x<=1000): ∀ x∈ZdN l,I64 x:=fun x hx=>by
 obtain ⟨y,hy,rfl⟩:=List.mem_map.1 hx;have:=h y hy;unfold I64;simp;omega
theorem Zh8 (a:Option Addr) (n cp C R:Nat) (m:List Int) (w:World) (h:RdI w S a n cp m) (hl:m.length=R*C) (hR:R<=24) (hC:C<=24):
  Calls Tryz.prog 169 #[.agg #[Yv Yi R,Yv Yi C, .slice a n cp]] w fun e w'=> ∃ a1 a2 n1 n2 c1 c2,e= .returned (.tuple #[.slice a1 n1 c1, .slice a2 n2 c2])/\Pair w w' a1 a2 n1 n2 c1 c2 (ZdN ((List.range R).filter (nzB m C))) (ZdN ((List.range R).filter fun i=> !nzB m C i))/\Grow w w':=by
 obtain ⟨w3,hw3,hG3,bM, -, -, -⟩:=al3 w #[Yv Yi (R:Int),Yv Yi (C:Int), .slice a n cp] 34 #[] 3 #[] 3;have o1:Own w3 3 1 (some ⟨w.heap.size+1,0,none⟩) 0 0 []:=by rw[hw3];exact (Own.freshAt (cs:= #[]) (by simp) (by unfold maxLen;omega) rfl).grow ((Grow.refl _).alloc _ _)
 have o2:Own w3 3 1 (some ⟨w.heap.size+1+1,0,none⟩) 0 0 []:=by rw[hw3];exact Own.freshAt (cs:= #[]) (by simp) (by unfold maxLen;omega) rfl
 have hP0:Pair w w3 (some ⟨w.heap.size+1,0,none⟩) (some ⟨w.heap.size+1+1,0,none⟩) 0 0 0 0 [] []:=⟨o1,o2,fun q hq e=>by simp at hq e;omega,fun q hq=>by simp at hq;omega,fun q hq=>by simp at hq;omega⟩;have Hw3:=hid hw3;clear hw3 o1 o2;go_enter Tryz.func169,Tryz.ntmps169;go_wp2;rw[←Hw3.out];go_loopw [4,5,6] (fun u v q wr=>Grow w wr/\Blk wr w.heap.size #[Yv Yi (R:Int),Yv Yi (C:Int), .slice a n cp] 34/\ ∃ (k n1 n2 c1 c2:Nat) (a1 a2:Option Addr),k<=R/\q=Yv Yi k/\u= .slice a1 n1 c1/\v= .slice a2 n2 c2/\n1<=k/\n2<=k/\Pair w wr a1 a2 n1 n2 c1 c2 (ZdN ((List.range k).filter (nzB m C))) (ZdN ((List.range k).filter fun i=> !nzB m C i))/\(∀ q,blk a1=some q->q≠w.heap.size)/\(∀ q,blk a2=some q->q≠w.heap.size)) (fun _ _ q _=>R-(intOf q).toNat);case atStart=>exact ⟨hG3,bM,0,0,0,0,0,_,_,Nat.zero_le _,rfl,rfl,rfl,Nat.le_refl _,Nat.le_refl _,hP0,fun q hq=>by simp at hq;omega,fun q hq=>by simp at hq;omega⟩
 case round=>
  clear hG3 bM hP0 Hw3;obtain ⟨hG,bM,k,n1,n2,c1,c2,a1,a2,hk,rfl,rfl,rfl,hn1,hn2,hP,h1,h2⟩:=hrel;obtain ⟨⟨m0,m1,m2⟩, -⟩:=bM.three;have hltM:=bM.lt;by_cases hlt:k<R
  ·go_wp2_with fail;refine (Zjw a n cp C R k m _ (h.grow hG) hl hlt hR hC).mono ?_;rintro e w4 ⟨sa,sc,rfl,rr,hG4⟩;go_wp2_with fail;refine (ZmP sa C sc (Z6 m C k) _ rr (by omega)).mono ?_;rintro e _ ⟨rfl,rfl⟩;rw[ZqN hl hlt];have bM4:=bM.grow hG4;have hP4:=(hP.grow hG4).grow ((Grow.refl w4).alloc #[Yv Yi (k:Int)] 3);have hGw:=hG.trans hG4;have hGa:=hGw.alloc #[Yv Yi (k:Int)] 3;have bM5:=bM4.grow ((Grow.refl w4).alloc #[Yv Yi (k:Int)] 3);have hsa:=hGa.size;have s1:=ZkE (f:=nzB m C) (k:=k);have s2:=ZkE (f:=fun i=> !nzB m C i) (k:=k);have hltM4:w.heap.size<w4.heap.size:=(by have:=hG4.size;omega);cases hz:nzB m C k with
   |true=>
    rw[hz,if_pos rfl] at s1;rw[show (!nzB m C k)=false by rw[hz];rfl,if_neg (by simp),List.append_nil] at s2;have S1:=hid s1;have S2:=hid s2;clear s1 s2 hz;go_wp2_with (first |(at_builtin;refine Zx rfl (.tmp 23) (.tmp 25) _ rfl T_ints rfl hP4.oa rfl (Row.bAt6 (S:=fun _=>True) 1 rfl (by unfold maxLen;omega) rfl (fun _=>trivial)) (by simp[Value.oneCell']) (by omega) (by unfold maxLen;omega) ?_;intro a3 c3 w6 hA6));have hP6:=Pair.app (zs:=[(k:Int)]) hP4 hA6 hsa;rw[←S1.out, ←S2.out] at hP6;have hG6:=hA6.grow hGa hP4.la;have bM6:=bM5.keep hA6.keep (fun e=>h1 _ e rfl);have h16: ∀ q,blk a3=some q->q≠w.heap.size:=fun q hq=>by
     rcases hA6.new with e|⟨q',e,hq'⟩
     ·rw[e] at hq;exact h1 q hq
     ·rw[e] at hq;obtain rfl:=Option.some.inj hq;have:=bM5.lt;omega
    clear hA6;go_wp2;go_roundw;case rel=>exact ⟨hG6,bM6,k+1,n1+1,n2,c3,c2,a3,a2,by omega,by go_num,rfl,rfl,by omega,by omega,hP6,h16,h2⟩
    case measure=>simp[intOf];omega
   |false=>
    rw[hz,if_neg (by simp),List.append_nil] at s1;rw[show (!nzB m C k)=true by rw[hz];rfl,if_pos rfl] at s2;have S1:=hid s1;have S2:=hid s2;clear s1 s2 hz;go_wp2_with (first |(at_builtin;refine Zx rfl (.tmp 19) (.tmp 21) _ rfl T_ints rfl hP4.ou rfl (Row.bAt6 (S:=fun _=>True) 1 rfl (by unfold maxLen;omega) rfl (fun _=>trivial)) (by simp[Value.oneCell']) (by omega) (by unfold maxLen;omega) ?_;intro a3 c3 w6 hA6));have hP6:=(Pair.app (zs:=[(k:Int)]) hP4.swap hA6 hsa).swap;rw[←S1.out, ←S2.out] at hP6;have hG6:=hA6.grow hGa hP4.lu;have bM6:=bM5.keep hA6.keep (fun e=>h2 _ e rfl);have h26: ∀ q,blk a3=some q->q≠w.heap.size:=fun q hq=>by
     rcases hA6.new with e|⟨q',e,hq'⟩
     ·rw[e] at hq;exact h2 q hq
     ·rw[e] at hq;obtain rfl:=Option.some.inj hq;have:=bM5.lt;omega
    clear hA6;go_wp2;go_roundw;case rel=>exact ⟨hG6,bM6,k+1,n1,n2+1,c1,c3,a1,a3,by omega,by go_num,rfl,rfl,by omega,by omega,hP6,h1,h26⟩
    case measure=>simp[intOf];omega
  ·have hkr:k=R:=(by omega);subst hkr;go_wp2
   go_ret2
   exact ⟨_,_,_,_,_,_,rfl,hP,hG⟩
theorem Zjk {m:List Int} {C R:Nat} (hl:m.length=R*C): ∀ {js:List Nat},(∀ x∈js,x<R)->total (js.map (Z6 m C))=js.length*C
 |[],_=>by simp[total]
 |j::js,h=>by have h1:=ZdT hl (h j (by simp));have h2:=Zjk hl (js:=js) fun x hx=>h x (by simp[hx]);rw[List.map_cons,Zni,h1,h2,List.length_cons,Nat.add_mul];omega
theorem Zi0 (a b:Option Addr) (n cp nb cb C R:Nat) (m:List Int) (js:List Nat) (w:World) (h:RdI w S a n cp m) (hl:m.length=R*C) (hR:R<=24) (hC:C<=24) (hj:RdI w (fun _=>True) b nb cb (ZdN js)) (hjs: ∀ x∈js,x<R) (hjl:js.length<=24):
  Calls Tryz.prog 171 #[.agg #[Yv Yi R,Yv Yi C, .slice a n cp], .slice b nb cb] w fun e w'=> ∃ a' c',e= .returned (.agg #[Yv Yi nb,Yv Yi C, .slice a' (nb*C) c'])/\Own w' 3 1 a' (nb*C) c' (ints (js.map (Z6 m C)).flatten)/\(∀ q,blk a'=some q->w.heap.size<=q)/\Grow w w':=by
 have hnb:js.length=nb:=by have:=hj.len;unfold ZdN at this;simpa using this
 have Htr:=hid (Zjk hl hjs);have Hnb:=hid hnb;have hnb24:nb<=24:=by omega
 clear hnb hjl;obtain ⟨w3,hw3,hG3,bM,bZ, -, -⟩:=al3 w #[Yv Yi (R:Int),Yv Yi (C:Int), .slice a n cp] 34 #[Yv Yi 0,Yv Yi 0, .slice none 0 0] 34 #[] 32;have o1:Own w3 32 1 (some ⟨w.heap.size+1+1,0,none⟩) 0 0 []:=by rw[hw3];exact Own.freshAt (cs:= #[]) (by simp) (by unfold maxLen;omega) rfl
 have Hw3:=hid hw3;clear hw3;go_enter Tryz.func171,Tryz.ntmps171;go_wp2;rw[←Hw3.out];go_loopw [5,11] (fun u q wr=>Grow w wr/\Blk wr w.heap.size #[Yv Yi (R:Int),Yv Yi (C:Int), .slice a n cp] 34/\Blk wr (w.heap.size+1) #[Yv Yi 0,Yv Yi 0, .slice none 0 0] 34/\ ∃ (k c1:Nat) (a1:Option Addr) (vs:List Value),k<=nb/\q=Yv Yi k/\u= .slice a1 k c1/\Own wr 32 1 a1 k c1 vs/\(∀ q,blk a1=some q->w.heap.size+1<q)/\RdCells wr (fun q=>q<w.heap.size/\S q) vs ((js.take k).map (Z6 m C))) (fun _ q _=>nb-(intOf q).toNat);case atStart=>exact ⟨hG3,bM,bZ,0,0,_,[],Nat.zero_le _,rfl,rfl,o1,fun q hq=>by simp at hq;omega,RdCells.nilw⟩
 case round=>
  clear hG3 bM bZ o1 Hw3;obtain ⟨hG,bM,bZ,k,c1,a1,vs,hk,rfl,rfl,hO,hlo,hCe⟩:=hrel;obtain ⟨⟨m0,m1,m2⟩, -⟩:=bM.three;have hltM:=bM.lt;have hltZ:=bZ.lt;by_cases hlt:k<nb
  ·obtain ⟨bb,off,x,rfl,hx,hxr,_,hbw,hc⟩:=(hj.grow hG).at hlt;obtain ⟨jn,hjn,rfl⟩: ∃ jn,js[k]? =some jn/\x=(jn:Int):=(by unfold ZdN at hx;rw[List.getElem?_map] at hx;obtain ⟨jn,h1,h2⟩:=Option.map_eq_some_iff.1 hx;exact ⟨jn,h1,h2.symm⟩);have hjR:=hjs jn (List.mem_of_getElem? hjn);have hm2:=(h.weak (T:=fun q=>q<w.heap.size/\S q) fun q hq hb=>⟨hq,hb⟩).grow hG;have Hjn:=hid (show (js.take (k+1)).map (Z6 m C)=(js.take k).map (Z6 m C)++[Z6 m C jn] by rw[ZH hjn];simp);have hrl:=ZdT hl hjR;clear hx hjn;go_wp2_with fail;refine (Zjw a n cp C R jn m _ hm2 hl hjR hR hC).mono ?_;rintro e w4 ⟨sa,sc,rfl,rr,hG4⟩;have hGa:=(Grow.refl w4).alloc #[.slice sa C sc] 32;have hO4:=(hO.grow hG4).grow hGa;have hC4:=(hCe.grow hG4).grow hGa;have rr4:=rr.grow hGa;have hvl:vs.length=((js.take k).map (Z6 m C)).length:=(by have:=hO.len;have:=Hnb.out;simp at *;omega);have bM4:=(bM.grow hG4).grow hGa;have bZ4:=(bZ.grow hG4).grow hGa;have hG5:=(hG.trans hG4).trans hGa;have hs5:=bZ4.lt;clear m0 m1 m2 hO hCe rr;go_wp2_with (first |(at_builtin;refine Zx rfl (.tmp 15) (.tmp 19) _ rfl ZjO rfl hO4 rfl (Row.bAt6 (S:=fun _=>True) 1 rfl (by unfold maxLen;omega) rfl (fun _=>trivial)) (by simp[Value.oneCell']) (by omega) (by unfold maxLen;omega) ?_;intro a3 c3 w6 hA6));have hC6:=(hC4.append (RdCells.one1 rr4) hvl).keep hA6.keep (fun q _ hb e=>by have:=hlo q e;have:=hb.1;omega);rw[←Hjn.out] at hC6;have hO6:=hA6.own;have hG6:=hA6.grow hG5 (fun q hq=>by have:=hlo q hq;omega);have bM6:=bM4.keep hA6.keep (fun e=>by have:=hlo _ e;omega);have bZ6:=bZ4.keep hA6.keep (fun e=>by have:=hlo _ e;omega);have hlo6: ∀ q,blk a3=some q->w.heap.size+1<q:=fun q hq=>by
    rcases hA6.new with e|⟨q',e,hq'⟩
    ·rw[e] at hq;exact hlo q hq
    ·rw[e] at hq;obtain rfl:=Option.some.inj hq;omega
   clear hA6;go_wp2;go_roundw;case rel=>exact ⟨hG6,bM6,bZ6,k+1,c3,a3,_,by omega,by go_num,rfl,hO6,hlo6,hC6⟩
   case measure=>simp[intOf];omega
  ·have hkn:k=nb:=(by omega);subst hkn;rw[Z7 Hnb.out] at hCe;have hRd:RdII wr (fun _=>True) a1 k c1 (js.map (Z6 m C)):=⟨⟨vs,hO.row (fun _ _=>trivial),hCe.weak fun _ _ _=>trivial⟩,by have:=Hnb.out;simpa using this⟩;have hkC:k*C<=24*24:=Nat.mul_le_mul hnb24 hC;have htl:total (js.map (Z6 m C))=k*C:=(by rw[Htr.out,Hnb.out]);go_wp2_with fail;refine (ZnY a1 k c1 (js.map (Z6 m C)) (C:Int) _ hRd (by omega) (by omega)).mono ?_;rintro e w4 ⟨a',c',rfl,hO',hlo',hG4⟩;rw[htl] at hO' ⊢;have bZ4:=bZ.grow hG4;obtain ⟨⟨z0,z1,z2⟩,g0,g1,g2⟩:=bZ4.three;have hGw:=hG.trans hG4;have hsw:=hG.size;have hKs:Keep (fun q=>q≠w.heap.size+1) w4 (((w4.setCell ⟨w.heap.size+1,0,none⟩ (Yv Yi (k:Int))).setCell ⟨w.heap.size+1,1,none⟩ (Yv Yi (C:Int))).setCell ⟨w.heap.size+1,2,none⟩ (.slice a' (k*C) c')):=
    (((Keep.refl _ w4).setCell (fun _ e=>e rfl) _).setCell (fun _ e=>e rfl) _).setCell (fun _ e=>e rfl) _
   go_wp2;exact ZF Zc rfl rfl rfl (((bZ4.set 0 _).set 1 _).set 2 _) ⟨a',c',rfl,hO'.keep hKs (fun q hq _ e=>by have:=hlo' q hq;omega),(fun q hq=>by have:=hlo' q hq;omega),hGw.keep hKs (fun q hq=>by omega)⟩
def ZeL (m:Mat):Bool:=Zhb m
def ZdK (m:Mat):Mat:=match Zbs m with
 |some s=>{rows:=Zar s.1 m.cols.toNat m.rows.toNat,cols:=m.cols,cells:=s.1.take (Zar s.1 m.cols.toNat m.rows.toNat*m.cols.toNat)}
 |none=>{rows:=0,cols:=0,cells:=[]}
theorem ZlG (m:List Int) (C:Nat): ∀ n,Zar m C n<=n
 |0=>Nat.le_refl _
 |n+1=>by have:=ZlG m C n;simp only[Zar];split<;>omega
theorem Zhf {m:Mat} (h:Zbs m=none):ZeL m=false/\ZdK m={rows:=0,cols:=0,cells:=[]}:=by
 unfold ZeL ZdK;rw[h];exact ⟨(ZnP h).1,rfl⟩
theorem Ze7 (hB:Ze {rows:=(R:Int),cols:=(C:Int),cells:=cells}=true):Zbs {rows:=(R:Int),cols:=(C:Int),cells:=cells}=Zb7 cells R C:=by
 unfold Zbs;rw[hB];rfl
theorem Zpd (hB:Ze {rows:=(R:Int),cols:=(C:Int),cells:=cells}=true) (h:Zb7 cells R C=some s):
  ZeL {rows:=(R:Int),cols:=(C:Int),cells:=cells}=true/\ZdK {rows:=(R:Int),cols:=(C:Int),cells:=cells}={rows:=(Zar s.1 C R:Nat),cols:=(C:Int),cells:=s.1.take (Zar s.1 C R*C)}:=by
 have h1:=Ze7 hB;rw[h] at h1;unfold ZeL ZdK;rw[h1];exact ⟨(Znm h1).1,rfl⟩
theorem Zou (hl:cells.length=R*C) (hm:NumL cells) (h:Zb7 cells R C=some s):
  Zar s.1 C R<=R/\(List.range R).filter (nzB s.1 C)=List.range (Zar s.1 C R)/\((List.range (Zar s.1 C R)).map (Z6 s.1 C)).flatten=s.1.take (Zar s.1 C R*C):=by
 obtain ⟨hs,t,ht,hE⟩:=Zdf hl hm h;have e:=ZiB hE R (Nat.le_refl _) ht;rw[e];exact ⟨ht,Zqi hE ht,Zhj (by rw[hs.la];exact Nat.mul_le_mul_right _ ht)⟩
theorem Zpl {m:Mat} {mr mc:Int} (hVM:VM w S (.agg #[Yv Yi mr,Yv Yi mc, .slice a n c]) m) (hb:bdM m<=1048576) (hB:Ze m=false):
  Calls Tryz.prog 170 #[.agg #[Yv Yi mr,Yv Yi mc, .slice a n c]] w fun e w'=> ∃ r,e= .returned (.tuple #[r, .bool (ZeL m)])/\OM w' (New w w') r (ZdK m)/\Grow w w':=by
 have Hz:=hid (Zhf (m:=m) (by unfold Zbs;rw[hB];rfl));obtain ⟨w3,hw3,hG, -,bR, -⟩:=al2 w #[Yv Yi mr,Yv Yi mc, .slice a n c] 34 #[Yv Yi 0,Yv Yi 0, .slice none 0 0] 34;have Hw3:=hid hw3;clear hw3;go_enter Tryz.func170,Tryz.ntmps170;go_wp2_with fail;rw[←Hw3.out];refine (Zfx (hVM.grow hG) hb hB).mono ?_;rintro e w4 ⟨rfl,hG4⟩;have hZ1:=((Grow.refl w4).alloc #[Yv Yi 0,Yv Yi 0, .slice none 0 0] 34).alloc #[Yv Yi 0,Yv Yi 0, .slice none 0 0] 34;have bR5:=(bR.grow hG4).grow hZ1;have hltR:w.heap.size+1<w4.heap.size:=(bR.grow hG4).lt;have hG5:=(hG.trans hG4).trans hZ1;obtain ⟨⟨a0,a1,a2⟩,f0,f1,f2⟩:=bR5.three;have h1:w.heap.size<=w.heap.size+1:=by omega
 go_wp2;exact Zd Zc rfl rfl rfl (((bR5.set 0 _).set 1 _).set 2 _) ⟨_,by rw[Hz.out.1];rfl,by rw[Hz.out.2];exact OM.zero,((hG5.setCell h1 _).setCell h1 _).setCell h1 _⟩
theorem ZnK (h:RdI w S a n c cells) (hl:cells.length=R*C) (hnum:NumL cells) (hR:R<=24) (hC:C<=24):
  Calls Tryz.prog 170 #[.agg #[Yv Yi R,Yv Yi C, .slice a n c]] w fun e w'=> ∃ r,e= .returned (.tuple #[r, .bool (ZeL {rows:=(R:Int),cols:=(C:Int),cells:=cells})])/\OM w' (New w w') r (ZdK {rows:=(R:Int),cols:=(C:Int),cells:=cells})/\Grow w w':=by
 have hB:=Za9 hR hC hl hnum;obtain ⟨mr,hmr⟩: ∃ mr:Int,mr=R:=⟨_,rfl⟩;obtain ⟨mc,hmc⟩: ∃ mc:Int,mc=C:=⟨_,rfl⟩;have hb1:=fun s=>Zpd (s:=s) hB;have hb2:=fun hn:Zb7 cells R C=none=>Zhf (m:={rows:=(R:Int),cols:=(C:Int),cells:=cells}) (by rw[Ze7 hB];exact hn);have Hb1:=hid hb1;have Hb2:=hid hb2;clear hb1 hb2 hB;generalize hM:({rows:=(R:Int),cols:=(C:Int),cells:=cells}:Mat)=M at *;clear hM;rw[←hmr, ←hmc];obtain ⟨w3,hw3,hG, -,bR, -⟩:=al2 w #[Yv Yi mr,Yv Yi mc, .slice a n c] 34 #[Yv Yi 0,Yv Yi 0, .slice none 0 0] 34;have Hw3:=hid hw3;clear hw3;subst hmr;subst hmc;go_enter Tryz.func170,Tryz.ntmps170;go_wp2_with fail;rw[←Hw3.out];refine (Zhy (h.grow hG) hl hnum hR hC).mono ?_;rintro e w4 ⟨hG4,(⟨hn,rfl⟩|⟨s,aa,ca,au,cu,hs,rfl,rA,rU⟩)⟩
 ·have Hz:=hid (Hb2.out hn);clear hn;have hZ1:=((Grow.refl w4).alloc #[Yv Yi 0,Yv Yi 0, .slice none 0 0] 34).alloc #[Yv Yi 0,Yv Yi 0, .slice none 0 0] 34;have bR5:=(bR.grow hG4).grow hZ1;have hltR:w.heap.size+1<w4.heap.size:=(bR.grow hG4).lt;have hG5:=(hG.trans hG4).trans hZ1;obtain ⟨⟨a0,a1,a2⟩,f0,f1,f2⟩:=bR5.three;have h1:w.heap.size<=w.heap.size+1:=by omega
  go_wp2;exact Zd Zc rfl rfl rfl (((bR5.set 0 _).set 1 _).set 2 _) ⟨_,by rw[Hz.out.1];rfl,by rw[Hz.out.2];exact OM.zero,((hG5.setCell h1 _).setCell h1 _).setCell h1 _⟩
 ·have Hy:=hid (Hb1.out s hs);have hsp:=(Zdf hl hnum hs).1;obtain ⟨htR,hf1,hf2⟩:=Zou hl hnum hs;have hltR:w.heap.size+1<w4.heap.size:=(bR.grow hG4).lt;obtain ⟨w5,hw5,hG5,bH, -, -⟩:=al2 w4 #[Yv Yi (R:Int),Yv Yi (C:Int), .slice aa (R*C) ca] 34 #[Yv Yi (R:Int),Yv Yi (R:Int), .slice au (R*R) cu] 34;obtain ⟨⟨a0,a1,a2⟩, -⟩:=bH.three;rw[hw5] at a0 a1 a2;have Hw5:=hid hw5;clear hw5;have rA5:=rA.grow hG5;have bR5:=(bR.grow hG4).grow hG5;clear rA rU hs;go_wp2_with fail;rw[←Hw5.out];refine (Zh8 aa _ ca C R s.1 _ rA5 hsp.la hR hC).mono ?_;rintro e w6 ⟨a1',a2',n1,n2,c1,c2,rfl,hP,hG6⟩;rw[hf1] at hP;generalize Zar s.1 C R=t at *;have rI:=hP.oa.rdI (S:=fun _=>True) (fun _ _=>trivial) (Zmc (l:=List.range t) (fun x hx=>by have:=List.mem_range.1 hx;omega));have hn1:n1=t:=by have:=rI.len;unfold ZdN at this;simpa using this.symm
  subst hn1;have bH6:=bH.grow hG6;obtain ⟨⟨a0,a1,a2⟩, -⟩:=bH6.three;have rA6:=rA5.grow hG6;have bR6:=bR5.grow hG6;have hGt:=((hG.trans hG4).trans hG5).trans hG6;clear hP hf1;have hlt6:w.heap.size+1<w6.heap.size:=bR6.lt;go_wp2_with fail;refine (Zi0 aa a1' _ ca n1 c1 C R s.1 (List.range n1) _ rA6 hsp.la hR hC rI (fun x hx=>by have:=List.mem_range.1 hx;omega) (by simp;omega)).mono ?_;rintro e w7 ⟨a',c',rfl,hO7,hlo7,hG7⟩;rw[hf2] at hO7;have bR7:=bR6.grow hG7;have hs6:=hGt.size;obtain ⟨⟨b0,b1,b2⟩,f0,f1,f2⟩:=bR7.three;have hK9:Keep (fun q=>q≠w.heap.size+1) w7 (((w7.setCell ⟨w.heap.size+1,0,none⟩ (Yv Yi (n1:Int))).setCell ⟨w.heap.size+1,1,none⟩ (Yv Yi (C:Int))).setCell ⟨w.heap.size+1,2,none⟩ (.slice a' (n1*C) c')):=
   (((Keep.refl _ w7).setCell (fun _ e=>e rfl) _).setCell (fun _ e=>e rfl) _).setCell (fun _ e=>e rfl) _
  have hof:=hO7.keep hK9 (fun g hg _ e=>by have:=hlo7 g hg;omega);have hBf:=((bR7.set 0 (Yv Yi (n1:Int))).set 1 (Yv Yi (C:Int))).set 2 (.slice a' (n1*C) c');have hGf:=(hGt.trans hG7).keep hK9 fun q hq=>by omega
  go_wp2;refine Zd Zc rfl rfl rfl hBf ⟨_,by rw[Hy.out.1];rfl,by rw[Hy.out.2];exact ⟨a',n1*C,c',rfl,hof,fun x hx=>Zy hsp.na x (List.mem_of_mem_take hx),fun g hg=>⟨by have:=hlo7 g hg;omega,hof.lt hg⟩,by show I64 (n1:Int);unfold I64;omega,by show I64 (C:Int);unfold I64;omega⟩,hGf⟩
theorem Zoa {v:Value} {m:Mat} (h:VM w S v m) (hb:bdM m<=1048576):
  Calls Tryz.prog 170 #[v] w fun e w'=> ∃ r,e= .returned (.tuple #[r, .bool (ZeL m)])/\OM w' (New w w') r (ZdK m)/\Grow w w':=by
 have hVM:=h;obtain ⟨a,n,c,rfl,h,hr,hc⟩:=h;cases hB:Ze m with
 |false=>exact Zpl hVM hb hB
 |true=>obtain ⟨R,C,hmr,hmc,hR,hC,hl,hnum⟩:=Zn hB;obtain ⟨mr,mc,cells⟩:=m;simp only at hmr hmc hl hnum;subst hmr;subst hmc;exact ZnK h hl hnum hR hC

end Go.Proofs.YtjpcgofidijigaaGreatDoor
