/- Rows of a matrix: split, taken, put together. -/
import Derived.Test.YtgjefeiddfjjnaaGreatDoorZHermJ
set_option maxHeartbeats 8000000
set_option maxRecDepth 100000
namespace Go.Proofs.YtgjefeiddfjjnaaGreatDoor
open Go.RowKit
open Lib (hid)
open Go.Value renaming int->Yv
open Go.IntKind renaming i64->Yi
open List renaming append_nil->Ma,getElem?_eq_getElem->JR,mem_of_mem_take->L6,range->JN,range_succ->KV
open Nat renaming le_of_lt->KF,le_refl->JM,mul_le_mul->JL,mul_le_mul_right->K9,zero_le->JI
open Option.some renaming inj->JJ
open Go.Proofs.Tryz renaming func148->Oy,func270->Qi,ntmps148->Qh,ntmps270->Qj,prog->JG
open Go.Proofs.Tryz
variable {C R c ca cu i k n na nu:Nat} {S:Nat->Prop} {a u:Option Addr} {cells xs ys:List Int} {m:Mat} {mc mr:Int} {s:HS} {v:Value} {w w' w0:World}
theorem Row.bAt6 {e:TypeId} {sz g:Nat} {cs:Array Value} (n:Nat) (hg:g=w.heap.size) (hn:n<=maxLen) (hs:cs.size=n*sz) (hS: ∀ b,S b):Row (w.alloc (.cells cs e)) S sz (some ⟨g,0,none⟩) n n cs.toList:=by
 subst hg;exact Row.built n hn hs (hS _)
theorem Zea {m:List Int} (hl:m.length=R*C) (hi:i<R):(Zag m C i).length=C:=by
 have:=ZcJ hl hi;unfold Zag;simp;omega
theorem Zjq {m:List Int} (hl:m.length=R*C) (hi:i<R) (hk:k<C):(Zag m C i)[k]? =some (cell m C i k):=by
 have:=ZcJ hl hi;unfold Zag cell;rw[List.getElem?_take,if_pos hk,List.getElem?_drop];simp[List.getD,JR (show i*C+k<m.length by omega)]
theorem ZsW {m:List Int} (hl:m.length=R*C) (hi:i<R):Zfp (Zag m C i)= !nzB m C i:=by
 cases h:nzB m C i with
 |true=>obtain ⟨k,a,c⟩:=Zet.1 h;exact Zj5 (Zjq hl hi a) (by simpa using c)
 |false=>
  refine ZgH fun x f=> ?_;obtain ⟨k,a,rfl⟩:=List.mem_iff_getElem.1 f;have b:k<C:=by rw[Zea hl hi] at a;exact a
  have d:=Zjq hl hi b;rw[JR a] at d;rw[JJ d];by_cases e:cell m C i k=0
  ·simp[e]
  ·rw[Zet.2 ⟨k,b,e⟩] at h;cases h
theorem Zlq (a:Option Addr) (n cp C R i:Nat) (m:List Int) (w:World) (h:RdI w S a n cp m) (hl:m.length=R*C) (hi:i<R) (hR:R<=24) (hC:C<=24):
  Calls JG 33 #[.agg #[Yv Yi R,Yv Yi C, .slice a n cp],Yv Yi i] w fun e w'=> ∃ a1 c1,e= .returned (.slice a1 C c1)/\RdI w' S a1 C c1 (Zag m C i)/\Grow w w':=by
 have hnl:=h.len;have b:=h.row.le;have hri:=ZcJ hl hi;exact Gp
theorem RdCells.one1 {a1:Option Addr} {n1 c1:Nat} {x:List Int} (h1:RdI w S a1 n1 c1 x):RdCells w S [.slice a1 n1 c1] [x]:=fun i c a=>by
 have b:=h1.len;subst b
 match i,a with
 |0,a=>simp at a;subst a;exact ⟨a1,c1,rfl,h1⟩
theorem ZqG (a:Option Addr) (n cap:Nat) (l:List (List Int)) (C:Int) (w:World) (h:RdII w S a n cap l) (hn:n<=1000) (ht:total l<=100000):
  Calls JG 296 #[.slice a n cap,Yv Yi C] w fun e w'=> ∃ a' c',e= .returned (.agg #[Yv Yi n,Yv Yi C, .slice a' (total l) c'])/\Own w' 3 1 a' (total l) c' (ints l.flatten)/\(∀ q,blk a'=some q->w.heap.size<=q)/\Grow w w':=by
 have Hl:=hid h.len;obtain ⟨T,hw3,p,j, -, -, -⟩:=al3 w #[Yv Yi 0,Yv Yi 0, .slice none 0 0] 37 #[] 3 #[Yv Yi (n:Int),Yv Yi C, .slice (some ⟨w.heap.size+1,0,none⟩) 0 0] 37;have V:Own T 3 1 (some ⟨w.heap.size+1,0,none⟩) 0 0 []:=Ch
 have f:Blk T (w.heap.size+1+1) #[Yv Yi (n:Int),Yv Yi C, .slice (some ⟨w.heap.size+1,0,none⟩) 0 0] 37:=Ba
 have r:=hid hw3;clear hw3;go_enter func296,ntmps296;go_wp2;rw[←r.out];go_loopw [15] (fun q wr=>Grow w wr/\ ∃ (k s:Nat) (g:Option Addr),k<=n/\q=Yv Yi k/\Blk wr w.heap.size #[Yv Yi 0,Yv Yi 0, .slice none 0 0] 37/\Blk wr (w.heap.size+1+1) #[Yv Yi (n:Int),Yv Yi C, .slice g (total (l.take k)) s] 37/\Own wr 3 1 g (total (l.take k)) s (ints (l.take k).flatten)/\(∀ q,blk g=some q->w.heap.size<q/\q≠w.heap.size+1+1)) (fun q _=>n-(intOf q).toNat);case atStart=>exact ⟨p,0,0,_,JI _,rfl,j,f,V,fun q hq=>ψ⟩
 case round=>
  clear p j f V r;obtain ⟨E,k,s,g,hk,rfl,j,f,F,hlo⟩:=hrel;have W:=f.lt;by_cases H:k<n
  ·obtain ⟨b,ab,t,sa,sc,rfl,v,_,ad,hc,rd⟩:=(h.grow E).at H;have x:=Zgs v;have ae:=Zuo v;have J:=hid (show (l.take (k+1)).flatten=(l.take k).flatten++t by rw[ZH v,List.flatten_append];simp);have Hx:=hid v;clear v;have y:=hid x;clear x;obtain ⟨⟨X,Y,Z⟩, -⟩:=f.three;have nM:blk g≠some (w.heap.size+1+1):=fun e=>(hlo _ e).2 rfl;have nZ:blk g≠some w.heap.size:=fun e=>Bl;go_wp2_with (first |(at_builtin;refine ZD rfl (.tmp 20) (.tmp 21) _ rfl T_ints rfl F rfl rd.row (ZdE _) I Γ ?_;intro o z G c;obtain ⟨⟨z0,z1,z2⟩,g0,g1,g2⟩:=(f.keep c.keep nM).three));have L:Grow w G:=c.grow E (fun q hq=>KF (hlo q hq).1);have i: ∀ q,blk o=some q->w.heap.size<q/\q≠w.heap.size+1+1:=fun q hq=>by
    rcases c.new with e|⟨q',e,af⟩
    ·rw[e] at hq;exact hlo q hq
    ·rw[e] at hq;obtain rfl:=JJ hq;have:=E.size;omega
   have A:=j.keep c.keep nZ;have B:=f.keep c.keep nM;have m:=c.own;rw[show ints (l.take k).flatten++ints t=ints (l.take (k+1)).flatten by rw[J.out];simp[ints], ←y.out] at m;have d:Keep (fun q=>q≠w.heap.size+1+1) G (G.setCell ⟨w.heap.size+1+1,2,none⟩ (.slice o (total (l.take k)+t.length) z)):=kS;have D:=B.set 2 (.slice o (total (l.take k)+t.length) z);have M:=m.keep d (fun q hq _ e=>(i q hq).2 e);have N:=A.keep d I;have O:=L.keep d (fun q hq=>I);have P:=hid (show Blk (G.setCell ⟨w.heap.size+1+1,2,none⟩ (.slice o (total (l.take k)+t.length) z)) (w.heap.size+1+1) #[Yv Yi (n:Int),Yv Yi C, .slice o (total (l.take (k+1))) z] 37 by rw[y.out];exact D);clear c m B A D F X Y Z;go_wp2;go_roundw;case rel=>exact ⟨O,k+1,z,o,I,Δ,N,P.out,M,i⟩
   case measure=>exact FN
  ·have R:k=n:=I;subst R;rw[Z5 Hl.out] at f F;obtain ⟨⟨X,Y,Z⟩, -⟩:=f.three;obtain ⟨⟨z0,z1,z2⟩,g0,g1,g2⟩:=j.three;have aa:=j.lt;have d:Keep (fun q=>q≠w.heap.size) wr (((wr.setCell ⟨w.heap.size,0,none⟩ (Yv Yi (k:Int))).setCell ⟨w.heap.size,1,none⟩ (Yv Yi C)).setCell ⟨w.heap.size,2,none⟩ (.slice g (total l) s)):=
    kS
   go_wp2;exact Zx Zc rfl rfl rfl (((j.set 0 _).set 1 _).set 2 _) ⟨g,s,rfl,F.keep d (fun q hq _ e=>by have:=(hlo q hq).1;omega),(fun q hq=>KF (hlo q hq).1),E.keep d (fun q hq=>I)⟩
def Ze5 (l:List Nat):List Int:=l.map Int.ofNat
structure Pair (w0 w:World) (a u:Option Addr) (na nu ca cu:Nat) (xs ys:List Int):Prop where
 oa:Own w 3 1 a na ca (ints xs)
 ou:Own w 3 1 u nu cu (ints ys)
 ne: ∀ q,blk a=some q->blk u≠some q
 la: ∀ q,blk a=some q->w0.heap.size<=q
 lu: ∀ q,blk u=some q->w0.heap.size<=q
theorem Pair.grow (h:Pair w0 w a u na nu ca cu xs ys) (hk:Grow w w'):Pair w0 w' a u na nu ca cu xs ys:=⟨h.oa.grow hk,h.ou.grow hk,h.ne,h.la,h.lu⟩
theorem Pair.app {a':Option Addr} {n' c':Nat} {zs:List Int} (h:Pair w0 w a u na nu ca cu xs ys) (hA:Apped w w' 3 1 a a' n' c' (ints xs++ints zs)) (h0:w0.heap.size<=w.heap.size):Pair w0 w' a' u n' nu c' cu (xs++zs) ys:=
 ⟨by have := hA.own; rwa [show ints xs ++ ints zs = ints (xs ++ zs) by simp [ints]] at this, h.ou.keep hA.keep (fun q b _ e => h.ne q e b), fun q b e => by
  rcases hA.new with c|⟨g,c,d⟩
  ·rw[c] at b;exact h.ne q b e
  ·rw[c] at b;obtain rfl:=JJ b;have:=h.ou.lt e;omega,hA.lo h0 h.la,h.lu⟩
theorem Pair.swap (h:Pair w0 w a u na nu ca cu xs ys):Pair w0 w u a nu na cu ca ys xs:=⟨h.ou,h.oa,fun q b e=>h.ne q e b,h.lu,h.la⟩
theorem ZmL {f:Nat->Bool}:Ze5 ((JN (k+1)).filter f)=Ze5 ((JN k).filter f)++(if f k=true then [(k:Int)] else []):=by
 unfold Ze5;rw[KV,List.filter_append,List.map_append];congr 1;rw[List.filter_cons];split<;>simp
theorem ZnI {l:List Nat} (h: ∀ x∈l,x<=1000): ∀ x∈Ze5 l,I64 x:=fun x a=>by
 obtain ⟨y,b,rfl⟩:=List.mem_map.1 a;have:=h y b;unfold I64;simp;omega
theorem ZjO (a:Option Addr) (n cp C R:Nat) (m:List Int) (w:World) (h:RdI w S a n cp m) (hl:m.length=R*C) (hR:R<=24) (hC:C<=24):
  Calls JG 269 #[.agg #[Yv Yi R,Yv Yi C, .slice a n cp]] w fun e w'=> ∃ a1 a2 n1 n2 c1 c2,e= .returned (.tuple #[.slice a1 n1 c1, .slice a2 n2 c2])/\Pair w w' a1 a2 n1 n2 c1 c2 (Ze5 ((JN R).filter (nzB m C))) (Ze5 ((JN R).filter fun i=> !nzB m C i))/\Grow w w':=by
 obtain ⟨F,hw3,y,r, -, -, -⟩:=al3 w #[Yv Yi (R:Int),Yv Yi (C:Int), .slice a n cp] 37 #[] 3 #[] 3;have o1:Own F 3 1 (some ⟨w.heap.size+1,0,none⟩) 0 0 []:=Ch
 have o2:Own F 3 1 (some ⟨w.heap.size+1+1,0,none⟩) 0 0 []:=Bg
 have z:Pair w F (some ⟨w.heap.size+1,0,none⟩) (some ⟨w.heap.size+1+1,0,none⟩) 0 0 0 0 [] []:=⟨o1,o2,fun q hq e=>by simp at hq e;omega,fun q hq=>ψ,fun q hq=>ψ⟩;have A:=hid hw3;clear hw3 o1 o2;go_enter func269,ntmps269;go_wp2;rw[←A.out];go_loopw [4,5,6] (fun u v q wr=>Grow w wr/\Blk wr w.heap.size #[Yv Yi (R:Int),Yv Yi (C:Int), .slice a n cp] 37/\ ∃ (k n1 n2 c1 c2:Nat) (a1 a2:Option Addr),k<=R/\q=Yv Yi k/\u= .slice a1 n1 c1/\v= .slice a2 n2 c2/\n1<=k/\n2<=k/\Pair w wr a1 a2 n1 n2 c1 c2 (Ze5 ((JN k).filter (nzB m C))) (Ze5 ((JN k).filter fun i=> !nzB m C i))/\(∀ q,blk a1=some q->q≠w.heap.size)/\(∀ q,blk a2=some q->q≠w.heap.size)) (fun _ _ q _=>R-(intOf q).toNat);case atStart=>exact ⟨y,r,0,0,0,0,0,_,_,JI _,rfl,rfl,rfl,JM _,JM _,z,fun q hq=>ψ,fun q hq=>ψ⟩
 case round=>
  clear y r z A;obtain ⟨G,r,k,n1,n2,c1,c2,a1,a2,hk,rfl,rfl,rfl,ab,ad,hP,H,J⟩:=hrel;obtain ⟨⟨m0,m1,m2⟩, -⟩:=r.three;have aa:=r.lt;by_cases B:k<R
  ·go_wp2_with fail;refine (Zlq a n cp C R k m _ (h.grow G) hl B hR hC).mono ?_;rintro e L ⟨sa,sc,rfl,rr,g⟩;go_wp2_with fail;refine (Zpi sa C sc (Zag m C k) _ rr I).mono ?_;rintro e _ ⟨rfl,rfl⟩;rw[ZsW hl B];have M:=r.grow g;have c:=(hP.grow g).grow ((Grow.refl L).alloc #[Yv Yi (k:Int)] 3);have N:=G.trans g;have l:=N.alloc #[Yv Yi (k:Int)] 3;have j:=M.grow ((Grow.refl L).alloc #[Yv Yi (k:Int)] 3);have D:=l.size;have s:=ZmL (f:=nzB m C) (k:=k);have t:=ZmL (f:=fun i=> !nzB m C i) (k:=k);have O:w.heap.size<L.heap.size:=(by have:=g.size;omega);cases x:nzB m C k with
   |true=>
    rw[x,if_pos rfl] at s;rw[show (!nzB m C k)=false by rw[x];rfl,if_neg Θ,Ma] at t;have P:=hid s;have T:=hid t;clear s t x;go_wp2_with (first |(at_builtin;refine ZD rfl (.tmp 23) (.tmp 25) _ rfl T_ints rfl c.oa rfl (Row.bAt6 (S:=fun _=>True) 1 rfl Γ rfl (fun _=>trivial)) γ I Γ ?_;intro E V w6 b));have d:=Pair.app (zs:=[(k:Int)]) c b D;rw[←P.out, ←T.out] at d;have o:=b.grow l c.la;have p:=j.keep b.keep (fun e=>H _ e rfl);have W: ∀ q,blk E=some q->q≠w.heap.size:=fun q hq=>by
     rcases b.new with e|⟨q',e,X⟩
     ·rw[e] at hq;exact H q hq
     ·rw[e] at hq;obtain rfl:=JJ hq;have:=j.lt;omega
    clear b;go_wp2;go_roundw;case rel=>exact ⟨o,p,k+1,n1+1,n2,V,c2,E,a2,I,Δ,rfl,rfl,I,I,d,W,J⟩
    case measure=>exact FN
   |false=>
    rw[x,if_neg Θ,Ma] at s;rw[show (!nzB m C k)=true by rw[x];rfl,if_pos rfl] at t;have P:=hid s;have T:=hid t;clear s t x;go_wp2_with (first |(at_builtin;refine ZD rfl (.tmp 19) (.tmp 21) _ rfl T_ints rfl c.ou rfl (Row.bAt6 (S:=fun _=>True) 1 rfl Γ rfl (fun _=>trivial)) γ I Γ ?_;intro E V w6 b));have d:=(Pair.app (zs:=[(k:Int)]) c.swap b D).swap;rw[←P.out, ←T.out] at d;have o:=b.grow l c.lu;have p:=j.keep b.keep (fun e=>J _ e rfl);have Y: ∀ q,blk E=some q->q≠w.heap.size:=fun q hq=>by
     rcases b.new with e|⟨q',e,X⟩
     ·rw[e] at hq;exact J q hq
     ·rw[e] at hq;obtain rfl:=JJ hq;have:=j.lt;omega
    clear b;go_wp2;go_roundw;case rel=>exact ⟨o,p,k+1,n1,n2+1,c1,V,a1,E,I,Δ,rfl,rfl,I,I,d,H,Y⟩
    case measure=>exact FN
  ·have Z:k=R:=I;subst Z;go_wp2
   go_ret2
   exact ⟨_,_,_,_,_,_,rfl,hP,G⟩
theorem ZkQ {m:List Int} {C R:Nat} (hl:m.length=R*C): ∀ {js:List Nat},(∀ x∈js,x<R)->total (js.map (Zag m C))=js.length*C
 |[],_=>by simp[total]
 |j::js,h=>by have h1:=Zea hl (h j Θ);have h2:=ZkQ hl (js:=js) fun x hx=>h x EC;rw[List.map_cons,ZqF,h1,h2,List.length_cons,Nat.add_mul];omega
theorem ZkT (a b:Option Addr) (n cp nb cb C R:Nat) (m:List Int) (js:List Nat) (w:World) (h:RdI w S a n cp m) (hl:m.length=R*C) (hR:R<=24) (hC:C<=24) (hj:RdI w (fun _=>True) b nb cb (Ze5 js)) (hjs: ∀ x∈js,x<R) (hjl:js.length<=24):
  Calls JG 271 #[.agg #[Yv Yi R,Yv Yi C, .slice a n cp], .slice b nb cb] w fun e w'=> ∃ a' c',e= .returned (.agg #[Yv Yi nb,Yv Yi C, .slice a' (nb*C) c'])/\Own w' 3 1 a' (nb*C) c' (ints (js.map (Zag m C)).flatten)/\(∀ q,blk a'=some q->w.heap.size<=q)/\Grow w w':=by
 have y:js.length=nb:=by have:=hj.len;unfold Ze5 at this;simpa using this
 have P:=hid (ZkQ hl hjs);have i:=hid y;have p:nb<=24:=I
 clear y hjl;obtain ⟨w3,hw3,z,s,t, -, -⟩:=al3 w #[Yv Yi (R:Int),Yv Yi (C:Int), .slice a n cp] 37 #[Yv Yi 0,Yv Yi 0, .slice none 0 0] 37 #[] 35;have o1:Own w3 35 1 (some ⟨w.heap.size+1+1,0,none⟩) 0 0 []:=Bg
 have A:=hid hw3;clear hw3;go_enter func271,ntmps271;go_wp2;rw[←A.out];go_loopw [5,11] (fun u q wr=>Grow w wr/\Blk wr w.heap.size #[Yv Yi (R:Int),Yv Yi (C:Int), .slice a n cp] 37/\Blk wr (w.heap.size+1) #[Yv Yi 0,Yv Yi 0, .slice none 0 0] 37/\ ∃ (k B:Nat) (v:Option Addr) (D:List Value),k<=nb/\q=Yv Yi k/\u= .slice v k B/\Own wr 35 1 v k B D/\(∀ q,blk v=some q->w.heap.size+1<q)/\RdCells wr (fun q=>q<w.heap.size/\S q) D ((js.take k).map (Zag m C))) (fun _ q _=>nb-(intOf q).toNat);case atStart=>exact ⟨z,s,t,0,0,_,[],JI _,rfl,rfl,o1,fun q hq=>ψ,RdCells.nilw⟩
 case round=>
  clear z s t o1 A;obtain ⟨E,s,t,k,B,v,D,hk,rfl,rfl,M,hlo,j⟩:=hrel;obtain ⟨⟨m0,m1,m2⟩, -⟩:=s.three;have ao:=s.lt;have ap:=t.lt;by_cases V:k<nb
  ·obtain ⟨bb,aq,x,rfl,N,ar,_,av,hc⟩:=(hj.grow E).at V;obtain ⟨l,r,rfl⟩: ∃ l,js[k]? =some l/\x=(l:Int):=(by unfold Ze5 at N;rw[List.getElem?_map] at N;obtain ⟨l,h1,h2⟩:=Option.map_eq_some_iff.1 N;exact ⟨l,h1,h2.symm⟩);have F:=hjs l (List.mem_of_getElem? r);have W:=(h.weak (T:=fun q=>q<w.heap.size/\S q) fun q hq X=>⟨hq,X⟩).grow E;have Y:=hid (show (js.take (k+1)).map (Zag m C)=(js.take k).map (Zag m C)++[Zag m C l] by rw[ZH r];simp);have aw:=Zea hl F;clear N r;go_wp2_with fail;refine (Zlq a n cp C R l m _ W hl F hR hC).mono ?_;rintro e O ⟨sa,sc,rfl,rr,c⟩;have f:=(Grow.refl O).alloc #[.slice sa C sc] 35;have Z:=(M.grow c).grow f;have aa:=(j.grow c).grow f;have ab:=rr.grow f;have ad:D.length=((js.take k).map (Zag m C)).length:=(by have:=M.len;have:=i.out;simp at *;omega);have ae:=(s.grow c).grow f;have g:=(t.grow c).grow f;have af:=(E.trans c).trans f;have ax:=g.lt;clear m0 m1 m2 M j rr;go_wp2_with (first |(at_builtin;refine ZD rfl (.tmp 15) (.tmp 19) _ rfl Zlo rfl Z rfl (Row.bAt6 (S:=fun _=>True) 1 rfl Γ rfl (fun _=>trivial)) γ I Γ ?_;intro a3 c3 w6 d));have G:=(aa.append (RdCells.one1 ab) ad).keep d.keep (fun q _ X e=>by have:=hlo q e;have:=X.1;omega);rw[←Y.out] at G;have ag:=d.own;have ah:=d.grow af (fun q hq=>by have:=hlo q hq;omega);have ai:=ae.keep d.keep (fun e=>ε);have aj:=g.keep d.keep (fun e=>ε);have H: ∀ q,blk a3=some q->w.heap.size+1<q:=fun q hq=>by
    rcases d.new with e|⟨q',e,ay⟩
    ·rw[e] at hq;exact hlo q hq
    ·rw[e] at hq;obtain rfl:=JJ hq;omega
   clear d;go_wp2;go_roundw;case rel=>exact ⟨ah,ai,aj,k+1,c3,a3,_,I,Δ,rfl,ag,H,G⟩
   case measure=>exact FN
  ·have ak:k=nb:=I;subst ak;rw[Z5 i.out] at j;have al:RdII wr (fun _=>True) v k B (js.map (Zag m C)):=⟨⟨D,M.row (fun _ _=>trivial),j.weak fun _ _ _=>trivial⟩,by have:=i.out;simpa using this⟩;have az:k*C<=24*24:=JL p hC;have am:total (js.map (Zag m C))=k*C:=(by rw[P.out,i.out]);go_wp2_with fail;refine (ZqG v k B (js.map (Zag m C)) (C:Int) _ al I I).mono ?_;rintro e O ⟨a',c',rfl,J,o,c⟩;rw[am] at J ⊢;have g:=t.grow c;obtain ⟨⟨z0,z1,z2⟩,g0,g1,g2⟩:=g.three;have an:=E.trans c;have a0:=E.size;have L:Keep (fun q=>q≠w.heap.size+1) O (((O.setCell ⟨w.heap.size+1,0,none⟩ (Yv Yi (k:Int))).setCell ⟨w.heap.size+1,1,none⟩ (Yv Yi (C:Int))).setCell ⟨w.heap.size+1,2,none⟩ (.slice a' (k*C) c')):=
    kS
   go_wp2;exact Zx Zc rfl rfl rfl (((g.set 0 _).set 1 _).set 2 _) ⟨a',c',rfl,J.keep L (fun q hq _ e=>by have:=o q hq;omega),(fun q hq=>by have:=o q hq;omega),an.keep L (fun q hq=>I)⟩
def ZdI (m:Mat):Bool:=Zit m
def Zdr (m:Mat):Mat:=match ZbS m with
 |some s=>{rows:=Z7 s.1 m.cols.toNat m.rows.toNat,cols:=m.cols,cells:=s.1.take (Z7 s.1 m.cols.toNat m.rows.toNat*m.cols.toNat)}
 |none=>{rows:=0,cols:=0,cells:=[]}
def ZoB (m:List Int) (C i k:Nat):Bool:=(JN k).any fun q=>cell m C i q !=0
theorem ZsS (m:List Int) (C i k:Nat):ZoB m C i (k+1)=(ZoB m C i k||(cell m C i k !=0)):=by unfold ZoB;rw[KV,List.any_append];simp
def ZdA (m:List Int) (C i k:Nat):Nat:=if ZoB m C i k=true then i+1 else Z7 m C i
theorem Ze6 (m:List Int) (C:Nat): ∀ n,Z7 m C n<=n
 |0=>JM _
 |n+1=>by have:=Ze6 m C n;simp only[Z7];split<;>omega
theorem ZrU (m:List Int) (C i k:Nat):ZdA m C i k<=i+1:=by have:=Ze6 m C i;unfold ZdA;split<;>omega
theorem Zme (a:Option Addr) (n cp C R:Nat) (m:List Int) (w:World) (h:RdI w S a n cp m) (hl:m.length=R*C) (hR:R<=24) (hC:C<=24):
  Calls JG 147 #[.agg #[Yv Yi R,Yv Yi C, .slice a n cp]] w fun e w'=>e= .returned (Yv Yi (Z7 m C R))/\Grow w w':=by
 have j:=h.len;obtain ⟨A,l,o,B, -⟩:=al1 w #[Yv Yi (R:Int),Yv Yi (C:Int), .slice a n cp] 37;have r:=hid l;clear l;have G:=hid hl;have s:=hid j;clear hl j;replace h:=h.grow o;go_enter func147,ntmps147;go_wp2;rw[←r.out];go_loopw [3,4] (fun u q wr=>Grow A wr/\ ∃ i:Nat,i<=R/\q=Yv Yi i/\u=Yv Yi (Z7 m C i)) (fun _ q _=>R-(intOf q).toNat);case atStart=>exact ⟨Grow.refl _,0,JI _,rfl,rfl⟩
 case round=>
  obtain ⟨c,i,N,rfl,rfl⟩:=hrel;have b:=B.grow c;obtain ⟨⟨D,E,F⟩, -⟩:=b.three;have f:=b.lt;have H:=Ze6 m C i;by_cases t:i<R
  ·have J:=hid (show ZdA m C i 0=Z7 m C i by unfold ZdA ZoB;simp);have hE:=hid (show ZdA m C i C=Z7 m C (i+1) from rfl);go_wp2;go_loopw [3,5] (fun u q v=>Grow A v/\ ∃ k:Nat,k<=C/\q=Yv Yi k/\u=Yv Yi (ZdA m C i k)) (fun _ q _=>C-(intOf q).toNat);case atStart=>exact ⟨c,0,JI _,rfl,by rw[J.out]⟩
   case round=>
    clear D E F f b c;obtain ⟨c,k,O,rfl,rfl⟩:=hrel;have b:=B.grow c;obtain ⟨⟨D,E,F⟩, -⟩:=b.three;have f:=b.lt;have L:=ZrU m C i k;by_cases x:k<C
    ·have g:i*C+k<n:=(by rw[←s.out,G.out];exact Zf x t);have d:=ZsS m C i k;go_wp2_with fail;refine (ZO a n cp C i k (R:Int) m _ (h.grow c) g I I I).mono ?_;rintro e P ⟨rfl,p⟩;by_cases hx0:cell m C i k=0
     ·have Hs:=hid (show ZdA m C i (k+1)=ZdA m C i k by unfold ZdA;rw[d,hx0];simp);rw[hx0];clear g d hx0;go_wp2;go_roundw;case rel=>exact ⟨c.trans p,k+1,I,Δ,by rw[Hs.out]⟩
      case measure=>exact FN
     ·have M:(cell m C i k !=0)=true:=Bv;have Hs:=hid (show ZdA m C i (k+1)=i+1 by unfold ZdA;rw[d,M];simp);clear g d;go_wp2;go_roundw;case rel=>exact ⟨c.trans p,k+1,I,Δ,by rw[Hs.out]<;>try go_num⟩
      case measure=>exact FN
    ·have y:k=C:=I;subst y;go_wp2;go_roundw;case rel=>exact ⟨c,i+1,I,Δ,Fx⟩
     case measure=>exact FN
  ·have z:i=R:=I;subst z;go_wp2;go_ret;exact ⟨rfl,o.trans c⟩
theorem ZfB (h:ZbS m=none):ZdI m=false/\Zdr m={rows:=0,cols:=0,cells:=[]}:=by
 unfold ZdI Zdr;rw[h];exact ⟨(Zqz h).1,rfl⟩
theorem Zeo (hB:Zd {rows:=(R:Int),cols:=(C:Int),cells:=cells}=true):ZbS {rows:=(R:Int),cols:=(C:Int),cells:=cells}=ZbP cells R C:=by
 unfold ZbS;rw[hB];rfl
theorem Zl1 (hB:Zd {rows:=(R:Int),cols:=(C:Int),cells:=cells}=true) (h:ZbP cells R C=some s):
  ZdI {rows:=(R:Int),cols:=(C:Int),cells:=cells}=true/\Zdr {rows:=(R:Int),cols:=(C:Int),cells:=cells}={rows:=(Z7 s.1 C R:Nat),cols:=(C:Int),cells:=s.1.take (Z7 s.1 C R*C)}:=by
 have a:=Zeo hB;rw[h] at a;unfold ZdI Zdr;rw[a];exact ⟨(Zqy a).1,rfl⟩
theorem ZsM (hVM:VM w S (.agg #[Yv Yi mr,Yv Yi mc, .slice a n c]) m) (hb:bdM m<=1048576) (hB:Zd m=false):
  Calls JG 148 #[.agg #[Yv Yi mr,Yv Yi mc, .slice a n c]] w fun e w'=> ∃ r,e= .returned (.tuple #[r, .bool (ZdI m)])/\OM w' (New w w') r (Zdr m)/\Grow w w':=by
 have Hz:=hid (ZfB (m:=m) CF);obtain ⟨f,b,hG, -,bR, -⟩:=al2 w #[Yv Yi mr,Yv Yi mc, .slice a n c] 37 #[Yv Yi 0,Yv Yi 0, .slice none 0 0] 37;have d:=hid b;clear b;go_enter Oy,Qh;go_wp2_with fail;rw[←d.out];refine (ZgQ (hVM.grow hG) hb hB).mono ?_;rintro e w4 ⟨rfl,hG4⟩;exact FJ
theorem Zqv (h:RdI w S a n c cells) (hl:cells.length=R*C) (hnum:NumL cells) (hR:R<=24) (hC:C<=24):
  Calls JG 148 #[.agg #[Yv Yi R,Yv Yi C, .slice a n c]] w fun e w'=> ∃ r,e= .returned (.tuple #[r, .bool (ZdI {rows:=(R:Int),cols:=(C:Int),cells:=cells})])/\OM w' (New w w') r (Zdr {rows:=(R:Int),cols:=(C:Int),cells:=cells})/\Grow w w':=by
 have hB:=Zay hR hC hl hnum;obtain ⟨W,p⟩: ∃ W:Int,W=R:=⟨_,rfl⟩;obtain ⟨X,v⟩: ∃ X:Int,X=C:=⟨_,rfl⟩;have y:=fun s=>Zl1 (s:=s) hB;have z:=fun hn:ZbP cells R C=none=>ZfB (m:={rows:=(R:Int),cols:=(C:Int),cells:=cells}) Ez;have Y:=hid y;have Z:=hid z;clear y z hB;generalize hM:({rows:=(R:Int),cols:=(C:Int),cells:=cells}:Mat)=M at *;clear hM;rw[←p, ←v];obtain ⟨w3,A,hG, -,bR, -⟩:=al2 w #[Yv Yi W,Yv Yi X, .slice a n c] 37 #[Yv Yi 0,Yv Yi 0, .slice none 0 0] 37;have ab:=hid A;clear A;subst p;subst v;go_enter Oy,Qh;go_wp2_with fail;rw[←ab.out];refine (Zf9 (h.grow hG) hl hnum hR hC).mono ?_;rintro e w4 ⟨hG4,(⟨hn,rfl⟩|⟨s,aa,ca,au,cu,hs,rfl,rA,rU⟩)⟩
 ·have Hz:=hid (Z.out hn);clear hn;exact FJ
 ·have Hy:=hid (Y.out s hs);have D:=(Zcj hl hnum hs).1;have ad:Z7 s.1 C R<=R:=Ze6 _ _ _;have hltR:w.heap.size+1<w4.heap.size:=(bR.grow hG4).lt;obtain ⟨w5,l,hG5,bH, -, -⟩:=al2 w4 #[Yv Yi (R:Int),Yv Yi (C:Int), .slice aa (R*C) ca] 37 #[Yv Yi (R:Int),Yv Yi (R:Int), .slice au (R*R) cu] 37;obtain ⟨⟨a0,a1,a2⟩, -⟩:=bH.three;rw[l] at a0 a1 a2;have ae:=hid l;clear l;have E:=rA.grow hG5;have bR5:=(bR.grow hG4).grow hG5;clear rA rU hs;go_wp2_with fail;rw[←ae.out];refine (Zme aa _ ca C R s.1 _ E D.la hR hC).mono ?_;rintro e F ⟨rfl,d⟩;have af:=bH.grow d;obtain ⟨⟨a0,a1,a2⟩, -⟩:=af.three;have G:=E.grow d;have H:=bR5.grow d;have J:=((hG.trans hG4).trans hG5).trans d;generalize Z7 s.1 C R=t at *;have ag:t*C<=R*C:=K9 _ ad;have al:R*C<=24*24:=JL hR hC;have am:=G.row.le;have u1:=Z6 (i:=t) (c:=C) I I;have r1:=T_ints.atH (a:=aa) (n:=R*C) (cap:=ca) (k:=t*C) (i:=(t:Int)*C) Θ I;have rp:=G.pre ag;have an:=J.size;have ak:w.heap.size+1<F.heap.size:=by have:=H.lt;omega
  go_wp2;refine Zcr (fun q=>q≠w.heap.size+1) [([0,1,2,4,5,6,7,8,9,10],some 3),([],some 11),([],some 12),([],some 13),([14],none)] ?_;refine Zh ?_;obtain ⟨w7,hw7⟩:=eX F.drew;rw[←hw7];have f:Grow F w7:=Cu
  clear hw7;refine Zu rfl (fun K hK=> ?_);refine Zh4 rfl T_ints ?_;have hE:Own (w7.alloc (.cells #[] 3)) 3 1 (some ⟨w7.heap.size,0,none⟩) 0 0 []:=Own.freshAt rfl Γ rfl;refine hK _ _ ((f.alloc _ _).mono fun _ _ _=>trivial) ?_;clear hK K;refine Zh ?_;refine Zu rfl (fun K hK=> ?_);refine ZkM rfl T_ints rfl hE rfl (rp.row.grow (f.alloc _ _)) (ZdE _) I Γ ?_;intro P T V j;have ao:=f.size;have b:Grow F V:=j.grow (f.alloc _ _) (fun g hg=>κ);have L:=j.lo (B:=F.heap.size) Ψ (fun g hg=>κ);have ah:Own V 3 1 P (t*C) T (ints (s.1.take (t*C))):=by have:=j.own;simpa [ints] using this
  have N:=H.grow b;clear j hE;rw[Nat.zero_add];refine hK _ _ (b.mono fun _ _ _=>trivial) ?_;clear hK K;refine ZR ?_;intro K hK;refine hK _ _ ((b.mono fun _ _ _=>trivial)) ?_;clear hK K;refine Zh ?_;refine Zu rfl (fun K hK=> ?_);obtain ⟨⟨b0,b1,b2⟩,f0,f1,f2⟩:=N.three;go_wp2_with fail;have o:Keep (fun q=>q≠w.heap.size+1) V (((V.setCell ⟨w.heap.size+1,0,none⟩ (Yv Yi (t:Int))).setCell ⟨w.heap.size+1,1,none⟩ (Yv Yi (C:Int))).setCell ⟨w.heap.size+1,2,none⟩ (.slice P (t*C) T)):=
   kS
  refine hK _ _ (((b.mono fun _ _ _=>trivial).trans o)) ?_;clear hK K;refine Zh ?_;refine Ze ?_;have O:=ah.keep o (fun g hg _ e=>by have:=L g hg;omega);have ai:=((N.set 0 (Yv Yi (t:Int))).set 1 (Yv Yi (C:Int))).set 2 (.slice P (t*C) T);have aj:=(J.trans b).keep o fun q hq=>I
  go_wp2;refine Zb Zc rfl rfl rfl ai ⟨_,EV,by rw[Hy.out.2];exact ⟨P,t*C,T,rfl,O,fun x hx=>Zp D.na x (L6 hx),fun g hg=>⟨by have:=L g hg;omega,O.lt hg⟩,by show I64 (t:Int);unfold I64;omega,η⟩,aj⟩
theorem Zq3 (h:VM w S v m) (hb:bdM m<=1048576):
  Calls JG 148 #[v] w fun e w'=> ∃ r,e= .returned (.tuple #[r, .bool (ZdI m)])/\OM w' (New w w') r (Zdr m)/\Grow w w':=by
 have g:=h;obtain ⟨a,n,c,rfl,h,p,q⟩:=h;cases j:Zd m with
 |false=>exact ZsM g hb j
 |true=>obtain ⟨R,C,d,f,l,o,k,b⟩:=Zl j;obtain ⟨s,t,i⟩:=m;simp only at d f k b;subst d;subst f;exact Zqv h k b l o
theorem ZrV (hl:cells.length=R*C) (hm:NumL cells) (h:ZbP cells R C=some s):
  Z7 s.1 C R<=R/\(JN R).filter (nzB s.1 C)=JN (Z7 s.1 C R)/\((JN (Z7 s.1 C R)).map (Zag s.1 C)).flatten=s.1.take (Z7 s.1 C R*C):=by
 obtain ⟨c,t,a,b⟩:=Zcj hl hm h;have e:=Zj2 b R (JM _) a;rw[e];exact ⟨a,Ztb b a,ZiD (by rw[c.la];exact K9 _ a)⟩
theorem Zr4 (hVM:VM w S (.agg #[Yv Yi mr,Yv Yi mc, .slice a n c]) m) (hb:bdM m<=1048576) (hB:Zd m=false):
  Calls JG 270 #[.agg #[Yv Yi mr,Yv Yi mc, .slice a n c]] w fun e w'=> ∃ r,e= .returned (.tuple #[r, .bool (ZdI m)])/\OM w' (New w w') r (Zdr m)/\Grow w w':=by
 have Hz:=hid (ZfB (m:=m) CF);obtain ⟨f,b,hG, -,bR, -⟩:=al2 w #[Yv Yi mr,Yv Yi mc, .slice a n c] 37 #[Yv Yi 0,Yv Yi 0, .slice none 0 0] 37;have d:=hid b;clear b;go_enter Qi,Qj;go_wp2_with fail;rw[←d.out];refine (Zg3 (hVM.grow hG) hb hB).mono ?_;rintro e w4 ⟨rfl,hG4⟩;exact FJ
theorem Zra (h:RdI w S a n c cells) (hl:cells.length=R*C) (hnum:NumL cells) (hR:R<=24) (hC:C<=24):
  Calls JG 270 #[.agg #[Yv Yi R,Yv Yi C, .slice a n c]] w fun e w'=> ∃ r,e= .returned (.tuple #[r, .bool (ZdI {rows:=(R:Int),cols:=(C:Int),cells:=cells})])/\OM w' (New w w') r (Zdr {rows:=(R:Int),cols:=(C:Int),cells:=cells})/\Grow w w':=by
 have hB:=Zay hR hC hl hnum;obtain ⟨O,k⟩: ∃ O:Int,O=R:=⟨_,rfl⟩;obtain ⟨P,o⟩: ∃ P:Int,P=C:=⟨_,rfl⟩;have p:=fun s=>Zl1 (s:=s) hB;have v:=fun hn:ZbP cells R C=none=>ZfB (m:={rows:=(R:Int),cols:=(C:Int),cells:=cells}) Ez;have T:=hid p;have V:=hid v;clear p v hB;generalize hM:({rows:=(R:Int),cols:=(C:Int),cells:=cells}:Mat)=M at *;clear hM;rw[←k, ←o];obtain ⟨w3,y,hG, -,bR, -⟩:=al2 w #[Yv Yi O,Yv Yi P, .slice a n c] 37 #[Yv Yi 0,Yv Yi 0, .slice none 0 0] 37;have W:=hid y;clear y;subst k;subst o;go_enter Qi,Qj;go_wp2_with fail;rw[←W.out];refine (Zja (h.grow hG) hl hnum hR hC).mono ?_;rintro e w4 ⟨hG4,(⟨hn,rfl⟩|⟨s,X,Y,au,cu,L,rfl,rA,rU⟩)⟩
 ·have Hz:=hid (V.out hn);clear hn;exact FJ
 ·have Hy:=hid (T.out s L);have i:=(Zcj hl hnum L).1;obtain ⟨ak,z,Z⟩:=ZrV hl hnum L;have hltR:w.heap.size+1<w4.heap.size:=(bR.grow hG4).lt;obtain ⟨w5,j,hG5,bH, -, -⟩:=al2 w4 #[Yv Yi (R:Int),Yv Yi (C:Int), .slice X (R*C) Y] 37 #[Yv Yi (R:Int),Yv Yi (R:Int), .slice au (R*R) cu] 37;obtain ⟨⟨a0,a1,a2⟩, -⟩:=bH.three;rw[j] at a0 a1 a2;have ab:=hid j;clear j;have A:=rA.grow hG5;have bR5:=(bR.grow hG4).grow hG5;clear rA rU L;go_wp2_with fail;rw[←ab.out];refine (ZjO X _ Y C R s.1 _ A i.la hR hC).mono ?_;rintro e w6 ⟨ad,al,b,n2,c1,c2,rfl,hP,d⟩;rw[z] at hP;generalize Z7 s.1 C R=t at *;have rI:=hP.oa.rdI (S:=fun _=>True) (fun _ _=>trivial) (ZnI (l:=JN t) (fun x hx=>Eo));have ae:b=t:=EU
  subst ae;have af:=bH.grow d;obtain ⟨⟨a0,a1,a2⟩, -⟩:=af.three;have ag:=A.grow d;have B:=bR5.grow d;have D:=((hG.trans hG4).trans hG5).trans d;clear hP z;have aj:w.heap.size+1<w6.heap.size:=B.lt;go_wp2_with fail;refine (ZkT X ad _ Y b c1 C R s.1 (JN b) _ ag i.la hR hC rI (fun x hx=>Eo) Ψ).mono ?_;rintro e w7 ⟨a',c',rfl,E,f,F⟩;rw[Z] at E;have G:=B.grow F;have am:=D.size;obtain ⟨⟨b0,b1,b2⟩,f0,f1,f2⟩:=G.three;have H:Keep (fun q=>q≠w.heap.size+1) w7 (((w7.setCell ⟨w.heap.size+1,0,none⟩ (Yv Yi (b:Int))).setCell ⟨w.heap.size+1,1,none⟩ (Yv Yi (C:Int))).setCell ⟨w.heap.size+1,2,none⟩ (.slice a' (b*C) c')):=
   kS
  have J:=E.keep H (fun g N _ e=>by have:=f g N;omega);have ah:=((G.set 0 (Yv Yi (b:Int))).set 1 (Yv Yi (C:Int))).set 2 (.slice a' (b*C) c');have ai:=(D.trans F).keep H fun q hq=>I
  go_wp2;refine Zb Zc rfl rfl rfl ah ⟨_,EV,by rw[Hy.out.2];exact ⟨a',b*C,c',rfl,J,fun x hx=>Zp i.na x (L6 hx),fun g N=>⟨by have:=f g N;omega,J.lt N⟩,by show I64 (b:Int);unfold I64;omega,η⟩,ai⟩
theorem ZqK (h:VM w S v m) (hb:bdM m<=1048576):
  Calls JG 270 #[v] w fun e w'=> ∃ r,e= .returned (.tuple #[r, .bool (ZdI m)])/\OM w' (New w w') r (Zdr m)/\Grow w w':=by
 have g:=h;obtain ⟨a,n,c,rfl,h,p,q⟩:=h;cases j:Zd m with
 |false=>exact Zr4 g hb j
 |true=>obtain ⟨R,C,d,f,l,o,k,b⟩:=Zl j;obtain ⟨s,t,i⟩:=m;simp only at d f k b;subst d;subst f;exact Zra h k b l o

end Go.Proofs.YtgjefeiddfjjnaaGreatDoor
