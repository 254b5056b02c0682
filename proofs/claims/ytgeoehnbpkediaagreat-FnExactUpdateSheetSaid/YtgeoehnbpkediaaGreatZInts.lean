/- The laws' helpers on []int: copying, measuring, comparing, marking. -/
import Derived.Test.YtgeoehnbpkediaaGreatZBase
import Derived.WideShapes
set_option maxHeartbeats 8000000
set_option maxRecDepth 100000
namespace Go.Proofs.YtgeoehnbpkediaaGreat
open Go.RowKit
open Lib (hid)
open Go.Value renaming int->Yv
open Go.IntKind renaming i64->Yi
variable {F G S T:Nat->Prop} {b:Option Addr} {c i k n:Nat} {g g':Option Nat} {u v:Value} {vs:List Value} {w w':World} {xs:List Int} {xss:List (List Int)}
theorem Zph (a:Option Addr) (n cap:Nat) (xs:List Int) (w:World) (h:RdI w S a n cap xs) (hn:n<=1048576):
  Calls Tryz.prog 76 #[.slice a n cap] w fun e w'=>
   e= .returned (.slice (some ⟨w.heap.size,0,none⟩) n n)/\Own w' 3 1 (some ⟨w.heap.size,0,none⟩) n n (ints xs)/\Grow w w':=by
 have hmk:=T_ints.make (n:=n) (by omega) (by unfold maxLen;omega);have hl:=h.len;go_enter Tryz.func76,Tryz.ntmps76;go_wp2;go_loopw [4] (fun i wr=> ∃ k:Nat,k<=n/\i=Yv Yi k/\Grow w wr/\Own wr 3 1 (some ⟨w.heap.size,0,none⟩) n n (ints (xs.take k)++List.replicate (n-k) (Yv Yi 0))) (fun i _=>n-(intOf i).toNat);case atStart=>refine ⟨0,Nat.zero_le _,rfl,(Grow.refl w).alloc _ _, ?_⟩;have:=Own.fresh (w:=w) (e:=3) (sz:=1) (cs:=madeCells #[Yv Yi 0] (n*1)) (n:=n) (by unfold maxLen;omega) (by simp[madeCells]);simpa [toList_madeCells_one] using this
 case round=>
  obtain ⟨k,hk,rfl,hG,hO⟩:=hrel;by_cases hlt:k<n
  ·obtain ⟨b,off,x,rfl,hx,hxr,_,hbw,hc⟩:=(h.grow hG).at hlt;have hfr:=hO.free k;have hce:=hO.cell (ZfX (ZgO hl hk) hlt);simp only at hfr hce;go_wp2;go_roundw;case rel=>refine ⟨k+1,by omega,by go_num,hG.setCell (Nat.le_refl _) _, ?_⟩;have:=hO.set k (Yv Yi x);rw[Zfh (ZgO hl hk) hlt] at this;rw[ZjL hx];exact this
   case measure=>simp[intOf];omega
  ·go_wp2;go_ret;have:k=n:=(by omega);subst this;refine ⟨rfl, ?_,hG⟩;simpa [ZI hl] using hO
def szI (left:Int) (n:Nat):Int:=if left<n then -1 else left-n
theorem Zlc (a:Option Addr) (n cap:Nat) (left:Int) (w:World) (hn:n<=maxLen) (h0:0<=left) (h1:left<=1048576):
  Calls Tryz.prog 75 #[.slice a n cap,Yv Yi left] w fun e w'=>e= .returned (Yv Yi (szI left n))/\w=w':=by
 unfold maxLen at hn;go_enter Tryz.func75,Tryz.ntmps75;go_wp2;all_goals go_ret
 ·exact ⟨Zz (by unfold szI;rw[if_pos (by omega)]),rfl⟩
 ·exact ⟨Zz (by unfold szI;rw[if_neg (by omega)]),rfl⟩
def ZeQ (xs ys:List Int):Bool:=decide (xs=ys)
theorem Zno (xs:List Int):ZeQ xs xs=true:=by simp[ZeQ]
theorem ZpF (a b:Option Addr) (n m cap cap':Nat) (xs ys:List Int) (w:World) (h:RdI w S a n cap xs) (h':RdI w T b m cap' ys) (hn:n<=2097152):
  Calls Tryz.prog 77 #[.slice a n cap, .slice b m cap'] w fun e w'=>e= .returned (.bool (ZeQ xs ys))/\Qt w w':=by
 have hl:=h.len;have hl':=h'.len;by_cases hnm:n=m
 ·subst hnm;go_enter Tryz.func77,Tryz.ntmps77;go_wp2;go_loopw [5] (fun i wr=>Qt w wr/\ ∃ k:Nat,k<=n/\i=Yv Yi k/\xs.take k=ys.take k) (fun i _=>n-(intOf i).toNat);case atStart=>exact ⟨Qt.refl _,0,Nat.zero_le _,rfl,rfl⟩
  case round=>
   obtain ⟨hG,k,hk,rfl,he⟩:=hrel;have He:=hid he;clear he;by_cases hlt:k<n
   ·obtain ⟨b1,off1,x,rfl,hx,hxr,_,hbw,hc⟩:=(h.grow hG.grow).at hlt;obtain ⟨b2,off2,y,rfl,hy,hyr,_,hbw2,hc2⟩:=(h'.grow hG.grow).at hlt;have Hx:=hid hx;clear hx;have Hy:=hid hy;clear hy;by_cases hxy:x=y
    ·subst hxy;go_wp2
     go_quiet (fail)
     go_wp2;go_roundw;case rel=>exact ⟨hG.drewN _,k+1,by omega,by go_num,by rw[ZC Hx.out,ZC Hy.out,He.out]⟩
     case measure=>simp[intOf];omega
    ·have hxy':(x==y)=false:=(by simpa using hxy);go_wp2
     go_quiet (fail)
     go_wp2;go_ret;refine ⟨Zm (Eq.symm (decide_eq_false ?_)),hG.drewN _⟩;intro e;subst e;exact hxy (Option.some.inj (Hx.out.symm.trans Hy.out))
   ·go_wp2;go_ret;have:k=n:=(by omega);subst this;refine ⟨Zm (Eq.symm (decide_eq_true ?_)),hG⟩;have:=He.out
    rwa [ZI hl,ZI hl'] at this
 ·have hb:((n:Int)==(m:Int))=false:=by simp;omega
  go_enter Tryz.func77,Tryz.ntmps77;go_wp2;go_ret;refine ⟨Zm (Eq.symm (decide_eq_false ?_)),Qt.refl _⟩;intro e;subst e;omega
def Zb3 (n k:Nat):List Int:=(List.range n).map fun (i:Nat)=>((k+i:Nat):Int)
@[simp] theorem Zka (n k:Nat):(Zb3 n k).length=n:=by simp[Zb3]
theorem ZkQ (h:i<n):(Zb3 n k)[i]? =some ((k+i:Nat):Int):=by simp[Zb3,h]
theorem Zhp (h:n+k<=4294967296): ∀ x∈Zb3 n k,I64 x:=by
 intro x hx;obtain ⟨i,hi,rfl⟩:=List.mem_map.1 hx;simp at hi;unfold I64;omega
theorem Zpw (hl:xs.length=n) (h:i<n):(ints ((Zb3 n k).take i)++ints (xs.drop i)).set i (Yv Yi ((k+i:Nat):Int))=ints ((Zb3 n k).take (i+1))++ints (xs.drop (i+1)):=by
 have h1:(ints ((Zb3 n k).take i)).length=i:=by simp;omega
 rw[List.set_append_right _ _ (by omega),h1,Nat.sub_self,ZjL (ZkQ h),List.drop_eq_getElem_cons (show i<xs.length by omega)];simp only[ints,List.map_cons,List.set_cons_zero,List.append_assoc,List.cons_append,List.nil_append]
theorem Zgy (a:Option Addr) (n cap k:Nat) (xs:List Int) (w:World) (h:Own w 3 1 a n cap (ints xs)) (hn:n+k<=4294967296):
  Calls Tryz.prog 48 #[.slice a n cap,Yv Yi k] w fun e w'=>
   e= .returned (Yv Yi ((k+n:Nat):Int))/\Own w' 3 1 a n cap (ints (Zb3 n k))/\Keep (fun g=>blk a≠some g) w w':=by
 have hl:xs.length=n:=by simpa using h.len
 go_enter Tryz.func48,Tryz.ntmps48;go_wp2;go_loopw [1,5] (fun q i wr=> ∃ j:Nat,j<=n/\i=Yv Yi j/\q=Yv Yi ((k+j:Nat):Int)/\Own wr 3 1 a n cap (ints ((Zb3 n k).take j)++ints (xs.drop j))/\Keep (fun g=>blk a≠some g) w wr) (fun _ i _=>n-(intOf i).toNat);case atStart=>exact ⟨0,Nat.zero_le _,rfl,rfl,by simpa using h,Keep.refl _ _⟩
 case round=>
  obtain ⟨j,hj,rfl,rfl,hO,hK⟩:=hrel;by_cases hlt:j<n
  ·cases a with
   |none=>have:=h.nil rfl;have:=h.le;omega
   |some p=>
    have hp:=(hO.block p rfl).1;have hce: ∃ c,(ints ((Zb3 n k).take j)++ints (xs.drop j))[j]? =some c:=(by rw[List.getElem?_append_right (by simp;omega)];exact ⟨_,List.getElem?_eq_getElem (by simp;omega)⟩);obtain ⟨c,hc⟩:=hce;have hfr:=hO.free j;have hcell:=hO.cell hc;obtain ⟨pb,po,ps⟩:=p;simp only[Addr.mk.injEq,true_and] at hp;obtain ⟨rfl,rfl⟩:=hp;simp only at hfr hcell;have Hc:=hid hc;clear hc;go_wp2;go_roundw;case rel=>refine ⟨j+1,by omega,by go_num,by go_num, ?_,hK.setCell (p:=⟨_,j,none⟩) (fun _ e=>e rfl) _⟩;have:=hO.set j (Yv Yi ((k+j:Nat):Int));rw[Zpw hl hlt] at this;simpa using this
    case measure=>simp[intOf];omega
  ·go_wp2;go_ret;have:j=n:=(by omega);subst this;refine ⟨Zz rfl, ?_,hK⟩;have hd:xs.drop j=[]:=(by rw[←hl];simp);rw[hd,ZI (Zka _ _)] at hO;simpa using hO
theorem Zi6 (a:Option Addr) (n cap k:Nat) (w:World) (h:RdI w S a n cap (Zb3 n k)) (hn:n+k<=4294967296):
  Calls Tryz.prog 49 #[.slice a n cap,Yv Yi k] w fun e w'=>e= .returned (Yv Yi ((k+n:Nat):Int))/\w=w':=by
 go_enter Tryz.func49,Tryz.ntmps49;go_wp2;go_loop [1,5] (fun q i=> ∃ j:Nat,j<=n/\i=Yv Yi j/\q=Yv Yi ((k+j:Nat):Int)) (fun _ i=>n-(intOf i).toNat);case atStart=>exact ⟨0,Nat.zero_le _,rfl,rfl⟩
 case round=>
  obtain ⟨j,hj,rfl,rfl⟩:=hrel;by_cases hlt:j<n
  ·obtain ⟨b,off,x,rfl,hx,hxr,_,hbw,hc⟩:=h.at hlt;rw[ZkQ hlt] at hx;obtain rfl:=Option.some.inj hx;clear hx;go_wp2
   go_round
   case rel=>exact ⟨j+1,by omega,by go_num,by go_num⟩
   case measure=>simp[intOf];omega
  ·go_wp2;go_ret;have:j=n:=(by omega);subst this;exact ⟨Zz rfl,rfl⟩
structure Inner (w:World) (F:Nat->Prop) (g:Option Nat) (vs:List Value) (xss:List (List Int)):Prop where
 len:vs.length=xss.length
 each: ∀ (i:Nat) (xs:List Int),xss[i]? =some xs-> ∃ b c,vs[i]? =some (Value.slice b xs.length c)/\Own w 3 1 b xs.length c (ints xs)/\(∀ x∈xs,I64 x)/\ ∀ h,blk b=some h->F h/\g≠some h
 apart:vs.Pairwise fun u v=> ∀ h,u.ownBlock=some h->v.ownBlock≠some h
theorem ZaZ (b:Option Addr) (n c:Nat):(Value.slice b n c).ownBlock=blk b:=by cases b<;>rfl
theorem Inner.nilw:Inner w F g [] []:=⟨rfl,fun i xs h=>by simp at h, .nil⟩
theorem Inner.keep (h:Inner w F g vs xss) (hk:Keep T w w') (hT: ∀ b,b<w.heap.size->F b->g≠some b->T b):Inner w' F g vs xss:=by
 refine ⟨h.len,fun i xs hi=> ?_,h.apart⟩;obtain ⟨b,c,h1,h2,h3,h4⟩:=h.each i xs hi;exact ⟨b,c,h1,h2.keep hk (fun q hq hlt=>hT q hlt (h4 q hq).1 (h4 q hq).2),h3,h4⟩
theorem Inner.grow (h:Inner w F g vs xss) (hk:Grow w w'):Inner w' F g vs xss:=h.keep hk fun _ _ _ _=>trivial
theorem Inner.weak (h:Inner w F g vs xss) (hF: ∀ b,b<w.heap.size->F b->g≠some b->G b/\g'≠some b):Inner w G g' vs xss:=by
 refine ⟨h.len,fun i xs hi=> ?_,h.apart⟩;obtain ⟨b,c,h1,h2,h3,h4⟩:=h.each i xs hi;exact ⟨b,c,h1,h2,h3,fun q hq=>hF q (h2.lt hq) (h4 q hq).1 (h4 q hq).2⟩
theorem Inner.move (h:Inner w F g vs xss) (hk:Keep T w w') (hT: ∀ b,b<w.heap.size->F b->g≠some b->T b/\G b/\g'≠some b):Inner w' G g' vs xss:=by
 refine ⟨h.len,fun i xs hi=> ?_,h.apart⟩;obtain ⟨b,c,h1,h2,h3,h4⟩:=h.each i xs hi;exact ⟨b,c,h1,h2.keep hk (fun q hq hlt=>(hT q hlt (h4 q hq).1 (h4 q hq).2).1),h3,fun q hq=>(hT q (h2.lt hq) (h4 q hq).1 (h4 q hq).2).2⟩
theorem Inner.snoc (h:Inner w F g vs xss) (ho:Own w 3 1 b xs.length c (ints xs)) (hr: ∀ x∈xs,I64 x)
  (hb: ∀ q,blk b=some q->F q/\g≠some q) (hnew: ∀ q,blk b=some q-> ∀ v∈vs,v.ownBlock≠some q):Inner w F g (vs++[.slice b xs.length c]) (xss++[xs]):=by
 refine ⟨by simp[h.len],fun i ys hi=> ?_, ?_⟩
 ·by_cases hlt:i<xss.length
  ·rw[List.getElem?_append_left hlt] at hi;obtain ⟨b',c',h1,h2⟩:=h.each i ys hi;exact ⟨b',c',by rw[List.getElem?_append_left (by rw[h.len];exact hlt)];exact h1,h2⟩
  ·rw[List.getElem?_append_right (by omega)] at hi;have:i-xss.length=0:=by
    rcases Nat.eq_zero_or_pos (i-xss.length) with h0|h0
    ·exact h0
    ·rw[List.getElem?_eq_none (by simp;omega)] at hi;cases hi
   rw[this] at hi;obtain rfl:xs=ys:=(by simpa using hi);have hi':i=vs.length:=(by rw[h.len];omega);subst hi';exact ⟨b,c,by simp,ho,hr,hb⟩
 ·rw[List.pairwise_append];refine ⟨h.apart,List.pairwise_singleton _ _,fun u hu v hv q hq=> ?_⟩;obtain rfl:=List.mem_singleton.1 hv;rw[ZaZ];intro e;exact hnew q e u hu hq
theorem Inner.lt (h:Inner w F g vs xss) (hv:v∈vs) {q:Nat} (hq:v.ownBlock=some q):q<w.heap.size/\F q/\g≠some q:=by
 obtain ⟨i,hi,rfl⟩:=List.mem_iff_getElem.1 hv;have hi':i<xss.length:=by rw[←h.len];exact hi
 obtain ⟨b,c,h1,h2,_,h4⟩:=h.each i _ (List.getElem?_eq_getElem hi');rw[List.getElem?_eq_getElem hi] at h1;have h5:=Option.some.inj h1;rw[h5,ZaZ] at hq;exact ⟨h2.lt hq,h4 q hq⟩
structure Zr6 (w:World) (F:Nat->Prop) (a:Option Addr) (n cap:Nat) (xss:List (List Int)):Prop where
 own: ∃ vs,Own w 26 1 a n cap vs/\Inner w F (blk a) vs xss
 lo: ∀ g,blk a=some g->F g
def New (w w':World) (g:Nat):Prop:=w.heap.size<=g/\g<w'.heap.size
def total (xss:List (List Int)):Nat:=(xss.map List.length).sum
@[simp] theorem ZrR:total []=0:=rfl
@[simp] theorem Zns (xs:List Int) (r:List (List Int)):total (xs::r)=xs.length+total r:=by simp[total]
theorem Zhi (l r:List (List Int)):total (l++r)=total l+total r:=by simp[total]
theorem Zfi (h:xss[k]? =some xs):total (xss.take (k+1))=total (xss.take k)+xs.length:=by
 rw[ZC h,Zhi];simp
theorem Zkn (xss:List (List Int)) (k:Nat):total (xss.take k)<=total xss:=by
 conv=>rhs;rw[←List.take_append_drop k xss]
 rw[Zhi];omega
theorem Zo5 (h:xss[k]? =some xs):total (xss.take k)+xs.length<=total xss:=by
 rw[←Zfi h];exact Zkn _ _
def ZgW:List (List Int)->Nat->List (List Int)
 |[],_=>[]
 |xs::r,k=>Zb3 xs.length k::ZgW r (k+xs.length)
@[simp] theorem Znm: ∀ (xss:List (List Int)) (k:Nat),(ZgW xss k).length=xss.length
 |[],_=>rfl
 |xs::r,k=>by simp[ZgW,Znm r]
@[simp] theorem ZkW: ∀ (xss:List (List Int)) (k:Nat),total (ZgW xss k)=total xss
 |[],_=>rfl
 |xs::r,k=>by simp[ZgW,ZkW r]
theorem Inner.put (h:Inner w F g vs xss) {j:Nat} {ys:List Int} (hv:vs[j]? =some (Value.slice b xs.length c)) (hx:xss[j]? =some xs) (hlen:ys.length=xs.length)
  (ho:Own w' 3 1 b xs.length c (ints ys)) (hr: ∀ x∈ys,I64 x) (hk:Keep (fun q=>blk b≠some q) w w'):Inner w' F g vs (xss.set j ys):=by
 have hjx:=(List.getElem?_eq_some_iff.1 hx).1;refine ⟨by simp[h.len],fun i zs hi=> ?_,h.apart⟩;by_cases hij:j=i
 ·subst hij;rw[List.getElem?_set_self hjx] at hi;obtain rfl:=Option.some.inj hi;obtain ⟨b',c',h1,h2,h3,h4⟩:=h.each j xs hx;rw[hv] at h1;simp only[Option.some.injEq,Value.slice.injEq] at h1;obtain ⟨rfl,_,rfl⟩:=h1;exact ⟨b,c,by rw[hlen];exact hv,by rw[hlen];exact ho,hr,h4⟩
 ·rw[List.getElem?_set_ne hij] at hi;obtain ⟨b',c',h1,h2,h3,h4⟩:=h.each i zs hi;refine ⟨b',c',h1,h2.keep hk (fun q hq _ e=> ?_),h3,h4⟩;obtain ⟨hi1,hi2⟩:=List.getElem?_eq_some_iff.1 h1;obtain ⟨hj1,hj2⟩:=List.getElem?_eq_some_iff.1 hv;have e1:(vs[i]).ownBlock=some q:=by rw[hi2,ZaZ];exact hq
  have e2:(vs[j]).ownBlock=some q:=by rw[hj2,ZaZ];exact e
  rcases Nat.lt_or_gt_of_ne hij with hlt|hlt
  ·exact List.pairwise_iff_getElem.1 h.apart j i hj1 hi1 hlt q e2 e1
  ·exact List.pairwise_iff_getElem.1 h.apart i j hi1 hj1 hlt q e1 e2
def VI (w:World) (S:Nat->Prop) (v:Value) (xs:List Int):Prop:= ∃ a n c,v= .slice a n c/\RdI w S a n c xs
def OI (w:World) (F:Nat->Prop) (v:Value) (xs:List Int):Prop:= ∃ a n c,v= .slice a n c/\Own w 3 1 a n c (ints xs)/\(∀ x∈xs,I64 x)/\ ∀ g,blk a=some g->F g
theorem OI.keep (h:OI w F v xs) (hk:Keep T w w') (hT: ∀ b,b<w.heap.size->F b->T b):OI w' F v xs:=by
 obtain ⟨a,n,c,rfl,h1,h2,h3⟩:=h;exact ⟨a,n,c,rfl,h1.keep hk (fun g hg hlt=>hT g hlt (h3 g hg)),h2,h3⟩
theorem OI.grow (h:OI w F v xs) (hk:Grow w w'):OI w' F v xs:=h.keep hk fun _ _ _=>trivial
theorem OI.weak (h:OI w F v xs) (hF: ∀ b,b<w.heap.size->F b->G b):OI w G v xs:=by
 obtain ⟨a,n,c,rfl,h1,h2,h3⟩:=h;exact ⟨a,n,c,rfl,h1,h2,fun g hg=>hF g (h1.lt hg) (h3 g hg)⟩
theorem OI.rd (h:OI w F v xs) (hS: ∀ b,F b->S b):VI w S v xs:=by
 obtain ⟨a,n,c,rfl,h1,h2,h3⟩:=h;exact ⟨a,n,c,rfl,h1.rdI (fun g hg=>hS g (h3 g hg)) h2⟩
structure Mat where
 rows:Int
 cols:Int
 cells:List Int
variable {m:Mat}
def VM (w:World) (S:Nat->Prop) (v:Value) (m:Mat):Prop:= ∃ a n c,v= .agg #[Yv Yi m.rows,Yv Yi m.cols, .slice a n c]/\RdI w S a n c m.cells/\I64 m.rows/\I64 m.cols
def OM (w:World) (F:Nat->Prop) (v:Value) (m:Mat):Prop:= ∃ a n c,v= .agg #[Yv Yi m.rows,Yv Yi m.cols, .slice a n c]/\Own w 3 1 a n c (ints m.cells)/\(∀ x∈m.cells,I64 x)/\(∀ g,blk a=some g->F g)/\I64 m.rows/\I64 m.cols
def bdM (m:Mat):Nat:=m.cells.length
def ZrU (m:Mat):Nat:=m.cells.length
theorem VM.keep (h:VM w S v m) (hk:Keep T w w') (hST: ∀ b,b<w.heap.size->S b->T b):VM w' S v m:=by
 obtain ⟨a,n,c,rfl,h,hr,hc⟩:=h;exact ⟨a,n,c,rfl,h.keep hk hST,hr,hc⟩
theorem VM.grow (h:VM w S v m) (hk:Grow w w'):VM w' S v m:=h.keep hk fun _ _ _=>trivial
theorem OM.keep (h:OM w F v m) (hk:Keep T w w') (hT: ∀ b,b<w.heap.size->F b->T b):OM w' F v m:=by
 obtain ⟨a,n,c,rfl,h1,h2,h3,hr,hc⟩:=h;exact ⟨a,n,c,rfl,h1.keep hk (fun g hg hlt=>hT g hlt (h3 g hg)),h2,h3,hr,hc⟩
theorem OM.grow (h:OM w F v m) (hk:Grow w w'):OM w' F v m:=h.keep hk fun _ _ _=>trivial
theorem OM.weak (h:OM w F v m) (hF: ∀ b,b<w.heap.size->F b->G b):OM w G v m:=by
 obtain ⟨a,n,c,rfl,h1,h2,h3,hr,hc⟩:=h;exact ⟨a,n,c,rfl,h1,h2,fun g hg=>hF g (h1.lt hg) (h3 g hg),hr,hc⟩
theorem OM.rd (h:OM w F v m) (hS: ∀ b,F b->S b):VM w S v m:=by
 obtain ⟨a,n,c,rfl,h1,h2,h3,hr,hc⟩:=h;exact ⟨a,n,c,rfl,h1.rdI (fun g hg=>hS g (h3 g hg)) h2,hr,hc⟩
theorem Zrk (h:VM w S u m) (h':VM w T v m) (hb:bdM m<=2097152):Calls Tryz.prog 54 #[u,v] w fun e w'=>e= .returned (.bool true)/\Grow w w':=by
 obtain ⟨a,n,c,rfl,h,_,_⟩:=h;obtain ⟨a',n',c',rfl,h',_,_⟩:=h';have hl:=h.len;have hl':=h'.len;unfold bdM at hb;have e1:(m.rows==m.rows)=true:=by simp
 have e2:(m.cols==m.cols)=true:=by simp
 have e3:ZeQ m.cells m.cells=true:=Zno _;have hG:Grow w ((w.alloc (.cells #[Yv Yi m.rows,Yv Yi m.cols, .slice a n c] 28)).alloc (.cells #[Yv Yi m.rows,Yv Yi m.cols, .slice a' n' c'] 28)):=((Grow.refl w).alloc _ _).alloc _ _;go_enter Tryz.func54,Tryz.ntmps54;go_wp2_with fail;refine (ZpF _ _ _ _ _ _ m.cells m.cells _ (h.grow hG) (h'.grow hG) (by omega)).mono ?_;rintro e w' ⟨rfl,hQ⟩;go_wp2;go_ret;exact ⟨rfl,hG.trans hQ.grow⟩
def mkM (m:Mat) (k:Nat):Mat:={m with cells:=Zb3 m.cells.length k}
theorem Zrl (k:Nat) (h:OM w F v m) (hb:bdM m+k<=4294967296):Calls Tryz.prog 55 #[v,Yv Yi k] w fun e w'=>
  e= .returned (Yv Yi ((k+ZrU m:Nat):Int))/\OM w' F v (mkM m k)/\Keep (fun g=> ¬ F g) w w':=by
 obtain ⟨a,n,c,rfl,h1,h2,h3,hr,hc⟩:=h;unfold bdM at hb;have hl:m.cells.length=n:=by simpa using h1.len
 subst hl;have hG:Grow w (w.alloc (.cells #[Yv Yi m.rows,Yv Yi m.cols, .slice a m.cells.length c] 28)):=(Grow.refl w).alloc _ _;go_enter Tryz.func55,Tryz.ntmps55;go_wp2_with fail;refine (Zgy a _ c k m.cells _ (h1.grow hG) hb).mono ?_;rintro e w' ⟨rfl,hO,hK⟩;go_wp2;go_ret;refine ⟨rfl,⟨a,_,c,rfl,hO,Zhp hb,h3,hr,hc⟩, ?_⟩;exact (hG.any (S:=fun g=> ¬ F g)).trans (hK.mono fun q _ hq e=>hq (h3 q e))
theorem Zd {P:Program} {C:World->Prop} {o:Oper} {a:Act} {K:Act->Prop} {ty:TypeId} {x:Operand} {g:Nat} {z:Value} {t:TypeId} (hty:StT P ty 3) (ho:o.op= .load ty x) (hx:a.eval x= .pointer (some ⟨g,0,none⟩))
  (hv: ∀ w',C w'->Blk w' g #[u,v,z] t) (hk:K (a.put o.dst (.agg #[u,v,z]))):o.quiet P a C K:=ZA (cs:= #[u,v,z]) hty ho hx hv hk
theorem Zf0 {f:Nat} (hi:i<n) (hf:f<c):i*c+f<n*c:=by
 have:(i+1)*c<=n*c:=Nat.mul_le_mul_right _ hi;rw[Nat.add_mul] at this;omega
theorem ints_set (l:List Int) (i:Nat) (v:Int):ints (l.set i v)=(ints l).set i (Yv Yi v):=by simp[ints,List.map_set]
theorem Zi9 (n:Nat):(madeCells #[Value.int .i64 0] (n*1)).toList=ints (List.replicate n 0):=by
 rw[Nat.mul_one,toList_madeCells_one];simp[ints]
theorem Zoi: ∀ x∈List.replicate n (0:Int),I64 x:=by
 intro x hx;have:=List.eq_of_mem_replicate hx;subst this;unfold I64;omega
theorem ZhW (r c:Nat) (w:World) (hr:r<=1048576) (hc:c<=1048576):
  Calls Tryz.prog 80 #[Yv Yi r,Yv Yi c] w fun e w'=> ∃ a,e= .returned (.agg #[Yv Yi r,Yv Yi c, .slice a (r*c) (r*c)])/\Own w' 3 1 a (r*c) (r*c) (ints (List.replicate (r*c) 0))/\(∀ g,blk a=some g->w.heap.size<=g)/\Grow w w':=by
 have hrc:r*c<=1048576*1048576:=Nat.mul_le_mul hr hc;have hmk:=T_ints.make (n:=r*c) (by omega) (by unfold maxLen;omega);have hmul:((r:Int)*(c:Int))=((r*c:Nat):Int):=by simp
 have hmk2: ∀ u:World,(Instr.makeSlice 26 (Yv Yi ((r:Int)*c)) (Yv Yi ((r:Int)*c))).run Tryz.prog u= .ok (.slice (some ⟨u.heap.size,0,none⟩) (r*c) (r*c)) (u.alloc (.cells (madeCells #[Yv Yi 0] (r*c*1)) 3)):=fun u=>by rw[hmul];exact hmk u
 have hw:IntKind.i64.wrap ((r:Int)*c)=(r:Int)*c:=IntWalk.i64_in _ (by rw[hmul];omega);clear hmk hmul;go_enter Tryz.func80,Tryz.ntmps80;go_wp2;have hB:=(Blk.newAt w #[Yv Yi (r:Int),Yv Yi (c:Int), .slice (some ⟨w.heap.size+1,0,none⟩) (r*c) (r*c)] 28 rfl).alloc (.cells (madeCells #[Yv Yi 0] (r*c)) 3);have hO:=Own.freshAt (w:=w.alloc (.cells #[Yv Yi (r:Int),Yv Yi (c:Int), .slice (some ⟨w.heap.size+1,0,none⟩) (r*c) (r*c)] 28)) (e:=3) (sz:=1) (cs:=madeCells #[Yv Yi 0] (r*c)) (n:=r*c) (g:=w.heap.size+1) (by simp) (by unfold maxLen;omega) (by simp[madeCells]);rw[toList_madeCells_one] at hO;refine ZE Zb rfl rfl rfl hB ⟨_,rfl,by simpa [ints] using hO,fun g hg=>by simp at hg;omega,((Grow.refl w).alloc _ _).alloc _ _⟩
theorem Zdm (r c:Nat) (w:World) (hr:r<=1048576) (hc:c<=1048576):
  Calls Tryz.prog 102 #[Yv Yi r,Yv Yi c] w fun e w'=> ∃ a,e= .returned (.agg #[Yv Yi r,Yv Yi c, .slice a (r*c) (r*c)])/\Own w' 3 1 a (r*c) (r*c) (ints (List.replicate (r*c) 0))/\(∀ g,blk a=some g->w.heap.size<=g)/\Grow w w':=by
 have hrc:r*c<=1048576*1048576:=Nat.mul_le_mul hr hc;have hmk:=T_ints.make (n:=r*c) (by omega) (by unfold maxLen;omega);have hmul:((r:Int)*(c:Int))=((r*c:Nat):Int):=by simp
 have hmk2: ∀ u:World,(Instr.makeSlice 26 (Yv Yi ((r:Int)*c)) (Yv Yi ((r:Int)*c))).run Tryz.prog u= .ok (.slice (some ⟨u.heap.size,0,none⟩) (r*c) (r*c)) (u.alloc (.cells (madeCells #[Yv Yi 0] (r*c*1)) 3)):=fun u=>by rw[hmul];exact hmk u
 have hw:IntKind.i64.wrap ((r:Int)*c)=(r:Int)*c:=IntWalk.i64_in _ (by rw[hmul];omega);clear hmk hmul;go_enter Tryz.func102,Tryz.ntmps102;go_wp2;have hB:=(Blk.newAt w #[Yv Yi (r:Int),Yv Yi (c:Int), .slice (some ⟨w.heap.size+1,0,none⟩) (r*c) (r*c)] 28 rfl).alloc (.cells (madeCells #[Yv Yi 0] (r*c)) 3);have hO:=Own.freshAt (w:=w.alloc (.cells #[Yv Yi (r:Int),Yv Yi (c:Int), .slice (some ⟨w.heap.size+1,0,none⟩) (r*c) (r*c)] 28)) (e:=3) (sz:=1) (cs:=madeCells #[Yv Yi 0] (r*c)) (n:=r*c) (g:=w.heap.size+1) (by simp) (by unfold maxLen;omega) (by simp[madeCells]);rw[toList_madeCells_one] at hO;refine ZE Zb rfl rfl rfl hB ⟨_,rfl,by simpa [ints] using hO,fun g hg=>by simp at hg;omega,((Grow.refl w).alloc _ _).alloc _ _⟩
theorem Zkw (a:Option Addr) (n cp C i j idx:Nat) (R v:Int) (cells:List Int) (w:World) (h:Own w 3 1 a n cp (ints cells)) (hidx:idx=i*C+j) (hlt:idx<n) (hn:n<=1048576) (hi:i<=1048576) (hC:C<=1048576) (_hj:j<=1048576):
  Calls Tryz.prog 104 #[.agg #[Yv Yi R,Yv Yi C, .slice a n cp],Yv Yi i,Yv Yi j,Yv Yi v] w fun e w'=>
   e= .returned (.tuple #[])/\Own w' 3 1 a n cp (ints (cells.set idx v))/\Keep (fun g=>blk a≠some g) w w':=by
 have hl:cells.length=n:=by simpa using h.len
 have hiC:i*C<=1048576*1048576:=Nat.mul_le_mul hi hC;cases a with
 |none=>have:=h.nil rfl;have:=h.le;omega
 |some p=>
  have hp:=(h.block p rfl).1;obtain ⟨pb,po,ps⟩:=p;simp only[Addr.mk.injEq,true_and] at hp;obtain ⟨rfl,rfl⟩:=hp;have hlt':=h.lt rfl;have h1:=h.grow ((Grow.refl w).alloc #[Yv Yi R,Yv Yi (C:Int), .slice (some ⟨pb,0,none⟩) n cp] 28);obtain ⟨c0,hc0⟩: ∃ c0,(ints cells)[idx]? =some c0:=⟨_,List.getElem?_eq_getElem (by simp;omega)⟩;have hce:=h1.cell hc0;clear hc0;have hfr:=h1.free idx;simp only at hce hfr hlt';have hw1:IntKind.i64.wrap ((i:Int)*C)=(i:Int)*C:=by have:((i:Int)*C)=((i*C:Nat):Int):=(by simp);rw[this];exact IntWalk.i64_in _ (by omega)
  have hsum:((i:Int)*C+j)=((idx:Nat):Int):=by rw[hidx];simp
  have hw2:IntKind.i64.wrap ((i:Int)*C+j)=(idx:Int):=by rw[hsum];exact IntWalk.i64_in _ (by omega)
  clear hsum hidx;go_enter Tryz.func104,Tryz.ntmps104;go_wp2;exact bodyPost_end (results_none rfl _ _ _) rfl ⟨rfl,by rw[ints_set];exact (h.set idx (Yv Yi v)).grow ((Grow.refl _).alloc _ _),((Keep.refl (fun g=>blk (some (⟨pb,0,none⟩:Addr))≠some g) w).setCell (p:=⟨pb,idx,none⟩) (fun _ e=>e rfl) _).alloc _ _⟩
theorem Zrj (h:VM w S v m) (hb:bdM m<=1048576):Calls Tryz.prog 53 #[v] w fun e w'=> ∃ v',e= .returned v'/\OM w' (New w w') v' m/\Grow w w':=by
 obtain ⟨a,n,c,rfl,h,hr,hc⟩:=h;have hl:=h.len;unfold bdM at hb;go_enter Tryz.func53,Tryz.ntmps53;go_wp2_with fail;have hW:=((Grow.refl w).alloc #[Yv Yi m.rows,Yv Yi m.cols, .slice a n c] 51).alloc #[Yv Yi 0,Yv Yi 0, .slice none 0 0] 28 |>.alloc #[Yv Yi m.rows,Yv Yi m.cols, .slice none 0 0] 28;have hb2:=Blk.newAt ((w.alloc (.cells #[Yv Yi m.rows,Yv Yi m.cols, .slice a n c] 51)).alloc (.cells #[Yv Yi 0,Yv Yi 0, .slice none 0 0] 28)) #[Yv Yi m.rows,Yv Yi m.cols, .slice none 0 0] 28 (g:=w.heap.size+1+1) (by simp);have hb1:=(Blk.newAt (w.alloc (.cells #[Yv Yi m.rows,Yv Yi m.cols, .slice a n c] 51)) #[Yv Yi 0,Yv Yi 0, .slice none 0 0] 28 (g:=w.heap.size+1) (by simp)).alloc (.cells #[Yv Yi m.rows,Yv Yi m.cols, .slice none 0 0] 28);refine (Zph a n c m.cells _ (h.grow hW) (by omega)).mono ?_;rintro e w1 ⟨rfl,hO,hG⟩;obtain ⟨⟨c20,c21,c22⟩,f20,f21,f22⟩:=(hb2.grow hG).three;obtain ⟨⟨c10,c11,c12⟩,f10,f11,f12⟩:=(hb1.grow hG).three;simp only[World.size_alloc] at hO;go_wp2;have hs:=hW.size;simp only[World.size_alloc] at hs;have hs1:=hG.size;simp only[World.size_alloc] at hs1;have hK:Keep (fun g=>g≠w.heap.size+1+1/\g≠w.heap.size+1) w1 _:=((((Keep.refl _ w1).setCell (p:=⟨w.heap.size+1+1,2,none⟩) (by simp) (.slice (some ⟨w.heap.size+1+1+1,0,none⟩) n n)).setCell (p:=⟨w.heap.size+1,0,none⟩) (by simp) (Yv Yi m.rows)).setCell (p:=⟨w.heap.size+1,1,none⟩) (by simp) (Yv Yi m.cols)).setCell (p:=⟨w.heap.size+1,2,none⟩) (by simp) (.slice (some ⟨w.heap.size+1+1+1,0,none⟩) n n);have hB:Blk _ (w.heap.size+1) #[Yv Yi m.rows,Yv Yi m.cols, .slice (some ⟨w.heap.size+1+1+1,0,none⟩) n n] 28:=(((((hb1.grow hG).other (p:=⟨w.heap.size+1+1,2,none⟩) (by simp) (.slice (some ⟨w.heap.size+1+1+1,0,none⟩) n n)).set 0 (Yv Yi m.rows)).set 1 (Yv Yi m.cols)).set 2 (.slice (some ⟨w.heap.size+1+1+1,0,none⟩) n n));have hGf:Grow w _:=(hW.trans hG).keep hK (fun i hi=>by constructor<;>omega);have hOf:=hO.keep hK (fun g hg hlt=>by simp at hg;omega);refine ZE Zb rfl rfl rfl hB ?_;refine ⟨_,rfl,⟨_,_,_,rfl,hOf,h.rng,fun g hg=>⟨?_,hOf.lt hg⟩,hr,hc⟩,hGf⟩;simp at hg;omega
def szM (left:Int) (m:Mat):Int:=szI left m.cells.length
theorem ZnB {left:Int} (h:VM w S v m) (h0:0<=left) (h1:left<=1048576):Calls Tryz.prog 51 #[v,Yv Yi left] w fun e w'=>e= .returned (Yv Yi (szM left m))/\Grow w w':=by
 obtain ⟨a,n,c,rfl,h,_,_⟩:=h;have hl:=h.len;have hm:n<=maxLen:=Nat.le_trans h.row.le h.row.max;have hG:Grow w (w.alloc (.cells #[Yv Yi m.rows,Yv Yi m.cols, .slice a n c] 51)):=(Grow.refl w).alloc _ _;by_cases hlt:left<n
 ·have hz:szI left n= -1:=by unfold szI;rw[if_pos hlt]
  have hz2:szM left m= -1:=by unfold szM;rw[hl];exact hz
  rw[hz2];go_enter Tryz.func51,Tryz.ntmps51;go_wp2_with (go_at_call 75;refine (Zlc a n c left _ hm h0 h1).mono ?_;rintro e w' ⟨rfl,rfl⟩;rw[hz]);go_ret;exact ⟨rfl,hG⟩
 ·have hz:szI left n=left-n:=by unfold szI;rw[if_neg hlt]
  have hz2:szM left m=left-n:=by unfold szM;rw[hl];exact hz
  rw[hz2];go_enter Tryz.func51,Tryz.ntmps51;go_wp2_with (go_at_call 75;refine (Zlc a n c left _ hm h0 h1).mono ?_;rintro e w' ⟨rfl,rfl⟩;rw[hz]);go_ret;exact ⟨rfl,hG⟩
theorem Zbq (h:VM w S v m) (hb:bdM m<=1048576):Calls Tryz.prog 34 #[v] w fun e w'=> ∃ v',e= .returned v'/\OM w' (New w w') v' m/\Grow w w':=by
 obtain ⟨a,n,c,rfl,h,hr,hc⟩:=h;have hl:=h.len;unfold bdM at hb;obtain ⟨w0,hw0,hG0, -, -, -, -⟩:=al3 w #[Yv Yi m.rows,Yv Yi m.cols, .slice a n c] 28 #[Yv Yi 0,Yv Yi 0, .slice none 0 0] 28 #[] 3;have hs0:w0.heap.size=w.heap.size+3:=by rw[hw0];simp
 have b1:Blk w0 w.heap.size #[Yv Yi m.rows,Yv Yi m.cols, .slice a n c] 28:=by rw[hw0];exact ((Blk.newAt _ _ _ rfl).alloc _).alloc _
 have b2:Blk w0 (w.heap.size+1) #[Yv Yi 0,Yv Yi 0, .slice none 0 0] 28:=by rw[hw0];exact (Blk.newAt _ _ _ (by simp)).alloc _
 have hE:Own w0 3 1 (some ⟨w.heap.size+1+1,0,none⟩) 0 0 []:=by rw[hw0];exact Own.freshAt (by simp) (by unfold maxLen;omega) rfl
 obtain ⟨⟨x0,x1,x2⟩, -⟩:=b1.three;have Hw0:=hid hw0;clear hw0;go_enter Tryz.func34,Tryz.ntmps34;go_wp2_with (at_builtin;rw[←Hw0.out];refine ZU rfl (.tmp 3) (.tmp 5) _ rfl T_ints rfl hE rfl (h.row.grow hG0) (Ze0 _) (by omega) (by unfold maxLen;omega) ?_;intro a2 c2 w2 hA2;obtain ⟨⟨z0,z1,z2⟩,g0,g1,g2⟩:=(b1.keep hA2.keep (by simp;omega)).three;obtain ⟨⟨y0,y1,y2⟩,f0,f1,f2⟩:=(b2.keep hA2.keep (by simp)).three);have hne1:w.heap.size+1≠w.heap.size:=by omega
 have hG2:Grow w w2:=hA2.grow hG0 (fun g hg=>by simp at hg;omega);have hl2:=hA2.lo (B:=w.heap.size+2) (by omega) (fun g hg=>by simp at hg;omega);have ho2:Own w2 3 1 a2 n c2 (ints m.cells):=by simpa using hA2.own
 have hB2:=b2.keep hA2.keep (by simp);have hs2:=hG2.size;have hK:Keep (fun q=>q≠w.heap.size/\q≠w.heap.size+1) w2 ((((w2.setCell ⟨w.heap.size,2,none⟩ (.slice a2 n c2)).setCell ⟨w.heap.size+1,0,none⟩ (Yv Yi m.rows)).setCell ⟨w.heap.size+1,1,none⟩ (Yv Yi m.cols)).setCell ⟨w.heap.size+1,2,none⟩ (.slice a2 n c2)):=
  ((((Keep.refl _ w2).setCell (fun _ e=>e.1 rfl) _).setCell (fun _ e=>e.2 rfl) _).setCell (fun _ e=>e.2 rfl) _).setCell (fun _ e=>e.2 rfl) _
 have hof:=ho2.keep hK (fun g hg _=>by have:=hl2 g hg;omega);have hBf:=(((hB2.other (p:=⟨w.heap.size,2,none⟩) (by simp) (.slice a2 n c2)).set 0 (Yv Yi m.rows)).set 1 (Yv Yi m.cols)).set 2 (.slice a2 n c2);have hl':=hl;refine ZE Zb rfl rfl rfl hBf ⟨_,rfl,⟨a2,n,c2,rfl,hof,h.rng,fun g hg=>⟨by have:=hl2 g hg;omega,hof.lt hg⟩,hr,hc⟩,hG2.keep hK fun q hq=>by omega⟩
theorem ZdA (h:VM w S v m) (hb:bdM m<=1048576):Calls Tryz.prog 38 #[v] w fun e w'=> ∃ v',e= .returned v'/\OM w' (New w w') v' m/\Grow w w':=by
 obtain ⟨a,n,c,rfl,h,hr,hc⟩:=h;have hl:=h.len;unfold bdM at hb;obtain ⟨w0,hw0,hG0, -, -, -⟩:=al2 w #[Yv Yi m.rows,Yv Yi m.cols, .slice a n c] 28 #[Yv Yi 0,Yv Yi 0, .slice none 0 0] 28;have hs0:w0.heap.size=w.heap.size+2:=by rw[hw0];simp
 have b1:Blk w0 w.heap.size #[Yv Yi m.rows,Yv Yi m.cols, .slice a n c] 28:=by rw[hw0];exact (Blk.newAt _ _ _ rfl).alloc _
 have b2:Blk w0 (w.heap.size+1) #[Yv Yi 0,Yv Yi 0, .slice none 0 0] 28:=by rw[hw0];exact Blk.newAt _ _ _ (by simp)
 obtain ⟨⟨x0,x1,x2⟩, -⟩:=b1.three;have Hw0:=hid hw0;clear hw0;go_enter Tryz.func38,Tryz.ntmps38;go_wp2_with fail;rw[←Hw0.out];refine Zc (S:=(Keep (fun q=>q≠w.heap.size+1) w0)) [([0,1,2,3,5,6],some 4),([],some 7),([],some 8),([],some 9)] Zj (by kernel_rfl) (fun _ _ _ _ _ h=>h) (Keep.refl _ _).drew ?_;show wpQuiet _ _ _ _ [_,_,_,_,_,_] _;repeat (first |go_big_quiet_skip|(go_big_quiet_want;first |(apply Za ZN;rfl;rfl;exact (fun w' hG=>hG.cell (by simp) x0);go_big_quiet_on;simp only[putP])|(apply Za ZN;rfl;rfl;exact (fun w' hG=>hG.cell (by simp) x1);go_big_quiet_on;simp only[putP])|(apply Za ZaS;rfl;rfl;exact (fun w' hG=>hG.cell (by simp) x2);go_big_quiet_on;simp only[putP])|(go_big_quiet_op;first |go_big_quiet_on|(refine ⟨_,(fun _ _=>rfl), ?_⟩;go_big_quiet_on))))
 refine wpQuiet_nil ?_;obtain ⟨w1,hw1⟩: ∃ w1,w1=w0.drew:=⟨_,rfl⟩;rw[←hw1];have hG1:Grow w0 w1:=by rw[hw1];exact (Grow.refl _).drew
 clear hw1;have hs1:=hG1.size;refine Ze rfl (fun K hK=> ?_);refine ZgG rfl T_ints ?_;have hE:Own (w1.alloc (.cells #[] 3)) 3 1 (some ⟨w1.heap.size,0,none⟩) 0 0 []:=Own.freshAt rfl (by unfold maxLen;omega) rfl;refine hK _ _ ((hG1.alloc _ _).mono fun _ _ _=>trivial) ?_;clear hK K;refine wpQuiet_nil ?_;refine Ze rfl (fun K hK=> ?_);refine ZkR rfl T_ints rfl hE rfl (h.row.grow (hG0.trans (hG1.alloc _ _))) (Ze0 _) (by omega) (by unfold maxLen;omega) ?_;intro a2 c2 w2 hA2;have hG2:Grow w0 w2:=hA2.grow (hG1.alloc _ _) (fun g hg=>by simp at hg;omega);have hl2:=hA2.lo (B:=w.heap.size+2) (by simp;omega) (fun g hg=>by simp at hg;omega);have ho2:Own w2 3 1 a2 n c2 (ints m.cells):=by simpa using hA2.own
 have hs2:=hG2.size;have hB2:=b2.grow hG2;clear hA2 hE;rw[Nat.zero_add];refine hK _ _ (hG2.mono fun _ _ _=>trivial) ?_;clear hK K;refine wpQuiet_nil ?_;refine Ze rfl (fun K hK=> ?_);go_wp2_with fail;refine hK _ _ ((hG2.mono fun _ _ _=>trivial)) ?_;clear hK K;refine wpQuiet_nil ?_;refine Ze rfl (fun K hK=> ?_);obtain ⟨⟨y0,y1,y2⟩,f0,f1,f2⟩:=hB2.three;go_wp2_with fail;have hK2:Keep (fun q=>q≠w.heap.size+1) w2 (((w2.setCell ⟨w.heap.size+1,0,none⟩ (Yv Yi m.rows)).setCell ⟨w.heap.size+1,1,none⟩ (Yv Yi m.cols)).setCell ⟨w.heap.size+1,2,none⟩ (.slice a2 n c2)):=
  (((Keep.refl _ w2).setCell (fun _ e=>e rfl) _).setCell (fun _ e=>e rfl) _).setCell (fun _ e=>e rfl) _
 refine hK _ _ (((hG2.mono fun _ _ _=>trivial).trans hK2)) ?_;clear hK K;refine Zh ?_;have hof:=ho2.keep hK2 (fun g hg _ e=>by have:=hl2 g hg;omega);have hBf:=((hB2.set 0 (Yv Yi m.rows)).set 1 (Yv Yi m.cols)).set 2 (.slice a2 n c2);have hGw:=(hG0.trans hG2).keep hK2 fun q hq=>by omega
 go_wp2;refine ZE Zb rfl rfl rfl hBf ⟨_,rfl,⟨a2,n,c2,rfl,hof,h.rng,fun g hg=>⟨by have:=hl2 g hg;omega,hof.lt hg⟩,hr,hc⟩,hGw⟩

end Go.Proofs.YtgeoehnbpkediaaGreat

namespace Go.Proofs.YtgeoehnbpkediaaGreat
open Go.ChangeShapes Go.WideShapes Go.ChangeAt Go.RowKit
theorem Zqk {α:Type} {cs:List α} (h:cs.length=3): ∃ c0 c1 c2,cs=[c0,c1,c2]:=by
 match cs,h with
 |[c0,c1,c2],_=>exact ⟨c0,c1,c2,rfl⟩
theorem ZrL {α:Type} {cs:List α} (h:cs.length=7): ∃ c0 c1 c2 c3 c4 c5 c6,cs=[c0,c1,c2,c3,c4,c5,c6]:=by
 match cs,h with
 |[c0,c1,c2,c3,c4,c5,c6],_=>exact ⟨c0,c1,c2,c3,c4,c5,c6,rfl⟩
section
variable {H:Type} {enc:TypeId×Value->H} {w:World}
theorem Zpd:Tryz.prog.cellsOf 26=1:=by kernel_rfl
theorem Zhj:Tryz.prog.cellsOf 51=3:=by kernel_rfl
theorem Zp5 {P:Program} {t e:TypeId} {f0 f1 f2:Field} {fuel:Nat} {cs:List Value} {x:DataW H×List MemPlace} (hu:P.underlying t=some (.struct #[f0,f1,f2])) (hc:P.cellsOf t=3)
  (t0:P.underlying f0.type=some (.int .i64)) (t1:P.underlying f1.type=some (.int .i64)) (t2:P.underlying f2.type=some (.slice e)) (te:P.underlying e=some (.int .i64)) (ce:P.cellsOf e=1)
  (o0:f0.offset=0) (o1:f1.offset=1) (o2:f2.offset=2) (c0:P.cellsOf f0.type=1) (c1:P.cellsOf f1.type=1) (c2:P.cellsOf f2.type=1)
  (h:DataW.trod enc P w 0 (fun _=>true) true fuel t cs=some x):
  ∃ r k a n c xs,cs=[.int .i64 r, .int .i64 k, .slice a n c]/\RdI w (fun _=>True) a n c xs/\I64 r/\I64 k:=by
 obtain ⟨xs,n,_,rfl,hl,hlen,hf⟩:=DataW.trod_struct hu h;obtain ⟨q0,q1,q2,rfl⟩:=Zqk (hl.trans hc);obtain ⟨y0,y1,y2,rfl⟩:=Zqk hlen;have h0:=hf 0 f0 rfl;have h1:=hf 1 f1 rfl;have h2:=hf 2 f2 rfl;rw[o0,c0] at h0;rw[o1,c1] at h1;rw[o2,c2] at h2;obtain ⟨r,e0,_,w0⟩:=DataW.trod_int t0 h0;obtain ⟨k,e1,_,w1⟩:=DataW.trod_int t1 h1;obtain ⟨a,m,c,ys,e2,hr⟩:=ZoZ t2 te ce h2;simp at e0 e1 e2;subst e0;subst e1;subst e2;exact ⟨r,k,a,m,c,ys,rfl,hr,Zi7 w0,Zi7 w1⟩
theorem ZoE {fuel:Nat} {cs:List Value} {x:DataW H×List MemPlace} (h:DataW.trod enc Tryz.prog w 0 (fun _=>true) true fuel 51 cs=some x):
  ∃ r k a n c xs,cs=[.int .i64 r, .int .i64 k, .slice a n c]/\RdI w (fun _=>True) a n c xs/\I64 r/\I64 k:=
 Zp5 Tryz.underlying51 Zhj Tryz.underlying3 Tryz.underlying3 Tryz.underlying26 Tryz.underlying3 Zfq rfl rfl rfl Zfq Zfq Zpd h
end
end Go.Proofs.YtgeoehnbpkediaaGreat
