/- The draws: the cursor over the code, a byte, a number below a bound. -/
import Derived.Test.YtjpcgofidijigaaGreatDoorZBase
set_option maxHeartbeats 8000000
set_option maxRecDepth 100000
namespace Go.Proofs.YtjpcgofidijigaaGreatDoor
open Go.ChangeShapes Go.WideShapes Go.ChangeAt Go.RowKit
structure RdB (w:World) (S:Nat->Prop) (a:Option Addr) (n cap:Nat) (bs:List Int):Prop where
 row:Row w S 1 a n cap (bs.map (Value.int .u8))
 rng: ∀ x∈bs,0<=x/\x<=255
theorem RdB.keep {S T:Nat->Prop} {w w':World} {a:Option Addr} {n cap:Nat} {xs:List Int} (h:RdB w S a n cap xs) (hk:Keep T w w') (hST: ∀ b,b<w.heap.size->S b->T b):RdB w' S a n cap xs:=⟨h.row.keep hk hST,h.rng⟩
theorem RdB.grow {S:Nat->Prop} {w w':World} {a:Option Addr} {n cap:Nat} {xs:List Int} (h:RdB w S a n cap xs) (hk:Grow w w'):RdB w' S a n cap xs:=h.keep hk fun _ _ _=>trivial
theorem RdB.weak {S T:Nat->Prop} {w:World} {a:Option Addr} {n cap:Nat} {xs:List Int} (h:RdB w S a n cap xs) (hST: ∀ b,b<w.heap.size->S b->T b):RdB w T a n cap xs:=⟨h.row.weak hST,h.rng⟩
theorem RdB.len {S:Nat->Prop} {w:World} {a:Option Addr} {n cap:Nat} {xs:List Int} (h:RdB w S a n cap xs):xs.length=n:=by simpa using h.row.len
theorem RdB.at {S:Nat->Prop} {w:World} {a:Option Addr} {n cap:Nat} {xs:List Int} (h:RdB w S a n cap xs) {k:Nat} (hk:k<n):
  ∃ b off x,a=some ⟨b,off,none⟩/\(0<=x/\x<=255)/\S b/\b<w.heap.size/\w.cell? ⟨b,off+k,none⟩=some (.int .u8 x):=by
 have hl:=h.len;have hlt:k<xs.length:=by omega
 obtain ⟨b,off,ha,hS,hc⟩:=h.row.addr (by intro e;have:=congrArg List.length e;simp at this;subst this;simp at hlt);have h1:=hc k (.int .u8 xs[k]) (by simp[List.getElem?_eq_getElem hlt]);exact ⟨b,off,xs[k],ha,h.rng _ (List.getElem_mem hlt),hS,World.block_lt_of_cell? w _ h1,h1⟩
section
variable {H:Type} {enc:TypeId×Value->H} {P:Program} {w:World}
theorem ZsO {r:Reach} {b0:Nat} {t e:TypeId} {v:Value} {d:DataW H} {ps:List MemPlace} (ht:P.underlying t=some (.slice e)) (he:P.underlying e=some (.int .u8)) (hc:P.cellsOf e=1)
  (hval:Value.okWide P w r b0 t v) (h:DataW.Trod enc P w 0 (fun _=>true) true t v d ps): ∃ a n cap xs,v= .slice a n cap/\RdB w (fun _=>True) a n cap xs:=by
 obtain ⟨fuel,hf⟩:=h;obtain ⟨a0,len0,cap0,rfl⟩:=okWide_slice ht hval;rcases open_ints ht he hc hf with ⟨hcs,_⟩|⟨a,len,cap,zs,hcs,_,hl,hm,hz,_,hcell,hwz⟩
 ·simp[Value.cells] at hcs;obtain ⟨rfl,rfl,rfl⟩:=hcs;exact ⟨none,0,0,[],rfl,⟨rfl,Nat.le_refl _,by simp[maxLen],fun _=>rfl,fun h=>(h rfl).elim⟩,fun _ h=>by cases h⟩
 ·simp[Value.cells] at hcs;obtain ⟨rfl,rfl,rfl⟩:=hcs;simp only[if_true] at hz;refine ⟨some a,len0,cap0,zs.take len0,rfl,⟨by simp;omega,hl,hm,(fun h=>by cases h),fun hne=> ?_⟩,fun n hn=> ?_⟩
  ·have hlen:0<len0:=by
    rcases Nat.eq_zero_or_pos len0 with h0|h0
    ·subst h0;simp at hne
    ·exact h0
   have h0:=hcell 0 (by omega);have hs:a.spot=none:=(by simpa [Addr.add] using World.cell?_spot h0);obtain ⟨b,off,spot⟩:=a;simp only at hs;subst hs;refine ⟨b,off,rfl,trivial,fun j c hj=> ?_⟩;rw[List.getElem?_map] at hj;obtain ⟨z,hz1,rfl⟩:=Option.map_eq_some_iff.1 hj;rw[List.getElem?_take] at hz1;split at hz1
   ·rename_i hjl;have:=hcell j (by omega);simp only[List.getD,hz1,Option.getD_some] at this;have e2:(⟨b,off,none⟩:Addr).add j=⟨b,off+j,none⟩:=by unfold Addr.add;split<;>simp_all
    rwa [e2] at this
   ·cases hz1
  ·have h:=hwz n (List.mem_of_mem_take hn);have h1:IntKind.u8.min=0:=rfl;have h2:IntKind.u8.max=255:=rfl;simp only[Lit.wf,Bool.and_eq_true,decide_eq_true_eq] at h;omega
end
theorem Zna (z:Int):0<=bits .and .i64 z 255/\bits .and .i64 z 255<=255:=by
 have h0:bits .and .i64 z 255=IntKind.i64.wrap ((BitVec.ofInt 64 z&&& BitVec.ofInt 64 255).toNat:Int):=rfl;have h1:(BitVec.ofInt 64 z&&& BitVec.ofInt 64 255).toNat<=255:=by rw[BitVec.toNat_and];exact Nat.and_le_right
 rw[h0,IntWalk.i64_in _ (by omega)];omega
theorem Zrg (z:Int):0<=bits .and .i64 z 1073741823/\bits .and .i64 z 1073741823<=1073741823:=by
 have h0:bits .and .i64 z 1073741823=IntKind.i64.wrap ((BitVec.ofInt 64 z&&& BitVec.ofInt 64 1073741823).toNat:Int):=rfl;have h1:(BitVec.ofInt 64 z&&& BitVec.ofInt 64 1073741823).toNat<=1073741823:=by rw[BitVec.toNat_and];exact Nat.and_le_right
 rw[h0,IntWalk.i64_in _ (by omega)];omega
def Cur (w:World) (g:Nat):Prop:= ∃ (ba:Option Addr) (bn bc:Nat) (bs:List Int) (i:Nat) (h:Int),Blk w g #[.slice ba bn bc, .int .i64 i, .int .i64 h] 60/\RdB w (fun q=>q<g) ba bn bc bs/\i<=bn/\bn<=1048577/\I64 h
theorem Cur.keep {w w':World} {g:Nat} {T:Nat->Prop} (h:Cur w g) (hk:Keep T w w') (hT: ∀ q,q<=g->T q):Cur w' g:=by
 obtain ⟨ba,bn,bc,bs,i,x,h1,h2,h3⟩:=h;exact ⟨ba,bn,bc,bs,i,x,h1.keep hk (hT g (Nat.le_refl _)),h2.keep hk fun b _ hb=>hT b (Nat.le_of_lt hb),h3⟩
theorem Cur.grow {w w':World} {g:Nat} (h:Cur w g) (hk:Grow w w'):Cur w' g:=h.keep hk fun _ _=>trivial
theorem Cur.lt {w:World} {g:Nat} (h:Cur w g):g<w.heap.size:=by
 obtain ⟨_,_,_,_,_,_,h1,_⟩:=h;exact h1.lt
theorem ZqG (g:Nat) (w:World) (h:Cur w g):
  Calls Tryz.prog 52 #[.pointer (some ⟨g,0,none⟩)] w fun e w'=> ∃ x:Nat,x<=255/\e= .returned (.int .i64 x)/\Cur w' g/\Keep (fun q=>q≠g) w w':=by
 obtain ⟨ba,bn,bc,bs,i,y,hB,hR,hi,hbn,hy⟩:=h;obtain ⟨⟨e0,e1,e2⟩,f0,f1,f2⟩:=hB.three;go_enter Tryz.func52,Tryz.ntmps52;go_wp2;generalize hz:wrap64 (wrap64 (y*6364136223846793005)+1442695040888963407)=z;have hzr:I64 z:=by rw[←hz];unfold wrap64 I64;omega
 have hB1:Blk (w.setCell ⟨g,2,none⟩ (.int .i64 z)) g #[.slice ba bn bc, .int .i64 i, .int .i64 z] 60:=hB.set 2 _;have hK1:Keep (fun q=>q≠g) w (w.setCell ⟨g,2,none⟩ (.int .i64 z)):=(Keep.refl _ w).setCell (p:=⟨g,2,none⟩) (fun _ e=>e rfl) _;have hR1:=hR.keep hK1 fun q _ hb=>Nat.ne_of_lt hb;clear hz e0 e1 e2 f0 f1 f2 hR hB;generalize w.setCell ⟨g,2,none⟩ (.int .i64 z)=w1 at *;obtain ⟨⟨e0,e1,e2⟩,f0,f1,f2⟩:=hB1.three;have hx:=Zna (bits BinOp.xor IntKind.i64 (z/8589934592) (z/35184372088832))
 go_quiet (fail)
 go_wp2;generalize bits BinOp.and IntKind.i64 (bits BinOp.xor IntKind.i64 (z/8589934592) (z/35184372088832)) 255=x at *;by_cases hlt:i<bn
 ·obtain ⟨bb,bo,u,rfl,hu,_,hbb,hbc⟩:=hR1.at hlt;have hx2:=Zna (x+u)
  go_quiet (fail)
  go_wp2
  go_quiet (fail)
  go_wp2;go_ret;have hGd: ∀ N,Grow w1 (w1.drewN N):=fun N=>(Grow.refl w1).drewN N;exact ⟨(bits BinOp.and IntKind.i64 (x+u) 255).toNat,by omega,ZU (by omega),⟨_,bn,bc,bs,i+1,z,(hB1.grow (hGd _)).set 1 _,(hR1.grow (hGd _)).keep ((Keep.refl (fun q=>q≠g) _).setCell (p:=⟨g,1,none⟩) (fun _ e=>e rfl) _) fun q _ hb=>Nat.ne_of_lt hb,by omega,hbn,hzr⟩,(hK1.trans ((hGd _).mono fun _ _ _=>trivial)).setCell (p:=⟨g,1,none⟩) (fun _ e=>e rfl) _⟩
 ·go_quiet (fail)
  go_wp2;go_ret;have hGd: ∀ N M,Grow w1 ((w1.drewN N).drewN M):=fun N M=>((Grow.refl w1).drewN N).drewN M;exact ⟨x.toNat,by omega,ZU (by omega),⟨_,bn,bc,bs,i,z,hB1.grow (hGd _ _),hR1.grow (hGd _ _),hi,hbn,hzr⟩,hK1.trans ((hGd _ _).mono fun _ _ _=>trivial)⟩
theorem ZaK (g n:Nat) (w:World) (h:Cur w g) (hn:n<=256):
  Calls Tryz.prog 25 #[.pointer (some ⟨g,0,none⟩), .int .i64 n] w fun e w'=> ∃ x:Nat,(x<n\/x=0)/\e= .returned (.int .i64 x)/\Cur w' g/\Keep (fun q=>q≠g) w w':=by
 go_enter Tryz.func25,Tryz.ntmps25;by_cases h0:0<n
 ·go_wp2_with fail;refine (ZqG g _ h).mono ?_;rintro e w1 ⟨x,hx,rfl,hC,hK⟩;go_wp2;go_ret;exact ⟨x%n, .inl (Nat.mod_lt _ h0),ZU (by simp),hC,hK⟩
 ·go_wp2;go_ret;exact ⟨0, .inr rfl,rfl,h,Keep.refl _ _⟩
theorem Zc8 (g n:Nat) (w:World) (h:Cur w g) (hn:n<=256):
  Calls Tryz.prog 10 #[.pointer (some ⟨g,0,none⟩), .int .i64 n] w fun e w'=> ∃ b:Bool,e= .returned (.bool b)/\Cur w' g/\Keep (fun q=>q≠g) w w':=by
 go_enter Tryz.func10,Tryz.ntmps10;go_wp2_with fail;refine (ZaK g n _ h hn).mono ?_;rintro e w1 ⟨x,hx,rfl,hC,hK⟩;go_wp2;all_goals (go_ret;exact ⟨_,rfl,hC,hK⟩)
theorem Zr7 {S:Nat->Prop} (a:Option Addr) (n cap:Nat) (bs:List Int) (w:World) (h:RdB w S a n cap bs) (hn:n<=1048577):
  Calls Tryz.prog 8 #[.slice a n cap] w fun e w'=> ∃ g,w.heap.size<=g/\e= .returned (.pointer (some ⟨g,0,none⟩))/\Cur w' g/\Grow w w':=by
 go_enter Tryz.func8,Tryz.ntmps8;go_wp2;go_loopw [3,4] (fun u i wr=>wr=w/\ ∃ (k:Nat) (x:Int),k<=n/\i= .int .i64 k/\u= .int .i64 x/\ -1073741824<=x/\x<=1073741824) (fun _ i _=>n-(intOf i).toNat);case atStart=>exact ⟨rfl,0,_,Nat.zero_le _,rfl,rfl,by omega,by omega⟩
 case round=>
  obtain ⟨hww,k,x,hk,rfl,rfl,hx1,hx2⟩:=hrel;subst hww;by_cases hlt:k<n
  ·by_cases h4:k<4000
   ·obtain ⟨bb,bo,u,rfl,hu,_,hbb,hbc⟩:=h.at hlt;have hal:=Zrg (x*131+u+7);go_wp2;go_roundw;case rel=>exact ⟨trivial,k+1,_,by omega,by go_num,rfl,by omega,by omega⟩
    case measure=>simp[intOf];omega
   ·go_wp2;go_ret;exact ⟨_,Nat.le_refl _,rfl,⟨a,n,cap,bs,0,x,Blk.new _ _ _,((h.weak (T:=fun q=>q<wr.heap.size) fun q hq _=>hq).grow ((Grow.refl wr).alloc _ _)),Nat.zero_le _,hn,by unfold I64;omega⟩,(Grow.refl wr).alloc _ _⟩
  ·go_wp2;go_ret;exact ⟨_,Nat.le_refl _,rfl,⟨a,n,cap,bs,0,x,Blk.new _ _ _,((h.weak (T:=fun q=>q<wr.heap.size) fun q hq _=>hq).grow ((Grow.refl wr).alloc _ _)),Nat.zero_le _,hn,by unfold I64;omega⟩,(Grow.refl wr).alloc _ _⟩
end Go.Proofs.YtjpcgofidijigaaGreatDoor
