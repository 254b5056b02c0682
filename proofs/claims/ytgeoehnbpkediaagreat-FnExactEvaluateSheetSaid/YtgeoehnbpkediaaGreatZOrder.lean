/- Comparing simplices and finding one in a list: the program's functions (by slices.Equal, slices.Compare, slices.IndexFunc) and the reference's. -/
import Derived.Test.YtgeoehnbpkediaaGreatZInts
set_option maxHeartbeats 8000000
set_option maxRecDepth 100000
namespace Go.Proofs.YtgeoehnbpkediaaGreat
open Go.RowKit
theorem ZnI {S T:Nat->Prop} (a b:Option Addr) (n m cap cap':Nat) (xs ys:List Int) (w:World) (h:RdI w S a n cap xs) (h':RdI w T b m cap' ys) (hn:n<=2097152):
  Calls Tryz.prog 43 #[.slice a n cap, .slice b m cap'] w fun e w'=>e= .returned (.bool (Zei xs ys))/\Qt w w':=by
 have hl:=h.len
 have hl':=h'.len
 by_cases hnm:n=m
 ·subst hnm
  go_enter Tryz.func43,Tryz.ntmps43
  go_wp2
  go_loopw [13] (fun i wr=>Qt w wr/\ ∃ k:Nat,k<=n/\i= .int .i64 k/\xs.take k=ys.take k) (fun i _=>n-(intOf i).toNat)
  case atStart=>exact ⟨Qt.refl _,0,Nat.zero_le _,rfl,rfl⟩
  case round=>
   obtain ⟨hG,k,hk,rfl,he⟩:=hrel
   have He:=Lib.hid he;clear he
   by_cases hlt:k<n
   ·obtain ⟨b1,off1,x,rfl,hx,hxr,_,hbw,hc⟩:=(h.grow hG.grow).at hlt
    obtain ⟨b2,off2,y,rfl,hy,hyr,_,hbw2,hc2⟩:=(h'.grow hG.grow).at hlt
    have Hx:=Lib.hid hx;clear hx
    have Hy:=Lib.hid hy;clear hy
    by_cases hxy:x=y
    ·subst hxy
     go_wp2
     go_quiet (fail)
     go_wp2
     go_roundw
     case rel=>exact ⟨hG.drewN _,k+1,by omega,by go_num,by rw[ZX Hx.out,ZX Hy.out,He.out]⟩
     case measure=>simp[intOf];omega
    ·have hxy':(x==y)=false:=by simpa using hxy
     go_wp2
     go_quiet (fail)
     go_wp2
     go_ret
     refine ⟨Zb (Eq.symm (decide_eq_false ?_)),hG.drewN _⟩
     intro e;subst e
     exact hxy (Option.some.inj (Hx.out.symm.trans Hy.out))
   ·go_wp2
    go_ret
    have:k=n:=by omega
    subst this
    refine ⟨Zb (Eq.symm (decide_eq_true ?_)),hG⟩
    have:=He.out
    rwa [ZZ hl,ZZ hl'] at this
 ·have hb:((n:Int)==(m:Int))=false:=by simp;omega
  go_enter Tryz.func43,Tryz.ntmps43
  go_wp2
  go_ret
  refine ⟨Zb (Eq.symm (decide_eq_false ?_)),Qt.refl _⟩
  intro e;subst e;omega
def Zpx (l:List (List Int)) (k:Int):List (List Int):=l.filter fun s=>(s.length:Int)-1==k
def few (l:List (List Int)):Prop:= ∀ k:Nat,k<4->(Zpx l k).length<=24

end Go.Proofs.YtgeoehnbpkediaaGreat
