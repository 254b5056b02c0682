/- IsDef: the reference's. -/
import Derived.Test.YtgeoehnbpkediaaGreatZIsName
set_option maxHeartbeats 8000000
set_option maxRecDepth 100000
namespace Go.Proofs.YtgeoehnbpkediaaGreat
open Go.RowKit
open Lib (hid)
theorem Ze3 {S:Nat->Prop} {v:Value} {d:Dfn} {w:World} (h:VD w S v d) (hb:d.value.cells.length<=2097152):Calls Tryz.prog 45 #[v] w fun e w'=>e= .returned (.bool (Zh d))/\Grow w w':=by
 obtain ⟨a,n,c,rfl,h,ho⟩:=h
 obtain ⟨o1,o2,o3,o4,o5,o6⟩:=ho
 have hlen:=h.len
 obtain ⟨w0,hw0⟩: ∃ w0,w0=w.alloc (.cells #[.string d.name, .int .i64 d.op, .string d.a, .string d.b, .int .i64 d.value.rows, .int .i64 d.value.cols, .slice a n c] 30):=⟨_,rfl⟩
 have hG0:Grow w w0:=by rw[hw0];exact (Grow.refl w).alloc _ _
 have hvm:VM w0 S (.agg #[.int .i64 d.value.rows, .int .i64 d.value.cols, .slice a n c]) d.value:=⟨a,n,c,rfl,h.grow hG0,o5,o6⟩
 unfold I64 at o2
 have Hw0:=hid hw0;clear hw0
 have Hlen:=hid hlen;clear hlen
 by_cases z1:d.value.rows=0
 ·have y1:(d.value.rows==0)=true:=by simp[z1]
  by_cases z2:d.value.cols=0
  ·have y2:(d.value.cols==0)=true:=by simp[z2]
   by_cases z3:n=0
   ·have y3:((n:Int)==0)=true:=by simp[z3]
    have HZ:=hid (show ZL d.value=true by unfold ZL;simp[z1,z2,Hlen.out,z3])
    clear z1 z2 z3
    cases hN:ZB d.name with
    |false=>
     have H:=hid (show Zh d=false by unfold Zh;rw[hN];rfl)
     have HN:=hid hN;clear hN
     go_enter Tryz.func45,Tryz.ntmps45
     go_wp2_with fail
     refine (Zd _ _ o1).mono ?_
     rintro e w' ⟨rfl,rfl⟩
     rw[HN.out]
     go_wp2
     go_ret
     exact ⟨Zb (by rw[H.out]),by rw[←Hw0.out];exact hG0⟩
    |true=>
     have HN:=hid hN;clear hN
     by_cases hr:0<=d.op/\d.op<=9
     ·obtain ⟨hr1,hr2⟩:=hr
      have HR:=hid (ZdJ.2 ⟨hr1,hr2⟩)
      by_cases h0:d.op=0
      ·have e0:(d.op==0)=true:=by simp[h0]
       have HD:=hid (show Zh d=(d.a.toList.isEmpty&&(d.b.toList.isEmpty&&Zg d.value)) by unfold Zh;rw[HN.out,if_pos h0,decide_eq_true ⟨hr1,hr2⟩];rfl)
       clear h0
       cases ha:d.a.toList.isEmpty with
       |false=>
        have H:=hid (show Zh d=false by rw[HD.out,ha];rfl)
        go_enter Tryz.func45,Tryz.ntmps45
        go_wp2_with fail
        refine (Zd _ _ o1).mono ?_
        rintro e w' ⟨rfl,rfl⟩
        rw[HN.out]
        go_wp2_with fail
        refine (Zz _ _ _ _).mono ?_
        rintro e w' ⟨rfl,rfl⟩
        rw[HR.out]
        go_wp2
        go_ret
        exact ⟨Zb (by rw[H.out]),by rw[←Hw0.out];exact hG0⟩
       |true=>
        cases hb0:d.b.toList.isEmpty with
        |false=>
         have H:=hid (show Zh d=false by rw[HD.out,ha,hb0];rfl)
         go_enter Tryz.func45,Tryz.ntmps45
         go_wp2_with fail
         refine (Zd _ _ o1).mono ?_
         rintro e w' ⟨rfl,rfl⟩
         rw[HN.out]
         go_wp2_with fail
         refine (Zz _ _ _ _).mono ?_
         rintro e w' ⟨rfl,rfl⟩
         rw[HR.out]
         go_wp2
         go_ret
         exact ⟨Zb (by rw[H.out]),by rw[←Hw0.out];exact hG0⟩
        |true=>
         have H:=hid (show Zh d=Zg d.value by rw[HD.out,ha,hb0];rfl)
         go_enter Tryz.func45,Tryz.ntmps45
         go_wp2_with fail
         refine (Zd _ _ o1).mono ?_
         rintro e w' ⟨rfl,rfl⟩
         rw[HN.out]
         go_wp2_with fail
         refine (Zz _ _ _ _).mono ?_
         rintro e w' ⟨rfl,rfl⟩
         rw[HR.out]
         go_wp2_with fail
         rw[←Hw0.out]
         refine (ZJ hvm (by unfold bdM;omega)).mono ?_
         rintro e w1 ⟨rfl,hG1⟩
         go_wp2
         go_ret
         exact ⟨Zb (by rw[H.out]),hG0.trans hG1⟩
      ·have e0:(d.op==0)=false:=by simp[h0]
       by_cases h2:d.op<=2
       ·skip
        have HD:=hid (show Zh d=(ZB d.a&&(ZB d.b&&ZL d.value)) by unfold Zh;rw[HN.out,if_neg h0,if_pos h2,decide_eq_true ⟨hr1,hr2⟩];rfl)
        cases ha0:ZB d.a with
        |false=>
         have H:=hid (show Zh d=false by rw[HD.out,ha0];rfl)
         have HA:=hid ha0;clear ha0
         go_enter Tryz.func45,Tryz.ntmps45
         go_wp2_with fail
         refine (Zd _ _ o1).mono ?_
         rintro e w' ⟨rfl,rfl⟩
         rw[HN.out]
         go_wp2_with fail
         refine (Zz _ _ _ _).mono ?_
         rintro e w' ⟨rfl,rfl⟩
         rw[HR.out]
         go_wp2_with fail
         refine (Zd _ _ o3).mono ?_
         rintro e w' ⟨rfl,rfl⟩
         rw[HA.out]
         go_wp2
         go_ret
         exact ⟨Zb (by rw[H.out]),by rw[←Hw0.out];exact hG0⟩
        |true=>
         have HA:=hid ha0;clear ha0
         cases hb0:ZB d.b with
         |false=>
          have H:=hid (show Zh d=false by rw[HD.out,HA.out,hb0];rfl)
          have HBB:=hid hb0;clear hb0
          go_enter Tryz.func45,Tryz.ntmps45
          go_wp2_with fail
          refine (Zd _ _ o1).mono ?_
          rintro e w' ⟨rfl,rfl⟩
          rw[HN.out]
          go_wp2_with fail
          refine (Zz _ _ _ _).mono ?_
          rintro e w' ⟨rfl,rfl⟩
          rw[HR.out]
          go_wp2_with fail
          refine (Zd _ _ o3).mono ?_
          rintro e w' ⟨rfl,rfl⟩
          rw[HA.out]
          go_wp2_with fail
          refine (Zd _ _ o4).mono ?_
          rintro e w' ⟨rfl,rfl⟩
          rw[HBB.out]
          go_wp2
          go_ret
          exact ⟨Zb (by rw[H.out]),by rw[←Hw0.out];exact hG0⟩
         |true=>
          have H:=hid (show Zh d=ZL d.value by rw[HD.out,HA.out,hb0];rfl)
          have HBB:=hid hb0;clear hb0
          go_enter Tryz.func45,Tryz.ntmps45
          go_wp2_with fail
          refine (Zd _ _ o1).mono ?_
          rintro e w' ⟨rfl,rfl⟩
          rw[HN.out]
          go_wp2_with fail
          refine (Zz _ _ _ _).mono ?_
          rintro e w' ⟨rfl,rfl⟩
          rw[HR.out]
          go_wp2_with fail
          refine (Zd _ _ o3).mono ?_
          rintro e w' ⟨rfl,rfl⟩
          rw[HA.out]
          go_wp2_with fail
          refine (Zd _ _ o4).mono ?_
          rintro e w' ⟨rfl,rfl⟩
          rw[HBB.out]
          go_wp2
          go_ret
          exact ⟨Zb (by rw[H.out,HZ.out]),by rw[←Hw0.out];exact hG0⟩
       ·skip
        have HD:=hid (show Zh d=(ZB d.a&&(d.b.toList.isEmpty&&ZL d.value)) by unfold Zh;rw[HN.out,if_neg h0,if_neg h2,decide_eq_true ⟨hr1,hr2⟩];rfl)
        cases ha0:ZB d.a with
        |false=>
         have H:=hid (show Zh d=false by rw[HD.out,ha0];rfl)
         have HA:=hid ha0;clear ha0
         go_enter Tryz.func45,Tryz.ntmps45
         go_wp2_with fail
         refine (Zd _ _ o1).mono ?_
         rintro e w' ⟨rfl,rfl⟩
         rw[HN.out]
         go_wp2_with fail
         refine (Zz _ _ _ _).mono ?_
         rintro e w' ⟨rfl,rfl⟩
         rw[HR.out]
         go_wp2_with fail
         refine (Zd _ _ o3).mono ?_
         rintro e w' ⟨rfl,rfl⟩
         rw[HA.out]
         go_wp2
         go_ret
         exact ⟨Zb (by rw[H.out]),by rw[←Hw0.out];exact hG0⟩
        |true=>
         have HA:=hid ha0;clear ha0
         cases hb0:d.b.toList.isEmpty with
         |false=>
          have H:=hid (show Zh d=false by rw[HD.out,HA.out,hb0];rfl)
          go_enter Tryz.func45,Tryz.ntmps45
          go_wp2_with fail
          refine (Zd _ _ o1).mono ?_
          rintro e w' ⟨rfl,rfl⟩
          rw[HN.out]
          go_wp2_with fail
          refine (Zz _ _ _ _).mono ?_
          rintro e w' ⟨rfl,rfl⟩
          rw[HR.out]
          go_wp2_with fail
          refine (Zd _ _ o3).mono ?_
          rintro e w' ⟨rfl,rfl⟩
          rw[HA.out]
          go_wp2
          go_ret
          exact ⟨Zb (by rw[H.out]),by rw[←Hw0.out];exact hG0⟩
         |true=>
          have H:=hid (show Zh d=ZL d.value by rw[HD.out,HA.out,hb0];rfl)
          go_enter Tryz.func45,Tryz.ntmps45
          go_wp2_with fail
          refine (Zd _ _ o1).mono ?_
          rintro e w' ⟨rfl,rfl⟩
          rw[HN.out]
          go_wp2_with fail
          refine (Zz _ _ _ _).mono ?_
          rintro e w' ⟨rfl,rfl⟩
          rw[HR.out]
          go_wp2_with fail
          refine (Zd _ _ o3).mono ?_
          rintro e w' ⟨rfl,rfl⟩
          rw[HA.out]
          go_wp2
          go_ret
          exact ⟨Zb (by rw[H.out,HZ.out]),by rw[←Hw0.out];exact hG0⟩
     ·have H:=hid (show Zh d=false by unfold Zh;rw[HN.out,decide_eq_false hr];rfl)
      have HR:=hid (Zfk hr)
      clear hr
      go_enter Tryz.func45,Tryz.ntmps45
      go_wp2_with fail
      refine (Zd _ _ o1).mono ?_
      rintro e w' ⟨rfl,rfl⟩
      rw[HN.out]
      go_wp2_with fail
      refine (Zz _ _ _ _).mono ?_
      rintro e w' ⟨rfl,rfl⟩
      rw[HR.out]
      go_wp2
      go_ret
      exact ⟨Zb (by rw[H.out]),by rw[←Hw0.out];exact hG0⟩
   ·have y3:((n:Int)==0)=false:=by simp[z3]
    have HZ:=hid (show ZL d.value=false by unfold ZL;simp[z1,z2,Hlen.out,z3])
    clear z1 z2 z3
    cases hN:ZB d.name with
    |false=>
     have H:=hid (show Zh d=false by unfold Zh;rw[hN];rfl)
     have HN:=hid hN;clear hN
     go_enter Tryz.func45,Tryz.ntmps45
     go_wp2_with fail
     refine (Zd _ _ o1).mono ?_
     rintro e w' ⟨rfl,rfl⟩
     rw[HN.out]
     go_wp2
     go_ret
     exact ⟨Zb (by rw[H.out]),by rw[←Hw0.out];exact hG0⟩
    |true=>
     have HN:=hid hN;clear hN
     by_cases hr:0<=d.op/\d.op<=9
     ·obtain ⟨hr1,hr2⟩:=hr
      have HR:=hid (ZdJ.2 ⟨hr1,hr2⟩)
      by_cases h0:d.op=0
      ·have e0:(d.op==0)=true:=by simp[h0]
       have HD:=hid (show Zh d=(d.a.toList.isEmpty&&(d.b.toList.isEmpty&&Zg d.value)) by unfold Zh;rw[HN.out,if_pos h0,decide_eq_true ⟨hr1,hr2⟩];rfl)
       clear h0
       cases ha:d.a.toList.isEmpty with
       |false=>
        have H:=hid (show Zh d=false by rw[HD.out,ha];rfl)
        go_enter Tryz.func45,Tryz.ntmps45
        go_wp2_with fail
        refine (Zd _ _ o1).mono ?_
        rintro e w' ⟨rfl,rfl⟩
        rw[HN.out]
        go_wp2_with fail
        refine (Zz _ _ _ _).mono ?_
        rintro e w' ⟨rfl,rfl⟩
        rw[HR.out]
        go_wp2
        go_ret
        exact ⟨Zb (by rw[H.out]),by rw[←Hw0.out];exact hG0⟩
       |true=>
        cases hb0:d.b.toList.isEmpty with
        |false=>
         have H:=hid (show Zh d=false by rw[HD.out,ha,hb0];rfl)
         go_enter Tryz.func45,Tryz.ntmps45
         go_wp2_with fail
         refine (Zd _ _ o1).mono ?_
         rintro e w' ⟨rfl,rfl⟩
         rw[HN.out]
         go_wp2_with fail
         refine (Zz _ _ _ _).mono ?_
         rintro e w' ⟨rfl,rfl⟩
         rw[HR.out]
         go_wp2
         go_ret
         exact ⟨Zb (by rw[H.out]),by rw[←Hw0.out];exact hG0⟩
        |true=>
         have H:=hid (show Zh d=Zg d.value by rw[HD.out,ha,hb0];rfl)
         go_enter Tryz.func45,Tryz.ntmps45
         go_wp2_with fail
         refine (Zd _ _ o1).mono ?_
         rintro e w' ⟨rfl,rfl⟩
         rw[HN.out]
         go_wp2_with fail
         refine (Zz _ _ _ _).mono ?_
         rintro e w' ⟨rfl,rfl⟩
         rw[HR.out]
         go_wp2_with fail
         rw[←Hw0.out]
         refine (ZJ hvm (by unfold bdM;omega)).mono ?_
         rintro e w1 ⟨rfl,hG1⟩
         go_wp2
         go_ret
         exact ⟨Zb (by rw[H.out]),hG0.trans hG1⟩
      ·have e0:(d.op==0)=false:=by simp[h0]
       by_cases h2:d.op<=2
       ·skip
        have HD:=hid (show Zh d=(ZB d.a&&(ZB d.b&&ZL d.value)) by unfold Zh;rw[HN.out,if_neg h0,if_pos h2,decide_eq_true ⟨hr1,hr2⟩];rfl)
        cases ha0:ZB d.a with
        |false=>
         have H:=hid (show Zh d=false by rw[HD.out,ha0];rfl)
         have HA:=hid ha0;clear ha0
         go_enter Tryz.func45,Tryz.ntmps45
         go_wp2_with fail
         refine (Zd _ _ o1).mono ?_
         rintro e w' ⟨rfl,rfl⟩
         rw[HN.out]
         go_wp2_with fail
         refine (Zz _ _ _ _).mono ?_
         rintro e w' ⟨rfl,rfl⟩
         rw[HR.out]
         go_wp2_with fail
         refine (Zd _ _ o3).mono ?_
         rintro e w' ⟨rfl,rfl⟩
         rw[HA.out]
         go_wp2
         go_ret
         exact ⟨Zb (by rw[H.out]),by rw[←Hw0.out];exact hG0⟩
        |true=>
         have HA:=hid ha0;clear ha0
         cases hb0:ZB d.b with
         |false=>
          have H:=hid (show Zh d=false by rw[HD.out,HA.out,hb0];rfl)
          have HBB:=hid hb0;clear hb0
          go_enter Tryz.func45,Tryz.ntmps45
          go_wp2_with fail
          refine (Zd _ _ o1).mono ?_
          rintro e w' ⟨rfl,rfl⟩
          rw[HN.out]
          go_wp2_with fail
          refine (Zz _ _ _ _).mono ?_
          rintro e w' ⟨rfl,rfl⟩
          rw[HR.out]
          go_wp2_with fail
          refine (Zd _ _ o3).mono ?_
          rintro e w' ⟨rfl,rfl⟩
          rw[HA.out]
          go_wp2_with fail
          refine (Zd _ _ o4).mono ?_
          rintro e w' ⟨rfl,rfl⟩
          rw[HBB.out]
          go_wp2
          go_ret
          exact ⟨Zb (by rw[H.out]),by rw[←Hw0.out];exact hG0⟩
         |true=>
          have H:=hid (show Zh d=ZL d.value by rw[HD.out,HA.out,hb0];rfl)
          have HBB:=hid hb0;clear hb0
          go_enter Tryz.func45,Tryz.ntmps45
          go_wp2_with fail
          refine (Zd _ _ o1).mono ?_
          rintro e w' ⟨rfl,rfl⟩
          rw[HN.out]
          go_wp2_with fail
          refine (Zz _ _ _ _).mono ?_
          rintro e w' ⟨rfl,rfl⟩
          rw[HR.out]
          go_wp2_with fail
          refine (Zd _ _ o3).mono ?_
          rintro e w' ⟨rfl,rfl⟩
          rw[HA.out]
          go_wp2_with fail
          refine (Zd _ _ o4).mono ?_
          rintro e w' ⟨rfl,rfl⟩
          rw[HBB.out]
          go_wp2
          go_ret
          exact ⟨Zb (by rw[H.out,HZ.out]),by rw[←Hw0.out];exact hG0⟩
       ·skip
        have HD:=hid (show Zh d=(ZB d.a&&(d.b.toList.isEmpty&&ZL d.value)) by unfold Zh;rw[HN.out,if_neg h0,if_neg h2,decide_eq_true ⟨hr1,hr2⟩];rfl)
        cases ha0:ZB d.a with
        |false=>
         have H:=hid (show Zh d=false by rw[HD.out,ha0];rfl)
         have HA:=hid ha0;clear ha0
         go_enter Tryz.func45,Tryz.ntmps45
         go_wp2_with fail
         refine (Zd _ _ o1).mono ?_
         rintro e w' ⟨rfl,rfl⟩
         rw[HN.out]
         go_wp2_with fail
         refine (Zz _ _ _ _).mono ?_
         rintro e w' ⟨rfl,rfl⟩
         rw[HR.out]
         go_wp2_with fail
         refine (Zd _ _ o3).mono ?_
         rintro e w' ⟨rfl,rfl⟩
         rw[HA.out]
         go_wp2
         go_ret
         exact ⟨Zb (by rw[H.out]),by rw[←Hw0.out];exact hG0⟩
        |true=>
         have HA:=hid ha0;clear ha0
         cases hb0:d.b.toList.isEmpty with
         |false=>
          have H:=hid (show Zh d=false by rw[HD.out,HA.out,hb0];rfl)
          go_enter Tryz.func45,Tryz.ntmps45
          go_wp2_with fail
          refine (Zd _ _ o1).mono ?_
          rintro e w' ⟨rfl,rfl⟩
          rw[HN.out]
          go_wp2_with fail
          refine (Zz _ _ _ _).mono ?_
          rintro e w' ⟨rfl,rfl⟩
          rw[HR.out]
          go_wp2_with fail
          refine (Zd _ _ o3).mono ?_
          rintro e w' ⟨rfl,rfl⟩
          rw[HA.out]
          go_wp2
          go_ret
          exact ⟨Zb (by rw[H.out]),by rw[←Hw0.out];exact hG0⟩
         |true=>
          have H:=hid (show Zh d=ZL d.value by rw[HD.out,HA.out,hb0];rfl)
          go_enter Tryz.func45,Tryz.ntmps45
          go_wp2_with fail
          refine (Zd _ _ o1).mono ?_
          rintro e w' ⟨rfl,rfl⟩
          rw[HN.out]
          go_wp2_with fail
          refine (Zz _ _ _ _).mono ?_
          rintro e w' ⟨rfl,rfl⟩
          rw[HR.out]
          go_wp2_with fail
          refine (Zd _ _ o3).mono ?_
          rintro e w' ⟨rfl,rfl⟩
          rw[HA.out]
          go_wp2
          go_ret
          exact ⟨Zb (by rw[H.out,HZ.out]),by rw[←Hw0.out];exact hG0⟩
     ·have H:=hid (show Zh d=false by unfold Zh;rw[HN.out,decide_eq_false hr];rfl)
      have HR:=hid (Zfk hr)
      clear hr
      go_enter Tryz.func45,Tryz.ntmps45
      go_wp2_with fail
      refine (Zd _ _ o1).mono ?_
      rintro e w' ⟨rfl,rfl⟩
      rw[HN.out]
      go_wp2_with fail
      refine (Zz _ _ _ _).mono ?_
      rintro e w' ⟨rfl,rfl⟩
      rw[HR.out]
      go_wp2
      go_ret
      exact ⟨Zb (by rw[H.out]),by rw[←Hw0.out];exact hG0⟩
  ·have y2:(d.value.cols==0)=false:=by simp[z2]
   have HZ:=hid (show ZL d.value=false by unfold ZL;simp[z1,z2])
   clear z1 z2
   cases hN:ZB d.name with
   |false=>
    have H:=hid (show Zh d=false by unfold Zh;rw[hN];rfl)
    have HN:=hid hN;clear hN
    go_enter Tryz.func45,Tryz.ntmps45
    go_wp2_with fail
    refine (Zd _ _ o1).mono ?_
    rintro e w' ⟨rfl,rfl⟩
    rw[HN.out]
    go_wp2
    go_ret
    exact ⟨Zb (by rw[H.out]),by rw[←Hw0.out];exact hG0⟩
   |true=>
    have HN:=hid hN;clear hN
    by_cases hr:0<=d.op/\d.op<=9
    ·obtain ⟨hr1,hr2⟩:=hr
     have HR:=hid (ZdJ.2 ⟨hr1,hr2⟩)
     by_cases h0:d.op=0
     ·have e0:(d.op==0)=true:=by simp[h0]
      have HD:=hid (show Zh d=(d.a.toList.isEmpty&&(d.b.toList.isEmpty&&Zg d.value)) by unfold Zh;rw[HN.out,if_pos h0,decide_eq_true ⟨hr1,hr2⟩];rfl)
      clear h0
      cases ha:d.a.toList.isEmpty with
      |false=>
       have H:=hid (show Zh d=false by rw[HD.out,ha];rfl)
       go_enter Tryz.func45,Tryz.ntmps45
       go_wp2_with fail
       refine (Zd _ _ o1).mono ?_
       rintro e w' ⟨rfl,rfl⟩
       rw[HN.out]
       go_wp2_with fail
       refine (Zz _ _ _ _).mono ?_
       rintro e w' ⟨rfl,rfl⟩
       rw[HR.out]
       go_wp2
       go_ret
       exact ⟨Zb (by rw[H.out]),by rw[←Hw0.out];exact hG0⟩
      |true=>
       cases hb0:d.b.toList.isEmpty with
       |false=>
        have H:=hid (show Zh d=false by rw[HD.out,ha,hb0];rfl)
        go_enter Tryz.func45,Tryz.ntmps45
        go_wp2_with fail
        refine (Zd _ _ o1).mono ?_
        rintro e w' ⟨rfl,rfl⟩
        rw[HN.out]
        go_wp2_with fail
        refine (Zz _ _ _ _).mono ?_
        rintro e w' ⟨rfl,rfl⟩
        rw[HR.out]
        go_wp2
        go_ret
        exact ⟨Zb (by rw[H.out]),by rw[←Hw0.out];exact hG0⟩
       |true=>
        have H:=hid (show Zh d=Zg d.value by rw[HD.out,ha,hb0];rfl)
        go_enter Tryz.func45,Tryz.ntmps45
        go_wp2_with fail
        refine (Zd _ _ o1).mono ?_
        rintro e w' ⟨rfl,rfl⟩
        rw[HN.out]
        go_wp2_with fail
        refine (Zz _ _ _ _).mono ?_
        rintro e w' ⟨rfl,rfl⟩
        rw[HR.out]
        go_wp2_with fail
        rw[←Hw0.out]
        refine (ZJ hvm (by unfold bdM;omega)).mono ?_
        rintro e w1 ⟨rfl,hG1⟩
        go_wp2
        go_ret
        exact ⟨Zb (by rw[H.out]),hG0.trans hG1⟩
     ·have e0:(d.op==0)=false:=by simp[h0]
      by_cases h2:d.op<=2
      ·skip
       have HD:=hid (show Zh d=(ZB d.a&&(ZB d.b&&ZL d.value)) by unfold Zh;rw[HN.out,if_neg h0,if_pos h2,decide_eq_true ⟨hr1,hr2⟩];rfl)
       cases ha0:ZB d.a with
       |false=>
        have H:=hid (show Zh d=false by rw[HD.out,ha0];rfl)
        have HA:=hid ha0;clear ha0
        go_enter Tryz.func45,Tryz.ntmps45
        go_wp2_with fail
        refine (Zd _ _ o1).mono ?_
        rintro e w' ⟨rfl,rfl⟩
        rw[HN.out]
        go_wp2_with fail
        refine (Zz _ _ _ _).mono ?_
        rintro e w' ⟨rfl,rfl⟩
        rw[HR.out]
        go_wp2_with fail
        refine (Zd _ _ o3).mono ?_
        rintro e w' ⟨rfl,rfl⟩
        rw[HA.out]
        go_wp2
        go_ret
        exact ⟨Zb (by rw[H.out]),by rw[←Hw0.out];exact hG0⟩
       |true=>
        have HA:=hid ha0;clear ha0
        cases hb0:ZB d.b with
        |false=>
         have H:=hid (show Zh d=false by rw[HD.out,HA.out,hb0];rfl)
         have HBB:=hid hb0;clear hb0
         go_enter Tryz.func45,Tryz.ntmps45
         go_wp2_with fail
         refine (Zd _ _ o1).mono ?_
         rintro e w' ⟨rfl,rfl⟩
         rw[HN.out]
         go_wp2_with fail
         refine (Zz _ _ _ _).mono ?_
         rintro e w' ⟨rfl,rfl⟩
         rw[HR.out]
         go_wp2_with fail
         refine (Zd _ _ o3).mono ?_
         rintro e w' ⟨rfl,rfl⟩
         rw[HA.out]
         go_wp2_with fail
         refine (Zd _ _ o4).mono ?_
         rintro e w' ⟨rfl,rfl⟩
         rw[HBB.out]
         go_wp2
         go_ret
         exact ⟨Zb (by rw[H.out]),by rw[←Hw0.out];exact hG0⟩
        |true=>
         have H:=hid (show Zh d=ZL d.value by rw[HD.out,HA.out,hb0];rfl)
         have HBB:=hid hb0;clear hb0
         go_enter Tryz.func45,Tryz.ntmps45
         go_wp2_with fail
         refine (Zd _ _ o1).mono ?_
         rintro e w' ⟨rfl,rfl⟩
         rw[HN.out]
         go_wp2_with fail
         refine (Zz _ _ _ _).mono ?_
         rintro e w' ⟨rfl,rfl⟩
         rw[HR.out]
         go_wp2_with fail
         refine (Zd _ _ o3).mono ?_
         rintro e w' ⟨rfl,rfl⟩
         rw[HA.out]
         go_wp2_with fail
         refine (Zd _ _ o4).mono ?_
         rintro e w' ⟨rfl,rfl⟩
         rw[HBB.out]
         go_wp2
         go_ret
         exact ⟨Zb (by rw[H.out,HZ.out]),by rw[←Hw0.out];exact hG0⟩
      ·skip
       have HD:=hid (show Zh d=(ZB d.a&&(d.b.toList.isEmpty&&ZL d.value)) by unfold Zh;rw[HN.out,if_neg h0,if_neg h2,decide_eq_true ⟨hr1,hr2⟩];rfl)
       cases ha0:ZB d.a with
       |false=>
        have H:=hid (show Zh d=false by rw[HD.out,ha0];rfl)
        have HA:=hid ha0;clear ha0
        go_enter Tryz.func45,Tryz.ntmps45
        go_wp2_with fail
        refine (Zd _ _ o1).mono ?_
        rintro e w' ⟨rfl,rfl⟩
        rw[HN.out]
        go_wp2_with fail
        refine (Zz _ _ _ _).mono ?_
        rintro e w' ⟨rfl,rfl⟩
        rw[HR.out]
        go_wp2_with fail
        refine (Zd _ _ o3).mono ?_
        rintro e w' ⟨rfl,rfl⟩
        rw[HA.out]
        go_wp2
        go_ret
        exact ⟨Zb (by rw[H.out]),by rw[←Hw0.out];exact hG0⟩
       |true=>
        have HA:=hid ha0;clear ha0
        cases hb0:d.b.toList.isEmpty with
        |false=>
         have H:=hid (show Zh d=false by rw[HD.out,HA.out,hb0];rfl)
         go_enter Tryz.func45,Tryz.ntmps45
         go_wp2_with fail
         refine (Zd _ _ o1).mono ?_
         rintro e w' ⟨rfl,rfl⟩
         rw[HN.out]
         go_wp2_with fail
         refine (Zz _ _ _ _).mono ?_
         rintro e w' ⟨rfl,rfl⟩
         rw[HR.out]
         go_wp2_with fail
         refine (Zd _ _ o3).mono ?_
         rintro e w' ⟨rfl,rfl⟩
         rw[HA.out]
         go_wp2
         go_ret
         exact ⟨Zb (by rw[H.out]),by rw[←Hw0.out];exact hG0⟩
        |true=>
         have H:=hid (show Zh d=ZL d.value by rw[HD.out,HA.out,hb0];rfl)
         go_enter Tryz.func45,Tryz.ntmps45
         go_wp2_with fail
         refine (Zd _ _ o1).mono ?_
         rintro e w' ⟨rfl,rfl⟩
         rw[HN.out]
         go_wp2_with fail
         refine (Zz _ _ _ _).mono ?_
         rintro e w' ⟨rfl,rfl⟩
         rw[HR.out]
         go_wp2_with fail
         refine (Zd _ _ o3).mono ?_
         rintro e w' ⟨rfl,rfl⟩
         rw[HA.out]
         go_wp2
         go_ret
         exact ⟨Zb (by rw[H.out,HZ.out]),by rw[←Hw0.out];exact hG0⟩
    ·have H:=hid (show Zh d=false by unfold Zh;rw[HN.out,decide_eq_false hr];rfl)
     have HR:=hid (Zfk hr)
     clear hr
     go_enter Tryz.func45,Tryz.ntmps45
     go_wp2_with fail
     refine (Zd _ _ o1).mono ?_
     rintro e w' ⟨rfl,rfl⟩
     rw[HN.out]
     go_wp2_with fail
     refine (Zz _ _ _ _).mono ?_
     rintro e w' ⟨rfl,rfl⟩
     rw[HR.out]
     go_wp2
     go_ret
     exact ⟨Zb (by rw[H.out]),by rw[←Hw0.out];exact hG0⟩
 ·have y1:(d.value.rows==0)=false:=by simp[z1]
  have HZ:=hid (show ZL d.value=false by unfold ZL;simp[z1])
  clear z1
  cases hN:ZB d.name with
  |false=>
   have H:=hid (show Zh d=false by unfold Zh;rw[hN];rfl)
   have HN:=hid hN;clear hN
   go_enter Tryz.func45,Tryz.ntmps45
   go_wp2_with fail
   refine (Zd _ _ o1).mono ?_
   rintro e w' ⟨rfl,rfl⟩
   rw[HN.out]
   go_wp2
   go_ret
   exact ⟨Zb (by rw[H.out]),by rw[←Hw0.out];exact hG0⟩
  |true=>
   have HN:=hid hN;clear hN
   by_cases hr:0<=d.op/\d.op<=9
   ·obtain ⟨hr1,hr2⟩:=hr
    have HR:=hid (ZdJ.2 ⟨hr1,hr2⟩)
    by_cases h0:d.op=0
    ·have e0:(d.op==0)=true:=by simp[h0]
     have HD:=hid (show Zh d=(d.a.toList.isEmpty&&(d.b.toList.isEmpty&&Zg d.value)) by unfold Zh;rw[HN.out,if_pos h0,decide_eq_true ⟨hr1,hr2⟩];rfl)
     clear h0
     cases ha:d.a.toList.isEmpty with
     |false=>
      have H:=hid (show Zh d=false by rw[HD.out,ha];rfl)
      go_enter Tryz.func45,Tryz.ntmps45
      go_wp2_with fail
      refine (Zd _ _ o1).mono ?_
      rintro e w' ⟨rfl,rfl⟩
      rw[HN.out]
      go_wp2_with fail
      refine (Zz _ _ _ _).mono ?_
      rintro e w' ⟨rfl,rfl⟩
      rw[HR.out]
      go_wp2
      go_ret
      exact ⟨Zb (by rw[H.out]),by rw[←Hw0.out];exact hG0⟩
     |true=>
      cases hb0:d.b.toList.isEmpty with
      |false=>
       have H:=hid (show Zh d=false by rw[HD.out,ha,hb0];rfl)
       go_enter Tryz.func45,Tryz.ntmps45
       go_wp2_with fail
       refine (Zd _ _ o1).mono ?_
       rintro e w' ⟨rfl,rfl⟩
       rw[HN.out]
       go_wp2_with fail
       refine (Zz _ _ _ _).mono ?_
       rintro e w' ⟨rfl,rfl⟩
       rw[HR.out]
       go_wp2
       go_ret
       exact ⟨Zb (by rw[H.out]),by rw[←Hw0.out];exact hG0⟩
      |true=>
       have H:=hid (show Zh d=Zg d.value by rw[HD.out,ha,hb0];rfl)
       go_enter Tryz.func45,Tryz.ntmps45
       go_wp2_with fail
       refine (Zd _ _ o1).mono ?_
       rintro e w' ⟨rfl,rfl⟩
       rw[HN.out]
       go_wp2_with fail
       refine (Zz _ _ _ _).mono ?_
       rintro e w' ⟨rfl,rfl⟩
       rw[HR.out]
       go_wp2_with fail
       rw[←Hw0.out]
       refine (ZJ hvm (by unfold bdM;omega)).mono ?_
       rintro e w1 ⟨rfl,hG1⟩
       go_wp2
       go_ret
       exact ⟨Zb (by rw[H.out]),hG0.trans hG1⟩
    ·have e0:(d.op==0)=false:=by simp[h0]
     by_cases h2:d.op<=2
     ·skip
      have HD:=hid (show Zh d=(ZB d.a&&(ZB d.b&&ZL d.value)) by unfold Zh;rw[HN.out,if_neg h0,if_pos h2,decide_eq_true ⟨hr1,hr2⟩];rfl)
      cases ha0:ZB d.a with
      |false=>
       have H:=hid (show Zh d=false by rw[HD.out,ha0];rfl)
       have HA:=hid ha0;clear ha0
       go_enter Tryz.func45,Tryz.ntmps45
       go_wp2_with fail
       refine (Zd _ _ o1).mono ?_
       rintro e w' ⟨rfl,rfl⟩
       rw[HN.out]
       go_wp2_with fail
       refine (Zz _ _ _ _).mono ?_
       rintro e w' ⟨rfl,rfl⟩
       rw[HR.out]
       go_wp2_with fail
       refine (Zd _ _ o3).mono ?_
       rintro e w' ⟨rfl,rfl⟩
       rw[HA.out]
       go_wp2
       go_ret
       exact ⟨Zb (by rw[H.out]),by rw[←Hw0.out];exact hG0⟩
      |true=>
       have HA:=hid ha0;clear ha0
       cases hb0:ZB d.b with
       |false=>
        have H:=hid (show Zh d=false by rw[HD.out,HA.out,hb0];rfl)
        have HBB:=hid hb0;clear hb0
        go_enter Tryz.func45,Tryz.ntmps45
        go_wp2_with fail
        refine (Zd _ _ o1).mono ?_
        rintro e w' ⟨rfl,rfl⟩
        rw[HN.out]
        go_wp2_with fail
        refine (Zz _ _ _ _).mono ?_
        rintro e w' ⟨rfl,rfl⟩
        rw[HR.out]
        go_wp2_with fail
        refine (Zd _ _ o3).mono ?_
        rintro e w' ⟨rfl,rfl⟩
        rw[HA.out]
        go_wp2_with fail
        refine (Zd _ _ o4).mono ?_
        rintro e w' ⟨rfl,rfl⟩
        rw[HBB.out]
        go_wp2
        go_ret
        exact ⟨Zb (by rw[H.out]),by rw[←Hw0.out];exact hG0⟩
       |true=>
        have H:=hid (show Zh d=ZL d.value by rw[HD.out,HA.out,hb0];rfl)
        have HBB:=hid hb0;clear hb0
        go_enter Tryz.func45,Tryz.ntmps45
        go_wp2_with fail
        refine (Zd _ _ o1).mono ?_
        rintro e w' ⟨rfl,rfl⟩
        rw[HN.out]
        go_wp2_with fail
        refine (Zz _ _ _ _).mono ?_
        rintro e w' ⟨rfl,rfl⟩
        rw[HR.out]
        go_wp2_with fail
        refine (Zd _ _ o3).mono ?_
        rintro e w' ⟨rfl,rfl⟩
        rw[HA.out]
        go_wp2_with fail
        refine (Zd _ _ o4).mono ?_
        rintro e w' ⟨rfl,rfl⟩
        rw[HBB.out]
        go_wp2
        go_ret
        exact ⟨Zb (by rw[H.out,HZ.out]),by rw[←Hw0.out];exact hG0⟩
     ·skip
      have HD:=hid (show Zh d=(ZB d.a&&(d.b.toList.isEmpty&&ZL d.value)) by unfold Zh;rw[HN.out,if_neg h0,if_neg h2,decide_eq_true ⟨hr1,hr2⟩];rfl)
      cases ha0:ZB d.a with
      |false=>
       have H:=hid (show Zh d=false by rw[HD.out,ha0];rfl)
       have HA:=hid ha0;clear ha0
       go_enter Tryz.func45,Tryz.ntmps45
       go_wp2_with fail
       refine (Zd _ _ o1).mono ?_
       rintro e w' ⟨rfl,rfl⟩
       rw[HN.out]
       go_wp2_with fail
       refine (Zz _ _ _ _).mono ?_
       rintro e w' ⟨rfl,rfl⟩
       rw[HR.out]
       go_wp2_with fail
       refine (Zd _ _ o3).mono ?_
       rintro e w' ⟨rfl,rfl⟩
       rw[HA.out]
       go_wp2
       go_ret
       exact ⟨Zb (by rw[H.out]),by rw[←Hw0.out];exact hG0⟩
      |true=>
       have HA:=hid ha0;clear ha0
       cases hb0:d.b.toList.isEmpty with
       |false=>
        have H:=hid (show Zh d=false by rw[HD.out,HA.out,hb0];rfl)
        go_enter Tryz.func45,Tryz.ntmps45
        go_wp2_with fail
        refine (Zd _ _ o1).mono ?_
        rintro e w' ⟨rfl,rfl⟩
        rw[HN.out]
        go_wp2_with fail
        refine (Zz _ _ _ _).mono ?_
        rintro e w' ⟨rfl,rfl⟩
        rw[HR.out]
        go_wp2_with fail
        refine (Zd _ _ o3).mono ?_
        rintro e w' ⟨rfl,rfl⟩
        rw[HA.out]
        go_wp2
        go_ret
        exact ⟨Zb (by rw[H.out]),by rw[←Hw0.out];exact hG0⟩
       |true=>
        have H:=hid (show Zh d=ZL d.value by rw[HD.out,HA.out,hb0];rfl)
        go_enter Tryz.func45,Tryz.ntmps45
        go_wp2_with fail
        refine (Zd _ _ o1).mono ?_
        rintro e w' ⟨rfl,rfl⟩
        rw[HN.out]
        go_wp2_with fail
        refine (Zz _ _ _ _).mono ?_
        rintro e w' ⟨rfl,rfl⟩
        rw[HR.out]
        go_wp2_with fail
        refine (Zd _ _ o3).mono ?_
        rintro e w' ⟨rfl,rfl⟩
        rw[HA.out]
        go_wp2
        go_ret
        exact ⟨Zb (by rw[H.out,HZ.out]),by rw[←Hw0.out];exact hG0⟩
   ·have H:=hid (show Zh d=false by unfold Zh;rw[HN.out,decide_eq_false hr];rfl)
    have HR:=hid (Zfk hr)
    clear hr
    go_enter Tryz.func45,Tryz.ntmps45
    go_wp2_with fail
    refine (Zd _ _ o1).mono ?_
    rintro e w' ⟨rfl,rfl⟩
    rw[HN.out]
    go_wp2_with fail
    refine (Zz _ _ _ _).mono ?_
    rintro e w' ⟨rfl,rfl⟩
    rw[HR.out]
    go_wp2
    go_ret
    exact ⟨Zb (by rw[H.out]),by rw[←Hw0.out];exact hG0⟩

end Go.Proofs.YtgeoehnbpkediaaGreat
