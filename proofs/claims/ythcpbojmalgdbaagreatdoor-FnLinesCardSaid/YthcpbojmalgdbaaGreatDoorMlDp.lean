/- Merged out of this seat's own texts. -/
import Derived.Test.YthcpbojmalgdbaaGreatDoorMlQ
import Derived.Test.YthcpbojmalgdbaaGreatDoorMlI
import Derived.Test.YthcpbojmalgdbaaGreatDoorMlM
import Derived.Test.YthcpbojmalgdbaaGreatDoorMlSr
set_option linter.unusedVariables false
set_option linter.unusedSimpArgs false
namespace Go.Proofs.YthcpbojmalgdbaaGreatDoor.Q
open Go.RowKit Go.Proofs.YthcpbojmalgdbaaGreatDoorW.PrintWords Go.Proofs.YthcpbojmalgdbaaGreatDoorW.PrintLast Go.Proofs.YthcpbojmalgdbaaGreatDoorW.PrintMore Go.Proofs.YthcpbojmalgdbaaGreatDoor.Core
set_option maxRecDepth 100000 in
set_option maxHeartbeats 2000000 in
theorem named_any (f0:ByteArray) (f1 f2:Int) (v3:Value) (A3:Option Addr) (n3 c3:Nat) (e3:v3 = .slice A3 n3 c3) (pn:Addr) (n:ByteArray) (W:World) (hp:W.cell? pn=some (.string n)) :
  Calls Tryz.prog 110 #[.agg #[.string f0, .int .i64 f1, .int .i64 f2,v3], .pointer (some pn)] W fun e w'=>e = .returned (.bool (f0.toList == n.toList))∧Below W.heap.size W w':=by
 subst e3
 have p1:=pw_cell_below (below_alloc (Below.refl W.heap.size W) (.cells #[.string f0, .int .i64 f1, .int .i64 f2, .slice A3 n3 c3] 45)) hp
 have hb:=Lib.hid (below_alloc (Below.refl W.heap.size W) (.cells #[.string f0, .int .i64 f1, .int .i64 f2, .slice A3 n3 c3] 45))
 have n1:=World.new_ne W _ hp
 go_enter Tryz.func110,Tryz.ntmps110
 go_wp2
 go_ret
 exact ⟨rfl,hb.out⟩
set_option maxRecDepth 100000 in
set_option maxHeartbeats 2000000 in
theorem index_any (A:Option Addr) (c:Nat) (l:List Flight) (pn:Addr) (n:ByteArray) (w:World) (hr:Kd.C k45 w A l.length l) (hp:w.cell? pn=some (.string n)) :
  Calls Tryz.prog 109 #[.slice A l.length c, .func (.func 110) #[] #[.pointer (some pn)]] w fun e w'=>e = .returned (.int .i64 (atB l n))∧Below w.heap.size w w':=by
 have HR:=Lib.hid hr
 have hnn:l.length≤9223372036854775807:=hr.2.1
 have HP:=Lib.hid hp
 clear hr hp
 go_enter Tryz.func109,Tryz.ntmps109
 go_wp2
 go_loopw [5,8] (fun _ vk wr=>∃ (k:Nat),vk = .int .i64 k∧k≤l.length∧Hid (atB l n=atFrom n (l.drop k) k)∧Hid (Below w.heap.size w wr)) (fun _ vk _=>l.length-(intOf vk).toNat)
 case atStart=>exact ⟨0,rfl,Nat.zero_le _,rfl,Below.refl _ _⟩
 case round =>
  obtain ⟨k,rfl,hk,HA,HB⟩:=hrel
  by_cases hlt:k<l.length
  ·have j1:(k:Int)<l.length:=by omega
   obtain ⟨ad,f,A3,c3,rfl,hf,f0,f1,f2,f3,hl3,hr3⟩:=flightAt (Kd.C_below HR.out HB.out) k hlt
   have hd:l.drop k=f :: l.drop (k+1):=by
    have:=List.drop_eq_getElem_cons hlt
    rw [List.getElem?_eq_getElem hlt] at hf
    rw [this,Option.some.inj hf]
   have HA2:=HA.out
   rw [hd,atFrom_cons] at HA2
   have QN:=Lib.hid (named_any f.f0 f.f1 f.f2 _ A3 f.f3.length c3 rfl pn n wr (pw_cell_below HB.out HP.out))
   clear hd hf hr3 hl3
   by_cases hq:f.f0=n
   ·rw [if_pos hq] at HA2
    have QT:=QN.out
    rw [str_same hq] at QT
    have QN:=Lib.hid QT
    clear QT
    have HA3:=Lib.hid HA2
    clear HA2 HA hq
    go_wp2_with (go_at_call 110;refine QN.out.mono ?_;rintro e w1 ⟨rfl,hb1⟩)
    go_ret
    exact ⟨ret_int HA3.out.symm,below_next HB.out HB.out.size hb1⟩
   ·rw [if_neg hq] at HA2
    have QT:=QN.out
    rw [str_other hq] at QT
    have QN:=Lib.hid QT
    clear QT
    have HA3:=Lib.hid HA2
    clear HA2 HA hq
    go_wp2_with (go_at_call 110;refine QN.out.mono ?_;rintro e w1 ⟨rfl,hb1⟩)
    go_roundw
    case rel=>exact ⟨k+1,by go_num,hlt,HA3.out,below_next HB.out HB.out.size hb1⟩
    case measure=>simp [intOf];omega
  ·have HA2:=HA.out
   rw [List.drop_eq_nil_of_le (by omega)] at HA2
   have HA3:=Lib.hid HA2
   clear HA2 HA
   go_wp2
   go_ret
   exact ⟨ret_int HA3.out.symm,HB.out⟩
set_option maxRecDepth 100000 in
set_option maxHeartbeats 2000000 in
theorem impl_at_any (A0:Option Addr) (n0 c0:Nat) (A:Option Addr) (c:Nat) (l:List Flight) (A2:Option Addr) (n2 c2:Nat) (n:ByteArray) (w:World) (hr:Kd.C k45 w A l.length l) :
  Calls Tryz.prog 71 #[.agg #[.slice A0 n0 c0, .slice A l.length c, .slice A2 n2 c2], .string n] w fun e w'=>e = .returned (.int .i64 (atB l n))∧Below w.heap.size w w':=by
 obtain ⟨W,hW⟩:∃ W,W=(w.alloc (.cells #[.slice A0 n0 c0, .slice A l.length c, .slice A2 n2 c2] 33)).alloc (.cells #[.string n] 9):=⟨_,rfl⟩
 have hb:Below w.heap.size w W:=by rw [hW];exact below_alloc (below_alloc (Below.refl _ _) _) _
 have hp:W.cell? ⟨w.heap.size+1,0,none⟩=some (.string n):=by rw [hW];simp
 have QI:=Lib.hid (index_any A c l ⟨w.heap.size+1,0,none⟩ n W (Kd.C_below hr hb) hp)
 have HB:=Lib.hid hb
 clear hr hb
 go_enter Tryz.func71,Tryz.ntmps71
 go_wp2_with (go_at_call 109;rw [← hW];refine QI.out.mono ?_;rintro e w1 ⟨rfl,hb1⟩)
 go_ret
 exact ⟨rfl,below_next HB.out HB.out.size hb1⟩
theorem delAt_erase {α:Type} (k:Nat) (l:List α):l.eraseIdx k=delAt k l:=by rw [List.eraseIdx_eq_take_drop_succ];rfl
theorem zeroFlight (w:World):(zeroValue 45).run Tryz.prog w = .ok (.agg #[.string ByteArray.empty, .int .i64 0, .int .i64 0, .slice none 0 0]) w:=by kernel_rfl
theorem zeroFlight_cells:(Builtin.zeroCells (Value.agg #[.string ByteArray.empty, .int .i64 0, .int .i64 0, .slice none 0 0]).cells 1).toList=[.string ByteArray.empty, .int .i64 0, .int .i64 0, .slice none 0 0]:=by kernel_rfl
theorem zeroInt_cells:(Builtin.zeroCells (Value.int .i64 0).cells 1).toList=[.int .i64 0]:=by kernel_rfl
set_option maxRecDepth 100000 in
set_option maxHeartbeats 4000000 in
theorem delete_flights_any (g m c k:Nat) (xs:List Flight) (base:Nat) (w:World) (h:Kd.S k45 45 w base (fun _=>True) (.slice (some ⟨g,0,none⟩) (m+1) c) xs) (hk:k≤m) (hbase:base≤w.heap.size) (hn:m≤1000) :
  Calls Tryz.prog 72 #[.slice (some ⟨g,0,none⟩) (m+1) c, .int .i64 k, .int .i64 ((k:Int)+1)] w fun e w'=>e = .returned (.slice (some ⟨g,0,none⟩) m c)∧Kd.S k45 45 w' base (fun _=>True) (.slice (some ⟨g,0,none⟩) m c) (delAt k xs)∧Below base w w'∧Kept w w' (fun i=>i=g):=by
 obtain ⟨hnx,hb,hlt,hnc,hm,x1,cur,hh,hcs,x2⟩:=S_cur h
 have hm':c≤9223372036854775807:=hm
 have HD:Hid (Kd.S k45 45 w.drew base (fun _=>True) (.slice (some ⟨g,0,none⟩) (m+1) c) xs):=Kd.S_drewN h 1
 have BD:Hid (Below base w w.drew):=pw_below_drewN (Below.refl base w) 1
 have j1:(k:Int)≤(k:Int)+1:=by omega
 have j2:(k:Int)+1≤(m:Int)+1:=by omega
 have j3:((k:Int) == (k:Int)+1)=false:=by simp;omega
 have j4:(k:Int)≤(m:Int)+1:=by omega
 have j5:(m:Int)+1≤c:=by omega
 have j6:¬ c=m:=by omega
 have j7:(m:Int)≤(m:Int)+1:=by omega
 clear h x1 x2 hcs hh hnx
 have j8:(k:Int)≤c:=by omega
 have j9:(k:Int)+1≤c:=by omega
 have j10:(0:Int)≤(k:Int)+1:=by omega
 by_cases hck:c=k+1
 ·obtain rfl:m=k:=by omega
  subst hck
  go_enter Tryz.func72,Tryz.ntmps72
  go_upto_region 5 with (fail)
  go_region_held3 (fun _=>True) (trivial) (first
   | (refine Kd.S_delete_step k45 (w0:=w) base (by rfl) (.tmp 22) (.tmp 25) 30 45 (by rfl) Tryz.underlying30 (by kernel_rfl) (g:=g) (n:=m+1) (c:=m+1) (k:=m) (by rfl) (by rfl) (by rw [if_pos rfl]) (by omega) HD.out (by omega) BD.out hbase ?_;intro w1 ho hb1 hg1;have O1:=Lib.hid ho;have B1:=Lib.hid hb1;have G1:=Lib.hid hg1;clear ho hb1 hg1))
  all_goals
   have t1:=O1.out
   rw [Nat.add_sub_cancel,delAt_erase] at t1
   have OD:=Lib.hid t1
   obtain ⟨hn1,hb1,hlt1,hnc1,hm1,y1,cur1,hh1,hcs1,y2⟩:=S_cur t1
   have hfit:m*4+(Builtin.zeroCells (.agg #[.string ByteArray.empty, .int .i64 0, .int .i64 0, .slice none 0 0]:Value).cells 1).toList.length≤cur1.size:=by
    rw [hcs1]
    have:(m+1)*4≤(m+1)*4:=Nat.mul_le_mul_right _ (by omega)
    have e4:(Builtin.zeroCells (.agg #[.string ByteArray.empty, .int .i64 0, .int .i64 0, .slice none 0 0]:Value).cells 1).toList.length=4:=by rw [zeroFlight_cells];rfl
    have e5:k45.sz=4:=rfl
    rw [e4,e5]
    omega
   obtain ⟨OE,GE⟩:=S_clear OD.out hh1 (Builtin.zeroCells (.agg #[.string ByteArray.empty, .int .i64 0, .int .i64 0, .slice none 0 0]:Value).cells 1).toList hfit
   obtain ⟨W2,hW2⟩:∃ W2,W2=w1.setRow g (cur1.toList.take (m*4)++(Builtin.zeroCells (.agg #[.string ByteArray.empty, .int .i64 0, .int .i64 0, .slice none 0 0]:Value).cells 1).toList++cur1.toList.drop (m*4+(Builtin.zeroCells (.agg #[.string ByteArray.empty, .int .i64 0, .int .i64 0, .slice none 0 0]:Value).cells 1).toList.length)).toArray:=⟨_,rfl⟩
   have hcl:∀ ty,(Builtin.clear_ #[30] ty #[.slice (some ⟨g,m*4,none⟩) 1 1]).run Tryz.prog w1 = .ok (.tuple #[]) W2:=fun ty=>(run_clear_k Tryz.prog w1 30 45 ty (.agg #[.string ByteArray.empty, .int .i64 0, .int .i64 0, .slice none 0 0]) Tryz.underlying30 (zeroFlight) g (m*4) 1 1 (by omega) cur1 hh1 hfit (by rw [zeroFlight_cells];decide)).trans (by rw [hW2])
   have OE2:Kd.S k45 45 W2 base (fun _=>True) (.slice (some ⟨g,0,none⟩) m (m+1)) (delAt m xs):=by rw [hW2];exact OE
   have GE2:w1.grownBy W2 (some g):=by rw [hW2];exact GE
   have OF:=Lib.hid OE2
   have GF:=Lib.hid GE2
   clear O1 y1 y2 t1 hn1 OE GE OE2 GE2 hW2 hfit hcs1 hh1
   go_wp2
   go_ret
   exact ⟨rfl,OF.out,B1.out.grown GF.out (Nat.le_trans hbase B1.out.size) (fun q hq=>by injection hq with hq;omega),(show Kept w w1 (fun i=>i=g) from (kept_of_grown (w0:=w.drew) G1.out:Kept w.drew w1 (fun i=>i=g))).then_ (kept_of_grown GF.out) (fun q hq => .inl hq)⟩
 ·go_enter Tryz.func72,Tryz.ntmps72
  go_upto_region 5 with (fail)
  go_region_held3 (fun _=>True) (trivial) (first
   | (refine Kd.S_delete_step k45 (w0:=w) base (by rfl) (.tmp 22) (.tmp 25) 30 45 (by rfl) Tryz.underlying30 (by kernel_rfl) (g:=g) (n:=m+1) (c:=c) (k:=k) (by rfl) (by rfl) (by rw [if_neg hck,Option.map_some,Addr.add_lit,Nat.zero_add];first | rfl | rw [show (k+1)*(Kd.int .i64).sz=k+1 from Nat.mul_one _]) (by omega) HD.out (by omega) BD.out hbase ?_;intro w1 ho hb1 hg1;have O1:=Lib.hid ho;have B1:=Lib.hid hb1;have G1:=Lib.hid hg1;clear ho hb1 hg1))
  all_goals
   have t1:=O1.out
   rw [Nat.add_sub_cancel,delAt_erase] at t1
   have OD:=Lib.hid t1
   obtain ⟨hn1,hb1,hlt1,hnc1,hm1,y1,cur1,hh1,hcs1,y2⟩:=S_cur t1
   have hfit:m*4+(Builtin.zeroCells (.agg #[.string ByteArray.empty, .int .i64 0, .int .i64 0, .slice none 0 0]:Value).cells 1).toList.length≤cur1.size:=by
    rw [hcs1]
    have:(m+1)*4≤c*4:=Nat.mul_le_mul_right _ (by omega)
    have e4:(Builtin.zeroCells (.agg #[.string ByteArray.empty, .int .i64 0, .int .i64 0, .slice none 0 0]:Value).cells 1).toList.length=4:=by rw [zeroFlight_cells];rfl
    have e5:k45.sz=4:=rfl
    rw [e4,e5]
    omega
   obtain ⟨OE,GE⟩:=S_clear OD.out hh1 (Builtin.zeroCells (.agg #[.string ByteArray.empty, .int .i64 0, .int .i64 0, .slice none 0 0]:Value).cells 1).toList hfit
   obtain ⟨W2,hW2⟩:∃ W2,W2=w1.setRow g (cur1.toList.take (m*4)++(Builtin.zeroCells (.agg #[.string ByteArray.empty, .int .i64 0, .int .i64 0, .slice none 0 0]:Value).cells 1).toList++cur1.toList.drop (m*4+(Builtin.zeroCells (.agg #[.string ByteArray.empty, .int .i64 0, .int .i64 0, .slice none 0 0]:Value).cells 1).toList.length)).toArray:=⟨_,rfl⟩
   have hcl:∀ ty,(Builtin.clear_ #[30] ty #[.slice (some ⟨g,m*4,none⟩) 1 (c-m)]).run Tryz.prog w1 = .ok (.tuple #[]) W2:=fun ty=>(run_clear_k Tryz.prog w1 30 45 ty (.agg #[.string ByteArray.empty, .int .i64 0, .int .i64 0, .slice none 0 0]) Tryz.underlying30 (zeroFlight) g (m*4) 1 (c-m) (by omega) cur1 hh1 hfit (by rw [zeroFlight_cells];decide)).trans (by rw [hW2])
   have OE2:Kd.S k45 45 W2 base (fun _=>True) (.slice (some ⟨g,0,none⟩) m c) (delAt k xs):=by rw [hW2];exact OE
   have GE2:w1.grownBy W2 (some g):=by rw [hW2];exact GE
   have OF:=Lib.hid OE2
   have GF:=Lib.hid GE2
   clear O1 y1 y2 t1 hn1 OE GE OE2 GE2 hW2 hfit hcs1 hh1
   go_wp2
   go_ret
   exact ⟨rfl,OF.out,B1.out.grown GF.out (Nat.le_trans hbase B1.out.size) (fun q hq=>by injection hq with hq;omega),(show Kept w w1 (fun i=>i=g) from (kept_of_grown (w0:=w.drew) G1.out:Kept w.drew w1 (fun i=>i=g))).then_ (kept_of_grown GF.out) (fun q hq => .inl hq)⟩
set_option maxRecDepth 100000 in
set_option maxHeartbeats 4000000 in
theorem delete_ints_any (g m c k:Nat) (xs:List Int) (base:Nat) (w:World) (h:Kd.S (Kd.int .i64) 3 w base (fun _=>True) (.slice (some ⟨g,0,none⟩) (m+1) c) xs) (hk:k≤m) (hbase:base≤w.heap.size) (hn:m≤1000) :
  Calls Tryz.prog 73 #[.slice (some ⟨g,0,none⟩) (m+1) c, .int .i64 k, .int .i64 ((k:Int)+1)] w fun e w'=>e = .returned (.slice (some ⟨g,0,none⟩) m c)∧Kd.S (Kd.int .i64) 3 w' base (fun _=>True) (.slice (some ⟨g,0,none⟩) m c) (delAt k xs)∧Below base w w'∧Kept w w' (fun i=>i=g):=by
 obtain ⟨hnx,hb,hlt,hnc,hm,x1,cur,hh,hcs,x2⟩:=S_cur h
 have hm':c≤9223372036854775807:=hm
 have HD:Hid (Kd.S (Kd.int .i64) 3 w.drew base (fun _=>True) (.slice (some ⟨g,0,none⟩) (m+1) c) xs):=Kd.S_drewN h 1
 have BD:Hid (Below base w w.drew):=pw_below_drewN (Below.refl base w) 1
 have j1:(k:Int)≤(k:Int)+1:=by omega
 have j2:(k:Int)+1≤(m:Int)+1:=by omega
 have j3:((k:Int) == (k:Int)+1)=false:=by simp;omega
 have j4:(k:Int)≤(m:Int)+1:=by omega
 have j5:(m:Int)+1≤c:=by omega
 have j6:¬ c=m:=by omega
 have j7:(m:Int)≤(m:Int)+1:=by omega
 clear h x1 x2 hcs hh hnx
 have j8:(k:Int)≤c:=by omega
 have j9:(k:Int)+1≤c:=by omega
 have j10:(0:Int)≤(k:Int)+1:=by omega
 by_cases hck:c=k+1
 ·obtain rfl:m=k:=by omega
  subst hck
  go_enter Tryz.func73,Tryz.ntmps73
  go_upto_region 5 with (fail)
  go_region_held3 (fun _=>True) (trivial) (first
   | (refine Kd.S_delete_step (Kd.int .i64) (w0:=w) base (by rfl) (.tmp 22) (.tmp 25) 31 3 (by rfl) Tryz.underlying31 (by kernel_rfl) (g:=g) (n:=m+1) (c:=m+1) (k:=m) (by rfl) (by rfl) (by rw [if_pos rfl]) (by omega) HD.out (by omega) BD.out hbase ?_;intro w1 ho hb1 hg1;have O1:=Lib.hid ho;have B1:=Lib.hid hb1;have G1:=Lib.hid hg1;clear ho hb1 hg1))
  all_goals
   have t1:=O1.out
   rw [Nat.add_sub_cancel,delAt_erase] at t1
   have OD:=Lib.hid t1
   obtain ⟨hn1,hb1,hlt1,hnc1,hm1,y1,cur1,hh1,hcs1,y2⟩:=S_cur t1
   have hfit:m*1+(Builtin.zeroCells (.int .i64 0:Value).cells 1).toList.length≤cur1.size:=by
    rw [hcs1]
    have:(m+1)*1≤(m+1)*1:=Nat.mul_le_mul_right _ (by omega)
    have e4:(Builtin.zeroCells (.int .i64 0:Value).cells 1).toList.length=1:=by rw [zeroInt_cells];rfl
    have e5:(Kd.int .i64).sz=1:=rfl
    rw [e4,e5]
    omega
   obtain ⟨OE,GE⟩:=S_clear OD.out hh1 (Builtin.zeroCells (.int .i64 0:Value).cells 1).toList hfit
   rw [show m*(Kd.int .i64).sz=m from Nat.mul_one m] at OE GE
   rw [Nat.mul_one] at hfit
   obtain ⟨W2,hW2⟩:∃ W2,W2=w1.setRow g (cur1.toList.take (m)++(Builtin.zeroCells (.int .i64 0:Value).cells 1).toList++cur1.toList.drop (m+(Builtin.zeroCells (.int .i64 0:Value).cells 1).toList.length)).toArray:=⟨_,rfl⟩
   have hcl:∀ ty,(Builtin.clear_ #[31] ty #[.slice (some ⟨g,m,none⟩) 1 1]).run Tryz.prog w1 = .ok (.tuple #[]) W2:=fun ty=>(run_clear_k Tryz.prog w1 31 3 ty (.int .i64 0) Tryz.underlying31 (zeroInt) g (m) 1 1 (by omega) cur1 hh1 hfit (by rw [zeroInt_cells];decide)).trans (by rw [hW2])
   have OE2:Kd.S (Kd.int .i64) 3 W2 base (fun _=>True) (.slice (some ⟨g,0,none⟩) m (m+1)) (delAt m xs):=by rw [hW2];exact OE
   have GE2:w1.grownBy W2 (some g):=by rw [hW2];exact GE
   have OF:=Lib.hid OE2
   have GF:=Lib.hid GE2
   clear O1 y1 y2 t1 hn1 OE GE OE2 GE2 hW2 hfit hcs1 hh1
   go_wp2
   go_ret
   exact ⟨rfl,OF.out,B1.out.grown GF.out (Nat.le_trans hbase B1.out.size) (fun q hq=>by injection hq with hq;omega),(show Kept w w1 (fun i=>i=g) from (kept_of_grown (w0:=w.drew) G1.out:Kept w.drew w1 (fun i=>i=g))).then_ (kept_of_grown GF.out) (fun q hq => .inl hq)⟩
 ·go_enter Tryz.func73,Tryz.ntmps73
  go_upto_region 5 with (fail)
  go_region_held3 (fun _=>True) (trivial) (first
   | (refine Kd.S_delete_step (Kd.int .i64) (w0:=w) base (by rfl) (.tmp 22) (.tmp 25) 31 3 (by rfl) Tryz.underlying31 (by kernel_rfl) (g:=g) (n:=m+1) (c:=c) (k:=k) (by rfl) (by rfl) (by rw [if_neg hck,Option.map_some,Addr.add_lit,Nat.zero_add];first | rfl | rw [show (k+1)*(Kd.int .i64).sz=k+1 from Nat.mul_one _]) (by omega) HD.out (by omega) BD.out hbase ?_;intro w1 ho hb1 hg1;have O1:=Lib.hid ho;have B1:=Lib.hid hb1;have G1:=Lib.hid hg1;clear ho hb1 hg1))
  all_goals
   have t1:=O1.out
   rw [Nat.add_sub_cancel,delAt_erase] at t1
   have OD:=Lib.hid t1
   obtain ⟨hn1,hb1,hlt1,hnc1,hm1,y1,cur1,hh1,hcs1,y2⟩:=S_cur t1
   have hfit:m*1+(Builtin.zeroCells (.int .i64 0:Value).cells 1).toList.length≤cur1.size:=by
    rw [hcs1]
    have:(m+1)*1≤c*1:=Nat.mul_le_mul_right _ (by omega)
    have e4:(Builtin.zeroCells (.int .i64 0:Value).cells 1).toList.length=1:=by rw [zeroInt_cells];rfl
    have e5:(Kd.int .i64).sz=1:=rfl
    rw [e4,e5]
    omega
   obtain ⟨OE,GE⟩:=S_clear OD.out hh1 (Builtin.zeroCells (.int .i64 0:Value).cells 1).toList hfit
   rw [show m*(Kd.int .i64).sz=m from Nat.mul_one m] at OE GE
   rw [Nat.mul_one] at hfit
   obtain ⟨W2,hW2⟩:∃ W2,W2=w1.setRow g (cur1.toList.take (m)++(Builtin.zeroCells (.int .i64 0:Value).cells 1).toList++cur1.toList.drop (m+(Builtin.zeroCells (.int .i64 0:Value).cells 1).toList.length)).toArray:=⟨_,rfl⟩
   have hcl:∀ ty,(Builtin.clear_ #[31] ty #[.slice (some ⟨g,m,none⟩) 1 (c-m)]).run Tryz.prog w1 = .ok (.tuple #[]) W2:=fun ty=>(run_clear_k Tryz.prog w1 31 3 ty (.int .i64 0) Tryz.underlying31 (zeroInt) g (m) 1 (c-m) (by omega) cur1 hh1 hfit (by rw [zeroInt_cells];decide)).trans (by rw [hW2])
   have OE2:Kd.S (Kd.int .i64) 3 W2 base (fun _=>True) (.slice (some ⟨g,0,none⟩) m c) (delAt k xs):=by rw [hW2];exact OE
   have GE2:w1.grownBy W2 (some g):=by rw [hW2];exact GE
   have OF:=Lib.hid OE2
   have GF:=Lib.hid GE2
   clear O1 y1 y2 t1 hn1 OE GE OE2 GE2 hW2 hfit hcs1 hh1
   go_wp2
   go_ret
   exact ⟨rfl,OF.out,B1.out.grown GF.out (Nat.le_trans hbase B1.out.size) (fun q hq=>by injection hq with hq;omega),(show Kept w w1 (fun i=>i=g) from (kept_of_grown (w0:=w.drew) G1.out:Kept w.drew w1 (fun i=>i=g))).then_ (kept_of_grown GF.out) (fun q hq => .inl hq)⟩
theorem delete_flights_at (g n c k:Nat) (xs:List Flight) (base:Nat) (w:World) (h:Kd.S k45 45 w base (fun _=>True) (.slice (some ⟨g,0,none⟩) n c) xs) (hk:k<n) (hbase:base≤w.heap.size) (hn:n≤1000) :
  Calls Tryz.prog 72 #[.slice (some ⟨g,0,none⟩) n c, .int .i64 k, .int .i64 ((k:Int)+1)] w fun e w'=>e = .returned (.slice (some ⟨g,0,none⟩) (n-1) c)∧Kd.S k45 45 w' base (fun _=>True) (.slice (some ⟨g,0,none⟩) (n-1) c) (delAt k xs)∧Below base w w'∧Kept w w' (fun i=>i=g):=by
 obtain ⟨m,rfl⟩:∃ m,n=m+1:=⟨n-1,by omega⟩
 rw [Nat.add_sub_cancel]
 exact delete_flights_any g m c k xs base w h (by omega) hbase (by omega)
theorem delete_ints_at (g n c k:Nat) (xs:List Int) (base:Nat) (w:World) (h:Kd.R (Kd.int .i64) 3 w base (fun _=>True) (.slice (some ⟨g,0,none⟩) n c) xs) (hk:k<n) (hbase:base≤w.heap.size) (hn:n≤1000) :
  Calls Tryz.prog 73 #[.slice (some ⟨g,0,none⟩) n c, .int .i64 k, .int .i64 ((k:Int)+1)] w fun e w'=>e = .returned (.slice (some ⟨g,0,none⟩) (n-1) c)∧Kd.R (Kd.int .i64) 3 w' base (fun _=>True) (.slice (some ⟨g,0,none⟩) (n-1) c) (delAt k xs)∧Below base w w'∧Kept w w' (fun i=>i=g):=by
 obtain ⟨m,rfl⟩:∃ m,n=m+1:=⟨n-1,by omega⟩
 rw [Nat.add_sub_cancel]
 exact (delete_ints_any g m c k xs base w (S_ints h) (by omega) hbase (by omega)).mono fun _ _ t=>⟨t.1,Kd.S_R t.2.1,t.2.2⟩
theorem dropR_bad {b:Book} {n:ByteArray} (h:fitsB b.f0 b.f1 b.f2=false):dropR b n=(emptyB,1):=by unfold dropR okB;rw [if_pos h]
theorem dropR_none {b:Book} {n:ByteArray} (h:fitsB b.f0 b.f1 b.f2=true) (ha:atB b.f1 n<0):dropR b n=(b,3):=by unfold dropR okB;rw [if_neg (by rw [h];decide),if_pos ha]
theorem dropR_some {b:Book} {n:ByteArray} {k:Nat} (h:fitsB b.f0 b.f1 b.f2=true) (ha:atB b.f1 n=(k:Int)):dropR b n=(dropN b k,0):=by unfold dropR okB;rw [if_neg (by rw [h];decide),if_neg (by omega),ha,Int.toNat_natCast]
theorem atB_ways (l:List Flight) (n:ByteArray):atB l n = -1∨∃ k:Nat,k<l.length∧atB l n=(k:Int):=by
 rcases atB_spec l n with ⟨h,_⟩ | ⟨k,f,h1,_,h3,_⟩
 ·exact .inl h
 ·exact .inr ⟨k,some_lt h1,h3⟩
set_option maxRecDepth 100000 in
set_option maxHeartbeats 4000000 in
theorem impl_flowDrop_any (A0:Option Addr) (c0:Nat) (A1:Option Addr) (c1:Nat) (A2:Option Addr) (c2:Nat) (b:Book) (n:ByteArray) (w:World) (hr0:Kd.C k80 w A0 b.f0.length b.f0) (hr1:Kd.C k45 w A1 b.f1.length b.f1) (hr2:Kd.C (Kd.int .i64) w A2 b.f2.length b.f2) :
  Calls Tryz.prog 37 #[.agg #[.slice A0 b.f0.length c0, .slice A1 b.f1.length c1, .slice A2 b.f2.length c2], .string n] w fun e w'=>∃ v0 v1 v2,e = .returned (.tuple #[.agg #[v0,v1,v2], .int .i64 (dropR b n).2])∧OwnB w' w.heap.size v0 v1 v2 (dropR b n).1∧Below w.heap.size w w':=by
 obtain ⟨W,hW⟩:∃ W,W=(w.alloc (.cells #[.slice A0 b.f0.length c0, .slice A1 b.f1.length c1, .slice A2 b.f2.length c2] 33)).alloc (.cells #[.slice none 0 0, .slice none 0 0, .slice none 0 0] 33):=⟨_,rfl⟩
 have hba:Below w.heap.size w W:=by rw [hW];exact below_alloc (below_alloc (Below.refl _ _) _) _
 have X0:W.heap[w.heap.size]? = some (.cells #[.slice A0 b.f0.length c0, .slice A1 b.f1.length c1, .slice A2 b.f2.length c2] 33 (0,0)):=by rw [hW];exact blk_alloc (blk_new w _) _
 have Z0:W.heap[w.heap.size+1]? = some (.cells #[.slice none 0 0, .slice none 0 0, .slice none 0 0] 33 (0,0)):=by
  have t:=blk_new (w.alloc (.cells #[.slice A0 b.f0.length c0, .slice A1 b.f1.length c1, .slice A2 b.f2.length c2] 33)) (.cells #[.slice none 0 0, .slice none 0 0, .slice none 0 0] 33)
  rw [World.size_alloc] at t
  rw [hW]
  exact t
 have zW:W.heap.size=w.heap.size+2:=by rw [hW];simp
 have QF:=Lib.hid (impl_bookOk_any A0 c0 b.f0 A1 c1 b.f1 A2 c2 b.f2 W (Kd.C_below hr0 hba) (Kd.C_below hr1 hba) (Kd.C_below hr2 hba))
 have f0:=(blk_cell X0 0).trans rfl
 have f1:=(blk_cell X0 1).trans rfl
 have f2:=(blk_cell X0 2).trans rfl
 go_enter Tryz.func37,Tryz.ntmps37
 go_wp2_with (fail)
 rw [← hW]
 refine QF.out.mono ?_
 rintro e w3 ⟨rfl,hb3⟩
 have X3:=Lib.hid (blk_below X0 hb3)
 have Z3:=Lib.hid (blk_below Z0 hb3)
 have B3:=Lib.hid (below_next hba hba.size hb3)
 have z3:w.heap.size+2≤w3.heap.size:=by have:=hb3.size;omega
 clear QF f0 f1 f2 X0 Z0 hba hW zW hb3
 have f0:=(blk_cell X3.out 0).trans rfl
 have f1:=(blk_cell X3.out 1).trans rfl
 have f2:=(blk_cell X3.out 2).trans rfl
 cases hfit:fitsB b.f0 b.f1 b.f2 with
 | false =>
  have cr0:=(blk_cell Z3.out 0).trans rfl
  have cr1:=(blk_cell Z3.out 1).trans rfl
  have cr2:=(blk_cell Z3.out 2).trans rfl
  have pr0:=blk_frozen Z3.out 0
  have pr1:=blk_frozen Z3.out 1
  have pr2:=blk_frozen Z3.out 2
  have s0:=blk_set Z3.out 0 (.slice none 0 0)
  have s1:=blk_set s0 1 (.slice none 0 0)
  have s2:=Lib.hid (blk_set s1 2 (.slice none 0 0))
  have HF:=Lib.hid hfit
  clear s0 s1 hfit
  go_wp2
  refine bodyPost_ret (results_ct rfl _ _ (w.heap.size+1) 33 #[.slice none 0 0, .slice none 0 0, .slice none 0 0] (0,0) _ rfl s2.out Tryz.underlying33 rfl (by kernel_rfl)) rfl ?_
  obtain ⟨h1,h2⟩:=(emptyO w3 w.heap.size).res B3.out Z3.out (by omega) (.slice none 0 0) (.slice none 0 0) (.slice none 0 0)
  rw [dropR_bad HF.out]
  exact ⟨_,_,_,rfl,h1,h2⟩
 | true =>
  obtain ⟨l0,l1,l2,l3⟩:=fits_small hfit
  have hlen:=(slotsB_parts (fitsB_parts hfit).2.1).2.1
  have HF:=Lib.hid hfit
  have HR1:=Lib.hid hr1
  have QC:=Lib.hid (impl_copy_any A0 c0 A1 c1 A2 c2 b w3 (Kd.C_below hr0 B3.out) (Kd.C_below hr1 B3.out) (Kd.C_below hr2 B3.out) l0 l1 l2 l3)
  have HL:=Lib.hid hlen
  have HL1:=Lib.hid l1
  clear l0 l1 l2 l3 hfit hr0 hr1 hr2 hlen
  go_wp2_with (fail)
  refine QC.out.mono ?_
  rintro e w4 ⟨v0,v1,v2,rfl,hO4,hb4⟩
  obtain ⟨B0,d0,B1,d1,B2,d2,rfl,rfl,rfl,_,_,_⟩:=hO4.form
  have z4:=hb4.size
  have hb5:Below w4.heap.size w4 (w4.alloc (.cells #[.slice B0 b.f0.length d0, .slice B1 b.f1.length d1, .slice B2 b.f2.length d2] 33)):=below_alloc (Below.refl _ _) _
  have B4:=below_next B3.out B3.out.size hb4
  have B5:=Lib.hid (below_next B4 B4.size hb5)
  have X5:=Lib.hid (blk_below (blk_below X3.out hb4) hb5)
  have Z5:=Lib.hid (blk_below (blk_below Z3.out hb4) hb5)
  have O5:=Lib.hid (hO4.below hb5)
  have Y5:=Lib.hid (blk_new w4 (.cells #[.slice B0 b.f0.length d0, .slice B1 b.f1.length d1, .slice B2 b.f2.length d2] 33))
  have HV1:Hid (∀ j,(Value.slice B1 b.f1.length d1).ownBlock=some j→w3.heap.size≤j∧j<w4.heap.size):=fun j hj=>⟨((Kd.R_bound (Kd.S_R hO4.flights)).1 j hj).2.1,((Kd.R_bound (Kd.S_R hO4.flights)).1 j hj).2.2.1⟩
  have HV2:Hid (∀ j,(Value.slice B2 b.f2.length d2).ownBlock=some j→w3.heap.size≤j∧j<w4.heap.size):=fun j hj=>⟨((Kd.R_bound hO4.slots).1 j hj).2.1,((Kd.R_bound hO4.slots).1 j hj).2.2.1⟩
  have zz:(w4.alloc (.cells #[.slice B0 b.f0.length d0, .slice B1 b.f1.length d1, .slice B2 b.f2.length d2] 33)).heap.size=w4.heap.size+1:=by simp
  clear hO4 hb4 hb5 B4 X3 Z3 QC f0 f1 f2
  have f0:=(blk_cell X5.out 0).trans rfl
  have f1:=(blk_cell X5.out 1).trans rfl
  have f2:=(blk_cell X5.out 2).trans rfl
  go_wp2_with (fail)
  refine (impl_at_any A0 b.f0.length c0 A1 c1 b.f1 A2 b.f2.length c2 n _ (Kd.C_below HR1.out B5.out)).mono ?_
  rintro e w6 ⟨rfl,hb6⟩
  have B6:=Lib.hid (below_next B5.out B5.out.size hb6)
  have Z6:=Lib.hid (blk_below Z5.out hb6)
  have O6:=Lib.hid (O5.out.below hb6)
  have Y6:=Lib.hid (blk_below Y5.out hb6)
  have z6:=hb6.size
  rw [zz] at z6
  clear hb6 X5 Z5 O5 Y5 B5 f0 f1 f2 zz
  have y0:=(blk_cell Y6.out 0).trans rfl
  have y1:=(blk_cell Y6.out 1).trans rfl
  have y2:=(blk_cell Y6.out 2).trans rfl
  have p0:=blk_frozen Y6.out 0
  have p1:=blk_frozen Y6.out 1
  have p2:=blk_frozen Y6.out 2
  rcases atB_ways b.f1 n with ha | ⟨k,hk,ha⟩
  ·have HA:=Lib.hid ha
   rw [ha]
   clear ha
   have cr0:=(blk_cell Z6.out 0).trans rfl
   have cr1:=(blk_cell Z6.out 1).trans rfl
   have cr2:=(blk_cell Z6.out 2).trans rfl
   have pr0:=blk_frozen Z6.out 0
   have pr1:=blk_frozen Z6.out 1
   have pr2:=blk_frozen Z6.out 2
   have s0:=blk_set Z6.out 0 (.slice B0 b.f0.length d0)
   have s1:=blk_set s0 1 (.slice B1 b.f1.length d1)
   have s2:=Lib.hid (blk_set s1 2 (.slice B2 b.f2.length d2))
   clear s0 s1
   go_wp2
   refine bodyPost_ret (results_ct rfl _ _ (w.heap.size+1) 33 #[.slice B0 b.f0.length d0, .slice B1 b.f1.length d1, .slice B2 b.f2.length d2] (0,0) _ rfl s2.out Tryz.underlying33 rfl (by kernel_rfl)) rfl ?_
   obtain ⟨h1,h2⟩:=(O6.out.lower (base':=w.heap.size) (by omega)).res B6.out Z6.out (by omega) (.slice B0 b.f0.length d0) (.slice B1 b.f1.length d1) (.slice B2 b.f2.length d2)
   rw [dropR_none HF.out (by rw [HA.out];decide)]
   exact ⟨_,_,_,rfl,h1,h2⟩
  ·have HA:=Lib.hid ha
   rw [ha]
   clear ha
   have q1:decide ((k:Int)<0)=false:=decide_eq_false (by omega)
   have q2:IntKind.i64.wrap ((k:Int)+1)=(k:Int)+1:=IntWalk.i64_in _ (by have:=HL1.out;omega)
   obtain ⟨g1,e1,hv1,hg1,_,cs1,hc1⟩:=Kd.S_form O6.out.flights (by omega)
   injection hv1 with hA1 _ hd1
   subst hA1
   subst hd1
   obtain ⟨g2,e2,hv2,hg2,_,cs2,hc2⟩:=Kd.R_form O6.out.slots (by rw [HL.out];omega)
   injection hv2 with hA2 _ hd2
   subst hA2
   subst hd2
   have n1:=HV1.out g1 rfl
   have n2:=HV2.out g2 rfl
   have C1:=Lib.hid hc1
   clear hc1 hc2
   go_wp2_with (fail)
   refine (delete_flights_at g1 b.f1.length d1 k b.f1 w3.heap.size w6 O6.out.flights hk (by omega) HL1.out).mono ?_
   rintro e w7 ⟨rfl,ho7,hb7,hk7⟩
   have O7:Hid (OwnB w7 w3.heap.size (.slice B0 b.f0.length d0) (.slice (some ⟨g1,0,none⟩) (b.f1.length-1) d1) (.slice (some ⟨g2,0,none⟩) b.f2.length d2) ⟨b.f0,delAt k b.f1,b.f2⟩):=⟨R_keptG O6.out.caps C1.out caps_flight hk7,ho7,R_keptG O6.out.slots C1.out ints_flight hk7⟩
   have Y7:=Lib.hid (blk_kept Y6.out hk7 (fun h=>by omega))
   have Z7:=Lib.hid (blk_kept Z6.out hk7 (fun h=>by omega))
   have B7:=Lib.hid (B6.out.trans (hb7.mono (by omega)))
   have z7:=hb7.size
   clear ho7 hb7 hk7 O6 Y6 Z6 B6 C1 y0 y1 y2 p0 p1 p2
   have p1:=blk_frozen Y7.out 1
   have r1:=(blk_cell Y7.out 1).trans rfl
   have Y8:=Lib.hid (blk_set Y7.out 1 (.slice (some ⟨g1,0,none⟩) (b.f1.length-1) d1))
   have O8:=Lib.hid (O7.out.cell Y7.out 1 (.slice (some ⟨g1,0,none⟩) (b.f1.length-1) d1))
   have Z8:=Lib.hid (blk_far Z7.out (p:=⟨w4.heap.size,1,none⟩) (by simp;omega) (.slice (some ⟨g1,0,none⟩) (b.f1.length-1) d1))
   have B8:=Lib.hid (B7.out.setCell (p:=⟨w4.heap.size,1,none⟩) (by show w.heap.size≤w4.heap.size;omega) (.slice (some ⟨g1,0,none⟩) (b.f1.length-1) d1))
   have y2:=(blk_cell Y8.out 2).trans rfl
   have zz:(w7.setCell ⟨w4.heap.size,1,none⟩ (.slice (some ⟨g1,0,none⟩) (b.f1.length-1) d1)).heap.size=w7.heap.size:=by simp
   go_wp2_with (fail)
   obtain ⟨cs2,hc2⟩:=Kd.R_typed O8.out.slots g2 rfl
   refine (delete_ints_at g2 b.f2.length d2 k b.f2 w3.heap.size _ O8.out.slots (by rw [HL.out];exact hk) (by rw [zz];omega) (by rw [HL.out];exact HL1.out)).mono ?_
   rintro e w9 ⟨rfl,ho9,hb9,hk9⟩
   have O9:Hid (OwnB w9 w3.heap.size (.slice B0 b.f0.length d0) (.slice (some ⟨g1,0,none⟩) (b.f1.length-1) d1) (.slice (some ⟨g2,0,none⟩) (b.f2.length-1) d2) ⟨b.f0,delAt k b.f1,delAt k b.f2⟩):=⟨R_keptG O8.out.caps hc2 caps_int hk9,S_keptG O8.out.flights hc2 flights_int hk9,ho9⟩
   have Y9:=Lib.hid (blk_kept Y8.out hk9 (fun h=>by omega))
   have Z9:=Lib.hid (blk_kept Z8.out hk9 (fun h=>by omega))
   have B9:=Lib.hid (B8.out.trans (hb9.mono (by omega)))
   have z9:=hb9.size
   rw [zz] at z9
   clear ho9 hb9 hk9 O7 Y7 Z7 B7 O8 Y8 Z8 B8 hc2 p1 r1 y2 zz
   have p2:=blk_frozen Y9.out 2
   have r2:=(blk_cell Y9.out 2).trans rfl
   have Y10:=Lib.hid (blk_set Y9.out 2 (.slice (some ⟨g2,0,none⟩) (b.f2.length-1) d2))
   have O10:=Lib.hid (O9.out.cell Y9.out 2 (.slice (some ⟨g2,0,none⟩) (b.f2.length-1) d2))
   have Z10:=Lib.hid (blk_far Z9.out (p:=⟨w4.heap.size,2,none⟩) (by simp;omega) (.slice (some ⟨g2,0,none⟩) (b.f2.length-1) d2))
   have B10:=Lib.hid (B9.out.setCell (p:=⟨w4.heap.size,2,none⟩) (by show w.heap.size≤w4.heap.size;omega) (.slice (some ⟨g2,0,none⟩) (b.f2.length-1) d2))
   have zz:(w9.setCell ⟨w4.heap.size,2,none⟩ (.slice (some ⟨g2,0,none⟩) (b.f2.length-1) d2)).heap.size=w9.heap.size:=by simp
   have y0:=(blk_cell Y10.out 0).trans rfl
   have y1:=(blk_cell Y10.out 1).trans rfl
   have y2:=(blk_cell Y10.out 2).trans rfl
   go_wp2_with (fail)
   refine (impl_compress_any _ _ _ ⟨b.f0,delAt k b.f1,delAt k b.f2⟩ w3.heap.size _ O10.out (by rw [zz];omega) (fits_del HF.out k)).mono ?_
   rintro e w11 ⟨rfl,hO11,hB11,hK11⟩
   have Y11:=Lib.hid (blk_kept Y10.out hK11 (fun h=>by have:w4.heap.size=g2:=(by injection h);omega))
   have Z11:=Lib.hid (blk_kept Z10.out hK11 (fun h=>by have:w.heap.size+1=g2:=(by injection h);omega))
   have O11:=Lib.hid (hO11.lower (base':=w.heap.size) (by omega))
   have B11:=Lib.hid (B10.out.trans (hB11.mono (by omega)))
   clear hO11 hB11 hK11 O9 Y9 Z9 B9 O10 Y10 Z10 B10 p2 r2 y0 y1 y2 zz
   have y0:=(blk_cell Y11.out 0).trans rfl
   have y1:=(blk_cell Y11.out 1).trans rfl
   have y2:=(blk_cell Y11.out 2).trans rfl
   have cr0:=(blk_cell Z11.out 0).trans rfl
   have cr1:=(blk_cell Z11.out 1).trans rfl
   have cr2:=(blk_cell Z11.out 2).trans rfl
   have pr0:=blk_frozen Z11.out 0
   have pr1:=blk_frozen Z11.out 1
   have pr2:=blk_frozen Z11.out 2
   have s0:=blk_set Z11.out 0 (.slice B0 b.f0.length d0)
   have s1:=blk_set s0 1 (.slice (some ⟨g1,0,none⟩) (b.f1.length-1) d1)
   have s2:=Lib.hid (blk_set s1 2 (.slice (some ⟨g2,0,none⟩) (b.f2.length-1) d2))
   clear s0 s1
   go_wp2
   refine bodyPost_ret (results_ct rfl _ _ (w.heap.size+1) 33 #[.slice B0 b.f0.length d0, .slice (some ⟨g1,0,none⟩) (b.f1.length-1) d1, .slice (some ⟨g2,0,none⟩) (b.f2.length-1) d2] (0,0) _ rfl s2.out Tryz.underlying33 rfl (by kernel_rfl)) rfl ?_
   obtain ⟨h1,h2⟩:=O11.out.res B11.out Z11.out (by omega) (.slice B0 b.f0.length d0) (.slice (some ⟨g1,0,none⟩) (b.f1.length-1) d1) (.slice (some ⟨g2,0,none⟩) (b.f2.length-1) d2)
   rw [dropR_some HF.out HA.out]
   exact ⟨_,_,_,rfl,h1,h2⟩
set_option maxRecDepth 100000 in
set_option maxHeartbeats 4000000 in
theorem spec_flowDrop_any (A0:Option Addr) (c0:Nat) (A1:Option Addr) (c1:Nat) (A2:Option Addr) (c2:Nat) (b:Book) (n:ByteArray) (w:World) (hr0:Kd.C k80 w A0 b.f0.length b.f0) (hr1:Kd.C k45 w A1 b.f1.length b.f1) (hr2:Kd.C (Kd.int .i64) w A2 b.f2.length b.f2) :
  Calls Tryz.prog 24 #[.agg #[.slice A0 b.f0.length c0, .slice A1 b.f1.length c1, .slice A2 b.f2.length c2], .string n] w fun e w'=>∃ v0 v1 v2,e = .returned (.tuple #[.agg #[v0,v1,v2], .int .i64 (dropR b n).2])∧OwnB w' w.heap.size v0 v1 v2 (dropR b n).1∧Below w.heap.size w w':=by
 obtain ⟨W,hW⟩:∃ W,W=(w.alloc (.cells #[.slice A0 b.f0.length c0, .slice A1 b.f1.length c1, .slice A2 b.f2.length c2] 33)).alloc (.cells #[.slice none 0 0, .slice none 0 0, .slice none 0 0] 33):=⟨_,rfl⟩
 have hba:Below w.heap.size w W:=by rw [hW];exact below_alloc (below_alloc (Below.refl _ _) _) _
 have X0:W.heap[w.heap.size]? = some (.cells #[.slice A0 b.f0.length c0, .slice A1 b.f1.length c1, .slice A2 b.f2.length c2] 33 (0,0)):=by rw [hW];exact blk_alloc (blk_new w _) _
 have Z0:W.heap[w.heap.size+1]? = some (.cells #[.slice none 0 0, .slice none 0 0, .slice none 0 0] 33 (0,0)):=by
  have t:=blk_new (w.alloc (.cells #[.slice A0 b.f0.length c0, .slice A1 b.f1.length c1, .slice A2 b.f2.length c2] 33)) (.cells #[.slice none 0 0, .slice none 0 0, .slice none 0 0] 33)
  rw [World.size_alloc] at t
  rw [hW]
  exact t
 have zW:W.heap.size=w.heap.size+2:=by rw [hW];simp
 have QF:=Lib.hid (spec_bookOk_any A0 c0 b.f0 A1 c1 b.f1 A2 c2 b.f2 W (Kd.C_below hr0 hba) (Kd.C_below hr1 hba) (Kd.C_below hr2 hba))
 have f0:=(blk_cell X0 0).trans rfl
 have f1:=(blk_cell X0 1).trans rfl
 have f2:=(blk_cell X0 2).trans rfl
 go_enter Tryz.func24,Tryz.ntmps24
 go_wp2_with (fail)
 rw [← hW]
 refine QF.out.mono ?_
 rintro e w3 ⟨rfl,hb3⟩
 have X3:=Lib.hid (blk_below X0 hb3)
 have Z3:=Lib.hid (blk_below Z0 hb3)
 have B3:=Lib.hid (below_next hba hba.size hb3)
 have z3:w.heap.size+2≤w3.heap.size:=by have:=hb3.size;omega
 clear QF f0 f1 f2 X0 Z0 hba hW zW hb3
 have f0:=(blk_cell X3.out 0).trans rfl
 have f1:=(blk_cell X3.out 1).trans rfl
 have f2:=(blk_cell X3.out 2).trans rfl
 cases hfit:fitsB b.f0 b.f1 b.f2 with
 | false =>
  have cr0:=(blk_cell Z3.out 0).trans rfl
  have cr1:=(blk_cell Z3.out 1).trans rfl
  have cr2:=(blk_cell Z3.out 2).trans rfl
  have pr0:=blk_frozen Z3.out 0
  have pr1:=blk_frozen Z3.out 1
  have pr2:=blk_frozen Z3.out 2
  have s0:=blk_set Z3.out 0 (.slice none 0 0)
  have s1:=blk_set s0 1 (.slice none 0 0)
  have s2:=Lib.hid (blk_set s1 2 (.slice none 0 0))
  have HF:=Lib.hid hfit
  clear s0 s1 hfit
  go_wp2
  refine bodyPost_ret (results_ct rfl _ _ (w.heap.size+1) 33 #[.slice none 0 0, .slice none 0 0, .slice none 0 0] (0,0) _ rfl s2.out Tryz.underlying33 rfl (by kernel_rfl)) rfl ?_
  obtain ⟨h1,h2⟩:=(emptyO w3 w.heap.size).res B3.out Z3.out (by omega) (.slice none 0 0) (.slice none 0 0) (.slice none 0 0)
  rw [dropR_bad HF.out]
  exact ⟨_,_,_,rfl,h1,h2⟩
 | true =>
  obtain ⟨l0,l1,l2,l3⟩:=fits_small hfit
  have hlen:=(slotsB_parts (fitsB_parts hfit).2.1).2.1
  have HF:=Lib.hid hfit
  have HR1:=Lib.hid hr1
  have QC:=Lib.hid (spec_copy_any A0 c0 A1 c1 A2 c2 b w3 (Kd.C_below hr0 B3.out) (Kd.C_below hr1 B3.out) (Kd.C_below hr2 B3.out) l0 l1 l2 l3)
  have HL:=Lib.hid hlen
  have HL1:=Lib.hid l1
  clear l0 l1 l2 l3 hfit hr0 hr1 hr2 hlen
  go_wp2_with (fail)
  refine QC.out.mono ?_
  rintro e w4 ⟨v0,v1,v2,rfl,hO4,hb4⟩
  obtain ⟨B0,d0,B1,d1,B2,d2,rfl,rfl,rfl,_,_,_⟩:=hO4.form
  have z4:=hb4.size
  have hb5:Below w4.heap.size w4 (w4.alloc (.cells #[.slice B0 b.f0.length d0, .slice B1 b.f1.length d1, .slice B2 b.f2.length d2] 33)):=below_alloc (Below.refl _ _) _
  have B4:=below_next B3.out B3.out.size hb4
  have B5:=Lib.hid (below_next B4 B4.size hb5)
  have X5:=Lib.hid (blk_below (blk_below X3.out hb4) hb5)
  have Z5:=Lib.hid (blk_below (blk_below Z3.out hb4) hb5)
  have O5:=Lib.hid (hO4.below hb5)
  have Y5:=Lib.hid (blk_new w4 (.cells #[.slice B0 b.f0.length d0, .slice B1 b.f1.length d1, .slice B2 b.f2.length d2] 33))
  have HV1:Hid (∀ j,(Value.slice B1 b.f1.length d1).ownBlock=some j→w3.heap.size≤j∧j<w4.heap.size):=fun j hj=>⟨((Kd.R_bound (Kd.S_R hO4.flights)).1 j hj).2.1,((Kd.R_bound (Kd.S_R hO4.flights)).1 j hj).2.2.1⟩
  have HV2:Hid (∀ j,(Value.slice B2 b.f2.length d2).ownBlock=some j→w3.heap.size≤j∧j<w4.heap.size):=fun j hj=>⟨((Kd.R_bound hO4.slots).1 j hj).2.1,((Kd.R_bound hO4.slots).1 j hj).2.2.1⟩
  have zz:(w4.alloc (.cells #[.slice B0 b.f0.length d0, .slice B1 b.f1.length d1, .slice B2 b.f2.length d2] 33)).heap.size=w4.heap.size+1:=by simp
  clear hO4 hb4 hb5 B4 X3 Z3 QC f0 f1 f2
  have f0:=(blk_cell X5.out 0).trans rfl
  have f1:=(blk_cell X5.out 1).trans rfl
  have f2:=(blk_cell X5.out 2).trans rfl
  go_wp2_with (fail)
  refine (spec_at_any _ A1 c1 b.f1 _ n _ (Kd.C_below HR1.out B5.out)).mono ?_
  rintro e w6 ⟨rfl,hb6⟩
  have B6:=Lib.hid (below_next B5.out B5.out.size hb6)
  have Z6:=Lib.hid (blk_below Z5.out hb6)
  have O6:=Lib.hid (O5.out.below hb6)
  have Y6:=Lib.hid (blk_below Y5.out hb6)
  have z6:=hb6.size
  rw [zz] at z6
  clear hb6 X5 Z5 O5 Y5 B5 f0 f1 f2 zz
  have y0:=(blk_cell Y6.out 0).trans rfl
  have y1:=(blk_cell Y6.out 1).trans rfl
  have y2:=(blk_cell Y6.out 2).trans rfl
  have p0:=blk_frozen Y6.out 0
  have p1:=blk_frozen Y6.out 1
  have p2:=blk_frozen Y6.out 2
  rcases atB_ways b.f1 n with ha | ⟨k,hk,ha⟩
  ·have HA:=Lib.hid ha
   rw [ha]
   clear ha
   have cr0:=(blk_cell Z6.out 0).trans rfl
   have cr1:=(blk_cell Z6.out 1).trans rfl
   have cr2:=(blk_cell Z6.out 2).trans rfl
   have pr0:=blk_frozen Z6.out 0
   have pr1:=blk_frozen Z6.out 1
   have pr2:=blk_frozen Z6.out 2
   have s0:=blk_set Z6.out 0 (.slice B0 b.f0.length d0)
   have s1:=blk_set s0 1 (.slice B1 b.f1.length d1)
   have s2:=Lib.hid (blk_set s1 2 (.slice B2 b.f2.length d2))
   clear s0 s1
   go_wp2
   refine bodyPost_ret (results_ct rfl _ _ (w.heap.size+1) 33 #[.slice B0 b.f0.length d0, .slice B1 b.f1.length d1, .slice B2 b.f2.length d2] (0,0) _ rfl s2.out Tryz.underlying33 rfl (by kernel_rfl)) rfl ?_
   obtain ⟨h1,h2⟩:=(O6.out.lower (base':=w.heap.size) (by omega)).res B6.out Z6.out (by omega) (.slice B0 b.f0.length d0) (.slice B1 b.f1.length d1) (.slice B2 b.f2.length d2)
   rw [dropR_none HF.out (by rw [HA.out];decide)]
   exact ⟨_,_,_,rfl,h1,h2⟩
  ·have HA:=Lib.hid ha
   rw [ha]
   clear ha
   have q1:decide ((k:Int)<0)=false:=decide_eq_false (by omega)
   have q2:IntKind.i64.wrap ((k:Int)+1)=(k:Int)+1:=IntWalk.i64_in _ (by have:=HL1.out;omega)
   obtain ⟨g1,e1,hv1,hg1,_,cs1,hc1⟩:=Kd.S_form O6.out.flights (by omega)
   injection hv1 with hA1 _ hd1
   subst hA1
   subst hd1
   obtain ⟨g2,e2,hv2,hg2,_,cs2,hc2⟩:=Kd.R_form O6.out.slots (by rw [HL.out];omega)
   injection hv2 with hA2 _ hd2
   subst hA2
   subst hd2
   have n1:=HV1.out g1 rfl
   have n2:=HV2.out g2 rfl
   have C1:=Lib.hid hc1
   clear hc1 hc2
   obtain ⟨tg,hn1,hc61,hfz⟩:=S_frz O6.out.flights
   have FZ:=Lib.hid hfz
   clear hfz
   have t1:(k:Int)≤(d1:Int):=by omega
   have t2:(k:Int)+1≤(b.f1.length:Int):=by omega
   have t3:(0:Int)≤(k:Int)+1:=by omega
   have t4:(k:Int)≤(b.f1.length:Int):=by omega
   have t5:(b.f1.length:Int)≤(d1:Int):=by omega
   have t6:(k:Int)+1≤(d1:Int):=by omega
   have HX1:Hid ((Kd.tag tg k45).R 45 (w6.alloc (.cells #[] 45)).drew w3.heap.size (fun _=>True) (.slice (some ⟨w6.heap.size,0,none⟩) 0 0) []):=Kd.R_drewN (Kd.R_lower (R_madeF (Kd.tag tg k45) w6 45 (Nat.succ_pos 3)) (by omega)) 1
   have BX1:Hid (Below w6.heap.size w6 (w6.alloc (.cells #[] 45)).drew):=pw_below_drewN (below_alloc (Below.refl _ _) _) 1
   have y1d:w6.drew.cell? ⟨w4.heap.size,1,none⟩=some (.slice (some ⟨g1,0,none⟩) b.f1.length d1):=y1
   have y1a:=pw_cell_below BX1.out y1
   have b3:Hid (w3.heap.size≤w6.heap.size):=by show _≤_;omega
   go_upto_region 7 with (fail)
   go_cut [31] (fun s31 wx=>∃ (A3:Option Addr) (e3:Nat),Hid (OwnB wx w3.heap.size (.slice B0 b.f0.length d0) (.slice A3 (delAt k b.f1).length e3) (.slice (some ⟨g2,0,none⟩) b.f2.length d2) ⟨b.f0,delAt k b.f1,b.f2⟩) ∧
    Hid (wx.heap[w4.heap.size]? = some (.cells #[.slice B0 b.f0.length d0, .slice A3 (delAt k b.f1).length e3, .slice (some ⟨g2,0,none⟩) b.f2.length d2] 33 (0,0)))∧Hid (wx.heap[w.heap.size+1]? = some (.cells #[.slice none 0 0, .slice none 0 0, .slice none 0 0] 33 (0,0)))∧Hid (Below w.heap.size w wx)∧w6.heap.size≤wx.heap.size)
   case first =>
    have HT:=Lib.hid (C_takeA FZ.out (show k≤b.f1.zipIdx.length by rw [List.length_zipIdx];omega))
    have td:=C_dropA FZ.out (show k+1≤b.f1.zipIdx.length by rw [List.length_zipIdx];omega) (show b.f1.zipIdx.length≤d1 by rw [List.length_zipIdx];omega)
    rw [List.length_zipIdx] at td
    by_cases hck:d1=k+1
    ·subst hck
     rw [if_pos rfl,show b.f1.length-(k+1)=0 by omega] at td
     have HD:Hid ((frz (Kd.tag tg k45) w6 w3.heap.size (fun j=>True∧some j≠(Value.slice (some ⟨g1,0,none⟩) b.f1.length (k+1)).ownBlock)).C w6 (some ⟨g1,0,none⟩) 0 (b.f1.zipIdx.drop (k+1))):=td
     clear td
     have tk1:(k:Int)≤(k:Int)+1:=by omega
     refine start_ (n:=14) (S:=fun w'=>w'.cell? ⟨w4.heap.size,1,none⟩=some (.slice (some ⟨g1,0,none⟩) b.f1.length (k+1))) (ds:=[13]) #[false,false,false,false,false,false,false,false,false,false,false,false,false,false] (by kernel_rfl) rfl rfl (y1d) (fun hHeld => ?_)
     refine pureA 1 (h := ?_)
     refine pureA 3 (h := ?_)
     refine pureA 6 (h := ?_)
     refine pureA 8 (h := ?_)
     refine pureA 9 (h := ?_)
     refine takeA 2 hHeld (h := ?_)
     refine takeA 7 hHeld (h := ?_)
     refine pureA 4 (h := ?_)
     refine pureA 10 (h := ?_)
     refine oneA 0 (h:=fun K hK => ?_)
     go_simp
     refine hK.out _ _ (y1a) (fun hHeld => ?_)
     clear hK K
     refine oneA 5 (h:=fun K hK => ?_)
     refine Kd.R_append_rows_step (Kd.tag tg k45) (Rr:=(frz (Kd.tag tg k45) w6 w3.heap.size (fun j=>True∧some j≠(Value.slice (some ⟨g1,0,none⟩) b.f1.length (k+1)).ownBlock)).K w6) (w0:=w6) w3.heap.size (by rfl) (.tmp 20) (.tmp 24) 30 45 (.agg #[.string ByteArray.empty, .int .i64 0, .int .i64 0, .slice none 0 0]) 56 (by rfl) Tryz.underlying30 infoFlight rfl (Nat.succ_pos 3) (by decide) (.slice (some ⟨w6.heap.size,0,none⟩) 0 0) [] (b.f1.zipIdx.take k) (some ⟨g1,0,none⟩) k (k+1) (fun _=>True) (fun j=>j<w6.heap.size) (by rfl) (by rfl) HX1.out (Kd.C_below HT.out BX1.out) (fun x cs h=>frz_M2 BX1.out h) (fun j hj=>⟨trivial,fun e=>by have:=own_at e.symm;omega⟩) (fun _ _=>trivial) (BX1.out.mono b3.out) (Nat.le_trans b3.out BX1.out.size) (by have:=HL1.out;simp;omega) ?_
     intro v7 w7 ho hb hg hat
     rw [List.nil_append] at ho
     obtain ⟨A7,c7,rfl⟩:=Kd.R_slice ho
     rw [lenZ (Nat.le_of_lt hk)] at ho hat ⊢
     have H7:=Lib.hid ho
     have B7:Hid (Below w6.heap.size w6 w7):=BX1.out.grown hg BX1.out.size (fun q hq=>(by have:=own_at hq;omega))
     have f7:=pw_cell_below B7.out y1
     have N7:Hid (∀ j,(Value.slice A7 k c7).ownBlock=some j→w6.heap.size≤j):=own_next hat (fun j hj=>(by have:=own_at hj;omega)) BX1.out.size
     clear ho hb hg hat
     refine hK.out _ _ (f7) (fun hHeld => ?_)
     clear hK K
     refine oneA 11 (h:=fun K hK => ?_)
     refine Kd.R_append_rows_step (Kd.tag tg k45) (Rr:=(frz (Kd.tag tg k45) w6 w3.heap.size (fun j=>True∧some j≠(Value.slice (some ⟨g1,0,none⟩) b.f1.length (k+1)).ownBlock)).K w6) (w0:=w6) w3.heap.size (by rfl) (.tmp 25) (.tmp 30) 30 45 (.agg #[.string ByteArray.empty, .int .i64 0, .int .i64 0, .slice none 0 0]) 56 (by rfl) Tryz.underlying30 infoFlight rfl (Nat.succ_pos 3) (by decide) (.slice A7 k c7) (b.f1.zipIdx.take k) (b.f1.zipIdx.drop (k+1)) (some ⟨g1,0,none⟩) 0 0 (fun _=>True) (fun j=>j<w6.heap.size) (by rfl) (by rfl) H7.out (Kd.C_below HD.out B7.out) (fun x cs h=>frz_M2 B7.out h) (fun j hj=>⟨trivial,fun e=>by have:=N7.out j e.symm;omega⟩) (fun _ _=>trivial) (B7.out.mono b3.out) (Nat.le_trans b3.out B7.out.size) (by have:=HL1.out;rw [lenZ (Nat.le_of_lt hk)];omega) ?_
     intro v8 w8 ho hb hg hat
     obtain ⟨A8,c8,rfl⟩:=Kd.R_slice ho
     have H8:=Lib.hid (S_ofTags ho (zip_del_nodup b.f1 k))
     have B8:Hid (Below w6.heap.size w6 w8):=B7.out.grown hg B7.out.size (fun q hq=>N7.out q hq)
     have f8:=blk_frozen (blk_below Y6.out B8.out) 1
     have g8:=(blk_cell (blk_below Y6.out B8.out) 1).trans rfl
     have hz8:(b.f1.zipIdx.take k++b.f1.zipIdx.drop (k+1)).length=(delAt k b.f1).length:=(by rw [← zip_del_fst,List.length_map])
     rw [hz8] at H8 ⊢
     rw [zip_del_fst] at H8
     clear ho hb hg hat hz8
     refine hK.out _ _ (pw_cell_below B8.out y1) (fun hHeld => ?_)
     clear hK K
     refine pureA 12 (h := ?_)
     refine lastA 13 (h:=fun K hK => ?_)
     go_simp
     refine hK.out _ _ ?_
     clear hK K
     refine doneA (h := ?_)
     go_wp2_with (fail)
     go_meet
     exact ⟨A8,c8,(show OwnB w8 w3.heap.size _ _ _ ⟨b.f0,delAt k b.f1,b.f2⟩ from ⟨Kd.R_below O6.out.caps B8.out,H8.out,Kd.R_below O6.out.slots B8.out⟩).cell (blk_below Y6.out B8.out) 1 _,blk_set (blk_below Y6.out B8.out) 1 _,blk_far (blk_below Z6.out B8.out) (p:=⟨w4.heap.size,1,none⟩) (by simp;omega) _,(below_next B6.out B6.out.size B8.out).setCell (p:=⟨w4.heap.size,1,none⟩) (by show w.heap.size≤w4.heap.size;omega) _,by have:=B8.out.size;simpa using this⟩
    ·rw [if_neg hck,Addr.add_lit,Nat.zero_add] at td
     have HD:Hid ((frz (Kd.tag tg k45) w6 w3.heap.size (fun j=>True∧some j≠(Value.slice (some ⟨g1,0,none⟩) b.f1.length d1).ownBlock)).C w6 (some ⟨g1,(k+1)*4,none⟩) (b.f1.length-(k+1)) (b.f1.zipIdx.drop (k+1))):=td
     clear td
     refine start_ (n:=14) (S:=fun w'=>w'.cell? ⟨w4.heap.size,1,none⟩=some (.slice (some ⟨g1,0,none⟩) b.f1.length d1)) (ds:=[13]) #[false,false,false,false,false,false,false,false,false,false,false,false,false,false] (by kernel_rfl) rfl rfl (y1d) (fun hHeld => ?_)
     refine pureA 1 (h := ?_)
     refine pureA 3 (h := ?_)
     refine pureA 6 (h := ?_)
     refine pureA 8 (h := ?_)
     refine pureA 9 (h := ?_)
     refine takeA 2 hHeld (h := ?_)
     refine takeA 7 hHeld (h := ?_)
     refine pureA 4 (h := ?_)
     refine pureA 10 (h := ?_)
     refine oneA 0 (h:=fun K hK => ?_)
     go_simp
     refine hK.out _ _ (y1a) (fun hHeld => ?_)
     clear hK K
     refine oneA 5 (h:=fun K hK => ?_)
     refine Kd.R_append_rows_step (Kd.tag tg k45) (Rr:=(frz (Kd.tag tg k45) w6 w3.heap.size (fun j=>True∧some j≠(Value.slice (some ⟨g1,0,none⟩) b.f1.length d1).ownBlock)).K w6) (w0:=w6) w3.heap.size (by rfl) (.tmp 20) (.tmp 24) 30 45 (.agg #[.string ByteArray.empty, .int .i64 0, .int .i64 0, .slice none 0 0]) 56 (by rfl) Tryz.underlying30 infoFlight rfl (Nat.succ_pos 3) (by decide) (.slice (some ⟨w6.heap.size,0,none⟩) 0 0) [] (b.f1.zipIdx.take k) (some ⟨g1,0,none⟩) k d1 (fun _=>True) (fun j=>j<w6.heap.size) (by rfl) (by rfl) HX1.out (Kd.C_below HT.out BX1.out) (fun x cs h=>frz_M2 BX1.out h) (fun j hj=>⟨trivial,fun e=>by have:=own_at e.symm;omega⟩) (fun _ _=>trivial) (BX1.out.mono b3.out) (Nat.le_trans b3.out BX1.out.size) (by have:=HL1.out;simp;omega) ?_
     intro v7 w7 ho hb hg hat
     rw [List.nil_append] at ho
     obtain ⟨A7,c7,rfl⟩:=Kd.R_slice ho
     rw [lenZ (Nat.le_of_lt hk)] at ho hat ⊢
     have H7:=Lib.hid ho
     have B7:Hid (Below w6.heap.size w6 w7):=BX1.out.grown hg BX1.out.size (fun q hq=>(by have:=own_at hq;omega))
     have f7:=pw_cell_below B7.out y1
     have N7:Hid (∀ j,(Value.slice A7 k c7).ownBlock=some j→w6.heap.size≤j):=own_next hat (fun j hj=>(by have:=own_at hj;omega)) BX1.out.size
     clear ho hb hg hat
     refine hK.out _ _ (f7) (fun hHeld => ?_)
     clear hK K
     refine oneA 11 (h:=fun K hK => ?_)
     refine Kd.R_append_rows_step (Kd.tag tg k45) (Rr:=(frz (Kd.tag tg k45) w6 w3.heap.size (fun j=>True∧some j≠(Value.slice (some ⟨g1,0,none⟩) b.f1.length d1).ownBlock)).K w6) (w0:=w6) w3.heap.size (by rfl) (.tmp 25) (.tmp 30) 30 45 (.agg #[.string ByteArray.empty, .int .i64 0, .int .i64 0, .slice none 0 0]) 56 (by rfl) Tryz.underlying30 infoFlight rfl (Nat.succ_pos 3) (by decide) (.slice A7 k c7) (b.f1.zipIdx.take k) (b.f1.zipIdx.drop (k+1)) (some ⟨g1,(k+1)*4,none⟩) (b.f1.length-(k+1)) (d1-(k+1)) (fun _=>True) (fun j=>j<w6.heap.size) (by rfl) (by rfl) H7.out (Kd.C_below HD.out B7.out) (fun x cs h=>frz_M2 B7.out h) (fun j hj=>⟨trivial,fun e=>by have:=N7.out j e.symm;omega⟩) (fun _ _=>trivial) (B7.out.mono b3.out) (Nat.le_trans b3.out B7.out.size) (by have:=HL1.out;rw [lenZ (Nat.le_of_lt hk)];omega) ?_
     intro v8 w8 ho hb hg hat
     obtain ⟨A8,c8,rfl⟩:=Kd.R_slice ho
     have H8:=Lib.hid (S_ofTags ho (zip_del_nodup b.f1 k))
     have B8:Hid (Below w6.heap.size w6 w8):=B7.out.grown hg B7.out.size (fun q hq=>N7.out q hq)
     have f8:=blk_frozen (blk_below Y6.out B8.out) 1
     have g8:=(blk_cell (blk_below Y6.out B8.out) 1).trans rfl
     have hz8:(b.f1.zipIdx.take k++b.f1.zipIdx.drop (k+1)).length=(delAt k b.f1).length:=(by rw [← zip_del_fst,List.length_map])
     rw [hz8] at H8 ⊢
     rw [zip_del_fst] at H8
     clear ho hb hg hat hz8
     refine hK.out _ _ (pw_cell_below B8.out y1) (fun hHeld => ?_)
     clear hK K
     refine pureA 12 (h := ?_)
     refine lastA 13 (h:=fun K hK => ?_)
     go_simp
     refine hK.out _ _ ?_
     clear hK K
     refine doneA (h := ?_)
     go_wp2_with (fail)
     go_meet
     exact ⟨A8,c8,(show OwnB w8 w3.heap.size _ _ _ ⟨b.f0,delAt k b.f1,b.f2⟩ from ⟨Kd.R_below O6.out.caps B8.out,H8.out,Kd.R_below O6.out.slots B8.out⟩).cell (blk_below Y6.out B8.out) 1 _,blk_set (blk_below Y6.out B8.out) 1 _,blk_far (blk_below Z6.out B8.out) (p:=⟨w4.heap.size,1,none⟩) (by simp;omega) _,(below_next B6.out B6.out.size B8.out).setCell (p:=⟨w4.heap.size,1,none⟩) (by show w.heap.size≤w4.heap.size;omega) _,by have:=B8.out.size;simpa using this⟩
   case rest =>
    clear O6 Y6 Z6 B6 FZ HX1 BX1 y0 y1 y2 p0 p1 p2 C1
    obtain ⟨A3,e3,O7,Y7,Z7,B7,z7⟩:=hcut
    have hlq:=HL.out
    have r2:=(blk_cell Y7.out 2).trans rfl
    have CI:=Lib.hid (R_readC O7.out.slots)
    have HX2:Hid (Kd.R (Kd.int .i64) 3 (wc.alloc (.cells #[] 3)).drew w3.heap.size (fun _=>True) (.slice (some ⟨wc.heap.size,0,none⟩) 0 0) []):=Kd.R_drewN (Kd.R_lower (R_made wc 3) (by omega)) 1
    have BX2:Hid (Below wc.heap.size wc (wc.alloc (.cells #[] 3)).drew):=pw_below_drewN (below_alloc (Below.refl _ _) _) 1
    have b4:Hid (w3.heap.size≤wc.heap.size):=by show _≤_;omega
    have r2d:wc.drew.cell? ⟨w4.heap.size,2,none⟩=some (.slice (some ⟨g2,0,none⟩) b.f2.length d2):=r2
    have r2a:=pw_cell_below BX2.out r2
    have hd2:=(Kd.R_reads' O7.out.slots).2.1
    have t7:(k:Int)≤(d2:Int):=by omega
    have t8:(k:Int)+1≤(b.f2.length:Int):=by omega
    have t9:(k:Int)≤(b.f2.length:Int):=by omega
    have t10:(b.f2.length:Int)≤(d2:Int):=by omega
    have t11:(k:Int)+1≤(d2:Int):=by omega
    have hlz:=Lib.hid hlq
    clear hlq
    go_upto_region 8 with (fail)
    go_cut [44] (fun s44 wx=>∃ (A4:Option Addr) (e4:Nat),Hid (OwnB wx w3.heap.size (.slice B0 b.f0.length d0) (.slice A3 (delAt k b.f1).length e3) (.slice A4 (delAt k b.f2).length e4) ⟨b.f0,delAt k b.f1,delAt k b.f2⟩) ∧
     Hid (wx.heap[w4.heap.size]? = some (.cells #[.slice B0 b.f0.length d0, .slice A3 (delAt k b.f1).length e3, .slice A4 (delAt k b.f2).length e4] 33 (0,0)))∧Hid (wx.heap[w.heap.size+1]? = some (.cells #[.slice none 0 0, .slice none 0 0, .slice none 0 0] 33 (0,0)))∧Hid (Below w.heap.size w wx)∧wc.heap.size≤wx.heap.size)
    case first =>
     have hlq:=hlz.out
     have HT:=Lib.hid (C_takeA CI.out (show k≤b.f2.length by omega))
     have td:=C_dropA CI.out (show k+1≤b.f2.length by omega) (show b.f2.length≤d2 by omega)
     by_cases hck:d2=k+1
     ·subst hck
      rw [if_pos rfl,show b.f2.length-(k+1)=0 by omega] at td
      have HD:Hid (Kd.C (Kd.int .i64) wc (some ⟨g2,0,none⟩) 0 (b.f2.drop (k+1))):=td
      clear td hlq
      have tk1:(k:Int)≤(k:Int)+1:=by omega
      refine start_ (n:=14) (S:=fun w'=>w'.cell? ⟨w4.heap.size,2,none⟩=some (.slice (some ⟨g2,0,none⟩) b.f2.length (k+1))) (ds:=[13]) #[false,false,false,false,false,false,false,false,false,false,false,false,false,false] (by kernel_rfl) rfl rfl (r2d) (fun hHeld => ?_)
      refine pureA 1 (h := ?_)
      refine pureA 3 (h := ?_)
      refine pureA 6 (h := ?_)
      refine pureA 8 (h := ?_)
      refine pureA 9 (h := ?_)
      refine takeA 2 hHeld (h := ?_)
      refine takeA 7 hHeld (h := ?_)
      refine pureA 4 (h := ?_)
      refine pureA 10 (h := ?_)
      refine oneA 0 (h:=fun K hK => ?_)
      go_simp
      refine hK.out _ _ (r2a) (fun hHeld => ?_)
      clear hK K
      refine oneA 5 (h:=fun K hK => ?_)
      refine Kd.R_append_rows_step (Kd.int .i64) (w0:=wc) w3.heap.size (by rfl) (.tmp 33) (.tmp 37) 31 3 (.int .i64 0) 8 (by rfl) Tryz.underlying31 infoInt rfl (by decide) (by decide) (.slice (some ⟨wc.heap.size,0,none⟩) 0 0) [] (b.f2.take k) (some ⟨g2,0,none⟩) k (k+1) (fun _=>True) (fun _=>False) (by rfl) (by rfl) HX2.out (Kd.C_below HT.out BX2.out) (fun x cs h=>h) (fun _ h=>h.elim) (fun _ _=>trivial) (BX2.out.mono b4.out) (Nat.le_trans b4.out BX2.out.size) (by have:=HL1.out;simp;omega) ?_
      intro v8 w8 ho hb hg hat
      rw [List.nil_append] at ho
      obtain ⟨A8,c8,rfl⟩:=Kd.R_slice ho
      rw [lenT (by omega)] at ho hat ⊢
      have H8:=Lib.hid ho
      have B8:Hid (Below wc.heap.size wc w8):=BX2.out.grown hg BX2.out.size (fun q hq=>(by have:=own_at hq;omega))
      have f8:=pw_cell_below B8.out r2
      have N8:Hid (∀ j,(Value.slice A8 k c8).ownBlock=some j→wc.heap.size≤j):=own_next hat (fun j hj=>(by have:=own_at hj;omega)) BX2.out.size
      clear ho hb hg hat
      refine hK.out _ _ (f8) (fun hHeld => ?_)
      clear hK K
      refine oneA 11 (h:=fun K hK => ?_)
      refine Kd.R_append_rows_step (Kd.int .i64) (w0:=wc) w3.heap.size (by rfl) (.tmp 38) (.tmp 43) 31 3 (.int .i64 0) 8 (by rfl) Tryz.underlying31 infoInt rfl (by decide) (by decide) (.slice A8 k c8) (b.f2.take k) (b.f2.drop (k+1)) (some ⟨g2,0,none⟩) 0 0 (fun _=>True) (fun _=>False) (by rfl) (by rfl) H8.out (Kd.C_below HD.out B8.out) (fun x cs h=>h) (fun _ h=>h.elim) (fun _ _=>trivial) (B8.out.mono b4.out) (Nat.le_trans b4.out B8.out.size) (by have:=HL1.out;have:=HL.out;rw [lenT (by omega)];omega) ?_
      intro v9 w9 ho hb hg hat
      obtain ⟨A9,c9,rfl⟩:=Kd.R_slice ho
      have H9:Hid (Kd.R (Kd.int .i64) 3 w9 w3.heap.size (fun _=>True) (.slice A9 (delAt k b.f2).length c9) (delAt k b.f2)):=ho
      have B9:Hid (Below wc.heap.size wc w9):=B8.out.grown hg B8.out.size (fun q hq=>N8.out q hq)
      have f9:=blk_frozen (blk_below Y7.out B9.out) 2
      have g9:=(blk_cell (blk_below Y7.out B9.out) 2).trans rfl
      rw [show (b.f2.take k++b.f2.drop (k+1)).length=(delAt k b.f2).length from rfl]
      clear ho hb hg hat
      refine hK.out _ _ (pw_cell_below B9.out r2) (fun hHeld => ?_)
      clear hK K
      refine pureA 12 (h := ?_)
      refine lastA 13 (h:=fun K hK => ?_)
      go_simp
      refine hK.out _ _ ?_
      clear hK K
      refine doneA (h := ?_)
      go_wp2_with (fail)
      go_meet
      exact ⟨A9,c9,(show OwnB w9 w3.heap.size _ _ _ ⟨b.f0,delAt k b.f1,delAt k b.f2⟩ from ⟨Kd.R_below O7.out.caps B9.out,Kd.S_below O7.out.flights B9.out,H9.out⟩).cell (blk_below Y7.out B9.out) 2 _,blk_set (blk_below Y7.out B9.out) 2 _,blk_far (blk_below Z7.out B9.out) (p:=⟨w4.heap.size,2,none⟩) (by simp;omega) _,(below_next B7.out B7.out.size B9.out).setCell (p:=⟨w4.heap.size,2,none⟩) (by show w.heap.size≤w4.heap.size;omega) _,by have:=B9.out.size;simpa using this⟩
     ·rw [if_neg hck,Addr.add_lit,Nat.zero_add,show (k+1)*(Kd.int .i64).sz=k+1 from Nat.mul_one _] at td
      have HD:Hid (Kd.C (Kd.int .i64) wc (some ⟨g2,k+1,none⟩) (b.f2.length-(k+1)) (b.f2.drop (k+1))):=td
      clear td hlq
      refine start_ (n:=14) (S:=fun w'=>w'.cell? ⟨w4.heap.size,2,none⟩=some (.slice (some ⟨g2,0,none⟩) b.f2.length d2)) (ds:=[13]) #[false,false,false,false,false,false,false,false,false,false,false,false,false,false] (by kernel_rfl) rfl rfl (r2d) (fun hHeld => ?_)
      refine pureA 1 (h := ?_)
      refine pureA 3 (h := ?_)
      refine pureA 6 (h := ?_)
      refine pureA 8 (h := ?_)
      refine pureA 9 (h := ?_)
      refine takeA 2 hHeld (h := ?_)
      refine takeA 7 hHeld (h := ?_)
      refine pureA 4 (h := ?_)
      refine pureA 10 (h := ?_)
      refine oneA 0 (h:=fun K hK => ?_)
      go_simp
      refine hK.out _ _ (r2a) (fun hHeld => ?_)
      clear hK K
      refine oneA 5 (h:=fun K hK => ?_)
      refine Kd.R_append_rows_step (Kd.int .i64) (w0:=wc) w3.heap.size (by rfl) (.tmp 33) (.tmp 37) 31 3 (.int .i64 0) 8 (by rfl) Tryz.underlying31 infoInt rfl (by decide) (by decide) (.slice (some ⟨wc.heap.size,0,none⟩) 0 0) [] (b.f2.take k) (some ⟨g2,0,none⟩) k d2 (fun _=>True) (fun _=>False) (by rfl) (by rfl) HX2.out (Kd.C_below HT.out BX2.out) (fun x cs h=>h) (fun _ h=>h.elim) (fun _ _=>trivial) (BX2.out.mono b4.out) (Nat.le_trans b4.out BX2.out.size) (by have:=HL1.out;simp;omega) ?_
      intro v8 w8 ho hb hg hat
      rw [List.nil_append] at ho
      obtain ⟨A8,c8,rfl⟩:=Kd.R_slice ho
      rw [lenT (by omega)] at ho hat ⊢
      have H8:=Lib.hid ho
      have B8:Hid (Below wc.heap.size wc w8):=BX2.out.grown hg BX2.out.size (fun q hq=>(by have:=own_at hq;omega))
      have f8:=pw_cell_below B8.out r2
      have N8:Hid (∀ j,(Value.slice A8 k c8).ownBlock=some j→wc.heap.size≤j):=own_next hat (fun j hj=>(by have:=own_at hj;omega)) BX2.out.size
      clear ho hb hg hat
      refine hK.out _ _ (f8) (fun hHeld => ?_)
      clear hK K
      refine oneA 11 (h:=fun K hK => ?_)
      refine Kd.R_append_rows_step (Kd.int .i64) (w0:=wc) w3.heap.size (by rfl) (.tmp 38) (.tmp 43) 31 3 (.int .i64 0) 8 (by rfl) Tryz.underlying31 infoInt rfl (by decide) (by decide) (.slice A8 k c8) (b.f2.take k) (b.f2.drop (k+1)) (some ⟨g2,k+1,none⟩) (b.f2.length-(k+1)) (d2-(k+1)) (fun _=>True) (fun _=>False) (by rfl) (by rfl) H8.out (Kd.C_below HD.out B8.out) (fun x cs h=>h) (fun _ h=>h.elim) (fun _ _=>trivial) (B8.out.mono b4.out) (Nat.le_trans b4.out B8.out.size) (by have:=HL1.out;have:=HL.out;rw [lenT (by omega)];omega) ?_
      intro v9 w9 ho hb hg hat
      obtain ⟨A9,c9,rfl⟩:=Kd.R_slice ho
      have H9:Hid (Kd.R (Kd.int .i64) 3 w9 w3.heap.size (fun _=>True) (.slice A9 (delAt k b.f2).length c9) (delAt k b.f2)):=ho
      have B9:Hid (Below wc.heap.size wc w9):=B8.out.grown hg B8.out.size (fun q hq=>N8.out q hq)
      have f9:=blk_frozen (blk_below Y7.out B9.out) 2
      have g9:=(blk_cell (blk_below Y7.out B9.out) 2).trans rfl
      rw [show (b.f2.take k++b.f2.drop (k+1)).length=(delAt k b.f2).length from rfl]
      clear ho hb hg hat
      refine hK.out _ _ (pw_cell_below B9.out r2) (fun hHeld => ?_)
      clear hK K
      refine pureA 12 (h := ?_)
      refine lastA 13 (h:=fun K hK => ?_)
      go_simp
      refine hK.out _ _ ?_
      clear hK K
      refine doneA (h := ?_)
      go_wp2_with (fail)
      go_meet
      exact ⟨A9,c9,(show OwnB w9 w3.heap.size _ _ _ ⟨b.f0,delAt k b.f1,delAt k b.f2⟩ from ⟨Kd.R_below O7.out.caps B9.out,Kd.S_below O7.out.flights B9.out,H9.out⟩).cell (blk_below Y7.out B9.out) 2 _,blk_set (blk_below Y7.out B9.out) 2 _,blk_far (blk_below Z7.out B9.out) (p:=⟨w4.heap.size,2,none⟩) (by simp;omega) _,(below_next B7.out B7.out.size B9.out).setCell (p:=⟨w4.heap.size,2,none⟩) (by show w.heap.size≤w4.heap.size;omega) _,by have:=B9.out.size;simpa using this⟩
    case rest =>
     clear O7 Y7 Z7 B7 HX2 BX2 CI r2 r2d r2a t7 t8 t9 t10 t11
     obtain ⟨A4,e4,O8,Y8,Z8,B8,z8⟩:=hcut
     obtain ⟨u0,hu0⟩:∃ v,v=Value.slice B0 b.f0.length d0:=⟨_,rfl⟩
     obtain ⟨u1,hu1⟩:∃ v,v=Value.slice A3 (delAt k b.f1).length e3:=⟨_,rfl⟩
     obtain ⟨u2,hu2⟩:∃ v,v=Value.slice A4 (delAt k b.f2).length e4:=⟨_,rfl⟩
     rw [← hu0,← hu1,← hu2] at O8 Y8
     have HV:Hid (∀ j,u2.ownBlock=some j→w3.heap.size≤j):=fun j hj=>((Kd.R_bound O8.out.slots).1 j hj).2.1
     have y0:=(blk_cell Y8.out 0).trans rfl
     have y1:=(blk_cell Y8.out 1).trans rfl
     have y2:=(blk_cell Y8.out 2).trans rfl
     clear hu0 hu1 hu2
     go_wp2_with (fail)
     refine (spec_compress_any _ _ _ ⟨b.f0,delAt k b.f1,delAt k b.f2⟩ w3.heap.size _ O8.out (by omega) (fits_del HF.out k)).mono ?_
     rintro e w10 ⟨rfl,hO10,hB10,hK10⟩
     obtain ⟨D0,q0,D1,q1',D2,q2',rfl,rfl,rfl,r0,r1,r2'⟩:=hO10.form
     have Z10:=Lib.hid (blk_kept Z8.out hK10 (fun h=>by have:=HV.out _ h.symm;omega))
     have B10:=Lib.hid (B8.out.trans (hB10.mono (by omega)))
     have z10:=hB10.size
     obtain ⟨m0,m1,m2,m3⟩:=fits_small (show fitsB (dropN b k).f0 (dropN b k).f1 (dropN b k).f2=true from dropN_ok HF.out k)
     have QD:=Lib.hid (spec_copy_any D0 q0 D1 q1' D2 q2' (dropN b k) w10 r0 r1 r2' m0 m1 m2 m3)
     clear hO10 hB10 hK10 Y8 Z8 O8 B8 HV r0 r1 r2' m0 m1 m2 m3 y0 y1 y2
     go_wp2_with (fail)
     refine QD.out.mono ?_
     rintro e w11 ⟨t0,t1',t2',rfl,hO11,hb11⟩
     obtain ⟨C0,i0,C1',i1,C2,i2,rfl,rfl,rfl,_,_,_⟩:=hO11.form
     have Z11:=Lib.hid (blk_below Z10.out hb11)
     have O11:=Lib.hid (hO11.lower (base':=w.heap.size) (by omega))
     have B11:=Lib.hid (below_next B10.out B10.out.size hb11)
     clear hO11 hb11 Z10 B10 QD
     have cr0:=(blk_cell Z11.out 0).trans rfl
     have cr1:=(blk_cell Z11.out 1).trans rfl
     have cr2:=(blk_cell Z11.out 2).trans rfl
     have pr0:=blk_frozen Z11.out 0
     have pr1:=blk_frozen Z11.out 1
     have pr2:=blk_frozen Z11.out 2
     have s0:=blk_set Z11.out 0 (.slice C0 (dropN b k).f0.length i0)
     have s1:=blk_set s0 1 (.slice C1' (dropN b k).f1.length i1)
     have s2:=Lib.hid (blk_set s1 2 (.slice C2 (dropN b k).f2.length i2))
     clear s0 s1
     go_wp2
     refine bodyPost_ret (results_ct rfl _ _ (w.heap.size+1) 33 #[.slice C0 (dropN b k).f0.length i0, .slice C1' (dropN b k).f1.length i1, .slice C2 (dropN b k).f2.length i2] (0,0) _ rfl s2.out Tryz.underlying33 rfl (by kernel_rfl)) rfl ?_
     obtain ⟨h1,h2⟩:=O11.out.res B11.out Z11.out (by omega) (.slice C0 (dropN b k).f0.length i0) (.slice C1' (dropN b k).f1.length i1) (.slice C2 (dropN b k).f2.length i2)
     rw [dropR_some HF.out HA.out]
     exact ⟨_,_,_,rfl,h1,h2⟩
end Go.Proofs.YthcpbojmalgdbaaGreatDoor.Q
