/- Merged out of this seat's own texts. -/
import Derived.Test.YthcpbojmalgdbaaGreatDoorMlC
import Derived.Test.YthcpbojmalgdbaaGreatDoorMlO
import Derived.Test.YthcpbojmalgdbaaGreatDoorMlA
import Derived.Test.YthcpbojmalgdbaaGreatDoorMlM
import Derived.Deep.RegionHeld3
set_option linter.unusedVariables false
set_option linter.unusedSimpArgs false
namespace Go.Proofs.YthcpbojmalgdbaaGreatDoor.Q
open Go.RowKit Go.Proofs.YthcpbojmalgdbaaGreatDoorW.PrintWords Go.Proofs.YthcpbojmalgdbaaGreatDoor.Core
theorem give_at {caps:List Cap} {l:List Flight} (hc:capsB caps=true) (hf:flightsB l=true) (k:Nat) (hk:k<l.length) :
  ∃ (x:Nat) (f:Flight),(ordTo l l.length)[k]? = some (x:Int)∧x<l.length∧l[x]? = some f ∧
   slotsB l (giveS caps l ((ordTo l l.length).take k) (noneS l.length))=true∧timeB l (giveS caps l ((ordTo l l.length).take k) (noneS l.length))=true ∧
   giveS caps l ((ordTo l l.length).take (k+1)) (noneS l.length)=(giveS caps l ((ordTo l l.length).take k) (noneS l.length)).set x (leastN caps l (giveS caps l ((ordTo l l.length).take k) (noneS l.length)) x f):=by
 have hkl:k<(ordTo l l.length).length:=by rw [ordTo_length];exact hk
 have he:=List.getElem?_eq_getElem hkl
 obtain ⟨h0,h1⟩:=ordTo_range l l.length _ (List.getElem_mem hkl)
 obtain ⟨x,hx⟩:=Int.eq_ofNat_of_zero_le h0
 have hx':(ordTo l l.length)[k]=(x:Int):=hx
 rw [hx'] at he h1
 have hxl:x<l.length:=by omega
 have hfit:=giveS_fits hc hf ((ordTo l l.length).take k) (fun y hy=>ordTo_range l l.length y (List.mem_of_mem_take hy))
 obtain ⟨_,hs,ht,_⟩:=fitsB_parts hfit
 refine ⟨x,l[x],he,hxl,List.getElem?_eq_getElem hxl,hs,ht,?_⟩
 have:=giveS_step caps l (ordTo l l.length) (noneS l.length) k x he
 rw [Int.toNat_natCast,leastAt_some (List.getElem?_eq_getElem hxl)] at this
 exact this
theorem giveS_none_len (caps:List Cap) (l:List Flight) (ord:List Int):(giveS caps l ord (noneS l.length)).length=l.length:=by rw [giveS_len];simp [noneS]
set_option maxRecDepth 100000 in
set_option maxHeartbeats 2000000 in
theorem impl_none_any (n:Nat) (w:World) (hn:n≤1000) :
  Calls Tryz.prog 78 #[.int .i64 n] w fun e w'=>∃ v,e = .returned v∧Kd.R (Kd.int .i64) 3 w' w.heap.size (fun _=>True) v (noneS n)∧v.ownBlock≠none∧Below w.heap.size w w':=by
 go_enter Tryz.func78,Tryz.ntmps78
 go_wp2_with (first
  | ((with_reducible refine gate_dst (N:=6) rfl ?_);refine Kd.R_make (Kd.int .i64) (w0:=w) w.heap.size 3 rfl (N:=6) rfl 31 _ _ rfl (n:Int) rfl rfl Tryz.underlying31 (.int .i64 0) 8 infoInt rfl (by decide) (by decide) 0 (ok:=fun _=>True) (okp:=fun _=>True) rfl (fun _ _=>trivial) trivial (by omega) (by simp;omega) (Below.refl _ _) (Nat.le_refl _) ?_;intro v1 w1 ho hb hg hnew;obtain ⟨b,hnb,_⟩:=hnew;clear hg)
  | go_in)
 obtain ⟨A,cp,rfl⟩:=Kd.R_slice ho
 rw [Int.toNat_natCast] at ho
 simp only [List.length_replicate,Int.toNat_natCast] at ho hnb ⊢
 obtain ⟨ad,rfl⟩:∃ ad,A=some ad:=own_some (by rw [hnb];simp)
 obtain ⟨g,rfl⟩:=Kd.R_head ho
 have hg0:=Kd.R_base ho g rfl
 have HO:=Lib.hid ho
 have HB:=Lib.hid hb
 clear ho hb hnb
 have hn':n≤9223372036854775807:=by omega
 have hn2:(n:Int)≤9223372036854775807:=by omega
 go_wp2
 have elen:=fun w2:World=>run_len_slice (P:=Tryz.prog) (w:=w2) 31 3 (some ⟨g,0,none⟩) n cp (by kernel_rfl)
 rw [elen]
 go_wp2
 go_loopw [9] (fun vk wr=>∃ k:Nat,vk = .int .i64 k∧k≤n∧Hid (Kd.R (Kd.int .i64) 3 wr w.heap.size (fun _=>True) (.slice (some ⟨g,0,none⟩) n cp) (List.replicate k (-1)++List.replicate (n-k) 0))∧Hid (Below w.heap.size w wr)) (fun vk _=>n-(intOf vk).toNat)
 case atStart=>exact ⟨0,rfl,Nat.zero_le _,by simpa [Hid] using HO.out,HB⟩
 case round =>
  clear HO HB
  obtain ⟨k,rfl,hk,HO,HB⟩:=hrel
  by_cases hlt:k<n
  ·obtain ⟨x,x0,xf⟩:=R_cellN HO.out k hlt
   have j1:(k:Int)<n:=by omega
   go_wp2
   go_roundw
   case rel =>
    refine ⟨k+1,by go_num,hlt,?_,HB.out.setCell hg0 _⟩
    have t:=R_setN HO.out k (-1)
    have e:(List.replicate k (-1:Int)++List.replicate (n-k) 0).set k (-1)=List.replicate (k+1) (-1)++List.replicate (n-(k+1)) 0:=by
     obtain ⟨m,hm⟩:∃ m,n-k=m+1:=⟨n-k-1,by omega⟩
     rw [hm,show n-(k+1)=m by omega,List.replicate_succ,List.replicate_succ' (n:=k)]
     have:=set_mid (List.replicate k (-1:Int)) 0 (-1) (List.replicate m 0)
     rw [List.length_replicate] at this
     rw [this,List.append_assoc];rfl
    rw [e] at t
    exact t
   case measure=>simp [intOf];omega
  ·obtain rfl:k=n:=by omega
   go_wp2
   go_ret
   have t:=HO.out
   rw [Nat.sub_self,List.replicate_zero,List.append_nil] at t
   exact ⟨_,rfl,t,by simp [Value.ownBlock],HB.out⟩
set_option maxRecDepth 100000 in
set_option maxHeartbeats 4000000 in
theorem impl_give_any (A:Option Addr) (c:Nat) (caps:List Cap) (A1:Option Addr) (c1:Nat) (l:List Flight) (w:World)
  (hr:Kd.C k80 w A caps.length caps) (hr1:Kd.C k45 w A1 l.length l) :
  Calls Tryz.prog 40 #[.slice A caps.length c, .slice A1 l.length c1] w fun e w'=>∃ v,e = .returned v∧Kd.R (Kd.int .i64) 3 w' w.heap.size (fun _=>True) v (giveB caps l)∧Below w.heap.size w w':=by
 have QC:=Lib.hid (impl_capsOk_any A c caps w hr (C_len hr))
 have QF:=Lib.hid (fun W (h:Below w.heap.size w W)=>impl_flightsOk_any A1 c1 l W (Kd.C_below hr1 h) (C_len hr1))
 have hcl1:=C_len hr1
 cases hcs:capsB caps with
 | false =>
  have HC:=Lib.hid hcs
  clear hcs
  go_enter Tryz.func40,Tryz.ntmps40
  go_wp2_with (first
   | (go_at_call 76;refine QC.out.mono ?_;rintro e w1 ⟨rfl,hb⟩;rw [HC.out])
   | go_in)
  go_ret
  refine ⟨_,rfl,?_,hb⟩
  unfold giveB
  rw [HC.out]
  exact Kd.R_nil _ _ _ _ _
 | true =>
 cases hfs:flightsB l with
 | false =>
  have HC:=Lib.hid hcs
  have HF:=Lib.hid hfs
  clear hcs hfs
  go_enter Tryz.func40,Tryz.ntmps40
  go_wp2_with (first
   | (go_at_call 76;refine QC.out.mono ?_;rintro e w1 ⟨rfl,hb⟩;rw [HC.out])
   | (go_at_call 77;refine (QF.out _ hb).mono ?_;rintro e w2 ⟨rfl,hb2⟩;rw [HF.out])
   | go_in)
  go_ret
  refine ⟨_,rfl,?_,below_next hb hb.size hb2⟩
  unfold giveB
  rw [HC.out,HF.out]
  exact Kd.R_nil _ _ _ _ _
 | true =>
 have hl8:=(flightsB_parts hfs).1
 have HC:=Lib.hid hcs
 have HF:=Lib.hid hfs
 have HR:=Lib.hid hr
 have HR1:=Lib.hid hr1
 have QN:=Lib.hid (fun W=>impl_none_any l.length W (by omega))
 have QO:=Lib.hid (fun W (h:Below w.heap.size w W)=>impl_order_any A1 c1 l W (Kd.C_below hr1 h) (by omega))
 clear hcs hfs hr hr1
 go_enter Tryz.func40,Tryz.ntmps40
 go_wp2_with (first
  | (go_at_call 76;refine QC.out.mono ?_;rintro e w1 ⟨rfl,hb⟩;rw [HC.out])
  | (go_at_call 77;refine (QF.out _ hb).mono ?_;rintro e w2 ⟨rfl,hb2⟩;rw [HF.out];have hbw2:=below_next hb hb.size hb2)
  | (go_at_call 78;refine (QN.out _).mono ?_;rintro e w3 ⟨v3,rfl,ho3,hn3,hb3⟩;have hbw3:=below_next hbw2 hbw2.size hb3)
  | (go_at_call 79;refine (QO.out _ hbw3).mono ?_;rintro e w4 ⟨v4,rfl,ho4,hb4⟩;have hbw4:=below_next hbw3 hbw3.size hb4;obtain ⟨A4,cp4,rfl⟩:=Kd.R_slice ho4;rw [ordTo_length] at ho4 ⊢)
  | go_in)
 have hr4:=Kd.R_below (R_iv ho3) hb4
 obtain ⟨A3,cp3,rfl⟩:=Kd.R_slice ho3
 obtain ⟨A3,rfl⟩:∃ ad,A3=some ad:=own_some hn3
 obtain ⟨g,rfl⟩:=Kd.R_head hr4
 have elen:(noneS l.length).length=l.length:=by simp [noneS]
 rw [elen] at hr4 hn3 ⊢
 have hg0:=Kd.R_base hr4 g rfl
 have hg3:=(hr4.1 g rfl).2
 have HO:=Lib.hid hr4
 have HP:=Lib.hid (R_iv ho4)
 have hw2:=hbw2.size
 clear hr4 ho4 ho3 hn3 elen
 go_loopw [22] (fun vk wr=>∃ k:Nat,vk = .int .i64 k∧k≤l.length∧Hid (Kd.R (Kd.int .i64) 3 wr w2.heap.size (iv w2.heap.size w3.heap.size) (.slice (some ⟨g,0,none⟩) l.length cp3) (giveS caps l ((ordTo l l.length).take k) (noneS l.length))) ∧
   Hid (Kd.R (Kd.int .i64) 3 wr w3.heap.size (iv w3.heap.size w4.heap.size) (.slice A4 l.length cp4) (ordTo l l.length))∧Hid (Below w.heap.size w wr)) (fun vk _=>l.length-(intOf vk).toNat)
 case atStart=>exact ⟨0,rfl,Nat.zero_le _,HO,HP,hbw4⟩
 case round =>
  clear HO HP hbw4 hb4
  obtain ⟨k,rfl,hk,HO,HP,HB⟩:=hrel
  by_cases hlt:k<l.length
  ·obtain ⟨x,f,hx,hxl,hf,hs,ht,hstep⟩:=give_at HC.out HF.out k hlt
   have hCo:Kd.C (Kd.int .i64) wr A4 (ordTo l l.length).length (ordTo l l.length):=by rw [ordTo_length];exact R_readC HP.out
   obtain ⟨ad,x',rfl,hx',c1o⟩:=intAt hCo k (by rw [ordTo_length];exact hlt)
   obtain rfl:(x:Int)=x':=Option.some.inj (hx.symm.trans hx')
   have hCs:Kd.C (Kd.int .i64) wr (some ⟨g,0,none⟩) (giveS caps l ((ordTo l l.length).take k) (noneS l.length)).length (giveS caps l ((ordTo l l.length).take k) (noneS l.length)):=by rw [giveS_none_len];exact R_readC HO.out
   have ql:=impl_least_any A c caps A1 c1 l (some ⟨g,0,none⟩) cp3 (giveS caps l ((ordTo l l.length).take k) (noneS l.length)) x f wr (Kd.C_below HR.out HB.out) (Kd.C_below HR1.out HB.out) hCs hf HC.out hs
   rw [giveS_none_len] at ql
   have QL:=Lib.hid ql
   have HSt:=Lib.hid hstep
   have j1:(k:Int)<l.length:=by omega
   have j2:(x:Int)<l.length:=by omega
   obtain ⟨y,y0,yf⟩:=R_cellN HO.out x hxl
   clear hx hx' hs ht hf hstep ql hCo hCs
   go_wp2_with (first
    | (go_at_call 80;refine QL.out.mono ?_;rintro e w5 ⟨rfl,hb5⟩;have HO5:=Lib.hid (Kd.R_below HO.out hb5);obtain ⟨z,z0,zf⟩:=R_cellN HO5.out x hxl)
    | go_in)
   go_roundw
   case rel =>
    refine ⟨k+1,by go_num,hlt,?_,Kd.R_far (Kd.R_below HP.out hb5) (fun q hq=>by have:=hq.1;show q≠g;have:=hg3;omega) _,(below_next HB.out HB.out.size hb5).setCell (by show _≤g;omega) _⟩
    rw [HSt.out]
    exact R_setN HO5.out x _
   case measure=>simp [intOf];omega
  ·obtain rfl:k=l.length:=by omega
   go_wp2
   go_ret
   refine ⟨_,rfl,?_,HB.out⟩
   have t:=HO.out
   rw [List.take_of_length_le (Nat.le_of_eq (ordTo_length _ _))] at t
   unfold giveB
   rw [HC.out,HF.out,if_pos (by rfl)]
   exact Kd.R_mono (Kd.R_lower t hw2) (fun _ _=>trivial)
set_option maxRecDepth 100000 in
set_option maxHeartbeats 2000000 in
theorem spec_none_any (n:Nat) (w:World) (hn:n≤1000) :
  Calls Tryz.prog 55 #[.int .i64 n] w fun e w'=>∃ v,e = .returned v∧Kd.R (Kd.int .i64) 3 w' w.heap.size (fun _=>True) v (noneS n)∧v.ownBlock≠none∧Below w.heap.size w w':=by
 go_enter Tryz.func55,Tryz.ntmps55
 go_wp2
 go_loopw [3,4] (fun v vk wr=>∃ k:Nat,vk = .int .i64 k∧k≤n∧Hid (Kd.R (Kd.int .i64) 3 wr w.heap.size (fun _=>True) v (List.replicate k (-1)))∧Hid (v.ownBlock≠none)∧Hid (Below w.heap.size w wr)) (fun _ vk _=>n-(intOf vk).toNat)
 case atStart=>exact ⟨0,rfl,Nat.zero_le _,R_made w _,(fun h=>by simp [Value.ownBlock] at h),(Below.refl _ _).alloc (Nat.le_refl _) _⟩
 case round =>
  obtain ⟨k,rfl,hk,HO,HN,HB⟩:=hrel
  by_cases hlt:k<n
  ·have hwl:=HB.out.size
   have j1:(k:Int)<n:=by omega
   go_wp2_with (first
    | (at_builtin;refine Kd.R_append (Kd.int .i64) (w0:=w) w.heap.size rfl _ _ 31 3 (.int .i64 0) 8 rfl Tryz.underlying31 infoInt rfl (by decide) (by decide) u3 (List.replicate k (-1)) (-1) [.int .i64 (-1)] (fun _=>True) (fun _=>False) rfl rfl rfl (fun _ h=>h.elim) (fun _ _=>trivial) HO.out HB.out hwl (by rw [List.length_replicate];omega) ?_;intro v1 w1 ho hb1 hg1 hat1;have O1:=Lib.hid ho;have hn1:=Lib.hid hat1;have HB1:=Lib.hid hb1;clear ho hat1 hg1 hb1)
    | go_in)
   go_roundw
   case rel =>
    refine ⟨k+1,by go_num,hlt,?_,?_,HB1.out⟩
    ·have t:=O1.out
     rw [← List.replicate_succ'] at t
     exact t
    ·rcases hn1.out with h | ⟨b,h,_⟩
     ·rw [h];exact HN.out
     ·rw [h];exact fun h=>by cases h
   case measure=>simp [intOf];omega
  ·obtain rfl:k=n:=by omega
   go_wp2
   go_ret
   exact ⟨_,rfl,HO.out,HN.out,HB.out⟩
set_option maxRecDepth 100000 in
set_option maxHeartbeats 4000000 in
theorem spec_give_any (A:Option Addr) (c:Nat) (caps:List Cap) (A1:Option Addr) (c1:Nat) (l:List Flight) (w:World)
  (hr:Kd.C k80 w A caps.length caps) (hr1:Kd.C k45 w A1 l.length l) :
  Calls Tryz.prog 28 #[.slice A caps.length c, .slice A1 l.length c1] w fun e w'=>∃ v,e = .returned v∧Kd.R (Kd.int .i64) 3 w' w.heap.size (fun _=>True) v (giveB caps l)∧Below w.heap.size w w':=by
 have QC:=Lib.hid (spec_capsOk_any A c caps w hr (C_len hr))
 have QF:=Lib.hid (fun W (h:Below w.heap.size w W)=>spec_flightsOk_any A1 c1 l W (Kd.C_below hr1 h) (C_len hr1))
 have hcl1:=C_len hr1
 cases hcs:capsB caps with
 | false =>
  have HC:=Lib.hid hcs
  clear hcs
  go_enter Tryz.func28,Tryz.ntmps28
  go_wp2_with (first
   | (go_at_call 54;refine QC.out.mono ?_;rintro e w1 ⟨rfl,hb⟩;rw [HC.out])
   | go_in)
  go_ret
  refine ⟨_,rfl,?_,hb.alloc hb.size _⟩
  unfold giveB
  rw [HC.out]
  exact Kd.R_lower (R_made w1 _) hb.size
 | true =>
 cases hfs:flightsB l with
 | false =>
  have HC:=Lib.hid hcs
  have HF:=Lib.hid hfs
  clear hcs hfs
  go_enter Tryz.func28,Tryz.ntmps28
  go_wp2_with (first
   | (go_at_call 54;refine QC.out.mono ?_;rintro e w1 ⟨rfl,hb⟩;rw [HC.out])
   | (go_at_call 47;refine (QF.out _ hb).mono ?_;rintro e w2 ⟨rfl,hb2⟩;rw [HF.out])
   | go_in)
  go_ret
  have hb3:=below_next hb hb.size hb2
  refine ⟨_,rfl,?_,hb3.alloc hb3.size _⟩
  unfold giveB
  rw [HC.out,HF.out]
  exact Kd.R_lower (R_made w2 _) hb3.size
 | true =>
 have hl8:=(flightsB_parts hfs).1
 have HC:=Lib.hid hcs
 have HF:=Lib.hid hfs
 have HR:=Lib.hid hr
 have HR1:=Lib.hid hr1
 have QN:=Lib.hid (fun W=>spec_none_any l.length W (by omega))
 have QO:=Lib.hid (fun W (h:Below w.heap.size w W)=>spec_order_any A1 c1 l W (Kd.C_below hr1 h) (by omega))
 clear hcs hfs hr hr1
 go_enter Tryz.func28,Tryz.ntmps28
 go_wp2_with (first
  | (go_at_call 54;refine QC.out.mono ?_;rintro e w1 ⟨rfl,hb⟩;rw [HC.out])
  | (go_at_call 47;refine (QF.out _ hb).mono ?_;rintro e w2 ⟨rfl,hb2⟩;rw [HF.out];have hbw2:=below_next hb hb.size hb2)
  | (go_at_call 55;refine (QN.out _).mono ?_;rintro e w3 ⟨v3,rfl,ho3,hn3,hb3⟩;have hbw3:=below_next hbw2 hbw2.size hb3)
  | (go_at_call 56;refine (QO.out _ hbw3).mono ?_;rintro e w4 ⟨v4,rfl,ho4,hb4⟩;have hbw4:=below_next hbw3 hbw3.size hb4;obtain ⟨A4,cp4,rfl⟩:=Kd.R_slice ho4;rw [ordTo_length] at ho4 ⊢)
  | go_in)
 have hr4:=Kd.R_below (R_iv ho3) hb4
 obtain ⟨A3,cp3,rfl⟩:=Kd.R_slice ho3
 obtain ⟨A3,rfl⟩:∃ ad,A3=some ad:=own_some hn3
 obtain ⟨g,rfl⟩:=Kd.R_head hr4
 have elen:(noneS l.length).length=l.length:=by simp [noneS]
 rw [elen] at hr4 hn3 ⊢
 have hg0:=Kd.R_base hr4 g rfl
 have hg3:=(hr4.1 g rfl).2
 have HO:=Lib.hid hr4
 have HP:=Lib.hid (R_iv ho4)
 have hw2:=hbw2.size
 clear hr4 ho4 ho3 hn3 elen
 go_loopw [7] (fun vk wr=>∃ k:Nat,vk = .int .i64 k∧k≤l.length∧Hid (Kd.R (Kd.int .i64) 3 wr w2.heap.size (iv w2.heap.size w3.heap.size) (.slice (some ⟨g,0,none⟩) l.length cp3) (giveS caps l ((ordTo l l.length).take k) (noneS l.length))) ∧
   Hid (Kd.R (Kd.int .i64) 3 wr w3.heap.size (iv w3.heap.size w4.heap.size) (.slice A4 l.length cp4) (ordTo l l.length))∧Hid (Below w.heap.size w wr)) (fun vk _=>l.length-(intOf vk).toNat)
 case atStart=>exact ⟨0,rfl,Nat.zero_le _,HO,HP,hbw4⟩
 case round =>
  clear HO HP hbw4 hb4
  obtain ⟨k,rfl,hk,HO,HP,HB⟩:=hrel
  by_cases hlt:k<l.length
  ·obtain ⟨x,f,hx,hxl,hf,hs,ht,hstep⟩:=give_at HC.out HF.out k hlt
   have hCo:Kd.C (Kd.int .i64) wr A4 (ordTo l l.length).length (ordTo l l.length):=by rw [ordTo_length];exact R_readC HP.out
   obtain ⟨ad,x',rfl,hx',c1o⟩:=intAt hCo k (by rw [ordTo_length];exact hlt)
   obtain rfl:(x:Int)=x':=Option.some.inj (hx.symm.trans hx')
   have hCs:Kd.C (Kd.int .i64) wr (some ⟨g,0,none⟩) (giveS caps l ((ordTo l l.length).take k) (noneS l.length)).length (giveS caps l ((ordTo l l.length).take k) (noneS l.length)):=by rw [giveS_none_len];exact R_readC HO.out
   have QL:=Lib.hid (fun W (h:Below wr.heap.size wr W)=>by
    have:=spec_least_any A c caps A1 c1 l (some ⟨g,0,none⟩) cp3 (giveS caps l ((ordTo l l.length).take k) (noneS l.length)) x f W (Kd.C_below HR.out (below_next HB.out HB.out.size h)) (Kd.C_below HR1.out (below_next HB.out HB.out.size h)) (Kd.C_below hCs h) hf HC.out hs ht
    rw [giveS_none_len] at this
    exact this.mono (fun e w' h2=>(⟨h2.1,below_next h h.size h2.2⟩:e=_∧Below wr.heap.size wr w')))
   have HSt:=Lib.hid hstep
   have j1:(k:Int)<l.length:=by omega
   have j2:(x:Int)<l.length:=by omega
   obtain ⟨y,y0,yf⟩:=R_cellN HO.out x hxl
   have HNE:Hid (g≠(ad.add k).block):=fun e=>by
    have:=(HP.out.1 ad.block rfl).1
    have e2:(ad.add k).block=ad.block:=by first | rfl | (unfold Addr.add;split <;> rfl) | simp [Addr.add]
    rw [e2] at e
    have:=hg3
    omega
   have BDD:Hid (Below wr.heap.size wr wr.drew):=pw_below_drewN (Below.refl wr.heap.size wr) 1
   clear hx hx' hs ht hf hstep hCo hCs
   go_wp2
   go_region_held3 (fun W'=>W'.cell? (ad.add k)=some (.int .i64 (x:Int))) (first | go_keep | (refine (World.cell?_setCell_far _ _ _ _ HNE.out).trans ?_;assumption)) (first
    | (go_at_call 50;refine (QL.out _ (BDD.out)).mono ?_;rintro e w5 ⟨rfl,hb5⟩;have c5:=pw_cell_below hb5 c1o;have HO5:=Lib.hid (Kd.R_below HO.out hb5);obtain ⟨z,z0,zf⟩:=R_cellN HO5.out x hxl))
   go_wp2
   go_roundw
   case rel =>
    refine ⟨k+1,by go_num,hlt,?_,Kd.R_far (Kd.R_below HP.out hb5) (fun q hq=>by have:=hq.1;show q≠g;have:=hg3;omega) _,(below_next HB.out HB.out.size hb5).setCell (by show _≤g;omega) _⟩
    rw [HSt.out]
    exact R_setN HO5.out x _
   case measure=>simp [intOf];omega
  ·obtain rfl:k=l.length:=by omega
   go_wp2
   go_ret
   refine ⟨_,rfl,?_,HB.out⟩
   have t:=HO.out
   rw [List.take_of_length_le (Nat.le_of_eq (ordTo_length _ _))] at t
   unfold giveB
   rw [HC.out,HF.out,if_pos (by rfl)]
   exact Kd.R_mono (Kd.R_lower t hw2) (fun _ _=>trivial)
end Go.Proofs.YthcpbojmalgdbaaGreatDoor.Q
